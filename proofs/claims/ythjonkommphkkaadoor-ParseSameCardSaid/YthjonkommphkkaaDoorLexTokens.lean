/-
  lex.Tokens, walked.
-/
import Derived.Test.YthjonkommphkkaaDoorLexUtf
import Derived.OwnWalk
import Derived.WalkSmall
import Derived.Lib.IndexBytes
namespace Go.Proofs.YthjonkommphkkaaDoor
open Lx Go.RowKit
def tokCells (t : Tok) : List Value := [.int .i64 t.kind, .int .i64 t.pos, .string (strOf t.text), .int .i64 t.n]
def toksCells (ts : List Tok) : List Value := ts.flatMap tokCells
theorem toksCells_snoc (ts : List Tok) (t : Tok) : toksCells (ts ++ [t]) = toksCells ts ++ tokCells t := by simp [toksCells]
/-- What a call of Tokens ends in. -/
def LexP (r : LexR) (w : World) (e : Ending) (w' : World) : Prop :=
  Below w.heap.size w w' ∧ match r with
    | .error (p, er) => e = .returned (.tuple #[.slice none 0 0, .int .i64 p, .int .i64 er])
    | .ok ts => ∃ v, e = .returned (.tuple #[v, .int .i64 0, .int .i64 0]) ∧ w'.ownsRow w.heap.size 37 4 v ts.length (toksCells ts)
theorem Tryd.infoTok : (Tryd.prog.info? 37).map (fun i => (i.zero, i.size, i.bytes)) = some (some (.agg #[.int .i64 0, .int .i64 0, .string ⟨#[]⟩, .int .i64 0]), 4, 40) := by kernel_rfl
theorem grownBy_of_below {w w' : World} (h : Below w.heap.size w w') : w.grownBy w' none := ⟨h.os, h.tape, h.output, h.size, fun k hk _ => h.block k hk⟩
theorem own_below {w w' : World} {base : Nat} {e : TypeId} {size n : Nat} {v : Value} {xs : List Value} (h : w.ownsRow base e size v n xs) (hb : Below w.heap.size w w') : w'.ownsRow base e size v n xs := by
  refine h.kept (grownBy_of_below hb) ?_
  cases v.ownBlock <;> simp
theorem oneTok_bad_pos {l : Bytes} {e : Nat} (h : oneTok l = .bad e) : e = 2 ∨ e = 3 ∨ e = 4 := by
  cases l with
  | nil => simp [oneTok] at h; omega
  | cons c t =>
    simp only [oneTok] at h
    by_cases h1 : isLetter c = true
    · rw [if_pos h1] at h
      simp only [wordTok] at h
      split at h
      · simp at h; omega
      · cases h
    · rw [if_neg h1] at h
      by_cases h2 : isDigit c = true
      · rw [if_pos h2] at h
        simp only [numTok] at h
        split at h
        · simp at h; omega
        · split at h
          · simp at h; omega
          · cases h
      · rw [if_neg h2] at h
        simp only [markTok] at h
        cases hm : markLen (c :: t) with
        | none => rw [hm] at h; simp at h; omega
        | some x => rw [hm] at h; cases h
def TokRel (s : ByteArray) (w : World) (v nx cm : Value) (wr : World) : Prop :=
  ∃ (pos n : Nat) (b : Bool) (out : List Tok), nx = .int .i64 n ∧ cm = .bool b ∧ wr.heap[w.heap.size]? = some (.stringIter s pos) ∧ pos ≤ s.size ∧ n ≤ s.size ∧ out.length ≤ n ∧
    wr.ownsRow (w.heap.size + 1) 37 4 v out.length (toksCells out) ∧ Below w.heap.size w wr ∧ Lx.Rest s.data.toList pos n b out
/-- Behind the append: the iterator, what was there, the token's own cell. -/
theorem tok_step {w W1 W2 w1 : World} {s : ByteArray} {p n : Nat} {v : Value} {xs : List Value} (o2 : Obj) (cs : Array Value) (hb : Below w.heap.size w W1) (hk : W1.heap[w.heap.size]? = some (.stringIter s p))
    (ho : W1.ownsRow (w.heap.size + 1) 37 4 v n xs) (hb2 : Below W1.heap.size W1 W2) (hg : ((W2.alloc (.cells cs 37)).alloc o2).grownBy w1 v.ownBlock) :
    w1.heap[w.heap.size]? = some (.stringIter s p) ∧ Below w.heap.size w w1 ∧ ∀ j, w1.cell? ⟨W2.heap.size, j, none⟩ = cs[j]? := by
  have hlt := lt_of_heap hk
  have ho2 := own_below ho hb2
  have hrow : ∀ k, v.ownBlock = some k → w.heap.size + 1 ≤ k ∧ k < W2.heap.size := ho2.lt
  have hsz := hb2.size
  have hs1 : (W2.alloc (.cells cs 37)).heap.size = W2.heap.size + 1 := by simp
  have hs2 : ((W2.alloc (.cells cs 37)).alloc o2).heap.size = W2.heap.size + 2 := by simp
  have hbs := hb.size
  refine ⟨?_, ?_, ?_⟩
  · rw [hg.block _ (by omega) (fun e => by have := hrow _ e.symm; omega), Below.heap_alloc _ _ _ (by omega), Below.heap_alloc _ _ _ (by omega), hb2.block _ hlt]
    exact hk
  · exact Below.grown (((hb.trans (hb2.mono hbs)).alloc (by omega) _).alloc (by omega) _) hg (by omega) (fun k e => by have := hrow k e; omega)
  · intro j
    rw [World.cell?_of_block (w := (W2.alloc (.cells cs 37)).alloc o2) (hg.block _ (by simp; omega) (fun e => by have := hrow _ e.symm; simp at this))]
    rw [World.cell?_of_block (w := W2.alloc (.cells cs 37)) (Below.heap_alloc _ _ _ (by simp))]
    exact World.cell?_alloc_new _ _ _ _
theorem cells4_new (w : World) (a b c d : Value) (t : TypeId) : ∀ j u, [a, b, c, d][j]? = some u → (w.alloc (.cells #[a, b, c, d] t)).cell? ((⟨w.heap.size, 0, none⟩ : Addr).add j) = some u := by
  intro j u hj
  have e : ((⟨w.heap.size, 0, none⟩ : Addr).add j) = ⟨w.heap.size, j, none⟩ := by
    unfold Addr.add; split
    · rename_i h; rw [h]
    · simp
  rw [e, World.cell?_alloc_new]
  simpa using hj
set_option maxHeartbeats 1000000 in
set_option maxRecDepth 100000 in
theorem lex_Tokens (s : ByteArray) (w : World) (hs : s.size ≤ maxLen) (hL : Laid w) : Calls Tryd.prog 32 #[.string s] w (LexP (tokensOf s.data.toList) w) := by
  unfold maxLen at hs
  have HL := Lib.hid hL
  clear hL
  by_cases h1 : 65536 < s.size
  · go_enter Tryd.func32, Tryd.ntmps32
    go_wp2_with fail
    go_ret3
    refine ⟨Below.refl _ _, ?_⟩
    rw [tokensOf, if_pos (by rw [len_list]; exact h1)]
    rfl
  have HT : Hid (tokensOf s.data.toList = lexAt false 0 s.data.toList) := by show _ = _; rw [tokensOf, if_neg (by rw [len_list]; exact h1)]
  have hk0 : (w.iter s 0).heap[w.heap.size]? = some (.stringIter s 0) := World.iter_heap w s 0
  have hb0 : Below w.heap.size w (w.iter s 0) := (Below.refl _ _).alloc (Nat.le_refl _) _
  go_enter Tryd.func32, Tryd.ntmps32
  go_wp2_with fail
  go_loopw [5, 6, 7] (fun v nx cm wr => TokRel s w v nx cm wr) (fun _ _ _ wr => s.size - wr.iterPos w.heap.size)
  case atStart => exact ⟨0, 0, false, [], rfl, rfl, hk0, Nat.zero_le _, Nat.zero_le _, Nat.le_refl _, World.ownsRow_nil _ _ _ _, hb0, rest_start _⟩
  case round =>
    obtain ⟨pos, n, b, out, rfl, rfl, hk, hps, hn, hlen, hown, hbel, hrest⟩ := hrel
    clear hk0 hb0
    by_cases hp : pos < s.size
    · obtain ⟨r, wd, hnext, hwd1, hwd2, hr1, hr2⟩ := next_at (P := Tryd.prog) wr w.heap.size s pos hk hp
      have hk1 := Lib.iterAt_heap wr w.heap.size s pos (pos + wd) hk
      have hbel1 : Below w.heap.size w (wr.iterAt w.heap.size s (pos + wd)) := Lib.below_iterAt hbel (Nat.le_refl _) s (pos + wd)
      have hown1 := ownsRow_iterAt hown (Nat.lt_succ_self w.heap.size) s (pos + wd)
      have HM : Hid (wr.iterPos w.heap.size = pos) := iterPos_of hk
      generalize wr.iterAt w.heap.size s (pos + wd) = W1 at hnext hk1 hbel1 hown1
      have HK := Lib.hid hk1
      have HM1 : Hid (W1.iterPos w.heap.size = pos + wd) := iterPos_of hk1
      have HB := Lib.hid hbel1
      have HO := Lib.hid hown1
      have HR := Lib.hid hrest
      have HR1 := Lib.hid hr1
      have HR2 := Lib.hid hr2
      clear hk hk1 hbel hbel1 hown hown1 hrest hr1 hr2
      by_cases hin : pos < n
      · obtain ⟨ha, hb', hre⟩ := rest_in_ascii HR.out hp hin
        obtain ⟨hrr, rfl⟩ := HR1.out ha
        have HRE := Lib.hid hre
        clear hre hrr ha hb'
        go_wp2_with fail
        go_roundw
        case rel => exact ⟨pos + 1, n, b, out, rfl, rfl, HK.out, by omega, hn, hlen, HO.out, HB.out, HRE.out⟩
        case measure => rw [HM.out, HM1.out]; omega
      · cases b
        · cases hsep : isSep s[pos]
          · have hne : ¬ r = 32 ∧ ¬ r = 9 ∧ ¬ r = 13 ∧ ¬ r = 10 := by
              by_cases ha : s[pos].toNat < 128
              · have := (not_congr (sep_of (HR1.out ha).1)).1 (by rw [hsep]; simp)
                omega
              · have := (HR2.out (by omega)).1; omega
            have e1 : (r == 32) = false := beq_eq_false_iff_ne.2 hne.1
            have e2 : (r == 9) = false := beq_eq_false_iff_ne.2 hne.2.1
            have e3 : (r == 13) = false := beq_eq_false_iff_ne.2 hne.2.2.1
            have e4 : (r == 10) = false := beq_eq_false_iff_ne.2 hne.2.2.2
            have HSEP := Lib.hid hsep
            clear hne hsep
            go_wp2_with fail
            refine (has_prefix _ _ _).mono ?_
            rintro e w' ⟨rfl, rfl⟩
            have hx : (({ data := #[47, 47] } : ByteArray).data.toList.isPrefixOf (s.extract pos s.size).data.toList) = opens s[pos] (s.data.toList.drop (pos + 1)) := by
              rw [Lib.extract_to_end]; exact opens_eq s pos hp
            rw [hx]
            clear hx
            cases hop : opens s[pos] (s.data.toList.drop (pos + 1))
            · have HOP := Lib.hid hop
              have hxs : (s.extract pos s.size).size ≤ 65536 := by rw [extract_strOf, strOf_size]; simp; omega
              have hx0 : 0 < (s.extract pos s.size).size := by rw [extract_strOf, strOf_size]; simp; omega
              have HX := Lib.hid (Lib.extract_to_end s pos)
              go_wp2_with fail
              refine (lex_token (s.extract pos s.size) _ hxs (HL.out.below HB.out (Nat.le_refl _)) hx0).mono ?_
              rintro e W2 ⟨rfl, hb2⟩
              rw [HX.out]
              have HB2 := Lib.hid hb2
              obtain ⟨hc, hf⟩ := bcell hb2
              have hz : W1.heap.size ≤ W2.heap.size := hb2.size
              clear hb2
              cases ht : oneTok (s.data.toList.drop pos) with
              | bad er =>
                have HTK := Lib.hid ht
                have her : ((er : Int) == 0) = false := by rw [beq_eq_false_iff_ne]; have := oneTok_bad_pos ht; omega
                have her' : ((er : Int) != 0) = true := by rw [bne_iff_ne]; have := oneTok_bad_pos ht; omega
                simp only [oneV, tokAgg]
                go_wp2_with fail
                go_ret3
                refine ⟨(HB.out.trans (HB2.out.mono HB.out.size)).alloc (by have := HB.out.size; omega) _, ?_⟩
                rw [HT.out, rest_bad HR.out hp hin HSEP.out HOP.out HTK.out]
                rfl
              | ok k m n' =>
                have HTK := Lib.hid ht
                have hmb := oneTok_bounds ht
                have hml : m ≤ s.size - pos := by have := hmb.2; simpa using this
                have hmsz : (strOf ((s.data.toList.drop pos).take m)).size = m := by rw [strOf_size]; simp; omega
                have hasc := oneTok_ascii ht 0 hmb.1
                rw [List.getD_eq_getElem?_getD, List.getElem?_drop, Nat.add_zero, ← List.getD_eq_getElem?_getD, getD_at s pos hp] at hasc
                obtain ⟨_, rfl⟩ := HR1.out hasc
                clear ht hasc
                simp only [oneV, tokAgg]
                obtain ⟨i0, hi, hz0, hz1, hz2⟩ := info_parts Tryd.infoTok
                have HI := Lib.hid hi
                have HZ0 := Lib.hid hz0
                have HZ1 := Lib.hid hz1
                have HZ2 := Lib.hid hz2
                clear hi hz0 hz1 hz2
                go_wp2_with (at_builtin; refine wpList_append_own _ rfl _ _ 33 rfl (w.heap.size + 1) 37 i0 _ 4 40 Tryd.underlying33 HI.out HZ0.out HZ1.out HZ2.out rfl (by decide) _ _ _ rfl (((own_below HO.out HB2.out).alloc _).alloc _) ⟨W2.heap.size + 1, 0, none⟩ 1 1 (tokCells ⟨k, pos, (s.data.toList.drop pos).take m, n'⟩) rfl rfl ?c1 ?c2 ?c3 ?c4 ?c5 ?_)
                case c1 => exact fun j u h => h
                case c2 => intro u hu; simp [tokCells] at hu; rcases hu with rfl | rfl | rfl | rfl <;> rfl
                case c3 => unfold maxLen; omega
                case c4 => omega
                case c5 => have := HB.out.size; simp; omega
                intro v' w1 hown' hgrow _
                obtain ⟨hit, hbw, hcs⟩ := tok_step _ _ HB.out HK.out HO.out HB2.out hgrow
                have hcell := hcs 2
                simp only [List.getElem?_toArray] at hcell
                have HOW : Hid (w1.ownsRow (w.heap.size + 1) 37 4 v' (out ++ [(⟨k, pos, (s.data.toList.drop pos).take m, n'⟩ : Tok)]).length (toksCells (out ++ [⟨k, pos, (s.data.toList.drop pos).take m, n'⟩]))) := by
                  rw [toksCells_snoc, List.length_append]; exact hown'
                have HIT := Lib.hid hit
                have HBW := Lib.hid hbw
                have HMM : Hid (w1.iterPos w.heap.size = pos + 1) := iterPos_of hit
                clear hit hbw hcs hown' hgrow
                go_wp2_with fail
                go_roundw
                case rel => exact ⟨pos + 1, pos + m, false, _, by go_num, rfl, HIT.out, by omega, by omega, by simp; omega, HOW.out, HBW.out, rest_ok HR.out hp hin HSEP.out HOP.out HTK.out⟩
                case measure => rw [HM.out, HMM.out]; omega
            · have HOP := Lib.hid hop
              have hc47 : s[pos].toNat < 128 := by simp [opens] at hop; omega
              obtain ⟨_, rfl⟩ := HR1.out hc47
              clear hop
              go_wp2_with fail
              go_roundw
              case rel => exact ⟨pos + 1, n, true, out, rfl, rfl, HK.out, by omega, hn, hlen, HO.out, HB.out, rest_open HR.out hp hin HSEP.out HOP.out⟩
              case measure => rw [HM.out, HM1.out]; omega
          · have hsp := (sep_of (c := s[pos]) rfl).1 hsep
            obtain ⟨hr, rfl⟩ := HR1.out (by omega)
            have HSEP := Lib.hid hsep
            have hor : r = 32 ∨ r = 9 ∨ r = 13 ∨ r = 10 := by omega
            clear hr hsep hsp
            rcases hor with rfl | rfl | rfl | rfl
            all_goals
              go_wp2_with fail
              go_roundw
              case rel => exact ⟨pos + 1, n, false, out, rfl, rfl, HK.out, by omega, hn, hlen, HO.out, HB.out, rest_sep HR.out hp hin HSEP.out⟩
              case measure => rw [HM.out, HM1.out]; omega
        · by_cases hc : s[pos].toNat = 10
          · obtain ⟨hr, rfl⟩ := HR1.out (by omega)
            have e4 : (r != 10) = false := by rw [bne_eq_false_iff_eq]; omega
            have HC := Lib.hid hc
            clear hr hc
            go_wp2_with fail
            go_roundw
            case rel => exact ⟨pos + 1, n, false, out, rfl, rfl, HK.out, by omega, hn, hlen, HO.out, HB.out, rest_line HR.out hp hin HC.out⟩
            case measure => rw [HM.out, HM1.out]; omega
          · have hr : r ≠ 10 := by
              by_cases ha : s[pos].toNat < 128
              · have := (HR1.out ha).1; omega
              · have := (HR2.out (by omega)).1; omega
            have HC : Hid (∀ j, j < wd → ∃ h : pos + j < s.size, s[pos + j].toNat ≠ 10) := by
              intro j hj
              by_cases ha : s[pos].toNat < 128
              · obtain ⟨_, rfl⟩ := HR1.out ha
                obtain rfl : j = 0 := by omega
                exact ⟨hp, hc⟩
              · obtain ⟨h', h''⟩ := (HR2.out (by omega)).2 j hj
                exact ⟨h', by omega⟩
            have e4 : (r != 10) = true := by rw [bne_iff_ne]; exact hr
            clear hr hc
            go_wp2_with fail
            go_roundw
            case rel => exact ⟨pos + wd, n, true, out, rfl, rfl, HK.out, by omega, hn, hlen, HO.out, HB.out, rest_comment HR.out hin hwd2 HC.out⟩
            case measure => rw [HM.out, HM1.out]; omega
    · have hnext := fun ty => Lib.run_next_end_at (P := Tryd.prog) wr w.heap.size s pos ty hk hp
      have HE := Lib.hid (rest_end hrest (by omega) hn)
      have HO := Lib.hid hown
      have HB := Lib.hid hbel
      have hsz : w.heap.size + 1 ≤ wr.heap.size := lt_of_heap hk
      clear hrest hown hbel hk
      obtain ⟨i0, hi, hz0, hz1, hz2⟩ := info_parts Tryd.infoTok
      have HI := Lib.hid hi
      have HZ0 := Lib.hid hz0
      have HZ1 := Lib.hid hz1
      have HZ2 := Lib.hid hz2
      clear hi hz0 hz1 hz2
      go_wp2_with (at_builtin; refine wpList_append_own _ rfl _ _ 33 rfl (w.heap.size + 1) 37 i0 _ 4 40 Tryd.underlying33 HI.out HZ0.out HZ1.out HZ2.out rfl (by decide) _ _ _ rfl (HO.out.alloc _) ⟨wr.heap.size, 0, none⟩ 1 1 (tokCells ⟨5, s.size, [], 0⟩) rfl rfl ?c1 ?c2 ?c3 ?c4 ?c5 ?_)
      case c1 => exact cells4_new _ _ _ _ _ _
      case c2 => intro u hu; simp [tokCells] at hu; rcases hu with rfl | rfl | rfl | rfl <;> rfl
      case c3 => unfold maxLen; omega
      case c4 => omega
      case c5 => simp; omega
      intro v' w1 hown' hgrow _
      go_wp2_with fail
      go_ret3
      refine ⟨Below.grown (HB.out.alloc (by omega) _) hgrow (by simp; omega) (fun k e => by have := HO.out.lt k e; omega), ?_⟩
      rw [HT.out, HE.out]
      refine ⟨v', rfl, ?_⟩
      rw [toksCells_snoc, List.length_append]
      obtain ⟨h1', h2'⟩ := hown'
      exact ⟨h1', h2'.imp id fun ⟨g, cap, cur, a, b, c⟩ => ⟨g, cap, cur, a, by omega, c⟩⟩
end Go.Proofs.YthjonkommphkkaaDoor
