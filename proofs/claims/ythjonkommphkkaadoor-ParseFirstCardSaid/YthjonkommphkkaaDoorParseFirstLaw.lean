/-
  ParseFirst, walked.
-/
import Derived.Test.YthjonkommphkkaaDoorParFirstP
import Derived.Test.YthjonkommphkkaaDoorParTopExpr
import Derived.Test.YthjonkommphkkaaDoorHasToks
import Derived.Deep.QuietTactic
import Derived.BigQuiet
namespace Go.Proofs.YthjonkommphkkaaDoor
open Lx Go.RowKit
namespace Lx
theorem toks_lt : ∀ f b p l ts, toks f b p l = .ok ts → ∀ i j (hi : i < j) (hj : j < ts.length), ts[i].pos < ts[j].pos := by
  intro f
  induction f with
  | zero => intro b p l ts h; cases h
  | succ f ih =>
    intro b p l ts h
    simp only [toks] at h
    generalize skipB b l = r at h
    cases r with
    | nil => cases h; intro i j hi hj; simp at hj; omega
    | cons c t =>
      simp only at h
      cases ho : oneTok (c :: t) with
      | bad e => rw [ho] at h; cases h
      | ok k m n =>
        rw [ho] at h
        simp only at h
        have hb := oneTok_bounds ho
        generalize hq : toks f false (p + (l.length - (c :: t).length) + m) ((c :: t).drop m) = x at h
        cases x with
        | error y => cases h
        | ok us =>
          cases h
          intro i j hi hj
          obtain ⟨j, rfl⟩ : ∃ j', j = j' + 1 := ⟨j - 1, by omega⟩
          simp only [List.length_append, List.length_cons, List.length_nil] at hj
          have hju : j < us.length := by omega
          have e1 : ([(⟨k, p + (l.length - (c :: t).length), (c :: t).take m, n⟩ : Tok)] ++ us)[j + 1]'(by simp; omega) = us[j] := by simp
          rw [e1]
          cases i with
          | zero => have := toks_pos _ _ _ _ _ hq _ (List.getElem_mem hju); simp only [List.cons_append, List.getElem_cons_zero]; omega
          | succ i =>
            have e2 : ([(⟨k, p + (l.length - (c :: t).length), (c :: t).take m, n⟩ : Tok)] ++ us)[i + 1]'(by simp; omega) = us[i] := by simp
            rw [e2]
            exact ih _ _ _ _ hq i j (by omega) hju
theorem tokens_lt {l : Bytes} {ts : List Tok} (h : tokensOf l = .ok ts) {i j : Nat} (hi : i < j) (hj : j < ts.length) : (tk ts i).pos < (tk ts j).pos := by
  rw [tk_get _ _ (by omega), tk_get _ _ hj]
  exact toks_lt _ _ _ _ _ (tokensOf_len h).2 i j hi hj
theorem endOf_succ (ts : List Tok) (n : Nat) : endOf ts (n + 1) = (tk ts n).pos + (tk ts n).text.length := by simp [endOf]
end Lx
theorem slice_h (s : ByteArray) (p m : Nat) (w : World) (h : p + m ≤ s.size) : (Instr.slice 9 (.string s) none (some (.int .i64 ((p : Int) + (m : Int)))) none).run Tryd.prog w = .ok (.string (s.extract 0 (p + m))) w := by
  have := run_slice_string_h (P := Tryd.prog) (w := w) (s := s) (t := 9) Tryd.underlying9 .i64 ((p : Int) + (m : Int)) (by omega) (by omega)
  rw [show ((p : Int) + (m : Int)).toNat = p + m from by omega] at this
  exact this
/-- Where the loop of ParseFirst stands. -/
def FirstRel (s : ByteArray) (ts : List Tok) (q : Nat) (w : World) (cut i : Value) (wr : World) : Prop := ∃ (n : Nat) (c : ByteArray), n ≤ q ∧ i = .int .i64 (n : Int) ∧ cut = .string c ∧ c.data.toList = s.data.toList.take (endOf ts n) ∧ Below w.heap.size w wr
set_option maxHeartbeats 2000000 in
set_option maxRecDepth 100000 in
theorem law_ParseFirst (s : ByteArray) (w : World) (hs : s.size ≤ maxLen) (hL : Laid w) : Calls Tryd.prog 6 #[.string s] w fun e w' => e = .returned (.bool true) ∧ Below w.heap.size w w' := by
  have HL := Lib.hid hL
  have HS := Lib.hid hs
  unfold maxLen at hs
  clear hL
  go_enter Tryd.func6, Tryd.ntmps6
  go_wp2_with fail
  refine (par_Program s _ HS.out HL.out).mono ?_
  rintro e w1 ⟨hb1, hr1⟩
  have HB1 := Lib.hid hb1
  have HL1 : Hid (Laid w1) := HL.out.below hb1 (Nat.le_refl _)
  clear hb1
  cases hr : programR s.data.toList with
  | ok x =>
    rw [hr] at hr1
    obtain ⟨a, n, c, rfl, _⟩ := hr1
    clear hr
    go_wp2_with fail
    refine (law08_awake _ (HL1.out.alloc _)).mono ?_
    rintro e w9 ⟨rfl, hb9⟩
    have HB9 := Lib.hid (HB1.out.trans ((((Below.refl _ _).alloc (Nat.le_refl _) _).trans (hb9.mono (by simp))).mono HB1.out.size))
    clear hb9
    go_wp2_with fail
    go_ret
    exact ⟨rfl, HB9.out⟩
  | error x =>
    obtain ⟨p, er⟩ := x
    have HR := Lib.hid hr
    rw [hr] at hr1
    subst hr1
    clear hr
    by_cases h2 : er = 2
    · subst h2
      by_cases h3 : 3000 < s.size
      · go_wp2_with fail
        refine (law08_awake _ (HL1.out.alloc _)).mono ?_
        rintro e w9 ⟨rfl, hb9⟩
        have HB9 := Lib.hid (HB1.out.trans ((((Below.refl _ _).alloc (Nat.le_refl _) _).trans (hb9.mono (by simp))).mono HB1.out.size))
        clear hb9
        go_wp2_with fail
        go_ret
        exact ⟨rfl, HB9.out⟩
      · have h3' : decide (3000 < s.size) = false := by simpa using h3
        go_wp2_with fail
        refine (ref_Tokens s _ HS.out).mono ?_
        rintro e w2 ⟨hb2, hr2⟩
        have HB2 := Lib.hid (HB1.out.trans ((((Below.refl _ _).alloc (Nat.le_refl _) _).trans (hb2.mono (by simp))).mono HB1.out.size))
        have HL2 : Hid (Laid w2) := (HL1.out.alloc _).below hb2 (Nat.le_refl _)
        clear hb2
        cases hr : tokensOf s.data.toList with
        | error x =>
          obtain ⟨p2, er2⟩ := x
          have her := tokensOf_err hr
          rw [hr] at hr2
          subst hr2
          clear hr
          have he0 : ((er2 : Int) != 0) = true := by rw [bne, beq_eq_false_iff_ne.2 (by omega)]; rfl
          go_wp2_with fail
          refine (law08_awake _ HL2.out).mono ?_
          rintro e w9 ⟨rfl, hb9⟩
          have HB9 := Lib.hid (HB2.out.trans (hb9.mono HB2.out.size))
          clear hb9
          go_wp2_with fail
          go_ret
          exact ⟨rfl, HB9.out⟩
        | ok ts =>
          rw [hr] at hr2
          obtain ⟨v, rfl, hown⟩ := hr2
          obtain ⟨q, hq, rfl, hcase⟩ := programR_at hr HR.out
          have hT := twf_of hr
          have HTK := Lib.hid hr
          have HCA := Lib.hid hcase
          have hsz : s.size ≤ 3000 := by omega
          rcases (HasToks.of_own hown).form with ⟨h0, _⟩ | ⟨_, g, cap, rfl, hm, hc⟩
          · have := hT.pos; rw [h0] at this; simp at this
          have HC := Lib.hid hc
          have hgl := (hown.lt g rfl).2
          have hml := hT.len
          clear hr hown hcase hm hc h3 h3' HR
          go_wp2_with fail
          go_loopw [9, 10] (fun cut i wr => FirstRel s ts q w2 cut i wr) (fun _ i _ => q + 1 - (intOf i).toNat)
          case atStart => exact ⟨0, ⟨#[]⟩, Nat.zero_le _, rfl, rfl, by simp [endOf], .refl _ _⟩
          case round =>
            obtain ⟨n, c, hn, rfl, rfl, hcut, hb⟩ := hrel
            have hnl : n < ts.length := by omega
            obtain ⟨c0, c1, c2, c3⟩ := HC.out n hnl
            rw [← hb.cell (p := ⟨g, _, none⟩) hgl] at c0 c1 c2 c3
            rw [← tk_get _ _ hnl] at c0 c1 c2 c3
            have hgw : g < wr.heap.size := Nat.lt_of_lt_of_le hgl hb.size
            have HB := Lib.hid hb
            have HCUT := Lib.hid hcut
            clear hb hcut
            by_cases hlt : n < q
            · have hpos := tokens_lt HTK.out hlt hq
              have hne : (((tk ts n).pos : Int) == ((tk ts q).pos : Int)) = false := by rw [beq_eq_false_iff_ne]; omega
              have hend := (tokens_at HTK.out (n + 1) (by omega)).1
              rw [endOf_succ, len_list] at hend
              have HEN : Hid (endOf ts (n + 1) = (tk ts n).pos + (tk ts n).text.length) := endOf_succ ts n
              obtain ⟨tq, htq⟩ : ∃ tq, (tk ts q).pos = tq := ⟨_, rfl⟩
              rw [htq] at hne hpos ⊢
              generalize tk ts n = t at c0 c1 c2 c3 hpos hne hend HEN
              obtain ⟨kd, pos, tx, nv⟩ := t
              simp only at c0 c1 c2 c3 hpos hne hend
              obtain ⟨m, hm2⟩ : ∃ m, m = tx.length := ⟨_, rfl⟩
              have hszt : (strOf tx).size = m := by rw [strOf_size, hm2]
              have HM := Lib.hid hm2
              rw [← hm2] at hend
              clear hm2
              have k4 : IntKind.i64.wrap ((pos : Int) + (m : Int)) = (pos : Int) + (m : Int) := IntWalk.i64_in _ (by omega)
              have k5 : ∀ w, (Instr.slice 9 (.string s) none (some (.int .i64 ((pos : Int) + (m : Int)))) none).run Tryd.prog w = .ok (.string (s.extract 0 (pos + m))) w := fun w => slice_h s pos m w hend
              go_wp2_with fail
              go_quiet (fail)
              clear k4 k5 c0 c1 c2 c3
              go_wp2_with fail
              go_roundw
              case rel => exact ⟨n + 1, _, by omega, by go_num, rfl, by rw [extract_take_data, HEN.out, ← HM.out], HB.out.trans ((below_drewN (Below.refl _ _) _).mono HB.out.size)⟩
              case measure => simp [intOf]; omega
            · obtain rfl : n = q := by omega
              have heq : (((tk ts n).pos : Int) == ((tk ts n).pos : Int)) = true := by rw [beq_iff_eq]
              obtain ⟨tq, htq⟩ : ∃ tq, (tk ts n).pos = tq := ⟨_, rfl⟩
              rw [htq] at c1 heq ⊢
              have hend := (tokens_at HTK.out n hq).1
              have hcs : c.size = endOf ts n := by rw [← len_list c, HCUT.out, List.length_take]; omega
              have hcm : c.size ≤ maxLen := by unfold maxLen; rw [hcs]; rw [len_list] at hend; omega
              have HCS := Lib.hid hcs
              have HCM := Lib.hid hcm
              clear hcs hcm hend htq
              go_wp2_with fail
              refine (par_Program c _ HCM.out (HL2.out.below HB.out (Nat.le_refl _))).mono ?_
              rintro e w5 ⟨hb5, hr5⟩
              rw [HCUT.out] at hr5
              have HB5 := Lib.hid (HB2.out.trans ((HB.out.trans (hb5.mono HB.out.size)).mono HB2.out.size))
              have HL5 : Hid (Laid w5) := (HL2.out.below HB.out (Nat.le_refl _)).below hb5 (Nat.le_refl _)
              clear hb5 c0 c1 c2 c3
              cases hr : programR (s.data.toList.take (endOf ts n)) with
              | ok x =>
                rw [hr] at hr5
                obtain ⟨a, n', c', rfl, _⟩ := hr5
                clear hr
                go_wp2_with fail
                refine (law08_awake _ (HL5.out.alloc _)).mono ?_
                rintro e w9 ⟨rfl, hb9⟩
                have HB9 := Lib.hid (HB5.out.trans ((((Below.refl _ _).alloc (Nat.le_refl _) _).trans (hb9.mono (by simp))).mono HB5.out.size))
                clear hb9
                go_wp2_with fail
                go_ret
                exact ⟨rfl, HB9.out⟩
              | error x =>
                obtain ⟨to, eg⟩ := x
                rw [hr] at hr5
                subst hr5
                by_cases h2 : eg = 2
                · subst h2
                  have hto := parse_first HTK.out hq HCA.out hr
                  have hte : ((to : Int) == (c.size : Int)) = true := by rw [beq_iff_eq, hto, HCS.out]
                  clear hr hto
                  go_wp2_with fail
                  refine (law08_awake _ (HL5.out.alloc _)).mono ?_
                  rintro e w9 ⟨rfl, hb9⟩
                  have HB9 := Lib.hid (HB5.out.trans ((((Below.refl _ _).alloc (Nat.le_refl _) _).trans (hb9.mono (by simp))).mono HB5.out.size))
                  clear hb9
                  go_wp2_with fail
                  go_ret
                  exact ⟨rfl, HB9.out⟩
                · have hne2 : ((eg : Int) != 2) = true := by rw [bne, beq_eq_false_iff_ne.2 (by omega)]; rfl
                  clear hr h2
                  go_wp2_with fail
                  refine (law08_awake _ (HL5.out.alloc _)).mono ?_
                  rintro e w9 ⟨rfl, hb9⟩
                  have HB9 := Lib.hid (HB5.out.trans ((((Below.refl _ _).alloc (Nat.le_refl _) _).trans (hb9.mono (by simp))).mono HB5.out.size))
                  clear hb9
                  go_wp2_with fail
                  go_ret
                  exact ⟨rfl, HB9.out⟩
    · have hne2 : ((er : Int) != 2) = true := by rw [bne, beq_eq_false_iff_ne.2 (by omega)]; rfl
      clear h2 HR
      go_wp2_with fail
      refine (law08_awake _ (HL1.out.alloc _)).mono ?_
      rintro e w9 ⟨rfl, hb9⟩
      have HB9 := Lib.hid (HB1.out.trans ((((Below.refl _ _).alloc (Nat.le_refl _) _).trans (hb9.mono (by simp))).mono HB1.out.size))
      clear hb9
      go_wp2_with fail
      go_ret
      exact ⟨rfl, HB9.out⟩
end Go.Proofs.YthjonkommphkkaaDoor
