/-
  The rule args, walked (walks printed by genpar.py).
-/
import Derived.Test.YthjonkommphkkaaDoorWk
namespace Go.Proofs.YthjonkommphkkaaDoor
open Lx Go.RowKit

theorem Tryd.infoEx : (Tryd.prog.info? 48).map (fun i => (i.zero, i.size, i.bytes)) = some (some (.agg #[.int .i64 0, .int .i64 0, .string ⟨#[]⟩, .string ⟨#[]⟩, .slice none 0 0]), 5, 72) := by kernel_rfl
/-- The value of a rule that gives a list of expressions. -/
def QEs (lo : Nat) (l : List Ex) (r : Value) (w' : World) : Prop := ∃ (a : Option Addr) (n c : Nat), r = .slice a n c ∧ (fExs l (.slice a n c)).holds (lo ≤ ·) w'
def QEs2 (lo : Nat) (l : List Ex) (r : Value) (w' : World) : Prop := (l = [] ∧ r = .slice none 0 0) ∨ (l ≠ [] ∧ ∃ (g n c : Nat), r = .slice (some ⟨g, 0, none⟩) n c ∧ (fExs l r).holds (lo ≤ ·) w')
theorem QEs2.weak {lo : Nat} {l : List Ex} {r : Value} {w' : World} (h : QEs2 lo l r w') : QEs lo l r w' := by
  rcases h with ⟨rfl, rfl⟩ | ⟨_, g, n, c, rfl, h⟩
  · exact ⟨_, _, _, rfl, fExs.nil _ _⟩
  · exact ⟨_, _, _, rfl, h⟩
theorem POut.mono {α : Type} {pb g cap : Nat} {ts : List Tok} {w : World} {Q Q' : α → Value → World → Prop} {r : PR α} {e : Ending} {w' : World} (h : POut pb g cap ts w Q r e w') (hQ : ∀ a v, Q a v w' → Q' a v w') : POut pb g cap ts w Q' r e w' := by
  match r, h with
  | .error q, h => exact h
  | .ok (a, j), h => obtain ⟨hg, v, he, h1, h2⟩ := out_ok h; exact ⟨hg, v, he, hQ a v h1, h2⟩
theorem QEx.of {lo : Nat} {e : Ex} {k n : Int} {o m : ByteArray} {a : Option Addr} {l c : Nat} {w : World} (h : (fEx e [.int .i64 k, .int .i64 n, .string o, .string m, .slice a l c]).holds (lo ≤ ·) w) : QEx lo e (.agg #[.int .i64 k, .int .i64 n, .string o, .string m, .slice a l c]) w := by
  obtain ⟨d, h⟩ := h
  exact ⟨d, k, n, o, m, a, l, c, rfl, h⟩
theorem QPo.of {lo : Nat} {e : Ex} {sh : Nat} {k n : Int} {o m : ByteArray} {a : Option Addr} {l c : Nat} {w : World} (h : (fEx e [.int .i64 k, .int .i64 n, .string o, .string m, .slice a l c]).holds (lo ≤ ·) w) : QPo lo (e, sh) (.tuple #[.agg #[.int .i64 k, .int .i64 n, .string o, .string m, .slice a l c], .int .i64 sh]) w := by
  obtain ⟨d, h⟩ := h
  exact ⟨d, k, n, o, m, a, l, c, rfl, h⟩
theorem QPo.of0 {lo : Nat} {e : Ex} {k n : Int} {o m : ByteArray} {a : Option Addr} {l c : Nat} {w : World} (h : (fEx e [.int .i64 k, .int .i64 n, .string o, .string m, .slice a l c]).holds (lo ≤ ·) w) : QPo lo (e, 0) (.tuple #[.agg #[.int .i64 k, .int .i64 n, .string o, .string m, .slice a l c], .int .i64 0]) w := QPo.of (sh := 0) h
theorem QPo.of1 {lo : Nat} {e : Ex} {k n : Int} {o m : ByteArray} {a : Option Addr} {l c : Nat} {w : World} (h : (fEx e [.int .i64 k, .int .i64 n, .string o, .string m, .slice a l c]).holds (lo ≤ ·) w) : QPo lo (e, 1) (.tuple #[.agg #[.int .i64 k, .int .i64 n, .string o, .string m, .slice a l c], .int .i64 1]) w := QPo.of (sh := 1) h
theorem QPo.of3 {lo : Nat} {e : Ex} {k n : Int} {o m : ByteArray} {a : Option Addr} {l c : Nat} {w : World} (h : (fEx e [.int .i64 k, .int .i64 n, .string o, .string m, .slice a l c]).holds (lo ≤ ·) w) : QPo lo (e, 3) (.tuple #[.agg #[.int .i64 k, .int .i64 n, .string o, .string m, .slice a l c], .int .i64 3]) w := QPo.of (sh := 3) h
theorem is_true {pb g cap : Nat} {ts : List Tok} {i : Nat} {w : World} (x : ByteArray) (ht : isT ts i x.data.toList = true) (h : PEnv pb g cap ts i w) : Calls Tryd.prog 36 #[.pointer (some ⟨pb, 0, none⟩), .string x] w fun e w' => e = .returned (.bool true) ∧ Below w.heap.size w w' := by
  have := par_is x h; rw [ht] at this; exact this
theorem is_false {pb g cap : Nat} {ts : List Tok} {i : Nat} {w : World} (x : ByteArray) (ht : isT ts i x.data.toList = false) (h : PEnv pb g cap ts i w) : Calls Tryd.prog 36 #[.pointer (some ⟨pb, 0, none⟩), .string x] w fun e w' => e = .returned (.bool false) ∧ Below w.heap.size w w' := by
  have := par_is x h; rw [ht] at this; exact this
theorem one5 (k n : Int) (o m : ByteArray) (a : Option Addr) (l c : Nat) : ∀ u ∈ [Value.int .i64 k, .int .i64 n, .string o, .string m, .slice a l c], u.oneCell' = true := by
  intro u hu; simp at hu; rcases hu with rfl | rfl | rfl | rfl | rfl <;> rfl
theorem fFlatEx.one {A : Nat → Prop} {w : World} {e : Ex} {cs : List Value} (he : (fEx e cs).holds A w) (hc : cs.length = 5) : (fFlatEx [e] cs).holds A w := fFlatEx.snoc (l := []) (xs := []) ⟨0, Flat.nil⟩ he hc
/-- Where the loop of args stands. -/
def ArgsRel (pb g cap : Nat) (ts : List Tok) (E : Nat → PR Ex) (i : Nat) (w : World) (R : PR (List Ex)) (v : Value) (wr : World) : Prop :=
  ∃ (j q : Nat) (acc : List Ex) (xs : List Value) (gv cp : Nat), v = .slice (some ⟨gv, 0, none⟩) acc.length cp ∧ PS pb g cap ts w j wr [] ⟨.slice (some ⟨gv, 0, none⟩) acc.length cp, 48, 5, acc.length, xs⟩ (fFlatEx acc xs) ∧ ts.length - j < q ∧ i ≤ j ∧ acc.length ≤ j ∧ 0 < acc.length ∧ R = argsLoop ts E q acc j
section
variable {pb g cap : Nat} {ts : List Tok} {i : Nat} {w : World}
variable {E : Nat → PR Ex} {f : Nat} (hE : Adv E)

set_option maxHeartbeats 1000000 in
include hE in
theorem par_args (hT : TWF ts) (hP : ∀ i w, PEnv pb g cap ts i w → ts.length - i < f → Calls Tryd.prog 30 #[.pointer (some ⟨pb, 0, none⟩)] w (POut pb g cap ts w (QEx w.heap.size) (E i)))
    (h : PEnv pb g cap ts i w) (hi : ts.length - i < f + 1) : Calls Tryd.prog 83 #[.pointer (some ⟨pb, 0, none⟩)] w (POut pb g cap ts w (QEs2 w.heap.size) (argsP ts E i)) := by
  obtain ⟨R, hr⟩ : ∃ R, R = argsP ts E i := ⟨_, rfl⟩
  rw [← hr]
  unfold argsP at hr
  have R0 := Lib.hid hr
  have hpb := h.pb_lt
  have hil := h.lt
  have S0 := Lib.hid h.ps
  clear hr h
  have HP := Lib.hid hP
  clear hP
  go_enter Tryd.func83, Tryd.ntmps83
  go_wp2_with fail
  refine (par_expect hT _ (by decide) S0.out.env).mono ?_
  intro e w1 ho
  obtain ⟨ch, rfl, hp⟩ | ⟨_, j1, v, rfl, rfl, hS, hr, hs1, hq1⟩ := S0.out.rule ho R0.out
  · exact ⟨rfl, hp⟩
  have hjl1 := hS.env.lt
  have hadv1 := expectP_adv hq1
  clear hq1
  have S1 := Lib.hid hS
  have R1 := Lib.hid hr
  clear hS hr ho R0 S0
  obtain ⟨t, ht⟩ : ∃ t, isT ts (j1) [41] = t := ⟨_, rfl⟩
  have hr := R1.out
  rw [ht] at hr
  cases t
  · rw [if_neg (by decide)] at hr
    have R2n := Lib.hid hr
    have T2n := Lib.hid ht
    clear hr ht R1
    go_wp2_with fail
    refine (accept_false hT ⟨#[41]⟩ (by decide) T2n.out S1.out.env).mono ?_
    rintro e w3 ⟨rfl, hg, hEv⟩
    have hs3 := hg.size
    have hjl3 := hEv.lt
    have S3 := Lib.hid (S1.out.call hg hEv)
    clear hg hEv S1 T2n
    go_wp2_with fail
    refine (HP.out _ _ S3.out.env (by omega)).mono ?_
    intro e w4 ho
    obtain ⟨ch, rfl, hp⟩ | ⟨x, j4, v, rfl, ⟨d, k, n, o, m, a, l, c, rfl, hx⟩, hS, hr, hs4, hq4⟩ := S3.out.rule ho R2n.out
    · exact ⟨rfl, hp⟩
    have hjl4 := hS.env.lt
    have hadv4 := hE _ _ _ hq4
    clear hq4
    have S4 := Lib.hid (hS.add S3.out (fEx x [.int .i64 k, .int .i64 n, .string o, .string m, .slice a l c]) ⟨d, hx⟩)
    have R4 := Lib.hid hr
    clear hS hr ho R2n S3 hx
    have S5 := Lib.hid (S4.out.alloc (w4.heap.size) (by simp) (.cells #[.int .i64 k, .int .i64 n, .string o, .string m, .slice a l c] 48))
    clear S4
    go_wp2_with fail
    go_loopw [3] (fun v wr => ArgsRel pb g cap ts E (i + 1) w R v wr) (fun _ wr => ts.length - nextOf pb wr)
    case atStart =>
      refine ⟨j4, _, [x], [.int .i64 k, .int .i64 n, .string o, .string m, .slice a l c], w4.heap.size, 1, rfl, (S5.out.toRow 0 rfl 5 1 rfl (by unfold maxLen; omega)).imp fun A hF => fFlatEx.one hF.2 rfl, by omega, by omega, by simp; omega, by simp, R4.out⟩
    case round =>
      clear S5 R4
      obtain ⟨j, q, acc, xs, gv, cp, rfl, hS, hq, hij, hal, hpos, hr⟩ := hrel
      have hnx := Lib.hid hS.env.next_eq
      have hjl := hS.env.lt
      have S := Lib.hid hS
      obtain ⟨q, rfl⟩ : ∃ q', q = q' + 1 := ⟨q - 1, by omega⟩
      unfold argsLoop at hr
      have RL := Lib.hid hr
      clear hr hS
      obtain ⟨t, ht⟩ : ∃ t, isT ts (j) [44] = t := ⟨_, rfl⟩
      have hr := RL.out
      rw [ht] at hr
      cases t
      · rw [if_neg (by decide)] at hr
        have R6n := Lib.hid hr
        have T6n := Lib.hid ht
        clear hr ht RL
        go_wp2_with fail
        refine (accept_false hT ⟨#[44]⟩ (by decide) T6n.out S.out.env).mono ?_
        rintro e w7 ⟨rfl, hg, hEv⟩
        have hs7 := hg.size
        have hjl7 := hEv.lt
        have S7 := Lib.hid (S.out.call hg hEv)
        clear hg hEv S T6n
        go_wp2_with fail
        refine (par_expect hT _ (by decide) S7.out.env).mono ?_
        intro e w8 ho
        obtain ⟨ch, rfl, hp⟩ | ⟨_, j8, v, rfl, rfl, hS, hr, hs8, hq8⟩ := S7.out.rule ho R6n.out
        · exact ⟨rfl, hp⟩
        have hjl8 := hS.env.lt
        clear hq8
        have S8 := Lib.hid hS
        have R8 := Lib.hid hr
        clear hS hr ho R6n S7
        go_wp2_with fail
        refine bodyPost_ret (v := .slice (some ⟨gv, 0, none⟩) acc.length cp) ?_ rfl (S8.out.ret R8.out (.inr ⟨fun h => by rw [h] at hpos; simp at hpos, _, _, _, rfl, (S8.out.whole (G := fExs acc (.slice (some ⟨gv, 0, none⟩) acc.length cp)) fun A hF hA => fExs.of_row S8.out.wk.row hF hA).wk.fin⟩))
        simp [results, Tryd.results83, go_sem]
      · rw [if_pos rfl] at hr
        have R6y := Lib.hid hr
        have T6y := Lib.hid ht
        clear hr ht RL
        go_wp2_with fail
        refine (accept_true hT ⟨#[44]⟩ (by decide) T6y.out S.out.env).mono ?_
        rintro e w9 ⟨rfl, hg, hEv⟩
        have hs9 := hg.size
        have hjl9 := hEv.lt
        have S9 := Lib.hid (S.out.call hg hEv)
        clear hg hEv S T6y
        go_wp2_with fail
        refine (HP.out _ _ S9.out.env (by omega)).mono ?_
        intro e w10 ho
        obtain ⟨ch, rfl, hp⟩ | ⟨x, j10, v, rfl, ⟨d', k', n', o', m', a', l', c', rfl, hx⟩, hS, hr, hs10, hq10⟩ := S9.out.rule ho R6y.out
        · exact ⟨rfl, hp⟩
        have hjl10 := hS.env.lt
        have hadv10 := hE _ _ _ hq10
        clear hq10
        have S10 := Lib.hid (hS.add S9.out (fEx x [.int .i64 k', .int .i64 n', .string o', .string m', .slice a' l' c']) ⟨d', hx⟩)
        have R10 := Lib.hid hr
        clear hS hr ho R6y S9 hx
        have S11 := Lib.hid (S10.out.alloc (w10.heap.size) (by simp) (.cells #[.int .i64 k', .int .i64 n', .string o', .string m', .slice a' l' c'] 48))
        clear S10
        have hlen := hT.len
        obtain ⟨i0, hi0, hz0, hz1, hz2⟩ := info_parts Tryd.infoEx
        have HI := Lib.hid hi0
        have HZ0 := Lib.hid hz0
        have HZ1 := Lib.hid hz1
        have HZ2 := Lib.hid hz2
        clear hi0 hz0 hz1 hz2
        go_wp2_with (at_builtin; refine wpList_append_lies _ rfl _ _ 46 rfl w.heap.size 48 i0 _ 5 72 Tryd.underlying46 HI.out HZ0.out HZ1.out HZ2.out rfl (by decide) _ _ _ rfl S11.out.wk.row ⟨w10.heap.size, 0, none⟩ 1 1 [.int .i64 k', .int .i64 n', .string o', .string m', .slice a' l' c'] rfl rfl ?c1 (one5 _ _ _ _ _ _ _) (by decide) ?c3 ?c4 ?c5 _ rfl ?_)
        case c1 => exact World.news_of_block (alloc_last _ _ _ rfl)
        case c3 => show acc.length + 1 ≤ maxLen; unfold maxLen; omega
        case c4 => show (acc.length + 1) * 72 ≤ 140737488355328; omega
        case c5 => exact S11.out.lo_le
        intro g' cp' w7 hown hgrow hat hlt
        have S7 := Lib.hid (((S11.out.drop 0).append hown hgrow (hat.imp id fun h => h.trans (by simp))).imp (G := fFlatEx (acc ++ [x]) (xs ++ [.int .i64 k', .int .i64 n', .string o', .string m', .slice a' l' c'])) fun A hF => fFlatEx.snoc hF.1 hF.2 rfl)
        have H7 := Lib.hid S7.out.env.next_eq
        clear hown hgrow hat hlt S11
        go_wp2_with fail
        go_roundw
        case rel => exact ⟨j10, q, acc ++ [x], _, g', cp', by simp, by simpa using S7.out, by omega, by omega, by simp; omega, by simp, R10.out⟩
        case measure => rw [H7.out, hnx.out]; omega
  · rw [if_pos rfl] at hr
    have R2y := Lib.hid hr
    have T2y := Lib.hid ht
    clear hr ht R1
    go_wp2_with fail
    refine (accept_true hT ⟨#[41]⟩ (by decide) T2y.out S1.out.env).mono ?_
    rintro e w12 ⟨rfl, hg, hEv⟩
    have hs12 := hg.size
    have hjl12 := hEv.lt
    have S12 := Lib.hid (S1.out.call hg hEv)
    clear hg hEv S1 T2y
    go_wp2_with fail
    refine bodyPost_ret (v := .slice none 0 0) ?_ rfl (S12.out.ret R2y.out (.inl ⟨rfl, rfl⟩))
    simp [results, Tryd.results83, go_sem]
end
end Go.Proofs.YthjonkommphkkaaDoor
namespace Go.Proofs.YthjonkommphkkaaDoor
open Lx Go.RowKit

@[go_sem] theorem buildVar (s : ByteArray) (w : World) : (Instr.build 48 #[(0, .int .i64 3), (3, .string s)]).run Tryd.prog w = .ok (.agg #[.int .i64 3, .int .i64 0, .string ⟨#[]⟩, .string s, .slice none 0 0]) w := run_build w _ _ _ (by kernel_rfl)
@[go_sem] theorem buildStatic (s t : ByteArray) (w : World) : (Instr.build 48 #[(0, .int .i64 10), (2, .string s), (3, .string t)]).run Tryd.prog w = .ok (.agg #[.int .i64 10, .int .i64 0, .string s, .string t, .slice none 0 0]) w := run_build w _ _ _ (by kernel_rfl)
section
variable {pb g cap : Nat} {ts : List Tok} {i : Nat} {w : World}
variable {E : Nat → PR Ex} {f : Nat} (hE : Adv E)

set_option maxHeartbeats 1000000 in
theorem par_named (hT : TWF ts) (hP : ∀ i w, PEnv pb g cap ts i w → ts.length - i < f + 1 → Calls Tryd.prog 83 #[.pointer (some ⟨pb, 0, none⟩)] w (POut pb g cap ts w (QEs w.heap.size) (argsP ts E i)))
    (h : PEnv pb g cap ts i w) (hi : ts.length - i < f + 1) : Calls Tryd.prog 88 #[.pointer (some ⟨pb, 0, none⟩)] w (POut pb g cap ts w (QPo w.heap.size) (namedP ts E i)) := by
  obtain ⟨R, hr⟩ : ∃ R, R = namedP ts E i := ⟨_, rfl⟩
  rw [← hr]
  unfold namedP at hr
  have R0 := Lib.hid hr
  have hpb := h.pb_lt
  have hil := h.lt
  have S0 := Lib.hid h.ps
  clear hr h
  have HP := Lib.hid hP
  clear hP
  have S1 := Lib.hid (S0.out.alloc (w.heap.size) (by simp) (.cells #[.int .i64 0, .int .i64 0, .string ⟨#[]⟩, .string ⟨#[]⟩, .slice none 0 0] 48))
  clear S0
  go_enter Tryd.func88, Tryd.ntmps88
  go_wp2_with fail
  refine (par_name hT S1.out.env).mono ?_
  intro e w2 ho
  obtain ⟨ch, rfl, hp⟩ | ⟨n, j2, v, rfl, rfl, hS, hr, hs2, hq2⟩ := S1.out.rule ho R0.out
  · exact ⟨rfl, hp⟩
  have hjl2 := hS.env.lt
  have hadv2 := nameP_adv hq2
  clear hq2
  have S2 := Lib.hid hS
  have R2 := Lib.hid hr
  clear hS hr ho R0 S1
  replace hs2 : w.heap.size + 1 ≤ w2.heap.size := by simp at hs2; omega
  obtain ⟨t, ht⟩ : ∃ t, isT ts (j2) [58, 58] = t := ⟨_, rfl⟩
  have hr := R2.out
  rw [ht] at hr
  cases t
  · rw [if_neg (by decide)] at hr
    have R3n := Lib.hid hr
    have T3n := Lib.hid ht
    clear hr ht R2
    obtain ⟨⟨c4_0, c4_1, c4_2, c4_3, c4_4⟩, z4⟩ := S2.out.cells5 0 rfl
    have l4 := (S2.out.blk 0 rfl).2.1
    go_wp2_with fail
    refine (accept_false hT ⟨#[58, 58]⟩ (by decide) T3n.out S2.out.env).mono ?_
    rintro e w5 ⟨rfl, hg, hEv⟩
    have hs5 := hg.size
    have hjl5 := hEv.lt
    have S5 := Lib.hid (S2.out.call hg hEv)
    clear hg hEv S2 T3n
    clear c4_0 c4_1 c4_2 c4_3 c4_4 z4 l4
    obtain ⟨⟨c6_0, c6_1, c6_2, c6_3, c6_4⟩, z6⟩ := S5.out.cells5 0 rfl
    have l6 := (S5.out.blk 0 rfl).2.1
    go_wp2_with fail
    have S7 := Lib.hid (S5.out.set5 0 rfl (.int .i64 3) (.int .i64 0) (.string ⟨#[]⟩) (.string (strOf n)) (.slice none 0 0) [(w.heap.size, (.cells #[.int .i64 3, .int .i64 0, .string ⟨#[]⟩, .string (strOf n), .slice none 0 0] 48))] rfl)
    clear S5
    refine bodyPost_ret (v := .tuple #[.agg #[.int .i64 3, .int .i64 0, .string ⟨#[]⟩, .string (strOf n), .slice none 0 0], .int .i64 1]) ?_ rfl (S7.out.ret R3n.out ⟨1, _, _, _, _, _, _, _, rfl, _, rfl, Nat.zero_le _, .inl ⟨rfl, _, _, rfl⟩⟩)
    simp [results, Tryd.results88, go_sem, c6_0, c6_1, c6_2, c6_3, c6_4]
  · rw [if_pos rfl] at hr
    have R3y := Lib.hid hr
    have T3y := Lib.hid ht
    clear hr ht R2
    go_wp2_with fail
    refine (accept_true hT ⟨#[58, 58]⟩ (by decide) T3y.out S2.out.env).mono ?_
    rintro e w8 ⟨rfl, hg, hEv⟩
    have hs8 := hg.size
    have hjl8 := hEv.lt
    have S8 := Lib.hid (S2.out.call hg hEv)
    clear hg hEv S2 T3y
    go_wp2_with fail
    refine (par_name hT S8.out.env).mono ?_
    intro e w9 ho
    obtain ⟨ch, rfl, hp⟩ | ⟨m, j9, v, rfl, rfl, hS, hr, hs9, hq9⟩ := S8.out.rule ho R3y.out
    · exact ⟨rfl, hp⟩
    have hjl9 := hS.env.lt
    have hadv9 := nameP_adv hq9
    clear hq9
    have S9 := Lib.hid hS
    have R9 := Lib.hid hr
    clear hS hr ho R3y S8
    have S10 := Lib.hid (S9.out.alloc (w9.heap.size) (by simp) (.cells #[.int .i64 10, .int .i64 0, .string (strOf n), .string (strOf m), .slice none 0 0] 48))
    clear S9
    go_wp2_with fail
    refine (HP.out _ _ S10.out.env (by omega)).mono ?_
    intro e w11 ho
    obtain ⟨ch, rfl, hp⟩ | ⟨ks, j11, v, rfl, ⟨ka, kn, kc, rfl, hx⟩, hS, hr, hs11, hq11⟩ := S10.out.rule ho R9.out
    · exact ⟨rfl, hp⟩
    have hjl11 := hS.env.lt
    clear hq11
    have S11 := Lib.hid (hS.add S10.out (fExs ks (.slice ka kn kc)) hx)
    have R11 := Lib.hid hr
    clear hS hr ho R9 S10 hx
    replace hs11 : w9.heap.size + 1 ≤ w11.heap.size := by simp at hs11; omega
    obtain ⟨⟨c12_0, c12_1, c12_2, c12_3, c12_4⟩, z12⟩ := S11.out.cells5 1 rfl
    have l12 := (S11.out.blk 1 rfl).2.1
    obtain ⟨⟨c13_0, c13_1, c13_2, c13_3, c13_4⟩, z13⟩ := S11.out.cells5 0 rfl
    have l13 := (S11.out.blk 0 rfl).2.1
    go_wp2_with fail
    have S14 := Lib.hid (S11.out.setTo 0 rfl 4 (.slice ka kn kc) #[.int .i64 10, .int .i64 0, .string (strOf n), .string (strOf m), .slice ka kn kc] rfl [(w9.heap.size, (.cells #[.int .i64 10, .int .i64 0, .string (strOf n), .string (strOf m), .slice ka kn kc] 48)), (w.heap.size, (.cells #[.int .i64 0, .int .i64 0, .string ⟨#[]⟩, .string ⟨#[]⟩, .slice none 0 0] 48))] rfl)
    clear S11
    have S15 := Lib.hid (S14.out.set5 1 rfl (.int .i64 10) (.int .i64 0) (.string (strOf n)) (.string (strOf m)) (.slice ka kn kc) [(w9.heap.size, (.cells #[.int .i64 10, .int .i64 0, .string (strOf n), .string (strOf m), .slice ka kn kc] 48)), (w.heap.size, (.cells #[.int .i64 10, .int .i64 0, .string (strOf n), .string (strOf m), .slice ka kn kc] 48))] rfl)
    clear S14
    refine bodyPost_ret (v := .tuple #[.agg #[.int .i64 10, .int .i64 0, .string (strOf n), .string (strOf m), .slice ka kn kc], .int .i64 3]) ?_ rfl (S15.out.ret R11.out (QPo.of3 (fEx.mk S15.out.wk.fin.2)))
    simp [results, Tryd.results88, go_sem, c12_0, c12_1, c12_2, c12_3, c12_4]
end
end Go.Proofs.YthjonkommphkkaaDoor
