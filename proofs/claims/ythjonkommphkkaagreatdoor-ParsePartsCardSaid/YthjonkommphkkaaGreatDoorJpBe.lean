/-
  The reference's Tokens, walked.
-/
import Derived.Test.YthjonkommphkkaaGreatDoorJpBd
import Derived.Test.YthjonkommphkkaaGreatDoorJpAo
import Derived.Test.YthjonkommphkkaaGreatDoorJpBb
import Derived.Test.YthjonkommphkkaaGreatDoorParItems
namespace Go.Proofs.YthjonkommphkkaaGreatDoor
open Lx Go.RowKit
namespace Lx
theorem skipB_idem (b : Bool) (l : Bytes) : skipB false (skipB b l) = skipB b l := by
  induction l generalizing b with
  | nil => cases b <;> simp [skipB]
  | cons c t ih =>
    cases b
    · by_cases h1 : isSep c = true
      · simp only [skipB, h1, if_true]; exact ih _
      · by_cases h2 : opens c t = true
        · simp only [skipB, h1, h2]; exact ih _
        · simp only [skipB, h1, h2]
          simp [skipB, h1, h2]
    · by_cases h1 : c.toNat = 10
      · simp only [skipB, h1, if_true]; exact ih _
      · simp only [skipB, h1, if_false]; exact ih _
theorem lexAt_skip (p : Nat) (l : Bytes) : lexAt false p l = lexAt false (p + (l.length - (skipB false l).length)) (skipB false l) := by
  rw [lexAt_eq, lexAt_eq false _ (skipB false l), skipB_idem]
  have hle := skipB_le false l
  generalize skipB false l = r at hle
  cases r with
  | nil => simp
  | cons c t => simp
theorem lexAt_skipPos (l : Bytes) (p : Nat) (hp : p ≤ l.length) : lexAt false p (l.drop p) = lexAt false (skipPos false l p) (l.drop (skipPos false l p)) := by
  have hle := skipB_le false (l.drop p)
  rw [List.length_drop] at hle
  rw [lexAt_skip, drop_skipPos]
  congr 1
  unfold skipPos
  rw [List.length_drop]; omega
/-- The state of the reference's loop: it stands at a token or at the end. -/
def Stands (l : Bytes) (p : Nat) (out : List Tok) : Prop := skipB false (l.drop p) = l.drop p ∧ lexAt false 0 l = after out (lexAt false p (l.drop p))
theorem stands_start (l : Bytes) : Stands l (skipPos false l 0) [] := by
  refine ⟨by rw [drop_skipPos, skipB_idem], ?_⟩
  rw [after_nil, ← lexAt_skipPos l 0 (Nat.zero_le _)]; rfl
theorem stands_at {s : ByteArray} {p : Nat} {out : List Tok} (h : Stands s.data.toList p out) (hp : p < s.size) : isSep s[p] = false ∧ opens s[p] (s.data.toList.drop (p + 1)) = false := by
  have h1 := h.1
  rw [drop_cons s p hp] at h1
  by_cases c1 : isSep s[p] = true
  · simp only [skipB, c1, if_true] at h1
    have := skipB_le false (s.data.toList.drop (p + 1))
    rw [h1] at this; simp at this; omega
  · by_cases c2 : opens s[p] (s.data.toList.drop (p + 1)) = true
    · simp only [skipB, c1, c2] at h1
      have := skipB_le true (s.data.toList.drop (p + 1))
      simp at h1
      rw [h1] at this; simp at this; omega
    · exact ⟨by simpa using c1, by simpa using c2⟩
theorem stands_bad {s : ByteArray} {p e : Nat} {out : List Tok} (h : Stands s.data.toList p out) (hp : p < s.size) (ht : oneTok (s.data.toList.drop p) = .bad e) : lexAt false 0 s.data.toList = .error (p, e) := by
  have hs := stands_at h hp
  have e0 := drop_cons s p hp
  rw [e0] at ht
  rw [h.2, e0, lexAt_bad hs.1 hs.2 ht]; rfl
theorem stands_ok {s : ByteArray} {p k m n : Nat} {out : List Tok} (h : Stands s.data.toList p out) (hp : p < s.size) (ht : oneTok (s.data.toList.drop p) = .ok k m n) :
    Stands s.data.toList (skipPos false s.data.toList (p + m)) (out ++ [⟨k, p, (s.data.toList.drop p).take m, n⟩]) := by
  have hs := stands_at h hp
  have hb := oneTok_bounds ht
  rw [List.length_drop, len_list] at hb
  refine ⟨by rw [drop_skipPos, skipB_idem], ?_⟩
  rw [← lexAt_skipPos _ _ (by rw [len_list]; omega)]
  have e := drop_cons s p hp
  rw [e] at ht
  rw [h.2, e, lexAt_ok hs.1 hs.2 ht, after_after, ← e, List.drop_drop]
theorem stands_end {s : ByteArray} {p : Nat} {out : List Tok} (h : Stands s.data.toList p out) (hp : p = s.size) : lexAt false 0 s.data.toList = .ok (out ++ [⟨5, s.size, [], 0⟩]) := by
  subst hp
  rw [h.2, List.drop_eq_nil_of_le (by rw [len_list]; exact Nat.le_refl _), lexAt_nil]; rfl
end Lx
def RefRel (s : ByteArray) (w : World) (v a : Value) (wr : World) : Prop :=
  ∃ (p : Nat) (out : List Tok), a = .int .i64 p ∧ p ≤ s.size ∧ out.length ≤ p ∧ wr.ownsRow w.heap.size 58 4 v out.length (toksCells out) ∧ Below w.heap.size w wr ∧ Stands s.data.toList p out
theorem ref_step {w W1 W2 w1 : World} {n : Nat} {v : Value} {xs : List Value} (o2 : Obj) (cs : Array Value) (hb : Below w.heap.size w W1)
    (ho : W1.ownsRow w.heap.size 58 4 v n xs) (hb2 : Below W1.heap.size W1 W2) (hg : ((W2.alloc (.cells cs 58)).alloc o2).grownBy w1 v.ownBlock) :
    Below w.heap.size w w1 ∧ ∀ j, w1.cell? ⟨W2.heap.size, j, none⟩ = cs[j]? := by
  have ho2 := own_below ho hb2
  have hrow : ∀ k, v.ownBlock = some k → w.heap.size ≤ k ∧ k < W2.heap.size := ho2.lt
  have hsz := hb2.size
  have hs1 : (W2.alloc (.cells cs 58)).heap.size = W2.heap.size + 1 := by simp
  have hs2 : ((W2.alloc (.cells cs 58)).alloc o2).heap.size = W2.heap.size + 2 := by simp
  have hbs := hb.size
  refine ⟨?_, ?_⟩
  · exact Below.grown (((hb.trans (hb2.mono hbs)).alloc (by omega) _).alloc (by omega) _) hg (by omega) (fun k e => by have := hrow k e; omega)
  · intro j
    rw [World.cell?_of_block (w := (W2.alloc (.cells cs 58)).alloc o2) (hg.block _ (by simp; omega) (fun e => by have := hrow _ e.symm; simp at this))]
    rw [World.cell?_of_block (w := W2.alloc (.cells cs 58)) (Below.heap_alloc _ _ _ (by simp))]
    exact World.cell?_alloc_new _ _ _ _
set_option maxHeartbeats 1000000 in
set_option maxRecDepth 100000 in
theorem ref_Tokens (s : ByteArray) (w : World) (hs : s.size ≤ maxLen) : Calls Tryz.prog 20 #[.string s] w (LexP (tokensOf s.data.toList) w) := by
  unfold maxLen at hs
  by_cases h1 : 65536 < s.size
  · go_enter Tryz.func20, Tryz.ntmps20
    go_wp2_with fail
    go_ret3
    refine ⟨Below.refl _ _, ?_⟩
    rw [tokensOf, if_pos (by rw [len_list]; exact h1)]
    rfl
  have HT : Hid (tokensOf s.data.toList = lexAt false 0 s.data.toList) := by show _ = _; rw [tokensOf, if_neg (by rw [len_list]; exact h1)]
  have hlen := len_list s
  have hle0 := skipPos_le s.data.toList 0
  rw [hlen] at hle0
  clear hlen
  go_enter Tryz.func20, Tryz.ntmps20
  go_wp2_with fail
  refine (ref_skip s 0 _ (by omega) (by omega) (by omega)).mono ?_
  rintro e w' ⟨rfl, rfl⟩
  have HST : Hid (Stands s.data.toList (skipPos false s.data.toList (0 : Int).toNat) []) := stands_start _
  rw [show (0 : Int).toNat = 0 from rfl] at HST ⊢
  generalize skipPos false s.data.toList 0 = p0 at hle0 HST ⊢
  go_wp2_with fail
  go_loopw [5, 6] (fun v a wr => RefRel s w v a wr) (fun _ a _ => s.size - (intOf a).toNat)
  case atStart => exact ⟨p0, [], rfl, hle0, Nat.zero_le _, World.ownsRow_nil _ _ _ _, Below.refl _ _, HST.out⟩
  case round =>
    obtain ⟨p, out, rfl, hp, hol, hown, hbel, hst⟩ := hrel
    have HO := Lib.hid hown
    have HB := Lib.hid hbel
    have HS := Lib.hid hst
    have hws : w.heap.size ≤ wr.heap.size := hbel.size
    clear hown hbel hst HST
    obtain ⟨i0, hi, hz0, hz1, hz2⟩ := info_parts Tryz.infoTok
    have HI := Lib.hid hi
    have HZ0 := Lib.hid hz0
    have HZ1 := Lib.hid hz1
    have HZ2 := Lib.hid hz2
    clear hi hz0 hz1 hz2
    by_cases hlt : p < s.size
    · go_wp2_with fail
      refine (ref_one s p _ (by omega) hlt).mono ?_
      rintro e W2 ⟨rfl, hb2⟩
      have HB2 := Lib.hid hb2
      obtain ⟨hc, hf⟩ := bcell hb2
      have hz : wr.heap.size ≤ W2.heap.size := hb2.size
      clear hb2
      cases ht : oneTok (s.data.toList.drop p) with
      | bad er =>
        have HTK := Lib.hid ht
        have her : ((er : Int) == 0) = false := by rw [beq_eq_false_iff_ne]; have := oneTok_bad_pos ht; omega
        have her' : ((er : Int) != 0) = true := by rw [bne_iff_ne]; have := oneTok_bad_pos ht; omega
        simp only [oneV, tokAgg]
        go_wp2_with fail
        go_ret3
        refine ⟨(HB.out.trans (HB2.out.mono HB.out.size)).alloc (by omega) _, ?_⟩
        rw [HT.out, stands_bad HS.out hlt HTK.out]
        rfl
      | ok k m n' =>
        have HTK := Lib.hid ht
        have hmb := oneTok_bounds ht
        have hml : m ≤ s.size - p := by have := hmb.2; simpa using this
        have hmsz : (strOf ((s.data.toList.drop p).take m)).size = m := by rw [strOf_size]; simp; omega
        clear ht
        simp only [oneV, tokAgg]
        go_wp2_with (at_builtin; refine wpList_append_own _ rfl _ _ 53 rfl w.heap.size 58 i0 _ 4 40 Tryz.underlying53 HI.out HZ0.out HZ1.out HZ2.out rfl (by decide) _ _ _ rfl (((own_below HO.out HB2.out).alloc _).alloc _) ⟨W2.heap.size + 1, 0, none⟩ 1 1 (tokCells ⟨k, p, (s.data.toList.drop p).take m, n'⟩) rfl rfl ?c1 ?c2 ?c3 ?c4 ?c5 ?_)
        case c1 => exact fun j u h => by have h2 := cells4_new (W2.alloc (Obj.cells #[.int .i64 k, .int .i64 p, .string (strOf ((s.data.toList.drop p).take m)), .int .i64 n'] 58)) _ _ _ _ 58 j u h; rw [World.size_alloc] at h2; exact h2
        case c2 => intro u hu; simp [tokCells] at hu; rcases hu with rfl | rfl | rfl | rfl <;> rfl
        case c3 => unfold maxLen; omega
        case c4 => omega
        case c5 => simp; omega
        intro v' w1 hown' hgrow _
        obtain ⟨hbw, hcs⟩ := ref_step _ _ HB.out HO.out HB2.out hgrow
        have hcell := hcs 2
        simp only [List.getElem?_toArray] at hcell
        have HOW : Hid (w1.ownsRow w.heap.size 58 4 v' (out ++ [(⟨k, p, (s.data.toList.drop p).take m, n'⟩ : Tok)]).length (toksCells (out ++ [⟨k, p, (s.data.toList.drop p).take m, n'⟩]))) := by
          rw [toksCells_snoc, List.length_append]; exact hown'
        have HBW := Lib.hid hbw
        clear hbw hcs hown' hgrow
        go_wp2_with fail
        refine (ref_skip s ((p : Int) + (m : Int)) _ (by omega) (by omega) (by omega)).mono ?_
        rintro e w' ⟨rfl, rfl⟩
        rw [show ((p : Int) + (m : Int)).toNat = p + m from by omega]
        have hge := skipPos_ge s.data.toList (p + m) (by rw [len_list]; omega)
        have hle := skipPos_le s.data.toList (p + m)
        rw [len_list] at hle
        have HSN : Hid (Stands s.data.toList (skipPos false s.data.toList (p + m)) (out ++ [⟨k, p, (s.data.toList.drop p).take m, n'⟩])) := stands_ok HS.out hlt HTK.out
        generalize skipPos false s.data.toList (p + m) = q at hge hle HSN ⊢
        go_wp2_with fail
        go_roundw
        case rel => exact ⟨q, _, rfl, hle, by simp; omega, HOW.out, HBW.out, HSN.out⟩
        case measure => simp [intOf]; omega
    · go_wp2_with (at_builtin; refine wpList_append_own _ rfl _ _ 53 rfl w.heap.size 58 i0 _ 4 40 Tryz.underlying53 HI.out HZ0.out HZ1.out HZ2.out rfl (by decide) _ _ _ rfl (HO.out.alloc _) ⟨wr.heap.size, 0, none⟩ 1 1 (tokCells ⟨5, s.size, [], 0⟩) rfl rfl ?c1 ?c2 ?c3 ?c4 ?c5 ?_)
      case c1 => exact cells4_new _ _ _ _ _ _
      case c2 => intro u hu; simp [tokCells] at hu; rcases hu with rfl | rfl | rfl | rfl <;> rfl
      case c3 => unfold maxLen; omega
      case c4 => omega
      case c5 => simp; omega
      intro v' w1 hown' hgrow _
      go_wp2_with fail
      go_ret3
      refine ⟨Below.grown (HB.out.alloc (by omega) _) hgrow (by simp; omega) (fun k e => by have := HO.out.lt k e; omega), ?_⟩
      rw [HT.out, stands_end HS.out (by omega)]
      refine ⟨v', rfl, ?_⟩
      rw [toksCells_snoc, List.length_append]
      exact hown'
end Go.Proofs.YthjonkommphkkaaGreatDoor
namespace Go.Proofs.YthjonkommphkkaaGreatDoor
open Lx Go.RowKit
namespace Lx
/-- What parse.Expr gives: the tree, or the offset and the error. -/
def exprR (l : Bytes) : Except (Nat × Nat) Ex := match readR (fun ts => exprT ts 0) l with
  | .error x => .error x
  | .ok e => if 32 < exDepth e then .error (0, 15) else .ok e
end Lx
def formEx (cs : Array Value) : Prop := ∃ (k n : Int) (o m : ByteArray) (a : Option Addr) (l c : Nat), cs = #[.int .i64 k, .int .i64 n, .string o, .string m, .slice a l c]
def factEx (e : Ex) (cs : Array Value) : Fact := fEx e cs.toList
set_option maxHeartbeats 1000000 in
theorem rule_Expr (cb : Nat) : RuleC 40 cb 45 #[.int .i64 0, .int .i64 0, .string ⟨#[]⟩, .string ⟨#[]⟩, .slice none 0 0] formEx factEx (fun ts => exprT ts 0) := by
  intro pb g cap ts w hT hE h1 h2 hcb
  obtain ⟨R, hr⟩ : ∃ R, R = exprT ts 0 := ⟨_, rfl⟩
  show Calls _ _ _ _ (RuleOut pb g cap ts w cb _ formEx factEx (exprT ts 0))
  rw [← hr]
  have HR := Lib.hid hr
  have HE := Lib.hid hE
  have HC := Lib.hid hcb
  have hcl := lt_of_heap hcb
  clear hr hE hcb
  go_enter Tryz.func40, Tryz.ntmps40
  go_wp2_with fail
  refine (par_expr hT HE.out).mono ?_
  intro e w2 ho
  rw [← HR.out] at ho
  cases R with
  | error q =>
    obtain ⟨hg, rfl⟩ := out_error ho
    exact ⟨rfl, rfl, hg⟩
  | ok x =>
    obtain ⟨x, j⟩ := x
    obtain ⟨hg, v, rfl, ⟨d, k, n, o, m, a, l, c, rfl, hx⟩, hE2⟩ := out_ok ho
    have hc2 : w2.heap[cb]? = some (.cells #[.int .i64 0, .int .i64 0, .string ⟨#[]⟩, .string ⟨#[]⟩, .slice none 0 0] 45 (0, 0)) := (hg.block cb hcl (by intro e; cases e; exact h1 rfl)).trans HC.out
    obtain ⟨c0, cz⟩ := blk_cell hc2
    have d0 := c0 0
    have d1 := c0 1
    have d2 := c0 2
    have d3 := c0 3
    have d4 := c0 4
    simp only [List.getElem?_toArray, List.getElem?_cons_zero, List.getElem?_cons_succ] at d0 d1 d2 d3 d4
    have HG := Lib.hid hg
    have HX := Lib.hid hx
    have HE2 := Lib.hid hE2
    have HC2 := Lib.hid hc2
    have hgl := HE2.out.g_lt
    clear hg hx hE2 hc2 c0 ho HR
    go_wp2_with fail
    refine bodyPost_end (v := .tuple #[]) ?_ rfl ⟨rfl, ((((HE2.out.set h1 h2 _ _).set h1 h2 _ _).set h1 h2 _ _).set h1 h2 _ _).set h1 h2 _ _, ⟨_, ⟨k, n, o, m, a, l, c, rfl⟩, B5.set HC2.out _ _ _ _ _, d, IsEx.kept (kept_set5 (by omega) _ _ _ _ _) _ _ _ HX.out⟩, HG.out.os, HG.out.tape, HG.out.output, by simp; exact HG.out.size, fun k hk h3 h4 => ?_⟩
    · simp [results, Tryz.results40, go_sem]
    · rw [set_block_ne _ _ _ _ _ h4, set_block_ne _ _ _ _ _ h4, set_block_ne _ _ _ _ _ h4, set_block_ne _ _ _ _ _ h4, set_block_ne _ _ _ _ _ h4]
      exact HG.out.block k hk (by intro e; cases e; exact h3 rfl)
theorem calls_Expr (args : Array Value) (w : World) : (callFunc 40 args).run Tryz.prog w = .ok (.enter 40 args) w := by simp [go_sem]
/-- How parse.Expr ends. -/
def ExprOut (w : World) (r : Except (Nat × Nat) Ex) (e : Ending) (w' : World) : Prop := Below w.heap.size w w' ∧ match r with
  | .error (p, er) => e = .returned (.tuple #[.agg #[.int .i64 0, .int .i64 0, .string ⟨#[]⟩, .string ⟨#[]⟩, .slice none 0 0], .int .i64 (p : Int), .int .i64 (er : Int)])
  | .ok x => ∃ (k n : Int) (o m : ByteArray) (a : Option Addr) (l c : Nat), e = .returned (.tuple #[.agg #[.int .i64 k, .int .i64 n, .string o, .string m, .slice a l c], .int .i64 0, .int .i64 0]) ∧ (fEx x [.int .i64 k, .int .i64 n, .string o, .string m, .slice a l c]).holds (w.heap.size ≤ ·) w'
theorem below_of_grown {w wc w' : World} {cb : Nat} (h : Below w.heap.size w wc) (hg : wc.grownBy w' (some cb)) (hcb : w.heap.size ≤ cb) : Below w.heap.size w w' :=
  ⟨hg.os.trans h.os, hg.tape.trans h.tape, hg.output.trans h.output, Nat.le_trans h.size hg.size, fun k hk => (hg.block k (Nat.lt_of_lt_of_le hk h.size) (by intro e; cases e; omega)).trans (h.block k hk)⟩
theorem below_set5 {w wc : World} {b : Nat} (h : Below w.heap.size w wc) (hb : w.heap.size ≤ b) (v0 v1 v2 v3 v4 : Value) : Below w.heap.size w (set5 wc b v0 v1 v2 v3 v4) := by
  unfold set5
  exact ((((h.setCell (by exact hb) _).setCell (by exact hb) _).setCell (by exact hb) _).setCell (by exact hb) _).setCell (by exact hb) _
set_option maxHeartbeats 1000000 in
theorem par_Expr (s : ByteArray) (w : World) (hs : s.size ≤ maxLen) (hL : Laid w) : Calls Tryz.prog 14 #[.string s] w (ExprOut w (exprR s.data.toList)) := by
  obtain ⟨R, hR⟩ : ∃ R, R = exprR s.data.toList := ⟨_, rfl⟩
  rw [← hR]
  unfold exprR at hR
  have HL := Lib.hid hL
  have HS := Lib.hid hs
  have HRR := Lib.hid hR
  clear hL hs hR
  have hmf : ∀ (fn : Fn) (first cap : Array Value) (w : World), (Instr.makeFunc fn first cap).run Tryz.prog w = .ok (.func fn first cap) w := fun _ _ _ _ => rfl
  go_enter Tryz.func14, Tryz.ntmps14
  go_wp2_with fail
  refine (par_read (rule_Expr (w.heap.size + 1)) calls_Expr s _ HS.out ((HL.out.alloc _).alloc _) (alloc_last _ _ _ (by simp))).mono ?_
  rintro e w2 ⟨hg, ho⟩
  have hb := below_of_grown (w := w) (((Below.refl w.heap.size w).alloc (Nat.le_refl _) _).alloc (by simp) _) hg (by omega)
  have hsz := hg.size
  simp only [World.size_alloc] at hsz
  have hB : B5 w2 w.heap.size (.int .i64 0) (.int .i64 0) (.string ⟨#[]⟩) (.string ⟨#[]⟩) (.slice none 0 0) := (hg.block _ (by simp; omega) (by simp)).trans (B5.alloc (B5.new _ _ rfl _ _ _ _ _) _)
  obtain ⟨⟨b0, b1, b2, b3, b4⟩, bf⟩ := hB.cells
  have hbl : w.heap.size < w2.heap.size := by omega
  have HB := Lib.hid hb
  have HRB := Lib.hid hB
  clear hg hb hB
  cases hr : readR (fun ts => exprT ts 0) s.data.toList with
  | error x =>
    obtain ⟨p, er⟩ := x
    rw [hr] at ho
    have hRR := HRR.out
    rw [hr] at hRR
    subst ho
    have her : 2 ≤ er := by
      unfold readR at hr
      cases ht : tokensOf s.data.toList with
      | error y => rw [ht] at hr; cases hr; exact tokensOf_err ht
      | ok ts =>
        rw [ht] at hr
        cases he : exprT ts 0 with
        | error q => simp only [he] at hr; cases hr; exact Nat.le_refl _
        | ok y => obtain ⟨y, j⟩ := y; simp only [he] at hr; split at hr <;> cases hr; exact Nat.le_refl _
    have he0 : ((er : Int) != 0) = true := by rw [bne, beq_eq_false_iff_ne.2 (by omega)]; rfl
    have RR := Lib.hid hRR
    clear hr hRR HRR
    go_wp2_with fail
    refine bodyPost_ret (v := .tuple #[.agg #[.int .i64 0, .int .i64 0, .string ⟨#[]⟩, .string ⟨#[]⟩, .slice none 0 0], .int .i64 (p : Int), .int .i64 (er : Int)]) ?_ rfl ⟨below_set5 HB.out (Nat.le_refl _) _ _ _ _ _, by rw [RR.out]⟩
    simp [results, Tryz.results14, go_sem, b0, b1, b2, b3, b4]
  | ok x =>
    rw [hr] at ho
    have hRR := HRR.out
    rw [hr] at hRR
    obtain ⟨rfl, ⟨ts, j, hT, hsp, hj⟩, cs, ⟨k, n, o, m, a, l, c, rfl⟩, hcb, hx⟩ := ho
    have hX : B5 w2 (w.heap.size + 1) (.int .i64 k) (.int .i64 n) (.string o) (.string m) (.slice a l c) := hcb
    obtain ⟨⟨x0, x1, x2, x3, x4⟩, xf⟩ := hX.cells
    have hxl : w.heap.size + 1 < w2.heap.size := by omega
    have hd : exDepth x ≤ 1000000 := by have := exprT_dep _ _ _ hsp; have := hT.len; omega
    replace hx : (fEx x [.int .i64 k, .int .i64 n, .string o, .string m, .slice a l c]).holds (w.heap.size < ·) w2 := (fEx x _).sub _ _ _ (fun g h1 _ => by simp at h1; omega) hx
    replace hRR : R = if 32 < exDepth x then .error (0, 15) else .ok x := hRR
    obtain ⟨d, hx⟩ := hx
    have HX := Lib.hid hx
    have RR := Lib.hid hRR
    have HXX := Lib.hid hX
    clear hr hRR HRR hx hX hcb hsp
    go_wp2_with fail
    refine (par_exprDepth d x _ _ _ _ _ _ _ _ (IsEx.sub (fun _ _ _ => trivial) _ _ _ HX.out) hd).mono ?_
    rintro e w3 ⟨rfl, hb3⟩
    obtain ⟨⟨y0, y1, y2, y3, y4⟩, yf⟩ := (HXX.out.below hb3).cells
    obtain ⟨⟨z0, z1, z2, z3, z4⟩, zf⟩ := (HRB.out.below hb3).cells
    have hsz3 := hb3.size
    have HB3 := Lib.hid (HB.out.trans (hb3.mono (by omega)))
    have HX3 := Lib.hid (IsEx.kept (.of_below hb3) _ _ _ HX.out)
    have hl1 : w.heap.size + 1 < w3.heap.size := by omega
    have hl2 : w.heap.size < w3.heap.size := by omega
    clear hb3 HX HXX HRB HB b0 b1 b2 b3 b4 bf x0 x1 x2 x3 x4 xf
    by_cases h32 : 32 < exDepth x
    · have hRR := RR.out
      rw [if_pos h32] at hRR
      have RR2 := Lib.hid hRR
      clear hRR RR
      go_wp2_with fail
      refine bodyPost_ret (v := .tuple #[.agg #[.int .i64 0, .int .i64 0, .string ⟨#[]⟩, .string ⟨#[]⟩, .slice none 0 0], .int .i64 0, .int .i64 15]) ?_ rfl ⟨below_set5 HB3.out (Nat.le_refl _) _ _ _ _ _, by rw [RR2.out]; rfl⟩
      simp [results, Tryz.results14, go_sem, z0, z1, z2, z3, z4]
    · have hRR := RR.out
      rw [if_neg h32] at hRR
      have RR2 := Lib.hid hRR
      clear hRR RR
      go_wp2_with fail
      refine bodyPost_ret (v := .tuple #[.agg #[.int .i64 k, .int .i64 n, .string o, .string m, .slice a l c], .int .i64 0, .int .i64 0]) ?_ rfl ⟨below_set5 HB3.out (Nat.le_refl _) _ _ _ _ _, ?_⟩
      · simp [results, Tryz.results14, go_sem, z0, z1, z2, z3, z4]
      · rw [RR2.out]
        refine ⟨k, n, o, m, a, l, c, rfl, d, ?_⟩
        exact IsEx.sub (fun g h1 _ => by omega) _ _ _ (IsEx.kept (kept_set5 (by omega) _ _ _ _ _) _ _ _ HX3.out)
end Go.Proofs.YthjonkommphkkaaGreatDoor
namespace Go.Proofs.YthjonkommphkkaaGreatDoor
open Lx Go.RowKit
theorem expr_example : exprR [49, 32, 43, 32, 50, 32, 42, 32, 120] = .ok (.mk 6 1 [] [] [.mk 1 1 [] [] [], .mk 6 3 [] [] [.mk 1 2 [] [] [], .mk 3 0 [] [120] []]]) := by kernel_rfl
set_option maxHeartbeats 1000000 in
theorem law08_awake (w : World) (hL : Laid w) : Calls Tryz.prog 17 #[] w fun e w' => e = .returned (.bool true) ∧ Below w.heap.size w w' := by
  have HL := Lib.hid hL
  clear hL
  go_enter Tryz.func17, Tryz.ntmps17
  go_wp2_with fail
  refine (par_Expr _ _ (by decide) HL.out).mono ?_
  rintro e w1 ⟨hb, hr⟩
  rw [show ({ data := #[49, 32, 43, 32, 50, 32, 42, 32, 120] } : ByteArray).data.toList = [49, 32, 43, 32, 50, 32, 42, 32, 120] from rfl, expr_example] at hr
  obtain ⟨k, n, o, m, a, l, c, rfl, d, hx⟩ := hr
  cases d with
  | zero => exact absurd hx (by simp [IsEx])
  | succ d =>
    obtain ⟨v, hv, hl⟩ := hx
    simp only [List.cons.injEq, Value.int.injEq, and_true, true_and] at hv
    obtain ⟨rfl, rfl, _, _, rfl⟩ := hv
    rename_i hn1 hn2
    clear hn1 hn2
    obtain ⟨rfl, _, hat⟩ := hl.exAt
    obtain ⟨g, off, k1, m1, o1, nm1, a1, n1, c1, rfl, hgl, e0, e1, e2, e3, e4, hx1⟩ := hat 1 (by decide)
    cases d with
    | zero => exact absurd hx1 (by simp [IsEx])
    | succ d =>
      obtain ⟨v1, hv1, _⟩ := hx1
      simp only [List.cons.injEq, Value.int.injEq, and_true, true_and] at hv1
      obtain ⟨rfl, rfl, _, _, rfl⟩ := hv1
      rename_i hn1 hn2 hn3
      clear hn1 hn2 hn3 hat hl
      simp only [Nat.one_mul] at e0 e1 e2 e3 e4
      have HB := Lib.hid hb
      clear hb
      simp only [List.length_cons, List.length_nil]
      go_wp2_with fail
      go_ret
      exact ⟨rfl, HB.out.trans (((Below.refl _ _).alloc (Nat.le_refl _) _).mono HB.out.size)⟩
end Go.Proofs.YthjonkommphkkaaGreatDoor
namespace Go.Proofs.YthjonkommphkkaaGreatDoor
open Lx Go.RowKit
namespace Lx
/-- What parse.Program gives: the classes, or the offset and the error. -/
def programR (l : Bytes) : Except (Nat × Nat) (List Cl) := match readR (fun ts => programP ts 0) l with
  | .error x => .error x
  | .ok c => if sourceLim c ≠ 0 then .error (0, sourceLim c) else .ok c
theorem readR_err {α : Type} {spec : List Tok → PR α} {l : Bytes} {p er : Nat} (h : readR spec l = .error (p, er)) : 2 ≤ er := by
  unfold readR at h
  cases ht : tokensOf l with
  | error y => rw [ht] at h; cases h; exact tokensOf_err ht
  | ok ts =>
    rw [ht] at h
    cases he : spec ts with
    | error q => simp only [he] at h; cases h; exact Nat.le_refl _
    | ok y => obtain ⟨y, j⟩ := y; simp only [he] at h; split at h <;> cases h; exact Nat.le_refl _
end Lx
/-- How parse.Program ends. -/
def ProgOut (w : World) (r : Except (Nat × Nat) (List Cl)) (e : Ending) (w' : World) : Prop := Below w.heap.size w w' ∧ match r with
  | .error (p, er) => e = .returned (.tuple #[.agg #[.slice none 0 0], .int .i64 (p : Int), .int .i64 (er : Int)])
  | .ok x => ∃ (a : Option Addr) (n c : Nat), e = .returned (.tuple #[.agg #[.slice a n c], .int .i64 0, .int .i64 0]) ∧ (fCls x (.slice a n c)).holds (w.heap.size ≤ ·) w'
end Go.Proofs.YthjonkommphkkaaGreatDoor
