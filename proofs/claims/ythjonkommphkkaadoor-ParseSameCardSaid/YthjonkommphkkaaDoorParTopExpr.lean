/-
  parse.Expr, walked.
-/
import Derived.Test.YthjonkommphkkaaDoorParRead0
import Derived.Test.YthjonkommphkkaaDoorParDepth
namespace Go.Proofs.YthjonkommphkkaaDoor
open Lx Go.RowKit
namespace Lx
/-- What parse.Expr gives: the tree, or the offset and the error. -/
def exprR (l : Bytes) : Except (Nat × Nat) Ex := match readR (fun ts => exprT ts 0) l with
  | .error x => .error x
  | .ok e => if 32 < exDepth e then .error (0, 15) else .ok e
end Lx
def formEx (cs : Array Value) : Prop := ∃ (k n : Int) (o m : ByteArray) (a : Option Addr) (l c : Nat), cs = #[.int .i64 k, .int .i64 n, .string o, .string m, .slice a l c]
def factEx (e : Ex) (cs : Array Value) : Fact := fEx e cs.toList
set_option maxHeartbeats 1000000 in
theorem rule_Expr (cb : Nat) : RuleC 29 cb 48 #[.int .i64 0, .int .i64 0, .string ⟨#[]⟩, .string ⟨#[]⟩, .slice none 0 0] formEx factEx (fun ts => exprT ts 0) := by
  intro pb g cap ts w hT hE h1 h2 hcb
  obtain ⟨R, hr⟩ : ∃ R, R = exprT ts 0 := ⟨_, rfl⟩
  show Calls _ _ _ _ (RuleOut pb g cap ts w cb _ formEx factEx (exprT ts 0))
  rw [← hr]
  have HR := Lib.hid hr
  have HE := Lib.hid hE
  have HC := Lib.hid hcb
  have hcl := lt_of_heap hcb
  clear hr hE hcb
  go_enter Tryd.func29, Tryd.ntmps29
  go_wp2_with fail
  refine (par_expr hT HE.out).mono ?_
  intro e w2 ho
  rw [← HR.out] at ho
  cases R with
  | error q =>
    obtain ⟨hg, rfl⟩ := out_error ho
    exact ⟨rfl, rfl, hg⟩
  | ok x =>
    obtain ⟨x, j⟩ := x
    obtain ⟨hg, v, rfl, ⟨d, k, n, o, m, a, l, c, rfl, hx⟩, hE2⟩ := out_ok ho
    have hc2 : w2.heap[cb]? = some (.cells #[.int .i64 0, .int .i64 0, .string ⟨#[]⟩, .string ⟨#[]⟩, .slice none 0 0] 48 (0, 0)) := (hg.block cb hcl (by intro e; cases e; exact h1 rfl)).trans HC.out
    obtain ⟨c0, cz⟩ := blk_cell hc2
    have d0 := c0 0
    have d1 := c0 1
    have d2 := c0 2
    have d3 := c0 3
    have d4 := c0 4
    simp only [List.getElem?_toArray, List.getElem?_cons_zero, List.getElem?_cons_succ] at d0 d1 d2 d3 d4
    have HG := Lib.hid hg
    have HX := Lib.hid hx
    have HE2 := Lib.hid hE2
    have HC2 := Lib.hid hc2
    have hgl := HE2.out.g_lt
    clear hg hx hE2 hc2 c0 ho HR
    go_wp2_with fail
    refine bodyPost_end (v := .tuple #[]) ?_ rfl ⟨rfl, ((((HE2.out.set h1 h2 _ _).set h1 h2 _ _).set h1 h2 _ _).set h1 h2 _ _).set h1 h2 _ _, ⟨_, ⟨k, n, o, m, a, l, c, rfl⟩, B5.set HC2.out _ _ _ _ _, d, IsEx.kept (kept_set5 (by omega) _ _ _ _ _) _ _ _ HX.out⟩, HG.out.os, HG.out.tape, HG.out.output, by simp; exact HG.out.size, fun k hk h3 h4 => ?_⟩
    · simp [results, Tryd.results29, go_sem]
    · rw [set_block_ne _ _ _ _ _ h4, set_block_ne _ _ _ _ _ h4, set_block_ne _ _ _ _ _ h4, set_block_ne _ _ _ _ _ h4, set_block_ne _ _ _ _ _ h4]
      exact HG.out.block k hk (by intro e; cases e; exact h3 rfl)
theorem calls_Expr (args : Array Value) (w : World) : (callFunc 29 args).run Tryd.prog w = .ok (.enter 29 args) w := by simp [go_sem]
/-- How parse.Expr ends. -/
def ExprOut (w : World) (r : Except (Nat × Nat) Ex) (e : Ending) (w' : World) : Prop := Below w.heap.size w w' ∧ match r with
  | .error (p, er) => e = .returned (.tuple #[.agg #[.int .i64 0, .int .i64 0, .string ⟨#[]⟩, .string ⟨#[]⟩, .slice none 0 0], .int .i64 (p : Int), .int .i64 (er : Int)])
  | .ok x => ∃ (k n : Int) (o m : ByteArray) (a : Option Addr) (l c : Nat), e = .returned (.tuple #[.agg #[.int .i64 k, .int .i64 n, .string o, .string m, .slice a l c], .int .i64 0, .int .i64 0]) ∧ (fEx x [.int .i64 k, .int .i64 n, .string o, .string m, .slice a l c]).holds (w.heap.size ≤ ·) w'
theorem below_of_grown {w wc w' : World} {cb : Nat} (h : Below w.heap.size w wc) (hg : wc.grownBy w' (some cb)) (hcb : w.heap.size ≤ cb) : Below w.heap.size w w' :=
  ⟨hg.os.trans h.os, hg.tape.trans h.tape, hg.output.trans h.output, Nat.le_trans h.size hg.size, fun k hk => (hg.block k (Nat.lt_of_lt_of_le hk h.size) (by intro e; cases e; omega)).trans (h.block k hk)⟩
theorem below_set5 {w wc : World} {b : Nat} (h : Below w.heap.size w wc) (hb : w.heap.size ≤ b) (v0 v1 v2 v3 v4 : Value) : Below w.heap.size w (set5 wc b v0 v1 v2 v3 v4) := by
  unfold set5
  exact ((((h.setCell (by exact hb) _).setCell (by exact hb) _).setCell (by exact hb) _).setCell (by exact hb) _).setCell (by exact hb) _
@[go_sem] theorem buildEx0 (w : World) : (Instr.build 48 #[]).run Tryd.prog w = .ok (.agg #[.int .i64 0, .int .i64 0, .string ⟨#[]⟩, .string ⟨#[]⟩, .slice none 0 0]) w := run_build w _ _ _ (by kernel_rfl)
set_option maxHeartbeats 1000000 in
theorem par_Expr (s : ByteArray) (w : World) (hs : s.size ≤ maxLen) (hL : Laid w) : Calls Tryd.prog 17 #[.string s] w (ExprOut w (exprR s.data.toList)) := by
  obtain ⟨R, hR⟩ : ∃ R, R = exprR s.data.toList := ⟨_, rfl⟩
  rw [← hR]
  unfold exprR at hR
  have HL := Lib.hid hL
  have HS := Lib.hid hs
  have HRR := Lib.hid hR
  clear hL hs hR
  have hmf : ∀ (fn : Fn) (first cap : Array Value) (w : World), (Instr.makeFunc fn first cap).run Tryd.prog w = .ok (.func fn first cap) w := fun _ _ _ _ => rfl
  go_enter Tryd.func17, Tryd.ntmps17
  go_wp2_with fail
  refine (par_read (rule_Expr (w.heap.size + 1)) calls_Expr s _ HS.out ((HL.out.alloc _).alloc _) (alloc_last _ _ _ (by simp))).mono ?_
  rintro e w2 ⟨hg, ho⟩
  have hb := below_of_grown (w := w) (((Below.refl w.heap.size w).alloc (Nat.le_refl _) _).alloc (by simp) _) hg (by omega)
  have hsz := hg.size
  simp only [World.size_alloc] at hsz
  have hB : B5 w2 w.heap.size (.int .i64 0) (.int .i64 0) (.string ⟨#[]⟩) (.string ⟨#[]⟩) (.slice none 0 0) := (hg.block _ (by simp; omega) (by simp)).trans (B5.alloc (B5.new _ _ rfl _ _ _ _ _) _)
  obtain ⟨⟨b0, b1, b2, b3, b4⟩, bf⟩ := hB.cells
  have hbl : w.heap.size < w2.heap.size := by omega
  have HB := Lib.hid hb
  have HRB := Lib.hid hB
  clear hg hb hB
  cases hr : readR (fun ts => exprT ts 0) s.data.toList with
  | error x =>
    obtain ⟨p, er⟩ := x
    rw [hr] at ho
    have hRR := HRR.out
    rw [hr] at hRR
    subst ho
    have her : 2 ≤ er := by
      unfold readR at hr
      cases ht : tokensOf s.data.toList with
      | error y => rw [ht] at hr; cases hr; exact tokensOf_err ht
      | ok ts =>
        rw [ht] at hr
        cases he : exprT ts 0 with
        | error q => simp only [he] at hr; cases hr; exact Nat.le_refl _
        | ok y => obtain ⟨y, j⟩ := y; simp only [he] at hr; split at hr <;> cases hr; exact Nat.le_refl _
    have he0 : ((er : Int) != 0) = true := by rw [bne, beq_eq_false_iff_ne.2 (by omega)]; rfl
    have RR := Lib.hid hRR
    clear hr hRR HRR
    go_wp2_with fail
    refine bodyPost_ret (v := .tuple #[.agg #[.int .i64 0, .int .i64 0, .string ⟨#[]⟩, .string ⟨#[]⟩, .slice none 0 0], .int .i64 (p : Int), .int .i64 (er : Int)]) ?_ rfl ⟨below_set5 HB.out (Nat.le_refl _) _ _ _ _ _, by rw [RR.out]⟩
    simp [results, Tryd.results17, go_sem, b0, b1, b2, b3, b4]
  | ok x =>
    rw [hr] at ho
    have hRR := HRR.out
    rw [hr] at hRR
    obtain ⟨rfl, ⟨ts, j, hT, hsp, hj⟩, cs, ⟨k, n, o, m, a, l, c, rfl⟩, hcb, hx⟩ := ho
    have hX : B5 w2 (w.heap.size + 1) (.int .i64 k) (.int .i64 n) (.string o) (.string m) (.slice a l c) := hcb
    obtain ⟨⟨x0, x1, x2, x3, x4⟩, xf⟩ := hX.cells
    have hxl : w.heap.size + 1 < w2.heap.size := by omega
    have hd : exDepth x ≤ 1000000 := by have := exprT_dep _ _ _ hsp; have := hT.len; omega
    replace hx : (fEx x [.int .i64 k, .int .i64 n, .string o, .string m, .slice a l c]).holds (w.heap.size < ·) w2 := (fEx x _).sub _ _ _ (fun g h1 _ => by simp at h1; omega) hx
    replace hRR : R = if 32 < exDepth x then .error (0, 15) else .ok x := hRR
    obtain ⟨d, hx⟩ := hx
    have HX := Lib.hid hx
    have RR := Lib.hid hRR
    have HXX := Lib.hid hX
    clear hr hRR HRR hx hX hcb hsp
    go_wp2_with fail
    refine (par_exprDepth d x _ _ _ _ _ _ _ _ (IsEx.sub (fun _ _ _ => trivial) _ _ _ HX.out) hd).mono ?_
    rintro e w3 ⟨rfl, hb3⟩
    obtain ⟨⟨y0, y1, y2, y3, y4⟩, yf⟩ := (HXX.out.below hb3).cells
    obtain ⟨⟨z0, z1, z2, z3, z4⟩, zf⟩ := (HRB.out.below hb3).cells
    have hsz3 := hb3.size
    have HB3 := Lib.hid (HB.out.trans (hb3.mono (by omega)))
    have HX3 := Lib.hid (IsEx.kept (.of_below hb3) _ _ _ HX.out)
    have hl1 : w.heap.size + 1 < w3.heap.size := by omega
    have hl2 : w.heap.size < w3.heap.size := by omega
    clear hb3 HX HXX HRB HB b0 b1 b2 b3 b4 bf x0 x1 x2 x3 x4 xf
    by_cases h32 : 32 < exDepth x
    · have hRR := RR.out
      rw [if_pos h32] at hRR
      have RR2 := Lib.hid hRR
      clear hRR RR
      go_wp2_with fail
      refine bodyPost_ret (v := .tuple #[.agg #[.int .i64 0, .int .i64 0, .string ⟨#[]⟩, .string ⟨#[]⟩, .slice none 0 0], .int .i64 0, .int .i64 15]) ?_ rfl ⟨below_set5 HB3.out (Nat.le_refl _) _ _ _ _ _, by rw [RR2.out]; rfl⟩
      simp [results, Tryd.results17, go_sem, z0, z1, z2, z3, z4]
    · have hRR := RR.out
      rw [if_neg h32] at hRR
      have RR2 := Lib.hid hRR
      clear hRR RR
      go_wp2_with fail
      refine bodyPost_ret (v := .tuple #[.agg #[.int .i64 k, .int .i64 n, .string o, .string m, .slice a l c], .int .i64 0, .int .i64 0]) ?_ rfl ⟨below_set5 HB3.out (Nat.le_refl _) _ _ _ _ _, ?_⟩
      · simp [results, Tryd.results17, go_sem, z0, z1, z2, z3, z4]
      · rw [RR2.out]
        refine ⟨k, n, o, m, a, l, c, rfl, d, ?_⟩
        exact IsEx.sub (fun g h1 _ => by omega) _ _ _ (IsEx.kept (kept_set5 (by omega) _ _ _ _ _) _ _ _ HX3.out)
end Go.Proofs.YthjonkommphkkaaDoor
namespace Go.Proofs.YthjonkommphkkaaDoor
open Lx Go.RowKit
theorem expr_example : exprR [49, 32, 43, 32, 50, 32, 42, 32, 120] = .ok (.mk 6 1 [] [] [.mk 1 1 [] [] [], .mk 6 3 [] [] [.mk 1 2 [] [] [], .mk 3 0 [] [120] []]]) := by kernel_rfl
set_option maxHeartbeats 1000000 in
theorem law08_awake (w : World) (hL : Laid w) : Calls Tryd.prog 9 #[] w fun e w' => e = .returned (.bool true) ∧ Below w.heap.size w w' := by
  have HL := Lib.hid hL
  clear hL
  go_enter Tryd.func9, Tryd.ntmps9
  go_wp2_with fail
  refine (par_Expr _ _ (by decide) HL.out).mono ?_
  rintro e w1 ⟨hb, hr⟩
  rw [show ({ data := #[49, 32, 43, 32, 50, 32, 42, 32, 120] } : ByteArray).data.toList = [49, 32, 43, 32, 50, 32, 42, 32, 120] from rfl, expr_example] at hr
  obtain ⟨k, n, o, m, a, l, c, rfl, d, hx⟩ := hr
  cases d with
  | zero => exact absurd hx (by simp [IsEx])
  | succ d =>
    obtain ⟨v, hv, hl⟩ := hx
    simp only [List.cons.injEq, Value.int.injEq, and_true, true_and] at hv
    obtain ⟨rfl, rfl, _, _, rfl⟩ := hv
    rename_i hn1 hn2
    clear hn1 hn2
    obtain ⟨rfl, _, hat⟩ := hl.exAt
    obtain ⟨g, off, k1, m1, o1, nm1, a1, n1, c1, rfl, hgl, e0, e1, e2, e3, e4, hx1⟩ := hat 1 (by decide)
    cases d with
    | zero => exact absurd hx1 (by simp [IsEx])
    | succ d =>
      obtain ⟨v1, hv1, _⟩ := hx1
      simp only [List.cons.injEq, Value.int.injEq, and_true, true_and] at hv1
      obtain ⟨rfl, rfl, _, _, rfl⟩ := hv1
      rename_i hn1 hn2 hn3
      clear hn1 hn2 hn3 hat hl
      simp only [Nat.one_mul] at e0 e1 e2 e3 e4
      have HB := Lib.hid hb
      clear hb
      simp only [List.length_cons, List.length_nil]
      go_wp2_with fail
      go_ret
      exact ⟨rfl, HB.out.trans (((Below.refl _ _).alloc (Nat.le_refl _) _).mono HB.out.size)⟩
end Go.Proofs.YthjonkommphkkaaDoor
