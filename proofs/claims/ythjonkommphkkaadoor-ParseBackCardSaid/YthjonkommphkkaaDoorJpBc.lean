/-
  parse.Expr, walked.
-/
import Derived.Test.YthjonkommphkkaaDoorJpBa
import Derived.Test.YthjonkommphkkaaDoorParItems
import Derived.Test.YthjonkommphkkaaDoorJpAp
set_option linter.unusedSectionVars false
set_option linter.unusedSimpArgs false
set_option linter.unnecessarySimpa false
set_option linter.unusedVariables false
namespace Go.Proofs.YthjonkommphkkaaDoor
open Lx Go.RowKit
namespace Lx
/-- What parse.Expr gives: the tree, or the offset and the error. -/
def exprR (l : Bytes) : Except (Nat × Nat) Ex := match readR (fun ts => exprT ts 0) l with
  | .error x => .error x
  | .ok e => if 32 < exDepth e then .error (0, 15) else .ok e
end Lx
def formEx (cs : Array Value) : Prop := ∃ (k n : Int) (o m : ByteArray) (a : Option Addr) (l c : Nat), cs = #[.int .i64 k, .int .i64 n, .string o, .string m, .slice a l c]
def factEx (e : Ex) (cs : Array Value) : Fact := fEx e cs.toList
set_option maxHeartbeats 1000000 in
theorem rule_Expr (cb : Nat) : RuleC 29 cb 48 #[.int .i64 0, .int .i64 0, .string ⟨#[]⟩, .string ⟨#[]⟩, .slice none 0 0] formEx factEx (fun ts => exprT ts 0) := by
  intro pb g cap ts w hT hE h1 h2 hcb
  obtain ⟨R, hr⟩ : ∃ R, R = exprT ts 0 := ⟨_, rfl⟩
  show Calls _ _ _ _ (RuleOut pb g cap ts w cb _ formEx factEx (exprT ts 0))
  rw [← hr]
  have HR := Lib.hid hr
  have HE := Lib.hid hE
  have HC := Lib.hid hcb
  have hcl := lt_of_heap hcb
  clear hr hE hcb
  go_enter Tryd.func29, Tryd.ntmps29
  go_wp2_with fail
  refine (par_expr hT HE.out).mono ?_
  intro e w2 ho
  rw [← HR.out] at ho
  cases R with
  | error q =>
    obtain ⟨hg, rfl⟩ := out_error ho
    exact ⟨rfl, rfl, hg⟩
  | ok x =>
    obtain ⟨x, j⟩ := x
    obtain ⟨hg, v, rfl, ⟨d, k, n, o, m, a, l, c, rfl, hx⟩, hE2⟩ := out_ok ho
    have hc2 : w2.heap[cb]? = some (.cells #[.int .i64 0, .int .i64 0, .string ⟨#[]⟩, .string ⟨#[]⟩, .slice none 0 0] 48 (0, 0)) := (hg.block cb hcl (by intro e; cases e; exact h1 rfl)).trans HC.out
    obtain ⟨c0, cz⟩ := blk_cell hc2
    have d0 := c0 0
    have d1 := c0 1
    have d2 := c0 2
    have d3 := c0 3
    have d4 := c0 4
    simp only [List.getElem?_toArray, List.getElem?_cons_zero, List.getElem?_cons_succ] at d0 d1 d2 d3 d4
    have HG := Lib.hid hg
    have HX := Lib.hid hx
    have HE2 := Lib.hid hE2
    have HC2 := Lib.hid hc2
    have hgl := HE2.out.g_lt
    clear hg hx hE2 hc2 c0 ho HR
    go_wp2_with fail
    refine bodyPost_end (v := .tuple #[]) ?_ rfl ⟨rfl, ((((HE2.out.set h1 h2 _ _).set h1 h2 _ _).set h1 h2 _ _).set h1 h2 _ _).set h1 h2 _ _, ⟨_, ⟨k, n, o, m, a, l, c, rfl⟩, B5.set HC2.out _ _ _ _ _, d, IsEx.kept (kept_set5 (by omega) _ _ _ _ _) _ _ _ HX.out⟩, HG.out.os, HG.out.tape, HG.out.output, by simp; exact HG.out.size, fun k hk h3 h4 => ?_⟩
    · simp [results, Tryd.results29, go_sem]
    · rw [set_block_ne _ _ _ _ _ h4, set_block_ne _ _ _ _ _ h4, set_block_ne _ _ _ _ _ h4, set_block_ne _ _ _ _ _ h4, set_block_ne _ _ _ _ _ h4]
      exact HG.out.block k hk (by intro e; cases e; exact h3 rfl)
theorem calls_Expr (args : Array Value) (w : World) : (callFunc 29 args).run Tryd.prog w = .ok (.enter 29 args) w := by simp [go_sem]
/-- How parse.Expr ends. -/
def ExprOut (w : World) (r : Except (Nat × Nat) Ex) (e : Ending) (w' : World) : Prop := Below w.heap.size w w' ∧ match r with
  | .error (p, er) => e = .returned (.tuple #[.agg #[.int .i64 0, .int .i64 0, .string ⟨#[]⟩, .string ⟨#[]⟩, .slice none 0 0], .int .i64 (p : Int), .int .i64 (er : Int)])
  | .ok x => ∃ (k n : Int) (o m : ByteArray) (a : Option Addr) (l c : Nat), e = .returned (.tuple #[.agg #[.int .i64 k, .int .i64 n, .string o, .string m, .slice a l c], .int .i64 0, .int .i64 0]) ∧ (fEx x [.int .i64 k, .int .i64 n, .string o, .string m, .slice a l c]).holds (w.heap.size ≤ ·) w'
theorem below_of_grown {w wc w' : World} {cb : Nat} (h : Below w.heap.size w wc) (hg : wc.grownBy w' (some cb)) (hcb : w.heap.size ≤ cb) : Below w.heap.size w w' :=
  ⟨hg.os.trans h.os, hg.tape.trans h.tape, hg.output.trans h.output, Nat.le_trans h.size hg.size, fun k hk => (hg.block k (Nat.lt_of_lt_of_le hk h.size) (by intro e; cases e; omega)).trans (h.block k hk)⟩
theorem below_set5 {w wc : World} {b : Nat} (h : Below w.heap.size w wc) (hb : w.heap.size ≤ b) (v0 v1 v2 v3 v4 : Value) : Below w.heap.size w (set5 wc b v0 v1 v2 v3 v4) := by
  unfold set5
  exact ((((h.setCell (by exact hb) _).setCell (by exact hb) _).setCell (by exact hb) _).setCell (by exact hb) _).setCell (by exact hb) _
set_option maxHeartbeats 1000000 in
theorem par_Expr (s : ByteArray) (w : World) (hs : s.size ≤ maxLen) (hL : Laid w) : Calls Tryd.prog 17 #[.string s] w (ExprOut w (exprR s.data.toList)) := by
  obtain ⟨R, hR⟩ : ∃ R, R = exprR s.data.toList := ⟨_, rfl⟩
  rw [← hR]
  unfold exprR at hR
  have HL := Lib.hid hL
  have HS := Lib.hid hs
  have HRR := Lib.hid hR
  clear hL hs hR
  have hmf : ∀ (fn : Fn) (first cap : Array Value) (w : World), (Instr.makeFunc fn first cap).run Tryd.prog w = .ok (.func fn first cap) w := fun _ _ _ _ => rfl
  go_enter Tryd.func17, Tryd.ntmps17
  go_wp2_with fail
  refine (par_read (rule_Expr (w.heap.size + 1)) calls_Expr s _ HS.out ((HL.out.alloc _).alloc _) (alloc_last _ _ _ (by simp))).mono ?_
  rintro e w2 ⟨hg, ho⟩
  have hb := below_of_grown (w := w) (((Below.refl w.heap.size w).alloc (Nat.le_refl _) _).alloc (by simp) _) hg (by omega)
  have hsz := hg.size
  simp only [World.size_alloc] at hsz
  have hB : B5 w2 w.heap.size (.int .i64 0) (.int .i64 0) (.string ⟨#[]⟩) (.string ⟨#[]⟩) (.slice none 0 0) := (hg.block _ (by simp; omega) (by simp)).trans (B5.alloc (B5.new _ _ rfl _ _ _ _ _) _)
  obtain ⟨⟨b0, b1, b2, b3, b4⟩, bf⟩ := hB.cells
  have hbl : w.heap.size < w2.heap.size := by omega
  have HB := Lib.hid hb
  have HRB := Lib.hid hB
  clear hg hb hB
  cases hr : readR (fun ts => exprT ts 0) s.data.toList with
  | error x =>
    obtain ⟨p, er⟩ := x
    rw [hr] at ho
    have hRR := HRR.out
    rw [hr] at hRR
    subst ho
    have her : 2 ≤ er := by
      unfold readR at hr
      cases ht : tokensOf s.data.toList with
      | error y => rw [ht] at hr; cases hr; exact tokensOf_err ht
      | ok ts =>
        rw [ht] at hr
        cases he : exprT ts 0 with
        | error q => simp only [he] at hr; cases hr; exact Nat.le_refl _
        | ok y => obtain ⟨y, j⟩ := y; simp only [he] at hr; split at hr <;> cases hr; exact Nat.le_refl _
    have he0 : ((er : Int) != 0) = true := by rw [bne, beq_eq_false_iff_ne.2 (by omega)]; rfl
    have RR := Lib.hid hRR
    clear hr hRR HRR
    go_wp2_with fail
    refine bodyPost_ret (v := .tuple #[.agg #[.int .i64 0, .int .i64 0, .string ⟨#[]⟩, .string ⟨#[]⟩, .slice none 0 0], .int .i64 (p : Int), .int .i64 (er : Int)]) ?_ rfl ⟨below_set5 HB.out (Nat.le_refl _) _ _ _ _ _, by rw [RR.out]⟩
    simp [results, Tryd.results17, go_sem, b0, b1, b2, b3, b4]
  | ok x =>
    rw [hr] at ho
    have hRR := HRR.out
    rw [hr] at hRR
    obtain ⟨rfl, ⟨ts, j, hT, hsp, hj⟩, cs, ⟨k, n, o, m, a, l, c, rfl⟩, hcb, hx⟩ := ho
    have hX : B5 w2 (w.heap.size + 1) (.int .i64 k) (.int .i64 n) (.string o) (.string m) (.slice a l c) := hcb
    obtain ⟨⟨x0, x1, x2, x3, x4⟩, xf⟩ := hX.cells
    have hxl : w.heap.size + 1 < w2.heap.size := by omega
    have hd : exDepth x ≤ 1000000 := by have := exprT_dep _ _ _ hsp; have := hT.len; omega
    replace hx : (fEx x [.int .i64 k, .int .i64 n, .string o, .string m, .slice a l c]).holds (w.heap.size < ·) w2 := (fEx x _).sub _ _ _ (fun g h1 _ => by simp at h1; omega) hx
    replace hRR : R = if 32 < exDepth x then .error (0, 15) else .ok x := hRR
    obtain ⟨d, hx⟩ := hx
    have HX := Lib.hid hx
    have RR := Lib.hid hRR
    have HXX := Lib.hid hX
    clear hr hRR HRR hx hX hcb hsp
    go_wp2_with fail
    refine (par_exprDepth d x _ _ _ _ _ _ _ _ (IsEx.sub (fun _ _ _ => trivial) _ _ _ HX.out) hd).mono ?_
    rintro e w3 ⟨rfl, hb3⟩
    obtain ⟨⟨y0, y1, y2, y3, y4⟩, yf⟩ := (HXX.out.below hb3).cells
    obtain ⟨⟨z0, z1, z2, z3, z4⟩, zf⟩ := (HRB.out.below hb3).cells
    have hsz3 := hb3.size
    have HB3 := Lib.hid (HB.out.trans (hb3.mono (by omega)))
    have HX3 := Lib.hid (IsEx.kept (.of_below hb3) _ _ _ HX.out)
    have hl1 : w.heap.size + 1 < w3.heap.size := by omega
    have hl2 : w.heap.size < w3.heap.size := by omega
    clear hb3 HX HXX HRB HB b0 b1 b2 b3 b4 bf x0 x1 x2 x3 x4 xf
    by_cases h32 : 32 < exDepth x
    · have hRR := RR.out
      rw [if_pos h32] at hRR
      have RR2 := Lib.hid hRR
      clear hRR RR
      go_wp2_with fail
      refine bodyPost_ret (v := .tuple #[.agg #[.int .i64 0, .int .i64 0, .string ⟨#[]⟩, .string ⟨#[]⟩, .slice none 0 0], .int .i64 0, .int .i64 15]) ?_ rfl ⟨below_set5 HB3.out (Nat.le_refl _) _ _ _ _ _, by rw [RR2.out]; rfl⟩
      simp [results, Tryd.results17, go_sem, z0, z1, z2, z3, z4]
    · have hRR := RR.out
      rw [if_neg h32] at hRR
      have RR2 := Lib.hid hRR
      clear hRR RR
      go_wp2_with fail
      refine bodyPost_ret (v := .tuple #[.agg #[.int .i64 k, .int .i64 n, .string o, .string m, .slice a l c], .int .i64 0, .int .i64 0]) ?_ rfl ⟨below_set5 HB3.out (Nat.le_refl _) _ _ _ _ _, ?_⟩
      · simp [results, Tryd.results17, go_sem, z0, z1, z2, z3, z4]
      · rw [RR2.out]
        refine ⟨k, n, o, m, a, l, c, rfl, d, ?_⟩
        exact IsEx.sub (fun g h1 _ => by omega) _ _ _ (IsEx.kept (kept_set5 (by omega) _ _ _ _ _) _ _ _ HX3.out)
end Go.Proofs.YthjonkommphkkaaDoor
namespace Go.Proofs.YthjonkommphkkaaDoor
open Lx Go.RowKit
theorem expr_example : exprR [49, 32, 43, 32, 50, 32, 42, 32, 120] = .ok (.mk 6 1 [] [] [.mk 1 1 [] [] [], .mk 6 3 [] [] [.mk 1 2 [] [] [], .mk 3 0 [] [120] []]]) := by kernel_rfl
set_option maxHeartbeats 1000000 in
theorem law08_awake (w : World) (hL : Laid w) : Calls Tryd.prog 9 #[] w fun e w' => e = .returned (.bool true) ∧ Below w.heap.size w w' := by
  have HL := Lib.hid hL
  clear hL
  go_enter Tryd.func9, Tryd.ntmps9
  go_wp2_with fail
  refine (par_Expr _ _ (by decide) HL.out).mono ?_
  rintro e w1 ⟨hb, hr⟩
  rw [show ({ data := #[49, 32, 43, 32, 50, 32, 42, 32, 120] } : ByteArray).data.toList = [49, 32, 43, 32, 50, 32, 42, 32, 120] from rfl, expr_example] at hr
  obtain ⟨k, n, o, m, a, l, c, rfl, d, hx⟩ := hr
  cases d with
  | zero => exact absurd hx (by simp [IsEx])
  | succ d =>
    obtain ⟨v, hv, hl⟩ := hx
    simp only [List.cons.injEq, Value.int.injEq, and_true, true_and] at hv
    obtain ⟨rfl, rfl, _, _, rfl⟩ := hv
    rename_i hn1 hn2
    clear hn1 hn2
    obtain ⟨rfl, _, hat⟩ := hl.exAt
    obtain ⟨g, off, k1, m1, o1, nm1, a1, n1, c1, rfl, hgl, e0, e1, e2, e3, e4, hx1⟩ := hat 1 (by decide)
    cases d with
    | zero => exact absurd hx1 (by simp [IsEx])
    | succ d =>
      obtain ⟨v1, hv1, _⟩ := hx1
      simp only [List.cons.injEq, Value.int.injEq, and_true, true_and] at hv1
      obtain ⟨rfl, rfl, _, _, rfl⟩ := hv1
      rename_i hn1 hn2 hn3
      clear hn1 hn2 hn3 hat hl
      simp only [Nat.one_mul] at e0 e1 e2 e3 e4
      have HB := Lib.hid hb
      clear hb
      simp only [List.length_cons, List.length_nil]
      go_wp2_with fail
      go_ret
      exact ⟨rfl, HB.out.trans (((Below.refl _ _).alloc (Nat.le_refl _) _).mono HB.out.size)⟩
end Go.Proofs.YthjonkommphkkaaDoor
namespace Go.Proofs.YthjonkommphkkaaDoor
open Lx Go.RowKit
namespace Lx
/-- What parse.Program gives: the classes, or the offset and the error. -/
def programR (l : Bytes) : Except (Nat × Nat) (List Cl) := match readR (fun ts => programP ts 0) l with
  | .error x => .error x
  | .ok c => if sourceLim c ≠ 0 then .error (0, sourceLim c) else .ok c
theorem readR_err {α : Type} {spec : List Tok → PR α} {l : Bytes} {p er : Nat} (h : readR spec l = .error (p, er)) : 2 ≤ er := by
  unfold readR at h
  cases ht : tokensOf l with
  | error y => rw [ht] at h; cases h; exact tokensOf_err ht
  | ok ts =>
    rw [ht] at h
    cases he : spec ts with
    | error q => simp only [he] at h; cases h; exact Nat.le_refl _
    | ok y => obtain ⟨y, j⟩ := y; simp only [he] at h; split at h <;> cases h; exact Nat.le_refl _
end Lx
def formSo (cs : Array Value) : Prop := ∃ (a : Option Addr) (n c : Nat), cs = #[.slice a n c]
def factSo (l : List Cl) (cs : Array Value) : Fact := fCls l (cs.getD 0 (.slice none 0 0))
set_option maxHeartbeats 1000000 in
theorem rule_Prog (cb : Nat) : RuleC 19 cb 24 #[.slice none 0 0] formSo factSo (fun ts => programP ts 0) := by
  intro pb g cap ts w hT hE h1 h2 hcb
  obtain ⟨R, hr⟩ : ∃ R, R = programP ts 0 := ⟨_, rfl⟩
  show Calls _ _ _ _ (RuleOut pb g cap ts w cb _ formSo factSo (programP ts 0))
  rw [← hr]
  have HR := Lib.hid hr
  have HE := Lib.hid hE
  have HC := Lib.hid hcb
  have hcl := lt_of_heap hcb
  clear hr hE hcb
  go_enter Tryd.func19, Tryd.ntmps19
  go_wp2_with fail
  refine (par_program hT HE.out).mono ?_
  intro e w2 ho
  rw [← HR.out] at ho
  cases R with
  | error q =>
    obtain ⟨hg, rfl⟩ := out_error ho
    exact ⟨rfl, rfl, hg⟩
  | ok x =>
    obtain ⟨x, j⟩ := x
    obtain ⟨hg, v, rfl, ⟨a, n, c, rfl, hx⟩, hE2⟩ := out_ok ho
    have hc2 : w2.heap[cb]? = some (.cells #[.slice none 0 0] 24 (0, 0)) := (hg.block cb hcl (by intro e; cases e; exact h1 rfl)).trans HC.out
    obtain ⟨c0, cz⟩ := blk_cell hc2
    have d0 := c0 0
    simp only [List.getElem?_toArray, List.getElem?_cons_zero] at d0
    have HG := Lib.hid hg
    have HX := Lib.hid hx
    have HE2 := Lib.hid hE2
    have HC2 := Lib.hid hc2
    have hgl := HE2.out.g_lt
    clear hg hx hE2 hc2 c0 ho HR
    go_wp2_with fail
    refine bodyPost_end (v := .tuple #[]) ?_ rfl ⟨rfl, HE2.out.set h1 h2 _ _, ⟨#[.slice a n c], ⟨a, n, c, rfl⟩, set_block_at HC2.out, ?_⟩, HG.out.os, HG.out.tape, HG.out.output, by simp; exact HG.out.size, fun k hk h3 h4 => ?_⟩
    · simp [results, Tryd.results19, go_sem]
    · exact (fCls x (.slice a n c)).kept _ _ _ (fun k hk _ => set_block_ne _ _ _ _ _ (by intro e; subst e; have hk : w.heap.size ≤ k := hk; omega)) HX.out
    · rw [set_block_ne _ _ _ _ _ h4]
      exact HG.out.block k hk (by intro e; cases e; exact h3 rfl)
theorem calls_Prog (args : Array Value) (w : World) : (callFunc 19 args).run Tryd.prog w = .ok (.enter 19 args) w := by simp [go_sem]
/-- How parse.Program ends. -/
def ProgOut (w : World) (r : Except (Nat × Nat) (List Cl)) (e : Ending) (w' : World) : Prop := Below w.heap.size w w' ∧ match r with
  | .error (p, er) => e = .returned (.tuple #[.agg #[.slice none 0 0], .int .i64 (p : Int), .int .i64 (er : Int)])
  | .ok x => ∃ (a : Option Addr) (n c : Nat), e = .returned (.tuple #[.agg #[.slice a n c], .int .i64 0, .int .i64 0]) ∧ (fCls x (.slice a n c)).holds (w.heap.size ≤ ·) w'
set_option maxHeartbeats 1000000 in
theorem par_Program (s : ByteArray) (w : World) (hs : s.size ≤ maxLen) (hL : Laid w) : Calls Tryd.prog 10 #[.string s] w (ProgOut w (programR s.data.toList)) := by
  obtain ⟨R, hR⟩ : ∃ R, R = programR s.data.toList := ⟨_, rfl⟩
  rw [← hR]
  unfold programR at hR
  have HL := Lib.hid hL
  have HS := Lib.hid hs
  have HRR := Lib.hid hR
  clear hL hs hR
  have hmf : ∀ (fn : Fn) (first cap : Array Value) (w : World), (Instr.makeFunc fn first cap).run Tryd.prog w = .ok (.func fn first cap) w := fun _ _ _ _ => rfl
  go_enter Tryd.func10, Tryd.ntmps10
  go_wp2_with fail
  refine (par_read (rule_Prog (w.heap.size + 1)) calls_Prog s _ HS.out ((HL.out.alloc _).alloc _) (alloc_last _ _ _ (by simp))).mono ?_
  rintro e w2 ⟨hg, ho⟩
  have hb := below_of_grown (w := w) (((Below.refl w.heap.size w).alloc (Nat.le_refl _) _).alloc (by simp) _) hg (by omega)
  have hsz := hg.size
  simp only [World.size_alloc] at hsz
  have hB : w2.heap[w.heap.size]? = some (.cells #[.slice none 0 0] 24 (0, 0)) := (hg.block _ (by simp; omega) (by simp)).trans ((((Below.refl _ _).alloc (Nat.le_refl _) _).block w.heap.size (by simp)).trans (alloc_last _ _ _ rfl))
  obtain ⟨bc, bf⟩ := blk_cell hB
  have b0 := bc 0
  simp only [List.getElem?_toArray, List.getElem?_cons_zero] at b0
  have hbl : w.heap.size < w2.heap.size := by omega
  have HB := Lib.hid hb
  have HRB := Lib.hid hB
  clear hg hb hB bc
  cases hr : readR (fun ts => programP ts 0) s.data.toList with
  | error x =>
    obtain ⟨p, er⟩ := x
    rw [hr] at ho
    have hRR := HRR.out
    rw [hr] at hRR
    subst ho
    have her := readR_err hr
    have he0 : ((er : Int) != 0) = true := by rw [bne, beq_eq_false_iff_ne.2 (by omega)]; rfl
    have RR := Lib.hid hRR
    clear hr hRR HRR
    go_wp2_with fail
    refine bodyPost_ret (v := .tuple #[.agg #[.slice none 0 0], .int .i64 (p : Int), .int .i64 (er : Int)]) ?_ rfl ⟨HB.out.setCell (by exact Nat.le_refl _) _, by rw [RR.out]⟩
    simp [results, Tryd.results10, go_sem, b0]
  | ok x =>
    rw [hr] at ho
    have hRR := HRR.out
    rw [hr] at hRR
    obtain ⟨rfl, ⟨ts, j, hT, hsp, hj⟩, cs, ⟨a, n, c, rfl⟩, hcb, hx⟩ := ho
    obtain ⟨xc, xf⟩ := blk_cell hcb
    have x0 := xc 0
    simp only [List.getElem?_toArray, List.getElem?_cons_zero] at x0
    have hxl : w.heap.size + 1 < w2.heap.size := by omega
    have hMB : ∀ x' ∈ x, ∀ y ∈ x'.methods, MeB y := fun c hc m hm => by
      have h1 := programP_dep hsp c hc m hm
      have h2 := hT.len
      exact ⟨by have := h1.1; omega, by have := h1.2; omega⟩
    replace hx : (fCls x (.slice a n c)).holds (w.heap.size < ·) w2 := (fCls x _).sub _ _ _ (fun g h1 _ => by simp at h1; omega) hx
    replace hRR : R = if sourceLim x ≠ 0 then .error (0, sourceLim x) else .ok x := hRR
    obtain ⟨d, hx⟩ := hx
    have HX := Lib.hid hx
    have RR := Lib.hid hRR
    have HCB := Lib.hid hcb
    have HMB := Lib.hid hMB
    clear hr hRR HRR hx hcb hsp xc hMB
    go_wp2_with fail
    refine (par_sourceLimits d x _ _ _ _ (HX.out.sub (fun _ _ _ => trivial) (by omega) fun _ _ _ => IsCl.sub fun _ _ _ => trivial) HMB.out).mono ?_
    rintro e w3 ⟨rfl, hb3⟩
    have y0 := (blk_cell ((hb3.block _ hxl).trans HCB.out)).1 0
    have z0 := (blk_cell ((hb3.block _ hbl).trans HRB.out)).1 0
    have yf := (blk_cell ((hb3.block _ hxl).trans HCB.out)).2
    have zf := (blk_cell ((hb3.block _ hbl).trans HRB.out)).2
    simp only [List.getElem?_toArray, List.getElem?_cons_zero] at y0 z0
    have hsz3 := hb3.size
    have HB3 := Lib.hid (HB.out.trans (hb3.mono (by omega)))
    have HX3 : Hid ((fCls x (.slice a n c)).holds (w.heap.size < ·) w3) := (fCls x _).kept _ _ _ (.of_below hb3) ⟨d, HX.out⟩
    have hl1 : w.heap.size + 1 < w3.heap.size := by omega
    have hl2 : w.heap.size < w3.heap.size := by omega
    clear hb3 HX HCB HRB HB b0 bf x0 xf
    by_cases h0 : sourceLim x = 0
    · have hRR := RR.out
      rw [if_neg (fun h => h h0)] at hRR
      have RR2 := Lib.hid hRR
      have hz1 : (((sourceLim x : Nat) : Int) != 0) = false := by rw [h0]; rfl
      clear hRR RR h0
      go_wp2_with fail
      refine bodyPost_ret (v := .tuple #[.agg #[.slice a n c], .int .i64 0, .int .i64 0]) ?_ rfl ⟨HB3.out.setCell (by exact Nat.le_refl _) _, ?_⟩
      · simp [results, Tryd.results10, go_sem, z0]
      · rw [RR2.out]
        refine ⟨a, n, c, rfl, ?_⟩
        exact (fCls x _).sub _ _ _ (fun g h1 _ => by omega) ((fCls x _).kept _ _ _ (fun k hk _ => set_block_ne _ _ _ _ _ (by omega)) HX3.out)
    · have hRR := RR.out
      rw [if_pos h0] at hRR
      have RR2 := Lib.hid hRR
      have hz1 : (((sourceLim x : Nat) : Int) != 0) = true := by rw [bne, beq_eq_false_iff_ne.2 (by omega)]; rfl
      clear hRR RR h0
      go_wp2_with fail
      refine bodyPost_ret (v := .tuple #[.agg #[.slice none 0 0], .int .i64 0, .int .i64 (sourceLim x : Int)]) ?_ rfl ⟨HB3.out.setCell (by exact Nat.le_refl _) _, by rw [RR2.out]; rfl⟩
      simp [results, Tryd.results10, go_sem, z0]
end Go.Proofs.YthjonkommphkkaaDoor
namespace Go.Proofs.YthjonkommphkkaaDoor
namespace Lx
/-- The reference's parser: the index of the next token; whether one did not fit. -/
structure RS where
  i : Nat
  bad : Bool
/-- A rule takes the state σ to σ' with the value x (any value, if a token does not fit). -/
def Stp {α : Type} (spec : Nat → PR α) (σ : RS) (x : α) (σ' : RS) : Prop :=
  (σ.bad = true ∧ σ' = σ) ∨ (σ.bad = false ∧ match spec σ.i with
    | .ok (a, j) => x = a ∧ σ' = ⟨j, false⟩
    | .error q => σ' = ⟨q, true⟩)
section
variable {α β γ : Type} {σ σ1 σ2 : RS} {ts : List Tok}
theorem Stp.pure (a : α) (σ : RS) : Stp (fun i => .ok (a, i)) σ a σ := by
  obtain ⟨i, b⟩ := σ
  cases b
  · exact .inr ⟨rfl, rfl, rfl⟩
  · exact .inl ⟨rfl, rfl⟩
theorem Stp.bind {s : Nat → PR α} {k : α → Nat → PR β} {x : α} {y : β} (h1 : Stp s σ x σ1) (h2 : Stp (k x) σ1 y σ2) : Stp (fun i => bindP (s i) k) σ y σ2 := by
  rcases h1 with ⟨hb, rfl⟩ | ⟨hb, h1⟩
  · rcases h2 with ⟨_, rfl⟩ | ⟨hb', _⟩
    · exact .inl ⟨hb, rfl⟩
    · rw [hb] at hb'; cases hb'
  · refine .inr ⟨hb, ?_⟩
    show match bindP (s σ.i) k with
      | .ok (a, j) => y = a ∧ σ2 = ⟨j, false⟩
      | .error q => σ2 = ⟨q, true⟩
    cases hs : s σ.i with
    | error q =>
      rw [hs] at h1
      subst h1
      rcases h2 with ⟨_, rfl⟩ | ⟨hb', _⟩
      · rfl
      · cases hb'
    | ok p =>
      obtain ⟨a, j⟩ := p
      rw [hs] at h1
      obtain ⟨rfl, rfl⟩ := h1
      rcases h2 with ⟨hb', _⟩ | ⟨_, h2⟩
      · cases hb'
      · exact h2
theorem Stp.map {s : Nat → PR α} {f : α → β} {x : α} (h : Stp s σ x σ1) : Stp (fun i => bindP (s i) fun a j => .ok (f a, j)) σ (f x) σ1 := h.bind (Stp.pure _ _)
theorem Stp.cond {s t : Nat → PR α} {x : α} (h : Stp s σ x σ1) (he : σ.bad = false → t σ.i = s σ.i) : Stp t σ x σ1 := by
  rcases h with h | ⟨hb, h⟩
  · exact .inl h
  · exact .inr ⟨hb, by rw [he hb]; exact h⟩
theorem Stp.failed {s : Nat → PR α} {x : α} (h : Stp s σ x σ1) (h0 : σ.bad = false) (hb : σ1.bad = true) : s σ.i = .error σ1.i := by
  rcases h with ⟨h1, _⟩ | ⟨_, h⟩
  · rw [h0] at h1; cases h1
  · cases hs : s σ.i with
    | error q => rw [hs] at h; subst h; rfl
    | ok p => obtain ⟨a, j⟩ := p; rw [hs] at h; obtain ⟨rfl, rfl⟩ := h; cases hb
end
/-! parentheses that close -/
def opB (ts : List Tok) (i : Nat) : Bool := isT ts i [40]
def clB (ts : List Tok) (i : Nat) : Bool := isT ts i [41]
/-- Whether, n parentheses being open, the last of them closes at the last of m tokens from i on. -/
def closeF (ts : List Tok) : Nat → Nat → Nat → Bool
  | 0, _, _ => false
  | m + 1, n, i => if opB ts i then closeF ts m (n + 1) (i + 1) else if clB ts i then (if n ≤ 1 then m == 0 else closeF ts m (n - 1) (i + 1)) else closeF ts m n (i + 1)
def BalI (ts : List Tok) (i j : Nat) : Prop := i ≤ j ∧ ∀ n m, 0 < n → closeF ts (j - i + m) n i = closeF ts m n j
section
variable {ts : List Tok}
theorem BalI.refl (i : Nat) : BalI ts i i := ⟨Nat.le_refl _, fun n m _ => by rw [Nat.sub_self, Nat.zero_add]⟩
theorem BalI.trans {i j k : Nat} (h : BalI ts i j) (h' : BalI ts j k) : BalI ts i k := ⟨Nat.le_trans h.1 h'.1, fun n m hn => by
  have h1 := h.1
  have h2 := h'.1
  rw [show k - i + m = j - i + (k - j + m) by omega, h.2 _ _ hn, h'.2 _ _ hn]⟩
theorem BalI.one {i : Nat} (h1 : opB ts i = false) (h2 : clB ts i = false) : BalI ts i (i + 1) := ⟨by omega, fun n m hn => by
  rw [show i + 1 - i + m = m + 1 by omega, closeF, h1, h2]; rfl⟩
theorem BalI.step {i j : Nat} (h1 : opB ts i = false) (h2 : clB ts i = false) (h : BalI ts (i + 1) j) : BalI ts i j := (BalI.one h1 h2).trans h
theorem cl_op {i : Nat} (h : clB ts i = true) : opB ts i = false := by
  unfold clB isT at h
  unfold opB isT
  rw [eq_of_beq h]; rfl
theorem BalI.paren {i j : Nat} (h1 : opB ts i = true) (h : BalI ts (i + 1) j) (h2 : clB ts j = true) : BalI ts i (j + 1) := ⟨by have := h.1; omega, fun n m hn => by
  have h0 := h.1
  rw [show j + 1 - i + m = (j - (i + 1) + (m + 1)) + 1 by omega, closeF, h1, if_pos rfl, h.2 _ _ (by omega), closeF, cl_op h2, h2, if_neg (by simp), if_pos rfl, if_neg (by omega)]
  rfl⟩
/-- The first parenthesis closes at the last token. -/
theorem close_whole {i j : Nat} (h1 : opB ts i = true) (h : BalI ts (i + 1) j) (h2 : clB ts j = true) (k : Nat) (hk : j + 1 ≤ k) : closeF ts (k - i) 0 i = (k == j + 1) := by
  have h0 := h.1
  rw [show k - i = (j - (i + 1) + (k - (j + 1) + 1)) + 1 by omega, closeF, h1, if_pos rfl, h.2 _ _ (by omega), closeF, cl_op h2, h2, if_neg (by simp), if_pos rfl, if_pos (by omega)]
  by_cases e : k = j + 1
  · subst e; simp
  · rw [beq_eq_false_iff_ne.2 e, beq_eq_false_iff_ne.2 (by omega)]
theorem tok_none {i : Nat} {x : Bytes} (h : isT ts i x = true) (h1 : x ≠ [40]) (h2 : x ≠ [41]) : opB ts i = false ∧ clB ts i = false := by
  unfold isT at h
  unfold opB clB isT
  rw [eq_of_beq h]
  exact ⟨beq_eq_false_iff_ne.2 h1, beq_eq_false_iff_ne.2 h2⟩
/-- Words and numbers are no marks; keywords and marks have their kinds. -/
structure KT (ts : List Tok) : Prop where
  word : ∀ i, (tk ts i).kind = 1 ∨ (tk ts i).kind = 3 → opB ts i = false ∧ clB ts i = false
variable {E : Nat → PR Ex} (hK : KT ts) (hE : ∀ i r j, E i = .ok (r, j) → BalI ts i j)
include hE
theorem argsLoop_bal : ∀ n acc i r j, argsLoop ts E n acc i = .ok (r, j) → ∃ k, BalI ts i k ∧ clB ts k = true ∧ j = k + 1 := by
  intro n
  induction n with
  | zero => intro acc i r j h; cases h
  | succ n ih =>
    intro acc i r j h
    simp only [argsLoop] at h
    split at h
    · rename_i hc
      obtain ⟨e, k, h1, h2⟩ := bindP_inv h
      obtain ⟨k2, h3, h4, h5⟩ := ih _ _ _ _ h2
      obtain ⟨a, b⟩ := tok_none hc (by decide) (by decide)
      exact ⟨k2, (BalI.step a b (hE _ _ _ h1)).trans h3, h4, h5⟩
    · obtain ⟨_, k, h1, h2⟩ := bindP_inv h
      simp only [expectP] at h1
      split at h1
      · rename_i hc
        cases h1; cases h2
        exact ⟨i, BalI.refl _, hc, rfl⟩
      · cases h1
theorem argsP_bal {i j : Nat} {r : List Ex} (h : argsP ts E i = .ok (r, j)) : BalI ts i j := by
  unfold argsP at h
  obtain ⟨_, k, h1, h2⟩ := bindP_inv h
  simp only [expectP] at h1
  split at h1
  · rename_i ho
    cases h1
    split at h2
    · rename_i hc
      cases h2
      exact BalI.paren ho (BalI.refl _) hc
    · obtain ⟨e, k, h3, h4⟩ := bindP_inv h2
      obtain ⟨k2, h5, h6, rfl⟩ := argsLoop_bal hE _ _ _ _ _ h4
      exact BalI.paren ho ((hE _ _ _ h3).trans h5) h6
  · cases h1
omit hE in
theorem unitP_bal {i j : Nat} {e : Ex} {r : Ex × Nat} (h : unitP ts i e = .ok (r, j)) : BalI ts i j := by
  unfold unitP at h
  obtain ⟨_, k, h1, h2⟩ := bindP_inv h
  obtain ⟨_, k2, h3, h4⟩ := bindP_inv h2
  simp only [expectP] at h1 h3
  split at h1
  · rename_i ho
    cases h1
    split at h3
    · rename_i hc
      cases h3; cases h4
      exact BalI.paren ho (BalI.refl _) hc
    · cases h3
  · cases h1
omit hE in
include hK in
theorem nameP_bal {i j : Nat} {r : Bytes} (h : nameP ts i = .ok (r, j)) : BalI ts i j := by
  unfold nameP at h
  split at h
  · rename_i hk
    cases h
    obtain ⟨a, b⟩ := hK.word i (.inl hk)
    exact BalI.one a b
  · cases h
include hK
/-- How an atom begins and ends. -/
theorem atomP_bal {i j : Nat} {e : Ex} {sh : Nat} (h : atomP ts E i = .ok ((e, sh), j)) : BalI ts i j ∧
    ((opB ts i = true ∧ sh = 0 ∧ ∃ k, BalI ts (i + 1) k ∧ clB ts k = true ∧ j = k + 1) ∨
     (opB ts i = false ∧ ((sh = 0 ∧ e.kind ≠ 3 ∧ e.kind ≠ 8 ∧ e.kind ≠ 9 ∧ e.kind ≠ 10) ∨ (sh = 1 ∧ e.kind = 3) ∨ (sh = 3 ∧ e.kind = 10)))) := by
  unfold atomP at h
  split at h
  · rename_i hk
    obtain ⟨a, b⟩ := hK.word i (.inl hk)
    unfold namedP at h
    obtain ⟨n, k, h1, h2⟩ := bindP_inv h
    split at h2
    · rename_i hc
      obtain ⟨m, k2, h3, h4⟩ := bindP_inv h2
      obtain ⟨ks, k3, h5, h6⟩ := bindP_inv h4
      cases h6
      obtain ⟨a2, b2⟩ := tok_none hc (by decide) (by decide)
      exact ⟨(nameP_bal hK h1).trans ((BalI.step a2 b2 (nameP_bal hK h3)).trans (argsP_bal hE h5)), .inr ⟨a, .inr (.inr ⟨rfl, rfl⟩)⟩⟩
    · cases h2
      exact ⟨nameP_bal hK h1, .inr ⟨a, .inr (.inl ⟨rfl, rfl⟩)⟩⟩
  · rename_i hk1
    split at h
    · rename_i hk
      obtain ⟨a, b⟩ := hK.word i (.inr hk)
      cases h
      exact ⟨BalI.one a b, .inr ⟨a, .inl ⟨rfl, by simp [Ex.kind], by simp [Ex.kind], by simp [Ex.kind], by simp [Ex.kind]⟩⟩⟩
    · split at h
      · rename_i hc
        obtain ⟨a, b⟩ := tok_none hc (by decide) (by decide)
        unfold minusP at h
        split at h
        · rename_i hm
          cases h
          obtain ⟨a2, b2⟩ := hK.word (i + 1) (.inr hm.1)
          exact ⟨BalI.step a b (BalI.one a2 b2), .inr ⟨a, .inl ⟨rfl, by simp [Ex.kind], by simp [Ex.kind], by simp [Ex.kind], by simp [Ex.kind]⟩⟩⟩
        · cases h
      · split at h
        · rename_i hc
          obtain ⟨a, b⟩ := tok_none hc (by decide) (by decide)
          cases h
          exact ⟨BalI.one a b, .inr ⟨a, .inl ⟨rfl, by simp [Ex.kind], by simp [Ex.kind], by simp [Ex.kind], by simp [Ex.kind]⟩⟩⟩
        · split at h
          · rename_i hc
            obtain ⟨a, b⟩ := tok_none hc (by decide) (by decide)
            cases h
            exact ⟨BalI.one a b, .inr ⟨a, .inl ⟨rfl, by simp [Ex.kind], by simp [Ex.kind], by simp [Ex.kind], by simp [Ex.kind]⟩⟩⟩
          · split at h
            · rename_i hc
              obtain ⟨a, b⟩ := tok_none hc (by decide) (by decide)
              have hb := unitP_bal h
              unfold unitP at h
              obtain ⟨_, k, _, h2⟩ := bindP_inv h
              obtain ⟨_, k2, _, h4⟩ := bindP_inv h2
              cases h4
              exact ⟨BalI.step a b hb, .inr ⟨a, .inl ⟨rfl, by simp [Ex.kind], by simp [Ex.kind], by simp [Ex.kind], by simp [Ex.kind]⟩⟩⟩
            · split at h
              · rename_i hc
                obtain ⟨a, b⟩ := tok_none hc (by decide) (by decide)
                obtain ⟨n, k0, h0, h⟩ := bindP_inv h
                have hb := unitP_bal h
                unfold unitP at h
                obtain ⟨_, k, _, h2⟩ := bindP_inv h
                obtain ⟨_, k2, _, h4⟩ := bindP_inv h2
                cases h4
                exact ⟨BalI.step a b ((nameP_bal hK h0).trans hb), .inr ⟨a, .inl ⟨rfl, by simp [Ex.kind], by simp [Ex.kind], by simp [Ex.kind], by simp [Ex.kind]⟩⟩⟩
              · unfold parenP at h
                obtain ⟨_, k, h1, h2⟩ := bindP_inv h
                obtain ⟨e1, k2, h3, h4⟩ := bindP_inv h2
                obtain ⟨_, k3, h5, h6⟩ := bindP_inv h4
                cases h6
                simp only [expectP] at h1 h5
                split at h1
                · rename_i ho
                  cases h1
                  split at h5
                  · rename_i hc
                    cases h5
                    exact ⟨BalI.paren ho (hE _ _ _ h3) hc, .inl ⟨ho, rfl, k2, hE _ _ _ h3, hc, rfl⟩⟩
                  · cases h5
                · cases h1
theorem postLoop_bal : ∀ n e sh i e' sh' j, postLoop ts E n e sh i = .ok ((e', sh'), j) → BalI ts i j ∧ ((j = i ∧ e' = e ∧ sh' = sh) ∨ (i < j ∧ ((sh' = 2 ∧ e'.kind = 8) ∨ (sh' = 3 ∧ e'.kind = 9)))) := by
  intro n
  induction n with
  | zero => intro e sh i e' sh' j h; cases h
  | succ n ih =>
    intro e sh i e' sh' j h
    simp only [postLoop] at h
    split at h
    · rename_i hc
      obtain ⟨a, b⟩ := tok_none hc (by decide) (by decide)
      obtain ⟨m, k, h1, h2⟩ := bindP_inv h
      have b1 := BalI.step a b (nameP_bal hK h1)
      have l1 := nameP_adv h1
      split at h2
      · obtain ⟨ks, k2, h3, h4⟩ := bindP_inv h2
        have b2 := argsP_bal hE h3
        obtain ⟨b3, h5⟩ := ih _ _ _ _ _ _ h4
        have := b2.1
        refine ⟨b1.trans (b2.trans b3), .inr ?_⟩
        rcases h5 with ⟨rfl, rfl, rfl⟩ | ⟨hl, h5⟩
        · exact ⟨by omega, .inr ⟨rfl, rfl⟩⟩
        · exact ⟨by omega, h5⟩
      · obtain ⟨b3, h5⟩ := ih _ _ _ _ _ _ h2
        refine ⟨b1.trans b3, .inr ?_⟩
        rcases h5 with ⟨rfl, rfl, rfl⟩ | ⟨hl, h5⟩
        · exact ⟨by omega, .inl ⟨rfl, rfl⟩⟩
        · exact ⟨by omega, h5⟩
    · cases h
      exact ⟨BalI.refl _, .inl ⟨rfl, rfl, rfl⟩⟩
/-- What the reference asks of the shape of what stands ahead of a statement's mark. -/
theorem postP_shape {i j : Nat} {e : Ex} {sh : Nat} (h : postP ts E i = .ok ((e, sh), j)) :
    (sh = 1 ↔ e.kind = 3 ∧ opB ts i = false) ∧ (sh = 2 ↔ e.kind = 8 ∧ (opB ts i && closeF ts (j - i) 0 i) = false) ∧ (sh = 3 ↔ (e.kind = 9 ∨ e.kind = 10) ∧ (opB ts i && closeF ts (j - i) 0 i) = false) := by
  unfold postP at h
  obtain ⟨⟨e0, s0⟩, k, h1, h2⟩ := bindP_inv h
  obtain ⟨_, ha⟩ := atomP_bal hK hE h1
  obtain ⟨_, hp⟩ := postLoop_bal hK hE _ _ _ _ _ _ _ h2
  rcases ha with ⟨ho, hs, k0, hb, hc, rfl⟩ | ⟨ho, ha⟩
  · rw [close_whole ho hb hc j (by rcases hp with ⟨rfl, _⟩ | ⟨hl, _⟩ <;> omega), ho]
    simp only at hs hp
    rcases hp with ⟨rfl, rfl, rfl⟩ | ⟨hl, hp⟩
    · simp [hs]
    · have : (j == k0 + 1) = false := beq_eq_false_iff_ne.2 (by omega)
      rw [this]
      rcases hp with ⟨rfl, hk⟩ | ⟨rfl, hk⟩ <;> simp [hk]
  · rw [ho]
    simp only at hp
    rcases hp with ⟨rfl, rfl, rfl⟩ | ⟨hl, hp⟩
    · rcases ha with ⟨rfl, h3, h8, h9, h10⟩ | ⟨rfl, h3⟩ | ⟨rfl, h3⟩
      · simp [h3, h8, h9, h10]
      · simp [h3]
      · simp [h3]
    · rcases hp with ⟨rfl, hk⟩ | ⟨rfl, hk⟩ <;> simp [hk]
end
end Lx
end Go.Proofs.YthjonkommphkkaaDoor
namespace Go.Proofs.YthjonkommphkkaaDoor
open Lx
namespace Lx
/-- The texts that the reference asks for. -/
def kmList : List Bytes := kwList ++ markList
/-- Tokens, as far as the reference's parser leans on them. -/
structure TWR (ts : List Tok) : Prop where
  wf : TWF ts
  km : ∀ i x, x ∈ kmList → isT ts i x = true → (tk ts i).kind = 2 ∨ (tk ts i).kind = 4
  mks : ∀ i x, x ∈ markList → isT ts i x = true → (tk ts i).kind = 4
def TokG (t : Tok) : Prop := (t.kind = 1 ∧ isKeyword t.text = false ∧ ∃ c r, t.text = c :: r ∧ isLetter c = true) ∨ (t.kind = 2 ∧ isKeyword t.text = true) ∨ (t.kind = 3 ∧ ∃ c r, t.text = c :: r ∧ isDigit c = true) ∨ t.kind = 4 ∨ (t.kind = 5 ∧ t.text = [])
theorem take_cons {c : UInt8} {t : Bytes} {m : Nat} (h : 0 < m) : ∃ r, (c :: t).take m = c :: r := by
  cases m with
  | zero => omega
  | succ m => exact ⟨_, List.take_succ_cons⟩
theorem oneTok_g {c : UInt8} {t : Bytes} {k m n q : Nat} (h : oneTok (c :: t) = .ok k m n) : TokG ⟨k, q, (c :: t).take m, n⟩ := by
  obtain ⟨h0, _⟩ := oneTok_bounds h
  obtain ⟨r, hr⟩ := take_cons (c := c) (t := t) h0
  simp only [oneTok] at h
  split at h
  · rename_i hc
    simp only [wordTok] at h
    split at h
    · cases h
    · cases h
      cases hk : isKeyword ((c :: t).take (spanOf isPart (c :: t))) with
      | true => exact .inr (.inl ⟨rfl, hk⟩)
      | false => exact .inl ⟨rfl, hk, c, r, hr, hc⟩
  · split at h
    · rename_i hc
      simp only [numTok] at h
      split at h
      · cases h
      · split at h
        · cases h
        · cases h; exact .inr (.inr (.inl ⟨rfl, c, r, hr, hc⟩))
    · simp only [markTok] at h
      split at h
      · cases h; exact .inr (.inr (.inr (.inl rfl)))
      · cases h
theorem km_ne : ∀ x ∈ kmList, x ≠ [] ∧ (isLetter (x.headD 0) = true → isKeyword x = true) ∧ isDigit (x.headD 0) = false := by decide
theorem mk_kw : ∀ x ∈ markList, isKeyword x = false ∧ x ∈ kmList := by decide
theorem twr_of {l : Bytes} {ts : List Tok} (h : tokensOf l = .ok ts) : TWR ts := by
  have key : ∀ i, TokG (tk ts i) := by
    intro i
    by_cases hi : i < ts.length
    · rw [tk_get _ _ hi]
      obtain ⟨_, h⟩ := tokensOf_len h
      obtain ⟨us, q, rfl, h1, _⟩ := toks_all TokG (fun k m n q c t ho => oneTok_g ho) _ _ _ _ _ h
      rcases List.mem_append.1 (List.getElem_mem hi) with hm | hm
      · exact h1 _ hm
      · simp only [List.mem_singleton] at hm; rw [hm]; exact .inr (.inr (.inr (.inr ⟨rfl, rfl⟩)))
    · have : tk ts i = ⟨5, 0, [], 0⟩ := by simp [tk, List.getElem?_eq_none (by omega : ts.length ≤ i)]
      rw [this]; exact .inr (.inr (.inr (.inr ⟨rfl, rfl⟩)))
  have km : ∀ i x, x ∈ kmList → isT ts i x = true → ((tk ts i).kind = 2 ∧ isKeyword x = true) ∨ (tk ts i).kind = 4 := by
    intro i x hx ht
    obtain ⟨hn, hl, hd⟩ := km_ne x hx
    unfold isT at ht
    have ht := eq_of_beq ht
    rcases key i with ⟨_, h2, c, r, h3, h4⟩ | ⟨h, h'⟩ | ⟨_, c, r, h3, h4⟩ | h | ⟨_, h⟩
    · rw [ht] at h2 h3
      rw [h3] at hl h2
      rw [hl h4] at h2; cases h2
    · rw [ht] at h'; exact .inl ⟨h, h'⟩
    · rw [ht] at h3
      rw [h3] at hd
      have : isDigit c = false := hd
      rw [h4] at this; cases this
    · exact .inr h
    · rw [ht] at h; exact (hn h).elim
  refine ⟨twf_of h, fun i x hx ht => ?_, fun i x hx ht => ?_⟩
  · rcases km i x hx ht with h | h
    · exact .inl h.1
    · exact .inr h
  · obtain ⟨h1, h2⟩ := mk_kw x hx
    rcases km i x h2 ht with h | h
    · rw [h1] at h; cases h.2
    · exact h
theorem TWR.kt {ts : List Tok} (h : TWR ts) : KT ts := ⟨fun i hk => by
  constructor
  · cases ho : opB ts i with
    | false => rfl
    | true => have := h.km i [40] (by decide) ho; omega
  · cases ho : clB ts i with
    | false => rfl
    | true => have := h.km i [41] (by decide) ho; omega⟩
end Lx
end Go.Proofs.YthjonkommphkkaaDoor
