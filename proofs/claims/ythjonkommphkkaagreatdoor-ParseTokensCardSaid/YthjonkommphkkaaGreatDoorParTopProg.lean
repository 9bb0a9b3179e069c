/-
  parse.Program, walked.
-/
import Derived.Test.YthjonkommphkkaaGreatDoorParTopExpr
import Derived.Test.YthjonkommphkkaaGreatDoorParItems
namespace Go.Proofs.YthjonkommphkkaaGreatDoor
open Lx Go.RowKit
namespace Lx
/-- What parse.Program gives: the classes, or the offset and the error. -/
def programR (l : Bytes) : Except (Nat × Nat) (List Cl) := match readR (fun ts => programP ts 0) l with
  | .error x => .error x
  | .ok c => if sourceLim c ≠ 0 then .error (0, sourceLim c) else .ok c
theorem readR_err {α : Type} {spec : List Tok → PR α} {l : Bytes} {p er : Nat} (h : readR spec l = .error (p, er)) : 2 ≤ er := by
  unfold readR at h
  cases ht : tokensOf l with
  | error y => rw [ht] at h; cases h; exact tokensOf_err ht
  | ok ts =>
    rw [ht] at h
    cases he : spec ts with
    | error q => simp only [he] at h; cases h; exact Nat.le_refl _
    | ok y => obtain ⟨y, j⟩ := y; simp only [he] at h; split at h <;> cases h; exact Nat.le_refl _
end Lx
def formSo (cs : Array Value) : Prop := ∃ (a : Option Addr) (n c : Nat), cs = #[.slice a n c]
def factSo (l : List Cl) (cs : Array Value) : Fact := fCls l (cs.getD 0 (.slice none 0 0))
set_option maxHeartbeats 1000000 in
theorem rule_Prog (cb : Nat) : RuleC 45 cb 32 #[.slice none 0 0] formSo factSo (fun ts => programP ts 0) := by
  intro pb g cap ts w hT hE h1 h2 hcb
  obtain ⟨R, hr⟩ : ∃ R, R = programP ts 0 := ⟨_, rfl⟩
  show Calls _ _ _ _ (RuleOut pb g cap ts w cb _ formSo factSo (programP ts 0))
  rw [← hr]
  have HR := Lib.hid hr
  have HE := Lib.hid hE
  have HC := Lib.hid hcb
  have hcl := lt_of_heap hcb
  clear hr hE hcb
  go_enter Tryz.func45, Tryz.ntmps45
  go_wp2_with fail
  refine (par_program hT HE.out).mono ?_
  intro e w2 ho
  rw [← HR.out] at ho
  cases R with
  | error q =>
    obtain ⟨hg, rfl⟩ := out_error ho
    exact ⟨rfl, rfl, hg⟩
  | ok x =>
    obtain ⟨x, j⟩ := x
    obtain ⟨hg, v, rfl, ⟨a, n, c, rfl, hx⟩, hE2⟩ := out_ok ho
    have hc2 : w2.heap[cb]? = some (.cells #[.slice none 0 0] 32 (0, 0)) := (hg.block cb hcl (by intro e; cases e; exact h1 rfl)).trans HC.out
    obtain ⟨c0, cz⟩ := blk_cell hc2
    have d0 := c0 0
    simp only [List.getElem?_toArray, List.getElem?_cons_zero] at d0
    have HG := Lib.hid hg
    have HX := Lib.hid hx
    have HE2 := Lib.hid hE2
    have HC2 := Lib.hid hc2
    have hgl := HE2.out.g_lt
    clear hg hx hE2 hc2 c0 ho HR
    go_wp2_with fail
    refine bodyPost_end (v := .tuple #[]) ?_ rfl ⟨rfl, HE2.out.set h1 h2 _ _, ⟨#[.slice a n c], ⟨a, n, c, rfl⟩, set_block_at HC2.out, ?_⟩, HG.out.os, HG.out.tape, HG.out.output, by simp; exact HG.out.size, fun k hk h3 h4 => ?_⟩
    · simp [results, Tryz.results45, go_sem]
    · exact (fCls x (.slice a n c)).kept _ _ _ (fun k hk _ => set_block_ne _ _ _ _ _ (by intro e; subst e; have hk : w.heap.size ≤ k := hk; omega)) HX.out
    · rw [set_block_ne _ _ _ _ _ h4]
      exact HG.out.block k hk (by intro e; cases e; exact h3 rfl)
theorem calls_Prog (args : Array Value) (w : World) : (callFunc 45 args).run Tryz.prog w = .ok (.enter 45 args) w := by simp [go_sem]
/-- How parse.Program ends. -/
def ProgOut (w : World) (r : Except (Nat × Nat) (List Cl)) (e : Ending) (w' : World) : Prop := Below w.heap.size w w' ∧ match r with
  | .error (p, er) => e = .returned (.tuple #[.agg #[.slice none 0 0], .int .i64 (p : Int), .int .i64 (er : Int)])
  | .ok x => ∃ (a : Option Addr) (n c : Nat), e = .returned (.tuple #[.agg #[.slice a n c], .int .i64 0, .int .i64 0]) ∧ (fCls x (.slice a n c)).holds (w.heap.size ≤ ·) w'
@[go_sem] theorem buildSo0 (w : World) : (Instr.build 32 #[]).run Tryz.prog w = .ok (.agg #[.slice none 0 0]) w := run_build w _ _ _ (by kernel_rfl)
set_option maxHeartbeats 1000000 in
theorem par_Program (s : ByteArray) (w : World) (hs : s.size ≤ maxLen) (hL : Laid w) : Calls Tryz.prog 18 #[.string s] w (ProgOut w (programR s.data.toList)) := by
  obtain ⟨R, hR⟩ : ∃ R, R = programR s.data.toList := ⟨_, rfl⟩
  rw [← hR]
  unfold programR at hR
  have HL := Lib.hid hL
  have HS := Lib.hid hs
  have HRR := Lib.hid hR
  clear hL hs hR
  have hmf : ∀ (fn : Fn) (first cap : Array Value) (w : World), (Instr.makeFunc fn first cap).run Tryz.prog w = .ok (.func fn first cap) w := fun _ _ _ _ => rfl
  go_enter Tryz.func18, Tryz.ntmps18
  go_wp2_with fail
  refine (par_read (rule_Prog (w.heap.size + 1)) calls_Prog s _ HS.out ((HL.out.alloc _).alloc _) (alloc_last _ _ _ (by simp))).mono ?_
  rintro e w2 ⟨hg, ho⟩
  have hb := below_of_grown (w := w) (((Below.refl w.heap.size w).alloc (Nat.le_refl _) _).alloc (by simp) _) hg (by omega)
  have hsz := hg.size
  simp only [World.size_alloc] at hsz
  have hB : w2.heap[w.heap.size]? = some (.cells #[.slice none 0 0] 32 (0, 0)) := (hg.block _ (by simp; omega) (by simp)).trans ((((Below.refl _ _).alloc (Nat.le_refl _) _).block w.heap.size (by simp)).trans (alloc_last _ _ _ rfl))
  obtain ⟨bc, bf⟩ := blk_cell hB
  have b0 := bc 0
  simp only [List.getElem?_toArray, List.getElem?_cons_zero] at b0
  have hbl : w.heap.size < w2.heap.size := by omega
  have HB := Lib.hid hb
  have HRB := Lib.hid hB
  clear hg hb hB bc
  cases hr : readR (fun ts => programP ts 0) s.data.toList with
  | error x =>
    obtain ⟨p, er⟩ := x
    rw [hr] at ho
    have hRR := HRR.out
    rw [hr] at hRR
    subst ho
    have her := readR_err hr
    have he0 : ((er : Int) != 0) = true := by rw [bne, beq_eq_false_iff_ne.2 (by omega)]; rfl
    have RR := Lib.hid hRR
    clear hr hRR HRR
    go_wp2_with fail
    refine bodyPost_ret (v := .tuple #[.agg #[.slice none 0 0], .int .i64 (p : Int), .int .i64 (er : Int)]) ?_ rfl ⟨HB.out.setCell (by exact Nat.le_refl _) _, by rw [RR.out]⟩
    simp [results, Tryz.results18, go_sem, b0]
  | ok x =>
    rw [hr] at ho
    have hRR := HRR.out
    rw [hr] at hRR
    obtain ⟨rfl, ⟨ts, j, hT, hsp, hj⟩, cs, ⟨a, n, c, rfl⟩, hcb, hx⟩ := ho
    obtain ⟨xc, xf⟩ := blk_cell hcb
    have x0 := xc 0
    simp only [List.getElem?_toArray, List.getElem?_cons_zero] at x0
    have hxl : w.heap.size + 1 < w2.heap.size := by omega
    have hMB : ∀ x' ∈ x, ∀ y ∈ x'.methods, MeB y := fun c hc m hm => by
      have h1 := programP_dep hsp c hc m hm
      have h2 := hT.len
      exact ⟨by have := h1.1; omega, by have := h1.2; omega⟩
    replace hx : (fCls x (.slice a n c)).holds (w.heap.size < ·) w2 := (fCls x _).sub _ _ _ (fun g h1 _ => by simp at h1; omega) hx
    replace hRR : R = if sourceLim x ≠ 0 then .error (0, sourceLim x) else .ok x := hRR
    obtain ⟨d, hx⟩ := hx
    have HX := Lib.hid hx
    have RR := Lib.hid hRR
    have HCB := Lib.hid hcb
    have HMB := Lib.hid hMB
    clear hr hRR HRR hx hcb hsp xc hMB
    go_wp2_with fail
    refine (par_sourceLimits d x _ _ _ _ (HX.out.sub (fun _ _ _ => trivial) (by omega) fun _ _ _ => IsCl.sub fun _ _ _ => trivial) HMB.out).mono ?_
    rintro e w3 ⟨rfl, hb3⟩
    have y0 := (blk_cell ((hb3.block _ hxl).trans HCB.out)).1 0
    have z0 := (blk_cell ((hb3.block _ hbl).trans HRB.out)).1 0
    have yf := (blk_cell ((hb3.block _ hxl).trans HCB.out)).2
    have zf := (blk_cell ((hb3.block _ hbl).trans HRB.out)).2
    simp only [List.getElem?_toArray, List.getElem?_cons_zero] at y0 z0
    have hsz3 := hb3.size
    have HB3 := Lib.hid (HB.out.trans (hb3.mono (by omega)))
    have HX3 : Hid ((fCls x (.slice a n c)).holds (w.heap.size < ·) w3) := (fCls x _).kept _ _ _ (.of_below hb3) ⟨d, HX.out⟩
    have hl1 : w.heap.size + 1 < w3.heap.size := by omega
    have hl2 : w.heap.size < w3.heap.size := by omega
    clear hb3 HX HCB HRB HB b0 bf x0 xf
    by_cases h0 : sourceLim x = 0
    · have hRR := RR.out
      rw [if_neg (fun h => h h0)] at hRR
      have RR2 := Lib.hid hRR
      have hz1 : (((sourceLim x : Nat) : Int) != 0) = false := by rw [h0]; rfl
      clear hRR RR h0
      go_wp2_with fail
      refine bodyPost_ret (v := .tuple #[.agg #[.slice a n c], .int .i64 0, .int .i64 0]) ?_ rfl ⟨HB3.out.setCell (by exact Nat.le_refl _) _, ?_⟩
      · simp [results, Tryz.results18, go_sem, z0]
      · rw [RR2.out]
        refine ⟨a, n, c, rfl, ?_⟩
        exact (fCls x _).sub _ _ _ (fun g h1 _ => by omega) ((fCls x _).kept _ _ _ (fun k hk _ => set_block_ne _ _ _ _ _ (by omega)) HX3.out)
    · have hRR := RR.out
      rw [if_pos h0] at hRR
      have RR2 := Lib.hid hRR
      have hz1 : (((sourceLim x : Nat) : Int) != 0) = true := by rw [bne, beq_eq_false_iff_ne.2 (by omega)]; rfl
      clear hRR RR h0
      go_wp2_with fail
      refine bodyPost_ret (v := .tuple #[.agg #[.slice none 0 0], .int .i64 0, .int .i64 (sourceLim x : Int)]) ?_ rfl ⟨HB3.out.setCell (by exact Nat.le_refl _) _, by rw [RR2.out]; rfl⟩
      simp [results, Tryz.results18, go_sem, z0]
end Go.Proofs.YthjonkommphkkaaGreatDoor
