/-
  Units, lists of numbers, sensitivities and calls as plain data, and how arguments are read as such.
-/
import Derived.Test.YtdjllogimomgmaaGreatDoorTree
set_option linter.unusedSimpArgs false
set_option linter.unusedVariables false
namespace Go.Proofs.YtdjllogimomgmaaGreatDoor
open Go.RowKit
namespace Tx
structure Sg where
  name : Bs
  static : Bool
  params : List Bs
  result : Bs
structure Cd where
  name : Bs
  super : Bs
  fields : List Fld
  methods : List Sg
structure Ins where
  op : Int
  dst : Int
  a : Int
  b : Int
  n : Int
  cls : Bs
  name : Bs
  args : List Int
  goto : Int
  catch_ : Int
structure Fu where
  cls : Bs
  name : Bs
  static : Bool
  params : Int
  vars : List Fld
  result : Bs
  code : List Ins
structure Un where
  classes : List Cd
  funcs : List Fu
  main : Int
structure Se where
  kind : Int
  k : Int
structure Hs where
  site : Int
  ctx : List Int
structure Ca where
  ctx : List Int
  call : Int
  recv : Hs
end Tx
open Tx Ax
def cvI (n : Int) : List CV := [.int .i64 n]
def cvB (s : Bs) : List CV := [.str s]
def cvSg (s : Sg) : List CV := [.str s.name, .bool s.static, .lst (s.params.map cvB), .str s.result]
def cvCd (c : Cd) : List CV := [.str c.name, .str c.super, .lst (c.fields.map cvFld), .lst (c.methods.map cvSg)]
def cvIns (x : Ins) : List CV := [.int .i64 x.op, .int .i64 x.dst, .int .i64 x.a, .int .i64 x.b, .int .i64 x.n, .str x.cls, .str x.name, .lst (x.args.map cvI), .int .i64 x.goto, .int .i64 x.catch_]
def cvFu (f : Fu) : List CV := [.str f.cls, .str f.name, .bool f.static, .int .i64 f.params, .lst (f.vars.map cvFld), .str f.result, .lst (f.code.map cvIns)]
def cvUn (u : Un) : List CV := [.lst (u.classes.map cvCd), .lst (u.funcs.map cvFu), .int .i64 u.main]
def cvSe (s : Se) : List CV := [.int .i64 s.kind, .int .i64 s.k]
def cvHs (s : Hs) : List CV := [.int .i64 s.site, .lst (s.ctx.map cvI)]
def cvCa (c : Ca) : List CV := [.lst (c.ctx.map cvI), .int .i64 c.call, .int .i64 c.recv.site, .lst (c.recv.ctx.map cvI)]
/-- Bounds of what is read. -/
def IsB (l : List Int) : Prop := l.length ≤ maxLen ∧ ∀ x ∈ l, In64 x
def SgB (s : Sg) : Prop := s.name.length ≤ maxLen ∧ s.result.length ≤ maxLen ∧ s.params.length ≤ maxLen ∧ ∀ x ∈ s.params, x.length ≤ maxLen
def CdB (c : Cd) : Prop := c.name.length ≤ maxLen ∧ c.super.length ≤ maxLen ∧ c.fields.length ≤ maxLen ∧ c.methods.length ≤ maxLen ∧ (∀ x ∈ c.fields, FldB x) ∧ ∀ x ∈ c.methods, SgB x
structure InsB (x : Ins) : Prop where
  op : In64 x.op
  dst : In64 x.dst
  a : In64 x.a
  b : In64 x.b
  n : In64 x.n
  cls : x.cls.length ≤ maxLen
  name : x.name.length ≤ maxLen
  args : IsB x.args
  goto : In64 x.goto
  catch_ : In64 x.catch_
structure FuB (f : Fu) : Prop where
  cls : f.cls.length ≤ maxLen
  name : f.name.length ≤ maxLen
  params : In64 f.params
  vlen : f.vars.length ≤ maxLen
  vars : ∀ x ∈ f.vars, FldB x
  result : f.result.length ≤ maxLen
  clen : f.code.length ≤ maxLen
  code : ∀ x ∈ f.code, InsB x
structure UnB (u : Un) : Prop where
  hlen : u.classes.length ≤ maxLen
  classes : ∀ x ∈ u.classes, CdB x
  flen : u.funcs.length ≤ maxLen
  funcs : ∀ x ∈ u.funcs, FuB x
  main : In64 u.main
def SeB (s : Se) : Prop := In64 s.kind ∧ In64 s.k
def CaB (c : Ca) : Prop := IsB c.ctx ∧ In64 c.call ∧ In64 c.recv.site ∧ IsB c.recv.ctx
theorem len3 {α : Type} {cs : List α} (h : cs.length = 3) : ∃ c0 c1 c2, cs = [c0, c1, c2] := by
  match cs, h with
  | [c0, c1, c2], _ => exact ⟨c0, c1, c2, rfl⟩
theorem len7 {α : Type} {cs : List α} (h : cs.length = 7) : ∃ c0 c1 c2 c3 c4 c5 c6, cs = [c0, c1, c2, c3, c4, c5, c6] := by
  match cs, h with
  | [c0, c1, c2, c3, c4, c5, c6], _ => exact ⟨c0, c1, c2, c3, c4, c5, c6, rfl⟩
theorem len10 {α : Type} {cs : List α} (h : cs.length = 10) : ∃ c0 c1 c2 c3 c4 c5 c6 c7 c8 c9, cs = [c0, c1, c2, c3, c4, c5, c6, c7, c8, c9] := by
  match cs, h with
  | [c0, c1, c2, c3, c4, c5, c6, c7, c8, c9], _ => exact ⟨c0, c1, c2, c3, c4, c5, c6, c7, c8, c9, rfl⟩
section
variable {H : Type} {enc : TypeId × Value → H} {w : World} {spare : Nat → Bool} {held : Bool}
theorem cells_int : Tryz.prog.cellsOf 3 = 1 := by kernel_rfl
theorem cells_str : Tryz.prog.cellsOf 9 = 1 := by kernel_rfl
theorem cells_fld : Tryz.prog.cellsOf 86 = 2 := by kernel_rfl
theorem cells_sg : Tryz.prog.cellsOf 108 = 4 := by kernel_rfl
theorem cells_cd : Tryz.prog.cellsOf 92 = 4 := by kernel_rfl
theorem cells_ins : Tryz.prog.cellsOf 51 = 10 := by kernel_rfl
theorem cells_fu : Tryz.prog.cellsOf 46 = 7 := by kernel_rfl
theorem cells_un : Tryz.prog.cellsOf 30 = 3 := by kernel_rfl
theorem cells_hi : Tryz.prog.cellsOf 27 = 1 := by kernel_rfl
theorem flds_fld : fldsOf 86 = [(9, 0, 1), (9, 1, 1)] := by kernel_rfl
theorem flds_sg : fldsOf 108 = [(9, 0, 1), (4, 1, 1), (106, 2, 1), (9, 3, 1)] := by kernel_rfl
theorem flds_cd : fldsOf 92 = [(9, 0, 1), (9, 1, 1), (35, 2, 1), (90, 3, 1)] := by kernel_rfl
theorem flds_ins : fldsOf 51 = [(3, 0, 1), (3, 1, 1), (3, 2, 1), (3, 3, 1), (2, 4, 1), (9, 5, 1), (9, 6, 1), (49, 7, 1), (3, 8, 1), (3, 9, 1)] := by kernel_rfl
theorem flds_fu : fldsOf 46 = [(9, 0, 1), (9, 1, 1), (4, 2, 1), (3, 3, 1), (35, 4, 1), (9, 5, 1), (44, 6, 1)] := by kernel_rfl
theorem flds_un : fldsOf 30 = [(27, 0, 1), (28, 1, 1), (3, 2, 1)] := by kernel_rfl
theorem flds_hi : fldsOf 27 = [(25, 0, 1)] := by kernel_rfl
theorem trod_fld : ∀ fuel cs x, DataW.trod enc Tryz.prog w 0 spare held fuel 86 cs = some x → ∃ e, RVs (snap w) (cvFld e) cs ∧ FldB e := by
  intro fuel cs x h
  obtain ⟨n, rfl, hl, hf⟩ := trod_at flds_fld (by simp) h
  rw [cells_fld] at hl
  obtain ⟨c0, c1, rfl⟩ := len2 hl
  obtain ⟨_, f0⟩ := hf 0 _ _ _ rfl
  obtain ⟨_, f1⟩ := hf 1 _ _ _ rfl
  simp only [List.drop_zero, List.take_succ_cons, List.take_zero, List.drop_succ_cons] at f0 f1
  obtain ⟨v0, e0, a, r0, b0⟩ := trod_str f0
  obtain ⟨v1, e1, b, r1, b1⟩ := trod_str f1
  cases e0; cases e1
  exact ⟨⟨a, b⟩, .cons r0 (.one r1), b0, b1⟩
theorem trod_int1 : ∀ fuel cs x, DataW.trod enc Tryz.prog w 0 spare held fuel 3 cs = some x → ∃ e, RVs (snap w) (cvI e) cs ∧ In64 e := by
  intro fuel cs x h
  obtain ⟨v, rfl, k, r, b⟩ := trod_num Tryz.underlying3 h
  exact ⟨k, .one r, b⟩
theorem trod_str1 : ∀ fuel cs x, DataW.trod enc Tryz.prog w 0 spare held fuel 9 cs = some x → ∃ e, RVs (snap w) (cvB e) cs ∧ List.length e ≤ maxLen := by
  intro fuel cs x h
  obtain ⟨v, rfl, k, r, b⟩ := trod_str h
  exact ⟨k, .one r, b⟩
theorem trod_ints {fuel : Nat} {cs : List Value} {x : DataW H × List MemPlace} (h : DataW.trod enc Tryz.prog w 0 spare held fuel 49 cs = some x) : ∃ v, cs = [v] ∧ ∃ l : List Int, RV (snap w) (.lst (l.map cvI)) v ∧ IsB l := by
  obtain ⟨v, h1, l, h2, h3, h4⟩ := trod_lst cvI In64 Tryz.underlying49 cells_int (by omega) h (fun _ => rfl) fun n' hn' cs' y hy => trod_int1 n' cs' y hy
  exact ⟨v, h1, l, h2, h3, h4⟩
theorem trod_sg : ∀ fuel cs x, DataW.trod enc Tryz.prog w 0 spare held fuel 108 cs = some x → ∃ e, RVs (snap w) (cvSg e) cs ∧ SgB e := by
  intro fuel cs x h
  obtain ⟨n, rfl, hl, hf⟩ := trod_at flds_sg (by simp) h
  rw [cells_sg] at hl
  obtain ⟨c0, c1, c2, c3, rfl⟩ := len4 hl
  obtain ⟨_, f0⟩ := hf 0 _ _ _ rfl
  obtain ⟨_, f1⟩ := hf 1 _ _ _ rfl
  obtain ⟨_, f2⟩ := hf 2 _ _ _ rfl
  obtain ⟨_, f3⟩ := hf 3 _ _ _ rfl
  simp only [List.drop_zero, List.take_succ_cons, List.take_zero, List.drop_succ_cons] at f0 f1 f2 f3
  obtain ⟨v0, e0, a, r0, b0⟩ := trod_str f0
  obtain ⟨v1, e1, b, r1⟩ := trod_boo f1
  obtain ⟨v2, e2, l, r2, b2, b3⟩ := trod_lst cvB (fun s => s.length ≤ maxLen) Tryz.underlying106 cells_str (by omega) f2 (fun _ => rfl) fun n' hn' cs' y hy => trod_str1 n' cs' y hy
  obtain ⟨v3, e3, c, r3, b4⟩ := trod_str f3
  cases e0; cases e1; cases e2; cases e3
  exact ⟨⟨a, b, l, c⟩, .cons r0 (.cons r1 (.cons r2 (.one r3))), b0, b4, b2, b3⟩
theorem trod_cd : ∀ fuel cs x, DataW.trod enc Tryz.prog w 0 spare held fuel 92 cs = some x → ∃ e, RVs (snap w) (cvCd e) cs ∧ CdB e := by
  intro fuel cs x h
  obtain ⟨n, rfl, hl, hf⟩ := trod_at flds_cd (by simp) h
  rw [cells_cd] at hl
  obtain ⟨c0, c1, c2, c3, rfl⟩ := len4 hl
  obtain ⟨_, f0⟩ := hf 0 _ _ _ rfl
  obtain ⟨_, f1⟩ := hf 1 _ _ _ rfl
  obtain ⟨_, f2⟩ := hf 2 _ _ _ rfl
  obtain ⟨_, f3⟩ := hf 3 _ _ _ rfl
  simp only [List.drop_zero, List.take_succ_cons, List.take_zero, List.drop_succ_cons] at f0 f1 f2 f3
  obtain ⟨v0, e0, a, r0, b0⟩ := trod_str f0
  obtain ⟨v1, e1, b, r1, b1⟩ := trod_str f1
  obtain ⟨v2, e2, l, r2, b2, b3⟩ := trod_lst cvFld FldB Tryz.underlying35 cells_fld (by omega) f2 (fun _ => rfl) fun n' hn' cs' y hy => trod_fld n' cs' y hy
  obtain ⟨v3, e3, m, r3, b4, b5⟩ := trod_lst cvSg SgB Tryz.underlying90 cells_sg (by omega) f3 (fun _ => rfl) fun n' hn' cs' y hy => trod_sg n' cs' y hy
  cases e0; cases e1; cases e2; cases e3
  exact ⟨⟨a, b, l, m⟩, .cons r0 (.cons r1 (.cons r2 (.one r3))), b0, b1, b2, b4, b3, b5⟩
theorem trod_ins : ∀ fuel cs x, DataW.trod enc Tryz.prog w 0 spare held fuel 51 cs = some x → ∃ e, RVs (snap w) (cvIns e) cs ∧ InsB e := by
  intro fuel cs x h
  obtain ⟨n, rfl, hl, hf⟩ := trod_at flds_ins (by simp) h
  rw [cells_ins] at hl
  obtain ⟨c0, c1, c2, c3, c4, c5, c6, c7, c8, c9, rfl⟩ := len10 hl
  obtain ⟨_, f0⟩ := hf 0 _ _ _ rfl
  obtain ⟨_, f1⟩ := hf 1 _ _ _ rfl
  obtain ⟨_, f2⟩ := hf 2 _ _ _ rfl
  obtain ⟨_, f3⟩ := hf 3 _ _ _ rfl
  obtain ⟨_, f4⟩ := hf 4 _ _ _ rfl
  obtain ⟨_, f5⟩ := hf 5 _ _ _ rfl
  obtain ⟨_, f6⟩ := hf 6 _ _ _ rfl
  obtain ⟨_, f7⟩ := hf 7 _ _ _ rfl
  obtain ⟨_, f8⟩ := hf 8 _ _ _ rfl
  obtain ⟨_, f9⟩ := hf 9 _ _ _ rfl
  simp only [List.drop_zero, List.take_succ_cons, List.take_zero, List.drop_succ_cons] at f0 f1 f2 f3 f4 f5 f6 f7 f8 f9
  obtain ⟨v0, e0, x0, r0, b0⟩ := trod_num Tryz.underlying3 f0
  obtain ⟨v1, e1, x1, r1, b1⟩ := trod_num Tryz.underlying3 f1
  obtain ⟨v2, e2, x2, r2, b2⟩ := trod_num Tryz.underlying3 f2
  obtain ⟨v3, e3, x3, r3, b3⟩ := trod_num Tryz.underlying3 f3
  obtain ⟨v4, e4, x4, r4, b4⟩ := trod_num Tryz.underlying2 f4
  obtain ⟨v5, e5, x5, r5, b5⟩ := trod_str f5
  obtain ⟨v6, e6, x6, r6, b6⟩ := trod_str f6
  obtain ⟨v7, e7, x7, r7, b7⟩ := trod_ints f7
  obtain ⟨v8, e8, x8, r8, b8⟩ := trod_num Tryz.underlying3 f8
  obtain ⟨v9, e9, x9, r9, b9⟩ := trod_num Tryz.underlying3 f9
  cases e0; cases e1; cases e2; cases e3; cases e4; cases e5; cases e6; cases e7; cases e8; cases e9
  exact ⟨⟨x0, x1, x2, x3, x4, x5, x6, x7, x8, x9⟩, .cons r0 (.cons r1 (.cons r2 (.cons r3 (.cons r4 (.cons r5 (.cons r6 (.cons r7 (.cons r8 (.one r9))))))))), ⟨b0, b1, b2, b3, b4, b5, b6, b7, b8, b9⟩⟩
theorem trod_fu : ∀ fuel cs x, DataW.trod enc Tryz.prog w 0 spare held fuel 46 cs = some x → ∃ e, RVs (snap w) (cvFu e) cs ∧ FuB e := by
  intro fuel cs x h
  obtain ⟨n, rfl, hl, hf⟩ := trod_at flds_fu (by simp) h
  rw [cells_fu] at hl
  obtain ⟨c0, c1, c2, c3, c4, c5, c6, rfl⟩ := len7 hl
  obtain ⟨_, f0⟩ := hf 0 _ _ _ rfl
  obtain ⟨_, f1⟩ := hf 1 _ _ _ rfl
  obtain ⟨_, f2⟩ := hf 2 _ _ _ rfl
  obtain ⟨_, f3⟩ := hf 3 _ _ _ rfl
  obtain ⟨_, f4⟩ := hf 4 _ _ _ rfl
  obtain ⟨_, f5⟩ := hf 5 _ _ _ rfl
  obtain ⟨_, f6⟩ := hf 6 _ _ _ rfl
  simp only [List.drop_zero, List.take_succ_cons, List.take_zero, List.drop_succ_cons] at f0 f1 f2 f3 f4 f5 f6
  obtain ⟨v0, e0, x0, r0, b0⟩ := trod_str f0
  obtain ⟨v1, e1, x1, r1, b1⟩ := trod_str f1
  obtain ⟨v2, e2, x2, r2⟩ := trod_boo f2
  obtain ⟨v3, e3, x3, r3, b3⟩ := trod_num Tryz.underlying3 f3
  obtain ⟨v4, e4, x4, r4, b4, b4'⟩ := trod_lst cvFld FldB Tryz.underlying35 cells_fld (by omega) f4 (fun _ => rfl) fun n' hn' cs' y hy => trod_fld n' cs' y hy
  obtain ⟨v5, e5, x5, r5, b5⟩ := trod_str f5
  obtain ⟨v6, e6, x6, r6, b6, b6'⟩ := trod_lst cvIns InsB Tryz.underlying44 cells_ins (by omega) f6 (fun _ => rfl) fun n' hn' cs' y hy => trod_ins n' cs' y hy
  cases e0; cases e1; cases e2; cases e3; cases e4; cases e5; cases e6
  exact ⟨⟨x0, x1, x2, x3, x4, x5, x6⟩, .cons r0 (.cons r1 (.cons r2 (.cons r3 (.cons r4 (.cons r5 (.one r6)))))), ⟨b0, b1, b3, b4, b4', b5, b6, b6'⟩⟩
theorem trod_hi {fuel : Nat} {cs : List Value} {x : DataW H × List MemPlace} (h : DataW.trod enc Tryz.prog w 0 spare held fuel 27 cs = some x) : ∃ v, cs = [v] ∧ ∃ l : List Cd, RV (snap w) (.lst (l.map cvCd)) v ∧ l.length ≤ maxLen ∧ ∀ x ∈ l, CdB x := by
  obtain ⟨n, rfl, hl, hf⟩ := trod_at flds_hi (by simp) h
  rw [cells_hi] at hl
  obtain ⟨c0, rfl⟩ := len1 hl
  obtain ⟨_, f0⟩ := hf 0 _ _ _ rfl
  simp only [List.drop_zero, List.take_succ_cons, List.take_zero] at f0
  exact trod_lst cvCd CdB Tryz.underlying25 cells_cd (by omega) f0 (fun _ => rfl) fun n' hn' cs' y hy => trod_cd n' cs' y hy
theorem trod_un {fuel : Nat} {cs : List Value} {x : DataW H × List MemPlace} (h : DataW.trod enc Tryz.prog w 0 spare held fuel 30 cs = some x) : ∃ u, RVs (snap w) (cvUn u) cs ∧ UnB u := by
  obtain ⟨n, rfl, hl, hf⟩ := trod_at flds_un (by simp) h
  rw [cells_un] at hl
  obtain ⟨c0, c1, c2, rfl⟩ := len3 hl
  obtain ⟨_, f0⟩ := hf 0 _ _ _ rfl
  obtain ⟨_, f1⟩ := hf 1 _ _ _ rfl
  obtain ⟨_, f2⟩ := hf 2 _ _ _ rfl
  simp only [List.drop_zero, List.take_succ_cons, List.take_zero, List.drop_succ_cons] at f0 f1 f2
  obtain ⟨v0, e0, x0, r0, b0, b0'⟩ := trod_hi f0
  obtain ⟨v1, e1, x1, r1, b1, b1'⟩ := trod_lst cvFu FuB Tryz.underlying28 cells_fu (by omega) f1 (fun _ => rfl) fun n' hn' cs' y hy => trod_fu n' cs' y hy
  obtain ⟨v2, e2, x2, r2, b2⟩ := trod_num Tryz.underlying3 f2
  cases e0; cases e1; cases e2
  exact ⟨⟨x0, x1, x2⟩, .cons r0 (.cons r1 (.one r2)), ⟨b0, b0', b1, b1', b2⟩⟩
end
end Go.Proofs.YtdjllogimomgmaaGreatDoor
