/-
  parse's read where nothing panics: the tokens, the rule, the end.
-/
import Derived.Test.YtdjllogimomgmaaGreatDoorTcRun
import Derived.Laws.Rows
set_option linter.unusedSimpArgs false
set_option linter.unusedVariables false
namespace Go.Proofs.YtdjllogimomgmaaGreatDoor
open Go.RowKit
namespace Ax
/-- Two blocks beside those that the state speaks of. -/
structure Hold (a : Nat) (Ta Te : TypeId) (va ve : Value) (H0 : Heap) (M0 : Mp) (nx0 : Nat) (w0 : World) (H : Heap) (M : Mp) (nx : Nat) (w : World) : Prop where
  rep : Rep M H nx w
  fr : Fr H0 M0 nx0 w0 H M nx w
  low : w0.heap.size ≤ a
  ca : w.heap[a]? = some (.cells #[va] Ta (0, 0))
  ce : w.heap[a + 1]? = some (.cells #[ve] Te (0, 0))
  ia : ∀ x, a ≤ x → x ≤ a + 1 → ¬ Im H M x
  fa : ∀ x o, a ≤ x → x ≤ a + 1 → M.fz x ≠ some o
section
variable {a : Nat} {Ta Te : TypeId} {va ve : Value} {H0 H H' : Heap} {M0 M M' : Mp} {nx0 nx nx' : Nat} {w0 w w' : World}
theorem Hold.start (r : Rep M H nx w) (Ta Te : TypeId) (va ve : Value) : Hold w.heap.size Ta Te va ve H M nx w H M nx ((w.alloc (.cells #[va] Ta (0, 0))).alloc (.cells #[ve] Te (0, 0))) := by
  have hs : ((w.alloc (.cells #[va] Ta (0, 0))).alloc (.cells #[ve] Te (0, 0))).heap.size = w.heap.size + 2 := by simp
  refine ⟨(r.alloc _).alloc _, ⟨.refl _, rfl, rfl, rfl, by omega, fun x hx _ => ?_, fun _ h => .inl h, fun _ _ => rfl, Nat.le_refl _, fun _ _ h => .inl h⟩, Nat.le_refl _, ?_, ?_, fun x h1 _ h => ?_, fun x o h1 _ h => ?_⟩
  · rw [Below.heap_alloc _ _ _ (by simp; omega), Below.heap_alloc _ _ _ hx]
  · rw [Below.heap_alloc _ _ _ (by simp)]; exact (MapKept.heap_alloc w _).1
  · have := (MapKept.heap_alloc (w.alloc (.cells #[va] Ta (0, 0))) (.cells #[ve] Te (0, 0))).1
    simpa using this
  · have := r.im_lt h; omega
  · have := (Array.getElem?_eq_some_iff.mp (r.fz _ _ h)).1; omega
theorem Hold.lt (h : Hold a Ta Te va ve H0 M0 nx0 w0 H M nx w) : a + 1 < w.heap.size := (Array.getElem?_eq_some_iff.mp h.ce).1
theorem Hold.call (h : Hold a Ta Te va ve H0 M0 nx0 w0 H M nx w) (r : Rep M' H' nx' w') (f : Fr H M nx w H' M' nx' w') : Hold a Ta Te va ve H0 M0 nx0 w0 H' M' nx' w' := by
  have hl := h.lt
  refine ⟨r, h.fr.trans f, h.low, ?_, ?_, fun x h1 h2 hi => ?_, fun x o h1 h2 hz => ?_⟩
  · rw [f.kept _ (by omega) (h.ia _ (Nat.le_refl _) (by omega)), h.ca]
  · rw [f.kept _ hl (h.ia _ (by omega) (Nat.le_refl _)), h.ce]
  · rcases f.mono x hi with h3 | h3
    · exact h.ia x h1 h2 h3
    · omega
  · rcases f.fzn x o hz with h3 | h3 | h3
    · exact h.fa x o h1 h2 h3
    · exact h.ia x h1 h2 h3
    · omega
/-- A write at one of the two. -/
theorem Hold.out (h : Hold a Ta Te va ve H0 M0 nx0 w0 H M nx w) {x : Nat} (h1 : a ≤ x) (h2 : x ≤ a + 1) (hh : ∀ y, y ≠ x → w'.heap[y]? = w.heap[y]?) (hs : w'.heap.size = w.heap.size) (ho : w'.os = w.os) (ht : w'.tape = w.tape) (hp : w'.output = w.output) :
    Rep M H nx w' ∧ Fr H0 M0 nx0 w0 H M nx w' := by
  refine ⟨h.rep.outside (g := x) (h.ia x h1 h2) (fun o => h.fa x o h1 h2) (fun y _ hy => hh y hy), ⟨h.fr.ext, by rw [ho, h.fr.os], by rw [ht, h.fr.tape], by rw [hp, h.fr.output], by rw [hs]; exact h.fr.grown, fun y hy hn => ?_, h.fr.mono, h.fr.low, h.fr.nxle, h.fr.fzn⟩⟩
  have := h.low
  rw [hh y (by omega), h.fr.kept y hy hn]
theorem Hold.setA (h : Hold a Ta Te va ve H0 M0 nx0 w0 H M nx w) (v : Value) : Hold a Ta Te v ve H0 M0 nx0 w0 H M nx (w.setCell ⟨a, 0, none⟩ v) := by
  obtain ⟨r, f⟩ := h.out (x := a) (w' := w.setCell ⟨a, 0, none⟩ v) (Nat.le_refl _) (by omega) (fun y hy => Below.heap_setCell _ _ _ _ hy) (by simp) rfl rfl rfl
  refine ⟨r, f, h.low, ?_, ?_, h.ia, h.fa⟩
  · exact heap_setCell_same w a 0 _ _ v h.ca
  · rw [Below.heap_setCell _ _ _ _ (by simp), h.ce]
theorem Hold.setE (h : Hold a Ta Te va ve H0 M0 nx0 w0 H M nx w) (v : Value) : Hold a Ta Te va v H0 M0 nx0 w0 H M nx (w.setCell ⟨a + 1, 0, none⟩ v) := by
  obtain ⟨r, f⟩ := h.out (x := a + 1) (w' := w.setCell ⟨a + 1, 0, none⟩ v) (by omega) (Nat.le_refl _) (fun y hy => Below.heap_setCell _ _ _ _ hy) (by simp) rfl rfl rfl
  refine ⟨r, f, h.low, ?_, ?_, h.ia, h.fa⟩
  · rw [Below.heap_setCell _ _ _ _ (by simp), h.ca]
  · exact heap_setCell_same w (a + 1) 0 _ _ v h.ce
theorem Hold.alloc (h : Hold a Ta Te va ve H0 M0 nx0 w0 H M nx w) (o : Obj) : Hold a Ta Te va ve H0 M0 nx0 w0 H M nx (w.alloc o) := by
  refine h.call (h.rep.alloc o) ⟨.refl _, rfl, rfl, rfl, by simp, fun x hx _ => Below.heap_alloc _ _ _ hx, fun _ h => .inl h, fun _ _ => rfl, Nat.le_refl _, fun _ _ h => .inl h⟩
theorem Hold.new (h : Hold a Ta Te va ve H0 M0 nx0 w0 H M nx w) (cs : List CV) (vs : List Value) (T : TypeId) (hv : RVs M cs vs) :
    Hold a Ta Te va ve H0 M0 nx0 w0 (upd H nx (.cells cs)) (updM M nx (w.heap.size, vs.length)) (nx + 1) (w.alloc (.cells vs.toArray T (0, 0))) := by
  have hf := h.rep.fresh nx (Nat.le_refl _)
  have he : Ext M (updM M nx (w.heap.size, vs.length)) := Ext.updM hf
  have hcell : (w.alloc (.cells vs.toArray T (0, 0))).heap[w.heap.size]? = some (.cells vs.toArray T (0, 0)) := (MapKept.heap_alloc w _).1
  refine h.call (h.rep.new nx (.cells cs) vs.length (.cells vs.toArray T (0, 0)) hf (Nat.le_succ nx) (Nat.lt_succ_self nx) rfl ⟨vs.toArray, T, hcell, by simp, ?_⟩) (Fr.new nx (.cells cs) vs.length (.cells vs.toArray T (0, 0)) hf (Nat.le_refl _) (Nat.le_succ nx) (Sub.refl _) rfl rfl rfl rfl)
  have hl : cs.length = vs.length := hv.1.symm
  rw [hl]
  simpa using hv.ext he
theorem Hold.cells (h : Hold a Ta Te va ve H0 M0 nx0 w0 H M nx w) : w.cell? ⟨a, 0, none⟩ = some va ∧ w.frozen? ⟨a, 0, none⟩ = false ∧ w.cell? ⟨a + 1, 0, none⟩ = some ve ∧ w.frozen? ⟨a + 1, 0, none⟩ = false := by
  have h1 := h.ca
  have h2 := h.ce
  exact ⟨by simp [World.cell?, h1], by simp [World.frozen?, h1], by simp [World.cell?, h2], by simp [World.frozen?, h2]⟩
end
end Ax
open Ax
theorem assert_nil0 (w : World) : (Instr.typeAssert .nilIface 20 162 true).run Tryz.prog w = .ok (.tuple #[.agg #[.int .i64 0], .bool false]) w := by kernel_rfl
set_option maxRecDepth 100000 in
theorem read_idle0 (pa pe : Nat) (w : World) :
    CallsD Tryz.prog 102 #[.pointer (some ⟨pa, 0, none⟩), .pointer (some ⟨pe, 0, none⟩)] .returning w fun e u' w' => e = .returned (.tuple #[]) ∧ u' = .returning ∧ w' = w.alloc (.cells #[.int .i64 0] 162) := by
  refine callsD_of_wpS Tryz.func102 rfl fun c₀ cs hu => ?_
  apply wpS_seq
  apply wpS_region
  simp [wpOpsS, go_sem, recoverD, hu, Tryz.ntmps102, Exit.thenS, assert_nil0]
  refine wpS_of_wp ?_
  go_wp2
  cases c₀
  simp_all [bodyPostS, results, Tryz.results102]
@[go_sem] theorem fieldTok0 (n : Int) (u1 u2 u3 : Value) (w : World) : (Instr.field 167 (.agg #[.int .i64 n, u1, u2, u3]) 0).run Tryz.prog w = .ok (.int .i64 n) w := by kernel_rfl
/-- What read asks of the lexer, the rule and the next token. -/
def ReadQ (G : Nat → CV) (g : FuncId) (a b : List CV) (Q : Res → Heap → Nat → Prop) : Res → Heap → Nat → Prop := fun r H1 nx1 =>
  ∃ tok, ((∃ b o n k, tok = .sl b o n k) ∨ ∃ rows, tok = .lst rows) ∧ r = .ret (.tup [tok, .int .i64 0, .int .i64 0]) ∧
    ACall Tryz.prog G g (a ++ [.ptr nx1 0] ++ b) (upd H1 nx1 (.cells [tok, .int .i64 0])) (nx1 + 1) fun r H2 nx2 => (∃ v, r = .ret v) ∧
      ACall Tryz.prog G 103 [.ptr nx1 0] H2 nx2 fun r H3 nx3 => (∃ x y z, r = .ret (.agg [.int .i64 5, x, y, z])) ∧ Q (.ret (.tup [.int .i64 0, .int .i64 0])) H3 nx3
set_option maxHeartbeats 2000000 in
set_option maxRecDepth 100000 in
theorem read_ok {G : Nat → CV} {g : FuncId} {s : List UInt8} {b : List CV} {H : Heap} {nx : Nat} {Q : Res → Heap → Nat → Prop} (hen : enters Tryz.prog g = true) (hc : ACall Tryz.prog G 101 [.str s] H nx (ReadQ G g [] b Q)) :
    ACall Tryz.prog G 70 [.str s, .fn (.func g) [] b] H nx Q := by
  intro M w vs hg r hvs
  obtain ⟨vs0, vs1, rfl, h1, hvs1⟩ := hvs.cons_inv
  obtain ⟨vf, vs2, rfl, h2, hvs2⟩ := hvs1.cons_inv
  have := hvs2.nil_inv; subst this
  have h1' := h1
  cases h1 with
  | str _ sb hs =>
  cases h2 with
  | fn _ _ _ fs cs l1 l2 k1 k2 =>
  obtain rfl : fs = [] := List.length_eq_zero_iff.mp l1
  have hG : ∀ (args : Array Value) (w : World), (callFunc g args).run Tryz.prog w = .ok (.enter g args) w := by
    intro args w
    unfold enters at hen
    cases hfn : (Tryz.prog).funcs[g]? with
    | none => rw [hfn] at hen; cases hen
    | some fn =>
      rw [hfn] at hen
      simp only [Bool.and_eq_true] at hen
      have hn : (fn.name == "runtime.NumGoroutine") = false := by have := hen.1; simpa [bne] using this
      have hb : fn.body.isNone = false := by cases hbb : fn.body <;> simp_all
      simp only [callFunc, Sem.run_bind, run_program, Result.andThen_ok, hfn, hn, hb, Bool.false_eq_true, if_false, Sem.run_pure]
  have hmf : ∀ (fn : Fn) (first cap : Array Value) (w : World), (Instr.makeFunc fn first cap).run Tryz.prog w = .ok (.func fn first cap) w := fun _ _ _ _ => rfl
  have HO := Lib.hid (Hold.start r 3 31 (.int .i64 0) (.int .i64 0))
  have HC := Lib.hid (hc M _ [.string sb] hg HO.out.rep (RVs.one h1'))
  have HG := Lib.hid hg
  have HB := Lib.hid (show RVs M b cs from ⟨l2, k2⟩)
  clear hc hg r hvs hvs1 hvs2 h1' hs k1 k2 l1 l2 hen
  go_enter_defers Tryz.func70, Tryz.ntmps70
  go_wp2_with fail
  refine HC.out.mono ?_
  rintro e w1 ⟨M1, x, H1, nx1, h3, r1, f1, tok, htok, rfl, hq⟩
  cases e <;> simp only [EndR] at h3
  rename_i v1
  cases h3 with
  | tup _ us hl hr =>
  obtain ⟨u0, us0, rfl, hu0, hus0⟩ := RVs.cons_inv (M := M1) (vs := us) ⟨hl, hr⟩
  obtain ⟨u1, us1, rfl, hu1, hus1⟩ := hus0.cons_inv
  obtain ⟨u2, us2, rfl, hu2, hus2⟩ := hus1.cons_inv
  have := hus2.nil_inv; subst this
  cases hu1
  cases hu2
  have hu0' := hu0
  obtain ⟨ga, tn, cap, rfl⟩ : ∃ a n c, u0 = .slice a n c := by
    rcases htok with ⟨b, o, n, k, rfl⟩ | ⟨rows, rfl⟩
    · cases hu0 with
      | sl => exact ⟨_, _, _, rfl⟩
    · cases hu0 with
      | lst0 => exact ⟨_, _, _, rfl⟩
      | lst => exact ⟨_, _, _, rfl⟩
  have HO1 := Lib.hid (HO.out.call r1 f1)
  have HQ := Lib.hid hq
  have HT := Lib.hid hu0'
  have hext := Lib.hid f1.ext
  clear hq r1 f1 hl hr hus0 hus1 hus2 HC hu0 hu0' htok
  obtain ⟨ca, cz, ce, ez⟩ := HO1.out.cells
  have hlt := HO1.out.lt
  have hlt0 : w.heap.size < w1.heap.size := by omega
  have HO2 := Lib.hid (((HO1.out.setA (.int .i64 0)).setE (.int .i64 0)).new [tok, .int .i64 0] [.slice ga tn cap, .int .i64 0] 165 (RVs.cons HT.out (RVs.one (.int _ _))))
  have he2 : Ext M1 (updM M1 nx1 (w1.heap.size, 2)) := Ext.updM (HO1.out.rep.fresh nx1 (Nat.le_refl _))
  have hsz : ((w1.setCell ⟨w.heap.size, 0, none⟩ (.int .i64 0)).setCell ⟨w.heap.size + 1, 0, none⟩ (.int .i64 0)).heap.size = w1.heap.size := by simp
  have HR := Lib.hid (HQ.out _ _ ([] ++ [.pointer (some ⟨w1.heap.size, 0, none⟩)] ++ cs) ((HG.out.ext hext.out).ext he2) (by have := HO2.out.rep; rw [hsz] at this; exact this) (RVs.append (RVs.append RVs.nil (RVs.one (.ptr nx1 0 w1.heap.size 2 (updM_hit _ _ _)))) ((HB.out.ext hext.out).ext he2)))
  rw [hsz] at HO2
  clear he2 hsz
  go_wp2_with fail
  refine HR.out.mono ?_
  rintro e w3 ⟨M3, x, H3, nx3, h3, r3, f3, ⟨v3, rfl⟩, hq3⟩
  cases e <;> simp only [EndR] at h3
  rename_i v4
  have HO3 := Lib.hid (HO2.out.call r3 f3)
  have hp3 : M3.bk nx1 = some (w1.heap.size, 2) := f3.ext.bk _ _ (updM_hit _ _ _)
  have HP := Lib.hid (hq3 M3 w3 [.pointer (some ⟨w1.heap.size, 0, none⟩)] (((HG.out.ext hext.out).ext (Ext.updM (HO1.out.rep.fresh nx1 (Nat.le_refl _)))).ext f3.ext) r3 (RVs.one (.ptr nx1 0 _ 2 hp3)))
  clear h3 r3 f3 hq3 HR HO2 hp3
  go_wp2_with fail
  refine HP.out.mono ?_
  rintro e w4 ⟨M4, x, H4, nx4, h3, r4, f4, ⟨x1, x2, x3, rfl⟩, hq4⟩
  cases e <;> simp only [EndR] at h3
  cases h3 with
  | agg _ us hl hr =>
  obtain ⟨u0, us0, rfl, hu0, hus0⟩ := RVs.cons_inv (M := M4) (vs := us) ⟨hl, hr⟩
  obtain ⟨u1, us1, rfl, hu1, hus1⟩ := hus0.cons_inv
  obtain ⟨u2, us2, rfl, hu2, hus2⟩ := hus1.cons_inv
  obtain ⟨u3, us3, rfl, hu3, hus3⟩ := hus2.cons_inv
  have := hus3.nil_inv; subst this
  cases hu0
  have HO4 := Lib.hid (HO3.out.call r4 f4)
  have HQ4 := Lib.hid hq4
  clear hl hr hus0 hus1 hus2 hus3 r4 f4 hq4 hu1 hu2 hu3 HP HO3 HO1 ca cz ce ez hlt hlt0
  obtain ⟨ca, cz, ce, ez⟩ := HO4.out.cells
  have hlt := HO4.out.lt
  have hlt0 : w.heap.size < w4.heap.size := by omega
  go_wp2_with fail
  refine leaves_cons (f := 102) (args := #[.pointer (some ⟨w.heap.size, 0, none⟩), .pointer (some ⟨w.heap.size + 1, 0, none⟩)]) (by simp) (by simp [go_sem]) ?_
  refine (read_idle0 w.heap.size (w.heap.size + 1) _).mono ?_
  rintro e u' w5 ⟨rfl, rfl, rfl⟩
  have HO5 := ((HO4.out.setA (.int .i64 0)).setE (.int .i64 0)).alloc (.cells #[.int .i64 0] 162)
  obtain ⟨ca5, _, ce5, _⟩ := HO5.cells
  simp only [Leaves, settle]
  refine ⟨.tuple #[.int .i64 0, .int .i64 0], ?_, ?_⟩
  · simp [results, Tryz.results70, go_sem, ca5, ce5]
  · exact ⟨M4, .ret (.tup [.int .i64 0, .int .i64 0]), H4, nx4, .tup _ [.int .i64 0, .int .i64 0] rfl (RVs.cons (.int _ _) (RVs.one (.int _ _))).2, HO5.rep, HO5.fr, HQ4.out⟩
end Go.Proofs.YtdjllogimomgmaaGreatDoor
