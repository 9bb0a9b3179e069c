/-
  typecheck's run: it turns the panic of a fault into its error.
-/
import Derived.Test.YtdjllogimomgmaaGreatDoorProg
import Derived.Test.YtdjllogimomgmaaGreatDoorJaC
import Derived.WalkKit
import Derived.RegionTactic
import Derived.Lib.Hide
namespace Go.Proofs.YtdjllogimomgmaaGreatDoor
open Go.RowKit
namespace Ax
/-- A world that is the same but for one block that nothing speaks of. -/
theorem Rep.outside {M : Mp} {H : Heap} {nx : Nat} {w w' : World} {g : Nat} (r : Rep M H nx w) (hi : ¬ Im H M g) (hz : ∀ o, M.fz g ≠ some o) (hh : ∀ x, x < w.heap.size → x ≠ g → w'.heap[x]? = w.heap[x]?) : Rep M H nx w' := by
  refine ⟨fun b k hb => ?_, r.inj, r.fresh, fun x o hx => ?_, r.sep⟩
  · obtain ⟨g', m, a, c⟩ := r.blk b k hb
    exact ⟨g', m, a, c.ext (.refl _) (hh g' c.lt (fun e => hi ⟨b, k, m, hb, e ▸ a⟩))⟩
  · have h1 := r.fz x o hx
    rw [hh x (Array.getElem?_eq_some_iff.mp h1).1 (fun e => hz o (e ▸ hx)), h1]
theorem Rep.alloc {M : Mp} {H : Heap} {nx : Nat} {w : World} (r : Rep M H nx w) (o : Obj) : Rep M H nx (w.alloc o) := by
  have hh : ∀ x, x < w.heap.size → (w.alloc o).heap[x]? = w.heap[x]? := fun x hx => Below.heap_alloc w o x hx
  refine ⟨fun b k hb => ?_, r.inj, r.fresh, fun x o hx => ?_, r.sep⟩
  · obtain ⟨g', m, a, c⟩ := r.blk b k hb
    exact ⟨g', m, a, c.ext (.refl _) (hh g' c.lt)⟩
  · have h1 := r.fz x o hx
    rw [hh x (Array.getElem?_eq_some_iff.mp h1).1, h1]
/-- A call with one more block of the caller's own: what it leaves. -/
theorem own_after {M M2 : Mp} {H H' : Heap} {nx nx' : Nat} {w w2 w4 : World} {o : Obj} (r : Rep M H nx w) (r2 : Rep M2 H' nx' w2) (f : Fr H M nx (w.alloc o) H' M2 nx' w2)
    (hh : ∀ x, x < w2.heap.size → x ≠ w.heap.size → w4.heap[x]? = w2.heap[x]?) (hs : w2.heap.size ≤ w4.heap.size) (ho : w4.os = w2.os) (ht : w4.tape = w2.tape) (hp : w4.output = w2.output) :
    Rep M2 H' nx' w4 ∧ Fr H M nx w H' M2 nx' w4 ∧ w2.heap[w.heap.size]? = some o := by
  have hsz : (w.alloc o).heap.size = w.heap.size + 1 := by simp
  have ni : ¬ Im H M w.heap.size := fun h => by have := r.im_lt h; omega
  have ni' : ¬ Im H' M2 w.heap.size := fun h => by
    rcases f.mono _ h with h1 | h1
    · exact ni h1
    · omega
  have nz : ∀ x, M2.fz w.heap.size ≠ some x := fun x h => by
    rcases f.fzn _ _ h with h1 | h1 | h1
    · have := (Array.getElem?_eq_some_iff.mp (r.fz _ _ h1)).1; omega
    · exact ni h1
    · omega
  have g := f.grown
  refine ⟨r2.outside ni' nz hh, ⟨f.ext, by rw [ho, f.os]; rfl, by rw [ht, f.tape]; rfl, by rw [hp, f.output]; rfl, by omega, fun x hx hn => ?_, fun x h => ?_, f.low, f.nxle, fun x y h => ?_⟩, ?_⟩
  · rw [hh x (by omega) (by omega), f.kept x (by omega) hn]; exact Below.heap_alloc w o x hx
  · rcases f.mono x h with h1 | h1
    · exact .inl h1
    · exact .inr (by omega)
  · rcases f.fzn x y h with h1 | h1 | h1
    · exact .inl h1
    · exact .inr (.inl h1)
    · exact .inr (.inr (by omega))
  · rw [f.kept _ (by omega) ni]; exact (MapKept.heap_alloc w o).1
end Ax
open Ax
theorem assert_fault (p : Int) (w : World) : (Instr.typeAssert (.iface 182 (.agg #[.int .i64 p])) 20 182 true).run Tryz.prog w = .ok (.tuple #[.agg #[.int .i64 p], .bool true]) w := by kernel_rfl
theorem assert_fault_nil (w : World) : (Instr.typeAssert .nilIface 20 182 true).run Tryz.prog w = .ok (.tuple #[.agg #[.int .i64 0], .bool false]) w := by kernel_rfl
set_option maxRecDepth 100000 in
theorem run_catch (pe : Nat) (p : Int) (v2 : Value) (w : World) (h2 : w.cell? ⟨pe, 0, none⟩ = some v2) (z2 : w.frozen? ⟨pe, 0, none⟩ = false) :
    CallsD Tryz.prog 121 #[.pointer (some ⟨pe, 0, none⟩)] (.panicking [{ v := .iface 182 (.agg #[.int .i64 p]), recovered := false }]) w fun e u' w' =>
      e = .returned (.tuple #[]) ∧ u' = .panicking [{ v := .iface 182 (.agg #[.int .i64 p]), recovered := true }] ∧ w' = (w.setCell ⟨pe, 0, none⟩ (.int .i64 p)).alloc (.cells #[.int .i64 p] 182) := by
  refine callsD_of_wpS Tryz.func121 rfl fun c₀ cs hu => ?_
  apply wpS_seq
  apply wpS_region
  simp [wpOpsS, go_sem, recoverD, hu, Tryz.ntmps121, Exit.thenS, assert_fault]
  have l2 := World.block_lt_of_cell? w _ h2
  apply wpS_seq
  apply wpS_region
  simp [wpOpsS, go_sem, Exit.thenS]
  refine wpS_cond (t := true) (by simp [Act.eval, Array.replicate]) ?_
  simp only [if_true]
  apply wpS_region
  simp [wpOpsS, go_sem, h2, z2, l2, bodyPostS, results, Tryz.results121]
set_option maxRecDepth 100000 in
theorem run_idle (pe : Nat) (w : World) :
    CallsD Tryz.prog 121 #[.pointer (some ⟨pe, 0, none⟩)] .returning w fun e u' w' => e = .returned (.tuple #[]) ∧ u' = .returning ∧ w' = w.alloc (.cells #[.int .i64 0] 182) := by
  refine callsD_of_wpS Tryz.func121 rfl fun c₀ cs hu => ?_
  apply wpS_seq
  apply wpS_region
  simp [wpOpsS, go_sem, recoverD, hu, Tryz.ntmps121, Exit.thenS, assert_fault_nil]
  refine wpS_of_wp ?_
  go_wp2
  cases c₀
  simp_all [bodyPostS, results, Tryz.results121]
def RunQ (Q : Res → Heap → Nat → Prop) : Res → Heap → Nat → Prop := fun r H' nx' => match r with
  | .ret _ => Q (.ret (.int .i64 0)) H' nx'
  | .pan v => ∃ e, v = .iface 182 (.agg [.int .i64 e]) ∧ Q (.ret (.int .i64 e)) H' nx'
set_option maxHeartbeats 1000000 in
set_option maxRecDepth 100000 in
theorem tc_run {G : Nat → CV} {g : FuncId} {a b : List CV} {c : CV} {H : Heap} {nx : Nat} {Q : Res → Heap → Nat → Prop} (hen : enters Tryz.prog g = true) (hc : ACall Tryz.prog G g (a ++ b) H nx (RunQ Q)) :
    ACall Tryz.prog G 84 [c, .fn (.func g) a b] H nx Q := by
  intro M w vs hg r hvs
  obtain ⟨vc, vs1, rfl, h1, hvs1⟩ := hvs.cons_inv
  obtain ⟨vf, vs2, rfl, h2, hvs2⟩ := hvs1.cons_inv
  have := hvs2.nil_inv; subst this
  cases h2 with
  | fn _ _ _ fs cs l1 l2 k1 k2 =>
  have hG : ∀ (args : Array Value) (w : World), (callFunc g args).run Tryz.prog w = .ok (.enter g args) w := by
    intro args w
    unfold enters at hen
    cases hfn : (Tryz.prog).funcs[g]? with
    | none => rw [hfn] at hen; cases hen
    | some fn =>
      rw [hfn] at hen
      simp only [Bool.and_eq_true] at hen
      have hn : (fn.name == "runtime.NumGoroutine") = false := by have := hen.1; simpa [bne] using this
      have hb : fn.body.isNone = false := by cases hbb : fn.body <;> simp_all
      simp only [callFunc, Sem.run_bind, run_program, Result.andThen_ok, hfn, hn, hb, Bool.false_eq_true, if_false, Sem.run_pure]
  have hmf : ∀ (fn : Fn) (first cap : Array Value) (w : World), (Instr.makeFunc fn first cap).run Tryz.prog w = .ok (.func fn first cap) w := fun _ _ _ _ => rfl
  have HC := Lib.hid (hc M (w.alloc (.cells #[.int .i64 0] 31)) (fs ++ cs) hg (r.alloc _) (RVs.append ⟨l1, k1⟩ ⟨l2, k2⟩))
  have HR := Lib.hid r
  clear hc hg r hvs hvs1 hvs2 h1 k1 k2 l1 l2 hen
  go_enter_defers Tryz.func84, Tryz.ntmps84
  go_wp2_with fail
  refine HC.out.mono ?_
  rintro e w2 ⟨M2, x, H', nx', h3, r2, f2, hq⟩
  have hE := (own_after HR.out r2 f2 (fun _ _ _ => rfl) (Nat.le_refl _) rfl rfl rfl).2.2
  have hlt : w.heap.size < w2.heap.size := (Array.getElem?_eq_some_iff.mp hE).1
  have hcell : w2.cell? ⟨w.heap.size, 0, none⟩ = some (.int .i64 0) := by simp [World.cell?, hE]
  have hfro : w2.frozen? ⟨w.heap.size, 0, none⟩ = false := by simp [World.frozen?, hE]
  have HF := Lib.hid f2
  have HR2 := Lib.hid r2
  have HQ := Lib.hid hq
  have HE := Lib.hid hE
  clear f2 r2 hq hE HC
  have fin : ∀ (v : Int), w2.heap.size ≤ (((w2.setCell ⟨w.heap.size, 0, none⟩ (.int .i64 v)).alloc (.cells #[.int .i64 v] 182))).heap.size ∧ ∀ (o : Obj) x, x < w2.heap.size → x ≠ w.heap.size → (((w2.setCell ⟨w.heap.size, 0, none⟩ (.int .i64 v)).alloc o)).heap[x]? = w2.heap[x]? := by
    intro v
    refine ⟨by simp, fun o x hx hne => ?_⟩
    rw [Below.heap_alloc _ _ _ (by simp; omega), Below.heap_setCell _ _ _ _ hne]
  cases x with
  | ret c' =>
    cases e <;> simp only [EndR] at h3
    go_wp2_with fail
    refine leaves_cons (f := 121) (args := #[.pointer (some ⟨w.heap.size, 0, none⟩)]) (by simp) (by simp [go_sem]) ?_
    refine (run_idle w.heap.size _).mono ?_
    rintro e u' w5 ⟨rfl, rfl, rfl⟩
    simp only [Leaves, settle]
    refine ⟨.int .i64 0, ?_, ?_⟩
    · simp [results, Tryz.results84, go_sem, hcell, hlt]
    · have ha := own_after (w4 := (w2.setCell ⟨w.heap.size, 0, none⟩ (.int .i64 0)).alloc (.cells #[.int .i64 0] 182)) HR.out HR2.out HF.out ((fin 0).2 _) (fin 0).1 rfl rfl rfl
      exact ⟨M2, .ret (.int .i64 0), H', nx', .int _ _, ha.1, ha.2.1, HQ.out⟩
  | pan c' =>
    cases e <;> simp only [EndR] at h3
    obtain ⟨v, rfl, hv⟩ := h3
    obtain ⟨er, rfl, hq⟩ := HQ.out
    cases hv with
    | iface _ _ v hv => cases hv with
      | agg _ us hl hr =>
        obtain ⟨u, us', rfl, hu, hu'⟩ := RVs.cons_inv (M := M2) (cs := []) ⟨hl, hr⟩
        have := hu'.nil_inv; subst this
        cases hu
        refine leaves_cons (f := 121) (args := #[.pointer (some ⟨w.heap.size, 0, none⟩)]) (by simp) (by simp [go_sem]) ?_
        refine (run_catch w.heap.size er _ w2 hcell hfro).mono ?_
        rintro e u' w5 ⟨rfl, rfl, rfl⟩
        simp only [Leaves, settle, List.dropWhile_nil]
        refine ⟨.int .i64 er, ?_, ?_⟩
        · simp [results, Tryz.results84, go_sem, hcell, hlt]
        · have ha := own_after (w4 := (w2.setCell ⟨w.heap.size, 0, none⟩ (.int .i64 er)).alloc (.cells #[.int .i64 er] 182)) HR.out HR2.out HF.out ((fin er).2 _) (fin er).1 rfl rfl rfl
          exact ⟨M2, .ret (.int .i64 er), H', nx', .int _ _, ha.1, ha.2.1, hq⟩
end Go.Proofs.YtdjllogimomgmaaGreatDoor
