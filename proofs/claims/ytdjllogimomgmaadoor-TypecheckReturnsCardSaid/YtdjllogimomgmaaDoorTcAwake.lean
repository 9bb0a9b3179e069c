/-
  law11's closed example, run by the closed executor.
-/
import Derived.Test.YtdjllogimomgmaaDoorTcRun
import Derived.Test.YtdjllogimomgmaaDoorAx16
import Derived.Test.YtdjllogimomgmaaDoorTree
import Derived.Test.YtdjllogimomgmaaDoorRows
import Derived.LaidMore
import Derived.OpenShut
import Derived.Stop.Joined
import Derived.LaidLaws
set_option linter.unusedVariables false
namespace Go.Proofs.YtdjllogimomgmaaDoor
open Ax Tx Go.RowKit
open Go.ChangeShapes Go.WideShapes Go.ChangeAt
def kwList : List Bs := [[99, 108, 97, 115, 115], [101, 120, 116, 101, 110, 100, 115], [118, 97, 114], [100, 101, 102], [115, 116, 97, 116, 105, 99], [105, 102], [101, 108, 115, 101], [119, 104, 105, 108, 101], [116, 114, 121], [99, 97, 116, 99, 104], [116, 104, 114, 111, 119], [114, 101, 116, 117, 114, 110], [110, 101, 119], [110, 117, 108, 108], [116, 104, 105, 115], [105, 110, 112, 117, 116], [105, 110, 116]]
/-- The package-level variables. -/
def tcG : Nat → CV := fun g => match Nat.beq g 0 with
  | true => .rop (kwList.map .str)
  | false => .any
theorem laid_entry {P : Program} {W : World} {l : List (String × DataW Unit)} : ∀ {ps : List MemPlace}, DataW.LaidVars P W l ps → ∀ {n : String} {d : DataW Unit}, (n, d) ∈ l →
    ∃ g t cs fuel p, P.globalNamed n = some g ∧ (P.globals[g]?).map (·.type) = some t ∧ W.var? P n = some cs ∧ DataW.trod (fun _ => ()) P W 0 (fun _ => true) false fuel t cs.toList = some (d, p) := by
  induction l with
  | nil => intro ps _ n d hm; cases hm
  | cons x r ih =>
    intro ps h n d hm
    obtain ⟨n0, d0⟩ := x
    obtain ⟨g, t, cs, fuel, p, q, hg, ht, hv, hd, hr, _⟩ := h
    cases hm with
    | head => exact ⟨g, t, cs, fuel, p, hg, ht, hv, hd⟩
    | tail _ hm => exact ih hr hm
theorem heap_of_var {P : Program} {W : World} {n : String} {g : Nat} {cs : Array Value} (hg : P.globalNamed n = some g) (h : W.var? P n = some cs) : ∃ t fr, W.heap[g]? = some (.cells cs t fr) := by
  simp only [World.var?, hg, Option.bind_some] at h
  split at h
  · rename_i c t fr hh
    cases h
    exact ⟨t, fr, hh⟩
  · cases h
theorem strings_of_array {P : Program} {W : World} {t e : TypeId} {n fuel : Nat} {cs : List Value} {ss : List Bs} {p : List MemPlace} (ht : P.underlying t = some (.array n e)) (he : P.underlying e = some .string) (hce : P.cellsOf e = 1) (hct : P.cellsOf t = n)
    (h : DataW.trod (fun _ => ()) P W 0 (fun _ => true) false fuel t cs = some (.agg (ss.map fun l => .lit (.string l)), p)) (M : Mp) : RVs M (ss.map .str) cs := by
  obtain ⟨xs, m, _, hx, hl, hxl, hf⟩ := DataW.trod_array ht h
  simp only [Prod.mk.injEq, DataW.agg.injEq] at hx
  have hss : ss.length = n := by have := congrArg List.length hx.1; simpa [hxl] using this
  refine ⟨by rw [hl, hct]; simp [hss], fun i a b => ?_⟩
  have hi : i < n := by simp at a; omega
  have h1 := hf i hi
  have hxi : xs[i]? = some (xs[i]'(by omega)) := List.getElem?_eq_getElem (by omega)
  rw [hxi, hce, Nat.mul_one] at h1
  obtain ⟨s, hs1, hs2, _⟩ := DataW.trod_string he h1
  have hc : cs[i]? = some (.string s) := by
    have : (cs.drop i)[0]? = ((cs.drop i).take 1)[0]? := by simp
    rw [hs1] at this
    simpa using this
  have he2 := congrArg (fun l => l[i]?) hx.1
  simp only [List.getElem?_map, hxi, Option.map_some, hs2] at he2
  rw [List.getElem?_eq_getElem (show i < ss.length by omega)] at he2
  simp only [Option.map_some, Option.some.injEq, DataW.lit.injEq, Lit.string.injEq] at he2
  have hci : cs[i] = .string s := (List.getElem?_eq_some_iff.mp hc).2
  rw [hci, List.getElem_map]
  exact .str _ _ he2.symm
theorem tcG_ok {W : World} {l : List (String × DataW Unit)} (h : laidMet Tryd.prog l W) (h1 : ("dataflow/lex.keywords", Rows.laid_dataflow_lex_keywords) ∈ l) : RG tcG (snap W) := by
  obtain ⟨ps, hv, _, _⟩ := h
  intro g
  unfold tcG
  split
  · rename_i hb
    have hg := beq_eq hb
    subst hg
    obtain ⟨g0, t0, cs0, f0, p0, hg0, ht0, hv0, hd0⟩ := laid_entry hv h1
    obtain rfl := Option.some.inj ((show Tryd.prog.globalNamed "dataflow/lex.keywords" = some 0 by kernel_rfl).symm.trans hg0)
    obtain rfl := Option.some.inj ((show (Tryd.prog.globals[0]?).map (·.type) = some 110 by kernel_rfl).symm.trans ht0)
    obtain ⟨t, fr, hh⟩ := heap_of_var hg0 hv0
    have hr := strings_of_array (ss := kwList) Tryd.underlying110 Tryd.underlying9 (by kernel_rfl) (by kernel_rfl) hd0 (snap W)
    have hl : cs0.size = (kwList.map CV.str).length := by have := hr.1; simpa using this
    refine .rop _ _ 0 cs0 t fr hh (by omega) (fun j a b => ?_)
    have := hr.2 j a (by simpa using (by omega : j < cs0.size))
    simpa using this
  · exact .any _
/-- Functions with a meaning of their own: run. -/
noncomputable def tcSp (call : Call1) : Call1 := fun f args h nx => match Nat.beq f 27 with
  | true => match args with
    | [_, .fn (.func g) a b] => match enters Tryd.prog g with
      | true => match call g (a ++ b) h nx with
        | some (.ret _, h', nx') => some (.ret (.int .i64 0), h', nx')
        | some (.pan (.iface t (.agg [.int .i64 n])), h', nx') => match Nat.beq t 99 with
          | true => some (.ret (.int .i64 n), h', nx')
          | false => none
        | _ => none
      | false => none
    | _ => none
  | false => none
theorem tcSp_ok {call : Call1} (hc : CallOk Tryd.prog tcG call) : CallOk Tryd.prog tcG (tcSp call) := by
  intro f args h nx r h' nx' hr
  unfold tcSp at hr
  split at hr
  case h_2 => cases hr
  rename_i hf
  have hf' := beq_eq hf
  subst hf'
  split at hr
  case h_2 => cases hr
  rename_i c g a b
  split at hr
  case h_2 => cases hr
  rename_i hen
  split at hr
  · rename_i v h1 nx1 hcl
    cases hr
    refine tc_run hen ((hc _ _ _ _ _ _ _ hcl).mono ?_)
    rintro r1 H1 n1 ⟨rfl, rfl, rfl⟩
    exact ⟨rfl, rfl, rfl⟩
  · rename_i t n h1 nx1 hcl
    split at hr
    case h_2 => cases hr
    rename_i ht
    have ht' := beq_eq ht
    subst ht'
    cases hr
    refine tc_run hen ((hc _ _ _ _ _ _ _ hcl).mono ?_)
    rintro r1 H1 n1 ⟨rfl, rfl, rfl⟩
    exact ⟨n, rfl, rfl, rfl, rfl⟩
  · cases hr
set_option maxRecDepth 1000000 in
theorem awake_run : yes (runF Tryd.prog tcG tcSp 1000 60 7 [] .lf 0) = true := by kernel_rfl
theorem tcG_pu (g : Nat) : puV (tcG g) = true := by
  unfold tcG
  split <;> rfl
theorem awake_ok : FCall Tryd.prog tcG 7 [] (fun r => r = .ret (.bool true)) :=
  FCall.closed (runF_sound (P := Tryd.prog) (G := tcG) (lf := 1000) (fun c hc => tcSp_ok hc) 60) tcG_pu awake_run
end Go.Proofs.YtdjllogimomgmaaDoor
