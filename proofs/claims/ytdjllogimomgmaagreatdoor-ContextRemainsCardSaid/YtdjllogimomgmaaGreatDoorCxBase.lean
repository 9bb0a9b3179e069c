/-
  law22's closed example: the variables, the special functions.
-/
import Derived.Test.YtdjllogimomgmaaGreatDoorReadOk
import Derived.Test.YtdjllogimomgmaaGreatDoorJaD
import Derived.Test.YtdjllogimomgmaaGreatDoorJuA
import Derived.Test.YtdjllogimomgmaaGreatDoorRows
import Derived.LaidMore
import Derived.OpenShut
import Derived.Stop.Joined
import Derived.LaidLaws
set_option linter.unusedVariables false
namespace Go.Proofs.YtdjllogimomgmaaGreatDoor
open Ax Tx Go.RowKit
open Go.ChangeShapes Go.WideShapes Go.ChangeAt
def kwList : List Bs := [[99, 108, 97, 115, 115], [101, 120, 116, 101, 110, 100, 115], [118, 97, 114], [100, 101, 102], [115, 116, 97, 116, 105, 99], [105, 102], [101, 108, 115, 101], [119, 104, 105, 108, 101], [116, 114, 121], [99, 97, 116, 99, 104], [116, 104, 114, 111, 119], [114, 101, 116, 117, 114, 110], [110, 101, 119], [110, 117, 108, 108], [116, 104, 105, 115], [105, 110, 112, 117, 116], [105, 110, 116]]
def mkList : List Bs := [[58, 58], [61, 61], [58], [123], [125], [40], [41], [59], [44], [46], [61], [60], [43], [45], [42]]
/-- The package-level variables. -/
def cxG : Nat → CV := fun g => match Nat.beq g 0 with
  | true => .rop (kwList.map .str)
  | false => match Nat.beq g 1 with
    | true => .rop (mkList.map .str)
    | false => .any
theorem laid_entry {P : Program} {W : World} {l : List (String × DataW Unit)} : ∀ {ps : List MemPlace}, DataW.LaidVars P W l ps → ∀ {n : String} {d : DataW Unit}, (n, d) ∈ l →
    ∃ g t cs fuel p, P.globalNamed n = some g ∧ (P.globals[g]?).map (·.type) = some t ∧ W.var? P n = some cs ∧ DataW.trod (fun _ => ()) P W 0 (fun _ => true) false fuel t cs.toList = some (d, p) := by
  induction l with
  | nil => intro ps _ n d hm; cases hm
  | cons x r ih =>
    intro ps h n d hm
    obtain ⟨n0, d0⟩ := x
    obtain ⟨g, t, cs, fuel, p, q, hg, ht, hv, hd, hr, _⟩ := h
    cases hm with
    | head => exact ⟨g, t, cs, fuel, p, hg, ht, hv, hd⟩
    | tail _ hm => exact ih hr hm
theorem heap_of_var {P : Program} {W : World} {n : String} {g : Nat} {cs : Array Value} (hg : P.globalNamed n = some g) (h : W.var? P n = some cs) : ∃ t fr, W.heap[g]? = some (.cells cs t fr) := by
  simp only [World.var?, hg, Option.bind_some] at h
  split at h
  · rename_i c t fr hh
    cases h
    exact ⟨t, fr, hh⟩
  · cases h
theorem strings_of_array {P : Program} {W : World} {t e : TypeId} {n fuel : Nat} {cs : List Value} {ss : List Bs} {p : List MemPlace} (ht : P.underlying t = some (.array n e)) (he : P.underlying e = some .string) (hce : P.cellsOf e = 1) (hct : P.cellsOf t = n)
    (h : DataW.trod (fun _ => ()) P W 0 (fun _ => true) false fuel t cs = some (.agg (ss.map fun l => .lit (.string l)), p)) (M : Mp) : RVs M (ss.map .str) cs := by
  obtain ⟨xs, m, _, hx, hl, hxl, hf⟩ := DataW.trod_array ht h
  simp only [Prod.mk.injEq, DataW.agg.injEq] at hx
  have hss : ss.length = n := by have := congrArg List.length hx.1; simpa [hxl] using this
  refine ⟨by rw [hl, hct]; simp [hss], fun i a b => ?_⟩
  have hi : i < n := by simp at a; omega
  have h1 := hf i hi
  have hxi : xs[i]? = some (xs[i]'(by omega)) := List.getElem?_eq_getElem (by omega)
  rw [hxi, hce, Nat.mul_one] at h1
  obtain ⟨s, hs1, hs2, _⟩ := DataW.trod_string he h1
  have hc : cs[i]? = some (.string s) := by
    have : (cs.drop i)[0]? = ((cs.drop i).take 1)[0]? := by simp
    rw [hs1] at this
    simpa using this
  have he2 := congrArg (fun l => l[i]?) hx.1
  simp only [List.getElem?_map, hxi, Option.map_some, hs2] at he2
  rw [List.getElem?_eq_getElem (show i < ss.length by omega)] at he2
  simp only [Option.map_some, Option.some.injEq, DataW.lit.injEq, Lit.string.injEq] at he2
  have hci : cs[i] = .string s := (List.getElem?_eq_some_iff.mp hc).2
  rw [hci, List.getElem_map]
  exact .str _ _ he2.symm
theorem rop_of_array {W : World} {l : List (String × DataW Unit)} {ps : List MemPlace} {nm : String} {ss : List Bs} {g : Nat} {t n : Nat} (hv : DataW.LaidVars Tryz.prog W l ps) (h1 : (nm, .agg (ss.map fun l => .lit (.string l))) ∈ l)
    (hg : Tryz.prog.globalNamed nm = some g) (ht : (Tryz.prog.globals[g]?).map (·.type) = some t) (hu : Tryz.prog.underlying t = some (.array n 9)) (hct : Tryz.prog.cellsOf t = n) : RV (snap W) (.rop (ss.map .str)) (.pointer (some ⟨g, 0, none⟩)) := by
  obtain ⟨g0, t0, cs0, f0, p0, hg0, ht0, hv0, hd0⟩ := laid_entry hv h1
  obtain rfl := Option.some.inj (hg.symm.trans hg0)
  obtain rfl := Option.some.inj (ht.symm.trans ht0)
  obtain ⟨t, fr, hh⟩ := heap_of_var hg0 hv0
  have hr := strings_of_array (ss := ss) hu Tryz.underlying9 (by kernel_rfl) hct hd0 (snap W)
  have hl : cs0.size = (ss.map CV.str).length := by have := hr.1; simpa using this
  refine .rop _ _ 0 cs0 t fr hh (by omega) (fun j a b => ?_)
  have := hr.2 j a (by simpa using (by omega : j < cs0.size))
  simpa using this
theorem cxG_ok {W : World} {l : List (String × DataW Unit)} (h : laidMet Tryz.prog l W) (h1 : ("dataflow/lex.keywords", Rows.laid_dataflow_lex_keywords) ∈ l) (h2 : ("dataflow/lex.marks", Rows.laid_dataflow_lex_marks) ∈ l) : RG cxG (snap W) := by
  obtain ⟨ps, hv, _, _⟩ := h
  intro g
  unfold cxG
  split
  · rename_i hb
    have hg := beq_eq hb
    subst hg
    exact rop_of_array (t := 204) (n := 17) hv h1 (by kernel_rfl) (by kernel_rfl) Tryz.underlying204 (by kernel_rfl)
  · split
    · rename_i hb
      have hg := beq_eq hb
      subst hg
      exact rop_of_array (t := 231) (n := 15) hv h2 (by kernel_rfl) (by kernel_rfl) Tryz.underlying231 (by kernel_rfl)
    · exact .any _
def isSl : CV → Bool
  | .sl _ _ _ _ => true
  | .lst _ => true
  | _ => false
theorem isSl_spec {c : CV} (h : isSl c = true) : (∃ b o n k, c = .sl b o n k) ∨ ∃ rows, c = .lst rows := by
  unfold isSl at h
  split at h
  · exact .inl ⟨_, _, _, _, rfl⟩
  · exact .inr ⟨_, rfl⟩
  · cases h
noncomputable def readS (call : Call1) (s : List UInt8) (g : FuncId) (b : List CV) (h : Tr CB) (nx : Nat) : Option (Res × Tr CB × Nat) :=
  match call 101 [.str s] h nx with
  | some (.ret (.tup [tok, .int .i64 0, .int .i64 0]), h1, nx1) =>
    (match isSl tok with
    | true => (match (putK 20 h1 nx1 (some (.cells [tok, .int .i64 0])) fun h1 => fN (nx1 + 1) fun nx2 => call g ([] ++ [.ptr nx1 0] ++ b) h1 nx2) with
      | some (.ret _, h2, nx2) => (match call 103 [.ptr nx1 0] h2 nx2 with
        | some (.ret (.agg [.int .i64 5, _, _, _]), h3, nx3) => some (.ret (.tup [.int .i64 0, .int .i64 0]), h3, nx3)
        | _ => none)
      | _ => none)
    | false => none)
  | _ => none
/-- Functions with a meaning of their own: typecheck's run and parse's read. -/
noncomputable def cxSp (call : Call1) : Call1 := fun f args h nx => match Nat.beq f 84 with
  | true => match args with
    | [_, .fn (.func g) a b] => match enters Tryz.prog g with
      | true => match call g (a ++ b) h nx with
        | some (.ret _, h', nx') => some (.ret (.int .i64 0), h', nx')
        | some (.pan (.iface t (.agg [.int .i64 n])), h', nx') => match Nat.beq t 182 with
          | true => some (.ret (.int .i64 n), h', nx')
          | false => none
        | _ => none
      | false => none
    | _ => none
  | false => match Nat.beq f 70 with
    | true => match args with
      | [.str s, .fn (.func g) [] b] => match enters Tryz.prog g with
        | true => readS call s g b h nx
        | false => none
      | _ => none
    | false => none
theorem cxSp_ok {call : Call1} (hc : CallOk Tryz.prog cxG call) : CallOk Tryz.prog cxG (cxSp call) := by
  intro f args h nx r h' nx' hr
  unfold cxSp at hr
  split at hr
  · rename_i hf
    have hf' := beq_eq hf
    subst hf'
    split at hr
    case h_2 => cases hr
    rename_i c g a b
    split at hr
    case h_2 => cases hr
    rename_i hen
    split at hr
    · rename_i v h1 nx1 hcl
      cases hr
      refine tc_run hen ((hc _ _ _ _ _ _ _ hcl).mono ?_)
      rintro r1 H1 n1 ⟨rfl, rfl, rfl⟩
      exact ⟨rfl, rfl, rfl⟩
    · rename_i t n h1 nx1 hcl
      split at hr
      case h_2 => cases hr
      rename_i ht
      have ht' := beq_eq ht
      subst ht'
      cases hr
      refine tc_run hen ((hc _ _ _ _ _ _ _ hcl).mono ?_)
      rintro r1 H1 n1 ⟨rfl, rfl, rfl⟩
      exact ⟨n, rfl, rfl, rfl, rfl⟩
    · cases hr
  · split at hr
    case h_2 => cases hr
    rename_i hf
    have hf' := beq_eq hf
    subst hf'
    split at hr
    case h_2 => cases hr
    rename_i s g b
    split at hr
    case h_2 => cases hr
    rename_i hen
    unfold readS at hr
    split at hr
    case h_2 => cases hr
    rename_i tok h1 nx1 hc1
    split at hr
    case h_2 => cases hr
    rename_i hsl
    simp only [putK_eq, fN_eq] at hr
    split at hr
    case h_2 => cases hr
    rename_i v2 h2 nx2 hc2
    split at hr
    case h_2 => cases hr
    rename_i x y z h3 nx3 hc3
    cases hr
    refine read_ok hen ((hc _ _ _ _ _ _ _ hc1).mono ?_)
    rintro r1 H1 n1 ⟨rfl, rfl, rfl⟩
    refine ⟨tok, isSl_spec hsl, rfl, ?_⟩
    refine ACall.weak (hv_put _ _ _) ((hc _ _ _ _ _ _ _ hc2).mono ?_)
    rintro r2 H2 n2 ⟨rfl, rfl, rfl⟩
    refine ⟨⟨_, rfl⟩, (hc _ _ _ _ _ _ _ hc3).mono ?_⟩
    rintro r3 H3 n3 ⟨rfl, rfl, rfl⟩
    exact ⟨⟨_, _, _, rfl⟩, rfl, rfl, rfl⟩
theorem cxG_pu (g : Nat) : puV (cxG g) = true := by
  unfold cxG
  split
  · rfl
  · split <;> rfl
end Go.Proofs.YtdjllogimomgmaaGreatDoor
