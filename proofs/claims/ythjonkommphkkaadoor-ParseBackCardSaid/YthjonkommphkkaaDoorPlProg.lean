/-
  ref08.plainClass and PlainProgram walked.
-/
import Derived.Test.YthjonkommphkkaaDoorJpBk
set_option linter.unusedSectionVars false
set_option linter.unusedSimpArgs false
set_option linter.unnecessarySimpa false
set_option linter.unusedVariables false
set_option linter.unusedSimpArgs false
set_option linter.unusedVariables false
namespace Go.Proofs.YthjonkommphkkaaDoor
open Lx Ax Go.RowKit
attribute [local simp] stepS Ax.stepT Dl.on qstep astep estep rd putE over argE ofV ofS loadA pickCells isAggD faddA fieldA partA iaddA idxA bnd binA intA strA unA convA lenA mapOf lookA findK keyD scalD storeA mupA srcA srcD upd drp Dl.hp Dl.nx CV.cs CV.one buildA placesA fillA zrep tasA ifaceD eqA eqFs eqIs range2 copyA nbeq nble nblt decEq beqI bneI beqS bneS isED Int.ofNat_inj List.getElem?_map List.getElem?_eq_getElem Option.map_some ti_int ti_i64 ti_str ti_bool ti_Exs ti_Ex ti_St ti_Sts ti_Fld ti_Flds ti_Me ti_Mes ti_Cl ti_Cls ti_So ti_Strs gd gdB callA resA op1
attribute [local simp] one1 cvE_eq cvS_eq exk exn exo exm exks drR drp nu1 nu2 nu3 nu4 nu5 nu6 nu7 nu8 nu9 nu10 nu11 nu12 nu13 bl_len cvC cvM cvF
attribute [local simp] sl1 wr1 Lx.St.p0 Lx.St.p1 Lx.St.p2 Lx.St.p3 Lx.St.p4 Lx.St.p5
theorem flat_len {α : Type} {F : α → Bytes} {B : Nat} : ∀ {l : List α}, (∀ x ∈ l, (F x).length ≤ B) → (l.flatMap F).length ≤ B * l.length
  | [], _ => by simp
  | x :: l, h => by
    have h1 := h x List.mem_cons_self
    have h2 := flat_len fun y hy => h y (List.mem_cons_of_mem _ hy)
    rw [List.flatMap_cons, List.length_append, List.length_cons, Nat.mul_add]; omega
def parRest (l : List Fld) (i : Nat) : Bytes := if i = 0 then parText l else (l.drop i).flatMap fun f => [44, 32] ++ fldText f
theorem parRest_step {l : List Fld} {i : Nat} (h : i < l.length) : parRest l i = (if i = 0 then [] else [44, 32]) ++ fldText l[i] ++ parRest l (i + 1) := by
  unfold parRest
  rw [if_neg (by omega : ¬ i + 1 = 0)]
  split
  · rename_i h0
    subst h0
    cases l with
    | nil => simp at h
    | cons e l => rw [parText_eq]; simp
  · rw [dropAt h, List.flatMap_cons]
    try simp
theorem parRest_end {l : List Fld} {i : Nat} (h : ¬ i < l.length) : parRest l i = [] := by
  unfold parRest
  split
  · rename_i h0
    subst h0
    cases l with
    | nil => rfl
    | cons e l => simp at h
  · rw [List.drop_eq_nil_of_le (by omega)]; rfl
def fldLine (f : Fld) : Bytes := [118, 97, 114, 32] ++ fldText f ++ [59, 32]
/-- What is asked of the sizes of a class. -/
structure ClSz (c : Cl) : Prop where
  wf : WfC c
  fields : c.fields.length ≤ 100
  methods : c.methods.length ≤ 100
  body : ∀ m ∈ c.methods, stsSz m.body ≤ 1000000
  params : ∀ m ∈ c.methods, m.params.length ≤ 1000000
theorem ClSz.len {c : Cl} (h : ClSz c) : (plC c).length ≤ 100000000000 := by
  have h1 := ident_len h.wf.name
  have h2 : c.super.length ≤ 32 := by rcases h.wf.super with h | h; rw [h]; simp; exact ident_len h
  have h3 := flat_len (F := fun f => [118, 97, 114, 32] ++ fldText f ++ [59, 32]) (B := 80) (l := c.fields) fun f hf => by
    have := ident_len (h.wf.fields f hf).1
    have := typ_len (h.wf.fields f hf).2
    simp [fldText]; omega
  have h4 := flat_len (F := plM) (B := 270000100) (l := c.methods) fun m hm => by
    have := plM_len (h.wf.methods m hm)
    have := h.body m hm
    have := h.params m hm
    omega
  have h5 : 80 * c.fields.length ≤ 8000 := by have := h.fields; omega
  have h6 : 270000100 * c.methods.length ≤ 27000010000 := by have := h.methods; omega
  unfold plC
  simp only [List.length_append, List.length_cons, List.length_nil]
  split
  · simp only [List.length_nil]; omega
  · simp only [List.length_append, List.length_cons, List.length_nil]; omega
set_option maxRecDepth 10000 in
set_option maxHeartbeats 32000000 in
theorem pl_class (c : Cl) (hc : ClSz c) : FCall1 Tryd.prog paG 22 [.agg (cvC c)] (.str (plC c)) := by
  refine FCall.one paG_pu (by simp only [puL, puV, puC]; rfl) rfl ?_
  refine FCall.ofBody Tryd.func22 rfl rfl fun nx => ?_
  have hT := hc.len
  have n1 := ident_len hc.wf.name
  have n2 : c.super.length ≤ 32 := by rcases hc.wf.super with h | h; rw [h]; simp; exact ident_len h
  have nf := hc.fields
  have nm := hc.methods
  obtain ⟨T, hTT⟩ : ∃ T, T = plC c := ⟨_, rfl⟩
  rw [← hTT] at hT ⊢
  obtain ⟨A, hA⟩ : ∃ A, A = [99, 108, 97, 115, 115, 32] ++ c.name ++ (if c.super = [] then [] else [32, 101, 120, 116, 101, 110, 100, 115, 32] ++ c.super) ++ [32, 123, 32] := ⟨_, rfl⟩
  obtain ⟨R1, hR1⟩ : ∃ R1, R1 = A ++ c.fields.flatMap fldLine := ⟨_, rfl⟩
  obtain ⟨R2, hR2⟩ : ∃ R2, R2 = R1 ++ c.methods.flatMap plM := ⟨_, rfl⟩
  have hT2 : T = R2 ++ [125, 10] := by rw [hTT, hR2, hR1, hA]; rfl
  have hl2 : R2.length ≤ 100000000000 := by rw [hT2] at hT; simp at hT; omega
  have hl1 : R1.length ≤ 100000000000 := by have : R1.length ≤ R2.length := by rw [hR2]; simp
                                            omega
  rw [hT2]
  have a1 : (c.super == []) = true → A = [99, 108, 97, 115, 115, 32] ++ c.name ++ [32, 123, 32] := fun h => by rw [hA, if_pos (by simpa using h)]; simp
  have a2 : (c.super == []) = false → A = [99, 108, 97, 115, 115, 32] ++ c.name ++ ([32, 101, 120, 116, 101, 110, 100, 115, 32] ++ c.super) ++ [32, 123, 32] := fun h => by rw [hA, if_neg (by simpa using h)]
  have hb : (c.super == []) = true ∨ (c.super == []) = false := by cases (c.super == []) <;> simp
  have wfF := hc.wf.fields
  have wfM := hc.wf.methods
  have szB := hc.body
  have szP := hc.params
  clear hT hTT hT2 hA hc
  rcases hb with hs | hs
  all_goals
    first | have hA := a1 hs | have hA := a2 hs
    clear a1 a2
    refine gV ?_
    refine AWp.countO c.fields.length [3, 4] 8 (fun i v H nx1 => ∃ out : Bytes, v 3 = .str out ∧ v 4 = .int .i64 i ∧ H nx = some (.cells (cvC c)) ∧ R1 = out ++ (c.fields.drop i).flatMap fldLine) ⟨A, by rw [hA]; simp [putE, over], by simp [putE, over], by simp [upd], hR1⟩ ?_
    clear hR1 hA hs
    rintro i v H nx1 hi hn1 ⟨out, h3, h4, hH, hR⟩
    have hol : out.length ≤ 100000000000 := by have : out.length ≤ R1.length := by rw [hR]; simp
                                               omega
    by_cases hb2 : i < c.fields.length
    · have hwi := up1 hb2 (by omega)
      rw [dropAt hb2, List.flatMap_cons] at hR
      have g1 := ident_len (wfF _ (List.getElem_mem hb2)).1
      have g2 := typ_len (wfF _ (List.getElem_mem hb2)).2
      clear hn1 wfF wfM szB szP
      refine gV ?_
      exact ⟨by ((repeat (first | exact Keeps.base _ _ _ _ | (with_reducible exact Keeps.refl _ _ _) | (refine Keeps.put rfl ?_) | (refine Keeps.over' rfl rfl ?_)))), hb2, out ++ fldLine c.fields[i], by simp [putE, over, fldLine, fldText], by simp [putE, over], hH, by rw [hR]; simp⟩
    · rw [dropEnd hi hb2, List.flatMap_nil, List.append_nil] at hR
      obtain rfl : R1 = out := hR
      clear wfF
      refine gV ?_
      refine AWp.countO c.methods.length [3, 5, 6, 7] 8 (fun i v H nx1 => ∃ out : Bytes, v 3 = .str out ∧ v 5 = .int .i64 i ∧ H nx = some (.cells (cvC c)) ∧ R2 = out ++ (c.methods.drop i).flatMap plM) ⟨R1, by simp [putE, over, h3], by simp [putE, over], hH, hR2⟩ ?_
      clear hR2 h3 h4 hH
      rintro k v2 H2 nx2 hk hn2 ⟨out2, h3, h5, hH2, hR⟩
      have hol2 : out2.length ≤ 100000000000 := by have : out2.length ≤ R2.length := by rw [hR]; simp
                                                   omega
      by_cases hb3 : k < c.methods.length
      · have hwk := up1 hb3 (by omega)
        rw [dropAt hb3, List.flatMap_cons] at hR
        have hwm := wfM _ (List.getElem_mem hb3)
        have hsb := szB _ (List.getElem_mem hb3)
        have hsp := szP _ (List.getElem_mem hb3)
        have q2 := far (show nx < nx2 by omega)
        obtain ⟨m, hm⟩ : ∃ m, m = c.methods[k] := ⟨_, rfl⟩
        rw [← hm] at hwm hsb hsp hR
        obtain ⟨n, st, ps, r, b⟩ := m
        replace hm := hm.symm
        simp only at hsb hsp
        have hst := pl_stmts _ b (Nat.le_refl _) hsb hwm.body
        have hlb := plB_len hwm.body
        have hlp := parText_len hwm.params
        have g1 := ident_len hwm.name
        have g2 : r.length ≤ 32 := by rcases hwm.result with h | h; (simp only at h; rw [h]; simp); exact typ_len h
        have wfP := hwm.params
        simp only at hlb hlp g1 wfP
        clear wfM szB szP hn1 hn2 hwm
        have ha : (r == []) = true ∨ (r == []) = false := by cases (r == []) <;> simp
        obtain ⟨R3, hR3⟩ : ∃ R3, R3 = out2 ++ (if st then [115, 116, 97, 116, 105, 99, 32] else []) ++ [100, 101, 102, 32] ++ n ++ [40] ++ parText ps := ⟨_, rfl⟩
        have hl3 : R3.length ≤ 200000000000 := by rw [hR3]; cases st <;> simp <;> omega
        have hpm : out2 ++ plM ⟨n, st, ps, r, b⟩ = R3 ++ [41, 32] ++ (if r = [] then [] else [58, 32] ++ r ++ [32]) ++ plB b := by rw [hR3]; simp [plM]
        rw [← List.append_assoc, hpm] at hR
        clear hpm hlp
        cases st
        all_goals
          refine gV ?_
          refine AWp.countO ps.length [3, 7] 8 (fun j v3 H3 nx3 => ∃ out3 : Bytes, v3 3 = .str out3 ∧ v3 7 = .int .i64 j ∧ H3 nx = some (.cells (cvC c)) ∧ H3 nx2 = some (.cells (cvM ⟨n, _, ps, r, b⟩)) ∧ R3 = out3 ++ parRest ps j) ⟨_, by first | rfl | (simp [putE, over]; rfl), by simp [putE, over], by simp [upd, *], by simp [upd]; rfl, by rw [hR3]; simp [parRest]⟩ ?_
          clear hR3 h3 hH2
          rintro j v3 H3 nx3 hj hn3 ⟨out3, h3, h7, hH3, hH4, hR3⟩
          have hol3 : out3.length ≤ 200000000000 := by have : out3.length ≤ R3.length := by rw [hR3]; simp
                                                       omega
          by_cases hb4 : j < ps.length
          · have hwj := up1 hb4 (by omega)
            rw [parRest_step hb4] at hR3
            have g3 := ident_len (wfP _ (List.getElem_mem hb4)).1
            have g4 := typ_len (wfP _ (List.getElem_mem hb4)).2
            clear hn3 hst wfP
            by_cases h0 : j = 0
            · subst h0
              rw [if_pos rfl] at hR3
              refine gV ?_
              exact ⟨by ((repeat (first | exact Keeps.base _ _ _ _ | (with_reducible exact Keeps.refl _ _ _) | (refine Keeps.put rfl ?_) | (refine Keeps.over' rfl rfl ?_)))), hb4, out3 ++ fldText ps[0], by simp [putE, over, fldText], by simp [putE, over], hH3, hH4, by rw [hR3]; simp⟩
            · rw [if_neg h0] at hR3
              have h0' : (0 : Int) < (j : Int) := by omega
              have h0'' : 0 < j := by omega
              refine gV ?_
              exact ⟨by ((repeat (first | exact Keeps.base _ _ _ _ | (with_reducible exact Keeps.refl _ _ _) | (refine Keeps.put rfl ?_) | (refine Keeps.over' rfl rfl ?_)))), hb4, out3 ++ [44, 32] ++ fldText ps[j], by simp [putE, over, fldText], by simp [putE, over], hH3, hH4, by rw [hR3]; simp⟩
          · rw [parRest_end hb4, List.append_nil] at hR3
            obtain rfl : R3 = out3 := hR3
            clear hn3 wfP hl1 hl2
            rcases ha with hr | hr
            · have hr2 : r = [] := by simpa using hr
              rw [if_pos hr2] at hR
              refine gV ?_
              (first | refine AOpl.call1 rfl (by first | rfl | (simp [*]; done)) (by simp [*]) (by kernel_rfl) (hst) ?_ | refine ASl.callg (by first | rfl | (simp [*]; done)) (by simp [*]) (by kernel_rfl) (hst) ?_)
              refine gV ?_
              exact ⟨by ((repeat (first | exact Keeps.base _ _ _ _ | (with_reducible exact Keeps.refl _ _ _) | (refine Keeps.put rfl ?_) | (refine Keeps.over' rfl rfl ?_)))), hb3, R3 ++ [41, 32] ++ plB b, by simp [putE, over], by simp [putE, over], hH3, by rw [hR]; simp⟩
            · have hr2 : ¬ r = [] := by simpa using hr
              rw [if_neg hr2] at hR
              refine gV ?_
              (first | refine AOpl.call1 rfl (by first | rfl | (simp [*]; done)) (by simp [*]) (by kernel_rfl) (hst) ?_ | refine ASl.callg (by first | rfl | (simp [*]; done)) (by simp [*]) (by kernel_rfl) (hst) ?_)
              refine gV ?_
              exact ⟨by ((repeat (first | exact Keeps.base _ _ _ _ | (with_reducible exact Keeps.refl _ _ _) | (refine Keeps.put rfl ?_) | (refine Keeps.over' rfl rfl ?_)))), hb3, R3 ++ [41, 32] ++ ([58, 32] ++ r ++ [32]) ++ plB b, by simp [putE, over], by simp [putE, over], hH3, by rw [hR]⟩
      · rw [dropEnd hk hb3, List.flatMap_nil, List.append_nil] at hR
        obtain rfl : R2 = out2 := hR
        clear wfM szB szP hn1 hn2
        refine gV ?_
        (refine ⟨_, (by simp [*]; rfl), ?_⟩; (try simp only [packA]))
set_option maxRecDepth 10000 in
set_option maxHeartbeats 16000000 in
theorem pl_program (l : List Cl) (hl : l.length ≤ 100) (hc : ∀ c ∈ l, ClSz c) : FCall1 Tryd.prog paG 11 [.agg [.lst (l.map cvC)]] (.str (plP l)) := by
  refine FCall.one paG_pu (by simp only [puL, puV, puR, puRm puC]; rfl) rfl ?_
  refine FCall.ofBody Tryd.func11 rfl rfl fun nx => ?_
  have hlen := flat_len (F := plC) (B := 100000000000) (l := l) fun c h => (hc c h).len
  have h6 : 100000000000 * l.length ≤ 10000000000000 := by omega
  obtain ⟨R, hR⟩ : ∃ R, R = plP l := ⟨_, rfl⟩
  have hRl : R.length ≤ 10000000000000 := by rw [hR]; exact Nat.le_trans hlen h6
  rw [← hR]
  clear hlen h6
  refine gV ?_
  refine AWp.countO l.length [3, 4] 5 (fun i v H nx1 => ∃ out : Bytes, v 3 = .str out ∧ v 4 = .int .i64 i ∧ H nx = some (.cells [.lst (l.map cvC)]) ∧ R = out ++ (l.drop i).flatMap plC) ⟨[], by simp [putE, over], by simp [putE, over], by simp [upd], by rw [hR]; simp [plP]⟩ ?_
  clear hR
  rintro i v H nx1 hi hn1 ⟨out, h3, h4, hH, hR⟩
  have hol : out.length ≤ 10000000000000 := by have : out.length ≤ R.length := by rw [hR]; simp
                                               omega
  by_cases hb2 : i < l.length
  · have hwi := up1 hb2 (by omega)
    rw [dropAt hb2, List.flatMap_cons] at hR
    have hcc := pl_class _ (hc _ (List.getElem_mem hb2))
    have hcl := (hc _ (List.getElem_mem hb2)).len
    rw [cvC_eq] at hcc
    clear hn1 hc
    refine gV ?_
    (first | refine AOpl.call1 rfl (by first | rfl | (simp [*]; done)) (by simp [*]) (by kernel_rfl) (hcc) ?_ | refine ASl.callg (by first | rfl | (simp [*]; done)) (by simp [*]) (by kernel_rfl) (hcc) ?_)
    refine gV ?_
    exact ⟨by ((repeat (first | exact Keeps.base _ _ _ _ | (with_reducible exact Keeps.refl _ _ _) | (refine Keeps.put rfl ?_) | (refine Keeps.over' rfl rfl ?_)))), hb2, out ++ plC l[i], by simp [putE, over], by simp [putE, over], hH, by rw [hR]; simp⟩
  · rw [dropEnd hi hb2, List.flatMap_nil, List.append_nil] at hR
    obtain rfl : R = out := hR
    clear hn1 hc
    refine gV ?_
    (refine ⟨_, (by simp [*]; rfl), ?_⟩; (try simp only [packA]))
end Go.Proofs.YthjonkommphkkaaDoor
