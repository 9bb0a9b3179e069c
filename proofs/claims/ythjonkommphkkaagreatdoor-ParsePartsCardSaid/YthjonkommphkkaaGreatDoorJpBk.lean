/-
  The reference's parser: statements and blocks walked.
-/
import Derived.Test.YthjonkommphkkaaGreatDoorRpOther
import Derived.Test.YthjonkommphkkaaGreatDoorJpAn
set_option linter.unusedSectionVars false
set_option linter.unusedSimpArgs false
set_option linter.unnecessarySimpa false
set_option linter.unusedVariables false
set_option linter.unusedSimpArgs false
set_option linter.unusedVariables false
namespace Go.Proofs.YthjonkommphkkaaGreatDoor
open Lx Ax
theorem km_var : [118, 97, 114] ∈ kmList := by decide
theorem km_if : [105, 102] ∈ kmList := by decide
theorem km_while : [119, 104, 105, 108, 101] ∈ kmList := by decide
theorem km_try : [116, 114, 121] ∈ kmList := by decide
theorem km_throw : [116, 104, 114, 111, 119] ∈ kmList := by decide
theorem km_return : [114, 101, 116, 117, 114, 110] ∈ kmList := by decide
theorem km_colon : [58] ∈ kmList := by decide
theorem km_else : [101, 108, 115, 101] ∈ kmList := by decide
theorem km_catch : [99, 97, 116, 99, 104] ∈ kmList := by decide
theorem km_lb : [123] ∈ kmList := by decide
theorem km_rb : [125] ∈ kmList := by decide
def Lx.St.p0 : St → Int | .mk k _ _ _ _ _ => k
def Lx.St.p1 : St → Bytes | .mk _ n _ _ _ _ => n
def Lx.St.p2 : St → Bytes | .mk _ _ t _ _ _ => t
def Lx.St.p3 : St → List Ex | .mk _ _ _ e _ _ => e
def Lx.St.p4 : St → List St | .mk _ _ _ _ b _ => b
def Lx.St.p5 : St → List St | .mk _ _ _ _ _ l => l
theorem cvS_eq (s : St) : cvS s = [.int .i64 s.p0, .str s.p1, .str s.p2, .lst (s.p3.map cvE), .lst (s.p4.map cvS), .lst (s.p5.map cvS)] := by cases s; rw [cvS_mk]; rfl
theorem sepS {H : Heap} {nx b : Nat} {c : CV} {acc : List St} {ts : List Tok} {z1 z2 : CV} (ho : OwnL cvS 6 H nx c acc) (hb : H b = some (.cells [.lst (ts.map cvT), z1, z2])) : ∀ o m j, c ≠ .sl b o m j := by
  rintro o m j rfl
  rcases ho with ⟨_, h⟩ | ⟨b2, h1, h2, _⟩
  · cases h
  · cases h1
    rw [hb] at h2
    cases acc with
    | nil => simp at h2
    | cons a l => rw [List.flatMap_cons, cvS_eq] at h2; simp at h2
end Go.Proofs.YthjonkommphkkaaGreatDoor
namespace Go.Proofs.YthjonkommphkkaaGreatDoor
open Lx Ax Go.RowKit
attribute [local simp] stepS Ax.stepT Dl.on qstep astep estep rd putE over argE ofV ofS loadA pickCells isAggD faddA fieldA partA iaddA idxA bnd binA intA strA unA convA bltA lenA mapOf lookA findK keyD scalD storeA mupA srcA srcD upd drp Dl.hp Dl.nx CV.cs CV.one buildA placesA fillA zrep tasA ifaceD eqA eqFs eqIs range2 copyA nbeq nble nblt decEq beqI bneI beqS bneS isED Int.ofNat_inj List.getElem?_map List.getElem?_eq_getElem Option.map_some ti_int ti_i64 ti_str ti_bool ti_Toks ti_Tok ti_Pp ti_Exs ti_Ex ti_St ti_Sts gd gdB callA resA op1
attribute [local simp] psC cvT one1 cvE_eq exk exn exo exm exks drR drpC drp nu1 nu2 nu3 nu4 nu5 nu6 nu7 nu8 nu9 nu10 nu11 nu12 nu13
section
variable {ts : List Tok} (hT : TWR ts) {B : RS → List St × RS} {m : Nat} (hB : ∀ σ, m < σ.i → σ.i < ts.length → RC ts 74 [] (fun l => .lst (l.map cvS)) B σ) (hBi : ∀ σ, Inn ts σ (B σ).2)
include hT hB hBi
set_option maxRecDepth 10000 in
set_option maxHeartbeats 64000000 in
theorem rp_stmtW (σ : RS) (hm : m ≤ σ.i) (hi : σ.i < ts.length) : RC ts 90 [] (fun s => .agg (cvS s)) (qStmtW ts B) σ := by
  intro b
  refine B1.ofBodyW paG_pu rfl (puP _ _) (puP _ _) (by simp only [puV, puS]) Tryz.func90 rfl rfl fun nx hlt q => ?_
  have hlen := hT.wf.len
  have nxt : ∀ {x : Bytes}, x ≠ [] → atB ts σ x = true → σ.i + 1 < ts.length := fun hx h => (at_in hT (σ := σ) hx h hi).2
  have h1 := rp_skip hT _ km_var σ hi b
  unfold qStmtW
  cases z1 : atB ts σ [118, 97, 114] with
  | true =>
    have hi1 := nxt (by decide) z1
    rw [if_pos rfl]
    simp only [z1, skipS_true z1] at h1
    clear nxt
    unfold qVar
    have c1 := rp_name hT ⟨σ.i + 1, false⟩ hi1 b
    obtain ⟨_, i1⟩ := name_in hT (σ := ⟨σ.i + 1, false⟩) hi1
    cases e1 : qName ts ⟨σ.i + 1, false⟩ with
    | mk nm σ1 =>
    simp only [e1] at c1 i1 ⊢
    have c2 := rp_must hT _ km_colon σ1 i1 b
    obtain ⟨_, i2⟩ := must_in hT (σ := σ1) (x := [58]) (by decide) i1
    obtain ⟨σ2, e2⟩ : ∃ σ2, σ2 = mustS ts σ1 [58] := ⟨_, rfl⟩
    simp only [← e2] at c2 i2 ⊢
    unfold qVar2
    have c3 := rp_typ hT σ2 i2 b
    obtain ⟨_, i3⟩ := typ_in hT (σ := σ2) i2
    cases e3 : qTyp ts σ2 with
    | mk ty σ3 =>
    simp only [e3] at c3 i3 ⊢
    have c4 := rp_skip hT _ km_as σ3 i3 b
    unfold qVar3
    cases z : atB ts σ3 [61] with
    | true =>
      have i4 := (at_in hT (σ := σ3) (x := [61]) (by decide) z i3).2
      simp only [z, skipS_true z] at c4
      rw [if_pos rfl]
      have c5 := rp_E hT ⟨σ3.i + 1, false⟩ i4 b
      obtain ⟨_, i5⟩ := E_in hT (σ := ⟨σ3.i + 1, false⟩) i4
      have c6 := rp_must hT _ km_semi _ i5 b
      clear hB hBi e1 e2 e3
      refine gW ?_
      refine gB (h1) ?_
      refine gW ?_
      refine gB (c1) ?_
      refine gW ?_
      refine gB (c2) ?_
      refine gW ?_
      refine gB (c3) ?_
      refine gW ?_
      refine gB (c4) ?_
      refine gW ?_
      refine gB (c5) ?_
      (first | (first | (apply AOpl.step; rfl) | apply ASl.step); focus simp [*, -Option.some.injEq]; rfl | (first | (apply AOpl.stepG; rfl) | apply ASl.stepG); (focus simp [*]; done); focus simp [*, -Option.some.injEq]; rfl | (first | (apply AOpl.pass; rfl) | apply ASl.pass); (focus simp [*]; done))
      refine AOpl.frzL cvE_len 22 (l := [(qE ts ⟨σ3.i + 1, false⟩).1]) rfl (.inr ⟨nx + 1 + 1, rfl, by simp [upd, *], by omega⟩) ?_
      refine gW ?_
      refine gB (c6) ?_
      refine gW ?_
      (refine ⟨_, (by simp [*]; rfl), ?_⟩; (try simp only [packA]))
      (refine ⟨_, rfl, ?_, by simp [*]⟩; simp only [cvS_mk, List.map_nil, List.map_cons, cvE_eq]; first | exact Wk.same _ | (refine WkL.agg ?_; repeat (first | exact WkL.nil | refine WkL.cons (by first | exact Wk.nil | exact Wk.same _) ?_)))
    | false =>
      simp only [z, skipS_false z] at c4
      rw [if_neg (by simp)]
      have c6 := rp_must hT _ km_semi _ i3 b
      clear hB hBi e1 e2 e3
      refine gW ?_
      refine gB (h1) ?_
      refine gW ?_
      refine gB (c1) ?_
      refine gW ?_
      refine gB (c2) ?_
      refine gW ?_
      refine gB (c3) ?_
      refine gW ?_
      refine gB (c4) ?_
      refine gW ?_
      refine gB (c6) ?_
      refine gW ?_
      (refine ⟨_, (by simp [*]; rfl), ?_⟩; (try simp only [packA]))
      (refine ⟨_, rfl, ?_, by simp [*]⟩; simp only [cvS_mk, List.map_nil, List.map_cons, cvE_eq]; first | exact Wk.same _ | (refine WkL.agg ?_; repeat (first | exact WkL.nil | refine WkL.cons (by first | exact Wk.nil | exact Wk.same _) ?_)))
  | false =>
  rw [if_neg (by simp)]
  simp only [z1, skipS_false z1] at h1
  have h2 := rp_at hT _ km_if σ hi b
  have h3 := rp_at hT _ km_while σ hi b
  cases z2 : atB ts σ [105, 102] with
  | true =>
    have hi1 := nxt (by decide) z2
    clear nxt
    have c1 := rp_must hT _ lp_km ⟨σ.i + 1, false⟩ hi1 b
    obtain ⟨_, i1⟩ := must_in hT (σ := ⟨σ.i + 1, false⟩) (x := [40]) (by decide) hi1
    obtain ⟨σ1, e1⟩ : ∃ σ1, σ1 = mustS ts ⟨σ.i + 1, false⟩ [40] := ⟨_, rfl⟩
    have c2 := rp_E hT σ1 (e1 ▸ i1) b
    obtain ⟨_, i2⟩ := E_in hT (σ := σ1) (e1 ▸ i1)
    cases e2 : qE ts σ1 with
    | mk x σ2 =>
    simp only [e2] at c2 i2
    have c3 := rp_must hT _ rp_km σ2 i2 b
    obtain ⟨m3, i3⟩ := must_in hT (σ := σ2) (x := [41]) (by decide) i2
    obtain ⟨σ3, e3⟩ : ∃ σ3, σ3 = mustS ts σ2 [41] := ⟨_, rfl⟩
    have hcd : qCond ts ⟨σ.i + 1, false⟩ = (x, σ3) := by unfold qCond; rw [← e1, e2, e3]
    have hgt := (cond_in hT (σ := ⟨σ.i + 1, false⟩) hi1).1
    rw [hcd] at hgt
    simp only [← e1] at c1
    simp only [← e3] at c3 i3
    simp only at hgt
    have c4 := hB σ3 (by omega) i3 b
    obtain ⟨m4, i4⟩ := hBi σ3 i3
    cases e4 : B σ3 with
    | mk bd σ4 =>
    simp only [e4] at c4 i4 m4
    have hw1 : IntKind.i64.wrap ((σ.i : Int) + 1) = ((σ.i + 1 : Nat) : Int) := wrap_up hi (by simp only [maxLen]; omega)
    have hbd : σ.bad = false := (atB_true z2).1
    have z3 : atB ts σ [119, 104, 105, 108, 101] = false := by
      have := (atB_true z2).2
      unfold isT at this
      rw [atB_good hbd]; unfold isT
      rw [eq_of_beq this]; rfl
    simp only [z2] at h2
    simp only [z3] at h3
    have hq : qIf ts B ⟨σ.i + 1, false⟩ = qIf2 ts B x bd σ4 := by unfold qIf; rw [hcd]; simp only [e4]
    rw [if_pos rfl, hq]
    have c5 := rp_skip hT _ km_else σ4 i4 b
    unfold qIf2
    cases z : atB ts σ4 [101, 108, 115, 101] with
    | true =>
      have i5 := (at_in hT (σ := σ4) (x := [101, 108, 115, 101]) (by decide) z i4).2
      have c6 := hB ⟨σ4.i + 1, false⟩ (by simp only; omega) i5 b
      simp only [z, skipS_true z] at c5
      rw [if_pos rfl]
      clear hB hBi e1 e2 e3 e4 hq hcd
      refine gW ?_
      refine gB (h1) ?_
      refine gW ?_
      refine gB (h2) ?_
      refine gW ?_
      refine gB (h3) ?_
      refine gW ?_
      refine gB (c1) ?_
      refine gW ?_
      refine gB (c2) ?_
      (first | (first | (apply AOpl.step; rfl) | apply ASl.step); focus simp [*, -Option.some.injEq]; rfl | (first | (apply AOpl.stepG; rfl) | apply ASl.stepG); (focus simp [*]; done); focus simp [*, -Option.some.injEq]; rfl | (first | (apply AOpl.pass; rfl) | apply ASl.pass); (focus simp [*]; done))
      refine AOpl.frzL cvE_len 48 (l := [x]) rfl (.inr ⟨nx + 1 + 1, rfl, by simp [upd, *], by omega⟩) ?_
      refine gW ?_
      refine gB (c3) ?_
      refine gW ?_
      refine gB (c4) ?_
      refine gW ?_
      refine gB (c5) ?_
      refine gW ?_
      refine gB (c6) ?_
      refine gW ?_
      (refine ⟨_, (by simp [*]; rfl), ?_⟩; (try simp only [packA]))
      (refine ⟨_, rfl, ?_, by simp [*]⟩; simp only [cvS_mk, List.map_nil, List.map_cons, cvE_eq]; first | exact Wk.same _ | (refine WkL.agg ?_; repeat (first | exact WkL.nil | refine WkL.cons (by first | exact Wk.nil | exact Wk.same _) ?_)))
    | false =>
      simp only [z, skipS_false z] at c5
      rw [if_neg (by simp)]
      clear hB hBi e1 e2 e3 e4 hq hcd
      refine gW ?_
      refine gB (h1) ?_
      refine gW ?_
      refine gB (h2) ?_
      refine gW ?_
      refine gB (h3) ?_
      refine gW ?_
      refine gB (c1) ?_
      refine gW ?_
      refine gB (c2) ?_
      (first | (first | (apply AOpl.step; rfl) | apply ASl.step); focus simp [*, -Option.some.injEq]; rfl | (first | (apply AOpl.stepG; rfl) | apply ASl.stepG); (focus simp [*]; done); focus simp [*, -Option.some.injEq]; rfl | (first | (apply AOpl.pass; rfl) | apply ASl.pass); (focus simp [*]; done))
      refine AOpl.frzL cvE_len 48 (l := [x]) rfl (.inr ⟨nx + 1 + 1, rfl, by simp [upd, *], by omega⟩) ?_
      refine gW ?_
      refine gB (c3) ?_
      refine gW ?_
      refine gB (c4) ?_
      refine gW ?_
      refine gB (c5) ?_
      refine gW ?_
      (refine ⟨_, (by simp [*]; rfl), ?_⟩; (try simp only [packA]))
      (refine ⟨_, rfl, ?_, by simp [*]⟩; simp only [cvS_mk, List.map_nil, List.map_cons, cvE_eq]; first | exact Wk.same _ | (refine WkL.agg ?_; repeat (first | exact WkL.nil | refine WkL.cons (by first | exact Wk.nil | exact Wk.same _) ?_)))
  | false =>
  rw [if_neg (by simp)]
  simp only [z2] at h2
  cases z3 : atB ts σ [119, 104, 105, 108, 101] with
  | true =>
    have hi1 := nxt (by decide) z3
    clear nxt
    have c1 := rp_must hT _ lp_km ⟨σ.i + 1, false⟩ hi1 b
    obtain ⟨_, i1⟩ := must_in hT (σ := ⟨σ.i + 1, false⟩) (x := [40]) (by decide) hi1
    obtain ⟨σ1, e1⟩ : ∃ σ1, σ1 = mustS ts ⟨σ.i + 1, false⟩ [40] := ⟨_, rfl⟩
    have c2 := rp_E hT σ1 (e1 ▸ i1) b
    obtain ⟨_, i2⟩ := E_in hT (σ := σ1) (e1 ▸ i1)
    cases e2 : qE ts σ1 with
    | mk x σ2 =>
    simp only [e2] at c2 i2
    have c3 := rp_must hT _ rp_km σ2 i2 b
    obtain ⟨m3, i3⟩ := must_in hT (σ := σ2) (x := [41]) (by decide) i2
    obtain ⟨σ3, e3⟩ : ∃ σ3, σ3 = mustS ts σ2 [41] := ⟨_, rfl⟩
    have hcd : qCond ts ⟨σ.i + 1, false⟩ = (x, σ3) := by unfold qCond; rw [← e1, e2, e3]
    have hgt := (cond_in hT (σ := ⟨σ.i + 1, false⟩) hi1).1
    rw [hcd] at hgt
    simp only [← e1] at c1
    simp only [← e3] at c3 i3
    simp only at hgt
    have c4 := hB σ3 (by omega) i3 b
    obtain ⟨m4, i4⟩ := hBi σ3 i3
    cases e4 : B σ3 with
    | mk bd σ4 =>
    simp only [e4] at c4 i4 m4
    have hw1 : IntKind.i64.wrap ((σ.i : Int) + 1) = ((σ.i + 1 : Nat) : Int) := wrap_up hi (by simp only [maxLen]; omega)
    have hbd : σ.bad = false := (atB_true z3).1
    simp only [z3] at h3
    have hq : qWhile ts B ⟨σ.i + 1, false⟩ = (.mk 5 [] [] [x] bd [], σ4) := by unfold qWhile; rw [hcd]; simp only [e4]
    rw [if_pos rfl, hq]
    clear hB hBi e1 e2 e3 e4 hq hcd
    refine gW ?_
    refine gB (h1) ?_
    refine gW ?_
    refine gB (h2) ?_
    refine gW ?_
    refine gB (h3) ?_
    refine gW ?_
    refine gB (h3) ?_
    refine gW ?_
    refine gB (c1) ?_
    refine gW ?_
    refine gB (c2) ?_
    (first | (first | (apply AOpl.step; rfl) | apply ASl.step); focus simp [*, -Option.some.injEq]; rfl | (first | (apply AOpl.stepG; rfl) | apply ASl.stepG); (focus simp [*]; done); focus simp [*, -Option.some.injEq]; rfl | (first | (apply AOpl.pass; rfl) | apply ASl.pass); (focus simp [*]; done))
    refine AOpl.frzL cvE_len 48 (l := [x]) rfl (.inr ⟨nx + 1 + 1, rfl, by simp [upd, *], by omega⟩) ?_
    refine gW ?_
    refine gB (c3) ?_
    refine gW ?_
    refine gB (c4) ?_
    refine gW ?_
    (refine ⟨_, (by simp [*]; rfl), ?_⟩; (try simp only [packA]))
    (refine ⟨_, rfl, ?_, by simp [*]⟩; simp only [cvS_mk, List.map_nil, List.map_cons, cvE_eq]; first | exact Wk.same _ | (refine WkL.agg ?_; repeat (first | exact WkL.nil | refine WkL.cons (by first | exact Wk.nil | exact Wk.same _) ?_)))
  | false =>
  rw [if_neg (by simp)]
  simp only [z3] at h3
  have h4 := rp_skip hT _ km_try σ hi b
  cases z4 : atB ts σ [116, 114, 121] with
  | true =>
    have hi1 := nxt (by decide) z4
    clear nxt
    simp only [z4, skipS_true z4] at h4
    rw [if_pos rfl]
    have c1 := hB ⟨σ.i + 1, false⟩ (by simp only; omega) hi1 b
    obtain ⟨m1, i1⟩ := hBi ⟨σ.i + 1, false⟩ hi1
    unfold qTry
    cases e1 : B ⟨σ.i + 1, false⟩ with
    | mk bd σ1 =>
    simp only [e1] at c1 i1 m1 ⊢
    unfold qTry1
    have c2 := rp_must hT _ km_catch σ1 i1 b
    obtain ⟨m2, i2⟩ := must_in hT (σ := σ1) (x := [99, 97, 116, 99, 104]) (by decide) i1
    obtain ⟨σ2, e2⟩ : ∃ σ2, σ2 = mustS ts σ1 [99, 97, 116, 99, 104] := ⟨_, rfl⟩
    simp only [← e2] at c2 i2 m2 ⊢
    have c3 := rp_must hT _ lp_km σ2 i2 b
    obtain ⟨m3, i3⟩ := must_in hT (σ := σ2) (x := [40]) (by decide) i2
    obtain ⟨σ3, e3⟩ : ∃ σ3, σ3 = mustS ts σ2 [40] := ⟨_, rfl⟩
    simp only [← e3] at c3 i3 m3 ⊢
    have c4 := rp_name hT σ3 i3 b
    obtain ⟨m4, i4⟩ := name_in hT (σ := σ3) i3
    cases e4 : qName ts σ3 with
    | mk nm σ4 =>
    simp only [e4] at c4 i4 m4 ⊢
    unfold qTry2
    have c5 := rp_must hT _ km_colon σ4 i4 b
    obtain ⟨m5, i5⟩ := must_in hT (σ := σ4) (x := [58]) (by decide) i4
    obtain ⟨σ5, e5⟩ : ∃ σ5, σ5 = mustS ts σ4 [58] := ⟨_, rfl⟩
    simp only [← e5] at c5 i5 m5 ⊢
    have c6 := rp_typ hT σ5 i5 b
    obtain ⟨m6, i6⟩ := typ_in hT (σ := σ5) i5
    cases e6 : qTyp ts σ5 with
    | mk ty σ6 =>
    simp only [e6] at c6 i6 m6 ⊢
    unfold qTry3
    have c7 := rp_must hT _ rp_km σ6 i6 b
    obtain ⟨m7, i7⟩ := must_in hT (σ := σ6) (x := [41]) (by decide) i6
    obtain ⟨σ7, e7⟩ : ∃ σ7, σ7 = mustS ts σ6 [41] := ⟨_, rfl⟩
    simp only [← e7] at c7 i7 m7 ⊢
    have c8 := hB σ7 (by have : σ.i + 1 ≤ σ1.i := m1; omega) i7 b
    clear hB hBi e1 e2 e3 e4 e5 e6 e7
    refine gW ?_
    refine gB (h1) ?_
    refine gW ?_
    refine gB (h2) ?_
    refine gW ?_
    refine gB (h3) ?_
    refine gW ?_
    refine gB (h4) ?_
    refine gW ?_
    refine gB (c1) ?_
    refine gW ?_
    refine gB (c2) ?_
    refine gW ?_
    refine gB (c3) ?_
    refine gW ?_
    refine gB (c4) ?_
    refine gW ?_
    refine gB (c5) ?_
    refine gW ?_
    refine gB (c6) ?_
    refine gW ?_
    refine gB (c7) ?_
    refine gW ?_
    refine gB (c8) ?_
    refine gW ?_
    (refine ⟨_, (by simp [*]; rfl), ?_⟩; (try simp only [packA]))
    (refine ⟨_, rfl, ?_, by simp [*]⟩; simp only [cvS_mk, List.map_nil, List.map_cons, cvE_eq]; first | exact Wk.same _ | (refine WkL.agg ?_; repeat (first | exact WkL.nil | refine WkL.cons (by first | exact Wk.nil | exact Wk.same _) ?_)))
  | false =>
  rw [if_neg (by simp)]
  simp only [z4, skipS_false z4] at h4
  have h5 := rp_skip hT _ km_throw σ hi b
  cases z5 : atB ts σ [116, 104, 114, 111, 119] with
  | true =>
    have hi1 := nxt (by decide) z5
    clear nxt
    simp only [z5, skipS_true z5] at h5
    rw [if_pos rfl]
    unfold qThrow
    have c1 := rp_E hT ⟨σ.i + 1, false⟩ hi1 b
    obtain ⟨_, i1⟩ := E_in hT (σ := ⟨σ.i + 1, false⟩) hi1
    have c2 := rp_must hT _ km_semi _ i1 b
    clear hB hBi
    refine gW ?_
    refine gB (h1) ?_
    refine gW ?_
    refine gB (h2) ?_
    refine gW ?_
    refine gB (h3) ?_
    refine gW ?_
    refine gB (h4) ?_
    refine gW ?_
    refine gB (h5) ?_
    refine gW ?_
    refine gB (c1) ?_
    (first | (first | (apply AOpl.step; rfl) | apply ASl.step); focus simp [*, -Option.some.injEq]; rfl | (first | (apply AOpl.stepG; rfl) | apply ASl.stepG); (focus simp [*]; done); focus simp [*, -Option.some.injEq]; rfl | (first | (apply AOpl.pass; rfl) | apply ASl.pass); (focus simp [*]; done))
    refine AOpl.frzL cvE_len 93 (l := [(qE ts ⟨σ.i + 1, false⟩).1]) rfl (.inr ⟨nx + 1, rfl, by simp [upd, *], by omega⟩) ?_
    refine gW ?_
    refine gB (c2) ?_
    refine gW ?_
    (refine ⟨_, (by simp [*]; rfl), ?_⟩; (try simp only [packA]))
    (refine ⟨_, rfl, ?_, by simp [*]⟩; simp only [cvS_mk, List.map_nil, List.map_cons, cvE_eq]; first | exact Wk.same _ | (refine WkL.agg ?_; repeat (first | exact WkL.nil | refine WkL.cons (by first | exact Wk.nil | exact Wk.same _) ?_)))
  | false =>
  rw [if_neg (by simp)]
  simp only [z5, skipS_false z5] at h5
  have h6 := rp_skip hT _ km_return σ hi b
  cases z6 : atB ts σ [114, 101, 116, 117, 114, 110] with
  | true =>
    have hi1 := nxt (by decide) z6
    clear nxt
    simp only [z6, skipS_true z6] at h6
    rw [if_pos rfl]
    unfold qReturn
    have c1 := rp_at hT _ km_semi ⟨σ.i + 1, false⟩ hi1 b
    cases z : atB ts ⟨σ.i + 1, false⟩ [59] with
    | true =>
      rw [if_pos rfl]
      have c2 := rp_must hT _ km_semi ⟨σ.i + 1, false⟩ hi1 b
      have e2 : mustS ts ⟨σ.i + 1, false⟩ [59] = ⟨σ.i + 1 + 1, false⟩ := by unfold mustS; rw [if_pos z]
      simp only [z] at c1
      simp only [e2] at c2
      clear hB hBi
      refine gW ?_
      refine gB (h1) ?_
      refine gW ?_
      refine gB (h2) ?_
      refine gW ?_
      refine gB (h3) ?_
      refine gW ?_
      refine gB (h4) ?_
      refine gW ?_
      refine gB (h5) ?_
      refine gW ?_
      refine gB (h6) ?_
      refine gW ?_
      refine gB (c1) ?_
      refine gW ?_
      refine gB (c2) ?_
      refine gW ?_
      (refine ⟨_, (by simp [*]; rfl), ?_⟩; (try simp only [packA]))
      (refine ⟨_, rfl, ?_, by simp [*]⟩; simp only [cvS_mk, List.map_nil, List.map_cons, cvE_eq]; first | exact Wk.same _ | (refine WkL.agg ?_; repeat (first | exact WkL.nil | refine WkL.cons (by first | exact Wk.nil | exact Wk.same _) ?_)))
    | false =>
      rw [if_neg (by simp)]
      simp only [z] at c1
      have c2 := rp_E hT ⟨σ.i + 1, false⟩ hi1 b
      obtain ⟨_, i1⟩ := E_in hT (σ := ⟨σ.i + 1, false⟩) hi1
      have c3 := rp_must hT _ km_semi _ i1 b
      clear hB hBi
      refine gW ?_
      refine gB (h1) ?_
      refine gW ?_
      refine gB (h2) ?_
      refine gW ?_
      refine gB (h3) ?_
      refine gW ?_
      refine gB (h4) ?_
      refine gW ?_
      refine gB (h5) ?_
      refine gW ?_
      refine gB (h6) ?_
      refine gW ?_
      refine gB (c1) ?_
      refine gW ?_
      refine gB (c2) ?_
      (first | (first | (apply AOpl.step; rfl) | apply ASl.step); focus simp [*, -Option.some.injEq]; rfl | (first | (apply AOpl.stepG; rfl) | apply ASl.stepG); (focus simp [*]; done); focus simp [*, -Option.some.injEq]; rfl | (first | (apply AOpl.pass; rfl) | apply ASl.pass); (focus simp [*]; done))
      refine AOpl.frzL cvE_len 106 (l := [(qE ts ⟨σ.i + 1, false⟩).1]) rfl (.inr ⟨nx + 1 + 1, rfl, by simp [upd, *], by omega⟩) ?_
      refine gW ?_
      refine gB (c3) ?_
      refine gW ?_
      (refine ⟨_, (by simp [*]; rfl), ?_⟩; (try simp only [packA]))
      (refine ⟨_, rfl, ?_, by simp [*]⟩; simp only [cvS_mk, List.map_nil, List.map_cons, cvE_eq]; first | exact Wk.same _ | (refine WkL.agg ?_; repeat (first | exact WkL.nil | refine WkL.cons (by first | exact Wk.nil | exact Wk.same _) ?_)))
  | false =>
  simp only [z6, skipS_false z6] at h6
  rw [if_neg (by simp)]
  have c1 := rp_other hT σ hi b
  clear hB hBi nxt
  refine gW ?_
  refine gB (h1) ?_
  refine gW ?_
  refine gB (h2) ?_
  refine gW ?_
  refine gB (h3) ?_
  refine gW ?_
  refine gB (h4) ?_
  refine gW ?_
  refine gB (h5) ?_
  refine gW ?_
  refine gB (h6) ?_
  refine gW ?_
  refine gB (c1) ?_
  repeat (first | (first | (apply AOpl.step; rfl) | apply ASl.step); focus simp [cvS_eq, *, -Option.some.injEq]; rfl | (first | (apply AOpl.stepG; rfl) | apply ASl.stepG); (focus simp [cvS_eq, *]; done); focus simp [cvS_eq, *, -Option.some.injEq]; rfl | (first | (apply AOpl.pass; rfl) | apply ASl.pass); (focus simp [cvS_eq, *]; done) | (first | refine AOpl.nil ?_ | refine AWp.skip ?_ | refine AWp.exit ?_ | refine AWp.ret ?_ | refine ASl.nil ?_); try simp only [Then, InBlock, reduceIte, Nat.reduceEqDiff] | refine AWp.seq ?_ | refine AWp.reg rfl ?_ | refine AWp.block ?_ | apply AWp.condT; focus simp [cvS_eq, *]; done | apply AWp.condF; focus simp [cvS_eq, *]; done | refine AWp.regT (by kernel_rfl) (by kernel_rfl) rfl rfl ?_)
  (refine ⟨_, (by simp [*]; rfl), ?_⟩; (try simp only [packA]))
  (refine ⟨_, rfl, ?_, by simp [*]⟩; simp only [cvS_eq]; first | exact Wk.same _ | (refine WkL.agg ?_; repeat (first | exact WkL.nil | refine WkL.cons (by first | exact Wk.nil | exact Wk.same _) ?_)))
end
end Go.Proofs.YthjonkommphkkaaGreatDoor
namespace Go.Proofs.YthjonkommphkkaaGreatDoor
open Lx Ax
theorem St_B {ts : List Tok} (hT : TWR ts) (f : Nat) : ∀ σ, Inn ts σ (qStmtW ts (qBlock ts f) σ).2 := fun σ => stmtW_in hT (block_in hT f)
end Go.Proofs.YthjonkommphkkaaGreatDoor
namespace Go.Proofs.YthjonkommphkkaaGreatDoor
open Lx Ax Go.RowKit
attribute [local simp] stepS Ax.stepT Dl.on qstep astep estep rd putE over argE ofV ofS loadA pickCells isAggD faddA fieldA partA iaddA idxA bnd binA intA strA unA convA bltA lenA mapOf lookA findK keyD scalD storeA mupA srcA srcD upd drp Dl.hp Dl.nx CV.cs CV.one buildA placesA fillA zrep tasA ifaceD eqA eqFs eqIs range2 copyA nbeq nble nblt decEq beqI bneI beqS bneS isED Int.ofNat_inj List.getElem?_map List.getElem?_eq_getElem Option.map_some ti_int ti_i64 ti_str ti_bool ti_Toks ti_Tok ti_Pp ti_St ti_Sts ti_Fld ti_Flds gd gdB callA resA op1
attribute [local simp] psC cvT one1 cvS_eq drR drpC drp nu1 nu2 nu3 nu4 nu5 nu6 nu7 nu8 nu9 nu10 nu11 nu12 nu13
section
variable {ts : List Tok} (hT : TWR ts)
include hT
set_option maxRecDepth 10000 in
set_option maxHeartbeats 16000000 in
theorem rp_blockW {S : RS → St × RS} {m : Nat} (hS : ∀ σ, m < σ.i → σ.i < ts.length → RC ts 90 [] (fun s => .agg (cvS s)) S σ) (hSi : ∀ σ, Inn ts σ (S σ).2) (hSl : ∀ σ, σ.bad = false → (S σ).2.bad = true ∨ σ.i < (S σ).2.i)
    (σ : RS) (hm : m ≤ σ.i) (hi : σ.i < ts.length) : RC ts 74 [] (fun l => .lst (l.map cvS)) (qBlockW ts S) σ := by
  intro b
  refine B1.ofBodyL cvS_len paG_pu rfl (puP _ _) (puP _ _) (by simp only [puV, puSs]) Tryz.func74 rfl rfl fun nx hlt q => ?_
  have hlen := hT.wf.len
  have h1 := rp_must hT _ km_lb σ hi b
  obtain ⟨b1, b2⟩ := must_in hT (σ := σ) (x := [123]) (by decide) hi
  obtain ⟨R, hR⟩ : ∃ R, R = qBlockW ts S σ := ⟨_, rfl⟩
  rw [← hR]
  unfold qBlockW at hR
  obtain ⟨σ1, e1⟩ : ∃ σ1, σ1 = mustS ts σ [123] := ⟨_, rfl⟩
  have hg1 : σ1.bad = false → σ.i < σ1.i := by
    rw [e1]; unfold mustS; split
    · intro _; exact Nat.lt_succ_self _
    · intro h; cases h
  simp only [← e1] at h1 b1 b2 hR
  clear e1
  refine gW ?_
  refine gB (h1) ?_
  clear h1
  refine gW ?_
  refine AWp.loopO (α := Nat × List St × RS) (fun x e H nx => ∃ c, e 3 = c ∧ OwnL cvS 6 H nx c x.2.1 ∧ H b = some (.cells [.lst (ts.map cvT), .int .i64 x.2.2.i, .bool x.2.2.bad]) ∧ (x.2.2.bad = false → x.2.1.length ≤ x.2.2.i + 1) ∧ (x.2.2.bad = false → m < x.2.2.i) ∧ x.2.2.i < ts.length ∧ (x.2.2.bad = true ∨ ts.length - x.2.2.i < x.1) ∧ R = qBlockLoop ts S x.1 x.2.1 x.2.2) (fun x => x.1) (ts.length + 1, [], σ1) [3] 6 ⟨.nils, rfl, .inl ⟨rfl, rfl⟩, by simp [upd], fun _ => by simp, fun h => by have := hg1 h; simp only; omega, b2, .inr (by simp only; omega), hR⟩ ?_
  clear hR b1 b2 hg1
  rintro ⟨n, acc, σ3⟩ v H4 nx4 hn4 ⟨c4, h5, ho, hH, hl, hi1, hi2, hf, hR⟩
  simp only at h5 ho hH hl hi1 hi2 hf hR
  have hsep := sepS ho hH
  have h2 := rp_at hT _ km_rb σ3 hi2 b
  have h4 := rp_must hT _ km_rb σ3 hi2 b
  have ho2 := ho.upd' hH (.cells (psC ts σ3)) hsep
  have hbn : b < nx4 := by omega
  cases hbd : σ3.bad with
  | true =>
    have hm0 : mustS ts σ3 [125] = σ3 := by unfold mustS; rw [atB_bad hbd]; exact rs_bad hbd
    have hR2 : R = (acc, σ3) := by
      cases n with
      | zero => rw [hR, qBlockLoop, rs_bad hbd]
      | succ n => rw [hR, qBlockLoop, if_pos hbd]
    simp only [hm0] at h4
    clear hR hf hn4 hi1 h2 hl
    rw [hR2]
    refine gW ?_
    refine gB (h4) ?_
    refine gW ?_
    (refine ⟨_, (by simp [*]; rfl), ?_⟩; (try simp only [packA]))
    exact ⟨_, rfl, by simpa [hbd] using ho2, by simp [upd, hbd], hsep⟩
  | false =>
  have hlt3 : ts.length - σ3.i < n := by rcases hf with hf | hf; rw [hbd] at hf; cases hf; exact hf
  obtain ⟨n, rfl⟩ : ∃ k, n = k + 1 := ⟨n - 1, by omega⟩
  cases hz : atB ts σ3 [125] with
  | true =>
    have hm0 : mustS ts σ3 [125] = ⟨σ3.i + 1, false⟩ := by unfold mustS; rw [if_pos hz]
    rw [qBlockLoop, if_neg (by rw [hbd]; simp), if_pos hz] at hR
    simp only [hz] at h2
    simp only [hm0] at h4
    have ho3 := ho2.upd' (upd_hit _ _ _) (.cells (psC ts ⟨σ3.i + 1, false⟩)) hsep
    clear hf hn4 hi1 hl
    rw [hR]
    refine gW ?_
    refine gB (h2) ?_
    refine gW ?_
    refine gB (h4) ?_
    refine gW ?_
    (refine ⟨_, (by simp [*]; rfl), ?_⟩; (try simp only [packA]))
    exact ⟨_, rfl, by simpa [hbd] using ho3, by simp [upd], hsep⟩
  | false =>
    rw [qBlockLoop, if_neg (by rw [hbd]; simp), if_neg (by rw [hz]; simp)] at hR
    simp only [hz] at h2
    have h3 := hS σ3 (hi1 hbd) hi2 b
    obtain ⟨b7, b8⟩ := hSi σ3 hi2
    have hgt := hSl σ3 hbd
    cases hr : S σ3 with
    | mk s σ4 =>
    simp only [hr] at h3 b7 b8 hR hgt
    have ho3 := ho2.upd' (upd_hit _ _ _) (.cells (psC ts σ4)) hsep
    have hm3 := hi1 hbd
    have hl3 := hl hbd
    clear hf hn4 hi1 hl
    refine gW ?_
    refine gB (h2) ?_
    refine gW ?_
    refine gB (h3) ?_
    clear h2 h3 h4
    (first | (first | (apply AOpl.step; rfl) | apply ASl.step); focus simp [*, -Option.some.injEq]; rfl | (first | (apply AOpl.stepG; rfl) | apply ASl.stepG); (focus simp [*]; done); focus simp [*, -Option.some.injEq]; rfl | (first | (apply AOpl.pass; rfl) | apply ASl.pass); (focus simp [*]; done))
    refine AOpl.appRow2 (k := 6) (cv := cvS) (c := c4) (l := acc) (u := s) ti_Sts ti_St rfl rfl (by omega) (by simp) cvS_len cvS_one rfl rfl (by first | exact h5 | (simp [rd, putE, over, h5]; done)) (by first | rfl | (simp [rd, putE, over]; done)) (((by simpa [hbd] using ho3 : OwnL cvS 6 (upd (upd H4 b (.cells [.lst (ts.map cvT), .int .i64 σ3.i, .bool false])) b (.cells [.lst (ts.map cvT), .int .i64 σ4.i, .bool σ4.bad])) nx4 c4 acc).upd (Nat.le_refl _)).up (Nat.le_succ _)) (by simp [upd]) (by omega) ?_
    intro H5 hn5 hfr
    have hH5 : H5 b = some (.cells [.lst (ts.map cvT), .int .i64 σ4.i, .bool σ4.bad]) := by
      rw [hfr b (by omega) (fun b' h => ?_), upd_miss _ _ _ _ (by omega)]
      · simp [upd]
      · exact fun e => hsep 0 acc.length 6 (by rw [h, e])
    clear hfr ho3 ho2 ho
    refine gW ?_
    exact ⟨by ((repeat (first | exact Keeps.base _ _ _ _ | (with_reducible exact Keeps.refl _ _ _) | (refine Keeps.put rfl ?_) | (refine Keeps.over' rfl rfl ?_)))), (n, acc ++ [s], σ4), by simp only; omega, _, by first | rfl | (simp [putE, over]; done), .inr ⟨nx4 + 1, by simp, hn5, by omega⟩, hH5, fun hb4 => by (have := hgt.resolve_left (by rw [hb4]; simp)); simp only [List.length_append, List.length_cons, List.length_nil]; omega, fun hb4 => by (have := hgt.resolve_left (by rw [hb4]; simp)); simp only; omega, b8, (by simp only; rcases hgt with h | h; exact .inl h; exact .inr (by omega)), hR⟩
/-- Blocks: the reference does what its plain function says. -/
theorem rp_block : ∀ f σ, ts.length - σ.i < f → σ.i < ts.length → RC ts 74 [] (fun l => .lst (l.map cvS)) (qBlock ts f) σ := by
  intro f
  induction f with
  | zero => intro σ h; omega
  | succ f ih =>
    intro σ hf hi
    refine rp_blockW hT (S := qStmtW ts (qBlock ts f)) (m := σ.i) (fun σ' h1 h2 => rp_stmtW hT (B := qBlock ts f) (m := σ'.i) (fun σ2 h3 h4 => ih σ2 (by omega) h4) (block_in hT f) σ' (Nat.le_refl _) h2) (St_B hT f) (fun σ' hb => ?_) σ (Nat.le_refl _) hi
    exact stp_lt (does_stmtW (does_block hT hT.kt f) hT hT.kt σ') (stmtW_adv (blockP_adv f))
theorem rp_B (σ : RS) (hi : σ.i < ts.length) : RC ts 74 [] (fun l => .lst (l.map cvS)) (qB ts) σ := rp_block hT _ σ (by omega) hi
set_option maxRecDepth 10000 in
set_option maxHeartbeats 16000000 in
theorem rp_param (σ : RS) (hi : σ.i < ts.length) : RC ts 72 [] (fun f => .agg (cvF f)) (qParam ts) σ := by
  intro b
  refine B1.ofBody paG_pu rfl (puP _ _) (puP _ _) rfl Tryz.func72 rfl rfl fun nx hlt q => ?_
  have c1 := rp_name hT σ hi b
  obtain ⟨_, i1⟩ := name_in hT hi
  have c2 := rp_must hT _ km_colon _ i1 b
  obtain ⟨_, i2⟩ := must_in hT (σ := (qName ts σ).2) (x := [58]) (by decide) i1
  have c3 := rp_typ hT _ i2 b
  refine gW ?_
  refine gB (c1) ?_
  refine gW ?_
  refine gB (c2) ?_
  refine gW ?_
  refine gB (c3) ?_
  refine gW ?_
  (refine ⟨_, (by simp [*]; rfl), ?_⟩; (try simp only [packA]))
  simp [upd, q, qParam, qTyped2, cvF]
set_option maxRecDepth 10000 in
set_option maxHeartbeats 16000000 in
theorem rp_field (σ : RS) (hi : σ.i < ts.length) : RC ts 39 [] (fun f => .agg (cvF f)) (qField ts) σ := by
  intro b
  refine B1.ofBody paG_pu rfl (puP _ _) (puP _ _) rfl Tryz.func39 rfl rfl fun nx hlt q => ?_
  have c0 := rp_must hT _ km_var σ hi b
  obtain ⟨_, i0⟩ := must_in hT (σ := σ) (x := [118, 97, 114]) (by decide) hi
  obtain ⟨σ0, e0⟩ : ∃ σ0, σ0 = mustS ts σ [118, 97, 114] := ⟨_, rfl⟩
  unfold qField
  simp only [← e0] at c0 i0 ⊢
  clear e0
  have c1 := rp_name hT σ0 i0 b
  obtain ⟨_, i1⟩ := name_in hT (σ := σ0) i0
  have c2 := rp_must hT _ km_colon _ i1 b
  obtain ⟨_, i2⟩ := must_in hT (σ := (qName ts σ0).2) (x := [58]) (by decide) i1
  have c3 := rp_typ hT _ i2 b
  obtain ⟨_, i3⟩ := typ_in hT i2
  have c4 := rp_must hT _ km_semi _ i3 b
  refine gW ?_
  refine gB (c0) ?_
  refine gW ?_
  refine gB (c1) ?_
  refine gW ?_
  refine gB (c2) ?_
  refine gW ?_
  refine gB (c3) ?_
  refine gW ?_
  refine gB (c4) ?_
  refine gW ?_
  (refine ⟨_, (by simp [*]; rfl), ?_⟩; (try simp only [packA]))
  simp [upd, q, qParam, qTyped2, cvF]
end
end Go.Proofs.YthjonkommphkkaaGreatDoor
