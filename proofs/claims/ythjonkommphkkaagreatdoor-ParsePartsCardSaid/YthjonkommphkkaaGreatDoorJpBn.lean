/-
  The reference's Program walked.
-/
import Derived.Test.YthjonkommphkkaaGreatDoorJpBm
import Derived.Test.YthjonkommphkkaaGreatDoorJpBe
import Derived.Test.YthjonkommphkkaaGreatDoorJpAn
import Derived.Test.YthjonkommphkkaaGreatDoorParPost
import Derived.Deep.RegionLaw
import Derived.Deep.AppendLies
import Derived.Laws.OwnMore
set_option linter.unusedSectionVars false
set_option linter.unusedSimpArgs false
set_option linter.unnecessarySimpa false
set_option linter.unusedVariables false
set_option linter.unusedSimpArgs false
set_option linter.unusedVariables false
namespace Go.Proofs.YthjonkommphkkaaGreatDoor
open Lx Ax
theorem Ax.ACall.leq {P : Program} {G : Nat → CV} {f : FuncId} {args : List CV} {H : Heap} {nx : Nat} {Q : Res → Heap → Nat → Prop} (h : ACall P G f args H nx Q) : ACall P G f args H nx fun r H' nx' => nx ≤ nx' ∧ Q r H' nx' :=
  fun M w vs g r a => (h M w vs g r a).mono fun _ _ ⟨M', x, H', n', a1, a2, a3, a4⟩ => ⟨M', x, H', n', a1, a2, a3, a3.nxle, a4⟩
theorem flat_toks : ∀ ts : List Tok, Flat 4 (fun t cs => cs = tokCells t) ts (toksCells ts)
  | [] => ⟨rfl, fun i h => by simp at h⟩
  | t :: ts => by
    obtain ⟨h1, h2⟩ := flat_toks ts
    have hl : (tokCells t).length = 4 := rfl
    have e : toksCells (t :: ts) = tokCells t ++ toksCells ts := rfl
    refine ⟨by rw [e, List.length_append, h1, hl, List.length_cons, Nat.add_mul]; omega, fun i hi => ?_⟩
    rw [e]
    cases i with
    | zero => simp [List.take_append_of_le_length, hl]
    | succ i =>
      have : (i + 1) * 4 = (tokCells t).length + i * 4 := by rw [hl]; omega
      rw [this, ← List.drop_drop, List.drop_left]
      exact h2 i (by simpa using hi)
theorem rv_tup {M : Mp} {cs : List CV} {vs : List Value} (h : RVs M cs vs) : RV M (.tup cs) (.tuple vs.toArray) := .tup _ _ h.1 h.2
def tokRes (l : Bytes) : Res := match tokensOf l with
  | .error (p, er) => .ret (.tup [.lst [], .int .i64 p, .int .i64 er])
  | .ok ts => .ret (.tup [.lst (ts.map cvT), .int .i64 0, .int .i64 0])
theorem new_at {M : Mp} {w w' : World} : ∀ g o, w.heap.size ≤ g → w'.heap[g]? = some o → (M.new w w').fz g = some o := fun g o h1 h2 => by
  simp only [Mp.new, show ¬ g < w.heap.size by omega, if_false]; exact h2
theorem tok_call (l : Bytes) (hl : l.length ≤ maxLen) : FCall Tryz.prog paG 20 [.str l] fun r => r = tokRes l := by
  refine FCall.ofOld fun M w vs hg hz hv => ?_
  obtain ⟨v, vs', rfl, h1, h2⟩ := hv.cons_inv
  have := h2.nil_inv; subst this
  cases h1 with
  | str _ s hs =>
  refine (ref_Tokens s w (by rw [← hs] at hl; simpa using hl)).mono ?_
  rintro e w' ⟨hb, h⟩
  rw [hs] at h
  refine ⟨hb, tokRes l, rfl, ?_⟩
  unfold tokRes
  cases ht : tokensOf l with
  | error x =>
    obtain ⟨p, er⟩ := x
    rw [ht] at h
    subst h
    exact rv_tup (vs := [.slice none 0 0, .int .i64 p, .int .i64 er]) (.cons (.lst0 _ _) (.cons (.int _ _) (.one (.int _ _))))
  | ok ts =>
    rw [ht] at h
    obtain ⟨v, rfl, ho⟩ := h
    have hl := IsList.of_own (A := (w.heap.size ≤ ·)) ho (flat_toks ts) (fun _ h => h)
    refine rv_tup (vs := [v, .int .i64 0, .int .i64 0]) (.cons (rv_list (by decide) new_at hl cvT_len fun t _ cs h => ?_) (.cons (.int _ _) (.one (.int _ _))))
    subst h
    exact .cons (.int _ _) (.cons (.int _ _) (.cons (rv_strOf _) (.one (.int _ _))))
end Go.Proofs.YthjonkommphkkaaGreatDoor
namespace Go.Proofs.YthjonkommphkkaaGreatDoor
open Lx Ax Go.RowKit
attribute [local simp] stepS Ax.stepT Dl.on qstep astep estep rd putE over argE ofV ofS loadA pickCells isAggD faddA fieldA partA iaddA idxA bnd binA intA strA unA convA bltA lenA mapOf lookA findK keyD scalD storeA mupA srcA srcD upd drp Dl.hp Dl.nx CV.cs CV.one buildA placesA fillA zrep tasA ifaceD eqA eqFs eqIs range2 copyA nbeq nble nblt decEq beqI bneI beqS bneS isED Int.ofNat_inj List.getElem?_map List.getElem?_eq_getElem Option.map_some ti_int ti_i64 ti_str ti_bool ti_Pp ti_Toks ti_Tok ti_Cl ti_Cls ti_So gd gdB callA resA op1
attribute [local simp] psC cvT one1 drR drpC drp nu1 nu2 nu3 nu4 nu5 nu6 nu7 nu8 nu9 nu10 nu11 nu12 nu13
def opnTs (l : Bytes) : List Tok := match tokensOf l with
  | .error _ => []
  | .ok ts => ts
def opnE (l : Bytes) : Nat × Nat := match tokensOf l with
  | .error x => x
  | .ok _ => (0, 0)
theorem tokRes_eq (l : Bytes) : tokRes l = .ret (.tup [.lst ((opnTs l).map cvT), .int .i64 (opnE l).1, .int .i64 (opnE l).2]) := by
  unfold tokRes opnTs opnE
  cases tokensOf l with
  | error x => obtain ⟨p, er⟩ := x; rfl
  | ok ts => rfl
set_option maxRecDepth 10000 in
set_option maxHeartbeats 4000000 in
theorem rt_open (l : Bytes) (hl : l.length ≤ maxLen) (H : Heap) (nx : Nat) : ACall Tryz.prog paG 26 [.str l] H nx fun r H' nx' => ∃ b, nx ≤ b ∧ b < nx' ∧ r = .ret (.tup [.ptr b 0, .int .i64 (opnE l).1, .int .i64 (opnE l).2]) ∧ H' = upd H b (.cells (psC (opnTs l) ⟨0, false⟩)) := by
  refine ACall.of_body Tryz.func26 rfl ?_
  have hc := tok_call l hl
  rw [tokRes_eq] at hc
  refine gW ?_
  refine AOpl.callG rfl rfl (by simp [callA]) (by kernel_rfl) ((ACall.leq (hc H nx)).mono ?_)
  rintro _ H1 nx1 ⟨hle, hH1, hr1⟩
  subst hH1; subst hr1
  dsimp only
  refine gW ?_
  (refine ⟨_, (by simp [*]; rfl), ?_⟩; (try simp only [packA]))
  exact ⟨nx1, hle, Nat.lt_succ_self _, rfl, by simp⟩
section
variable {ts : List Tok} (hT : TWR ts)
include hT
set_option maxRecDepth 10000 in
set_option maxHeartbeats 4000000 in
theorem rt_close (σ : RS) (hi : σ.i < ts.length) : RC ts 28 [] (fun x : Nat × Nat => .tup [.int .i64 x.1, .int .i64 x.2]) (fun σ => (if σ.bad = true ∨ (tk ts σ.i).kind ≠ 5 then ((tk ts σ.i).pos, 2) else (0, 0), σ)) σ := by
  intro b
  refine B1.ofBody paG_pu rfl (puP _ _) (puP _ _) rfl Tryz.func28 rfl rfl fun nx hlt q => ?_
  have ht := tk_at hi
  have he := tk_get _ _ hi
  dsimp only
  cases hb : σ.bad with
  | true =>
    rw [if_pos (.inl rfl), he]
    refine gW ?_
    (refine ⟨_, (by simp [*]; rfl), ?_⟩; (try simp only [packA]))
    simp [upd, q, hb]
  | false =>
    by_cases hk : ts[σ.i].kind = 5
    · rw [if_neg (by rw [he, hk]; simp)]
      refine gW ?_
      (refine ⟨_, (by simp [*]; rfl), ?_⟩; (try simp only [packA]))
      simp [upd, q, hb]
    · have hk' : ¬ (ts[σ.i].kind : Int) = 5 := by omega
      rw [if_pos (.inr (by rw [he]; exact hk)), he]
      refine gW ?_
      (refine ⟨_, (by simp [*]; rfl), ?_⟩; (try simp only [packA]))
      simp [upd, q, hb]
end
theorem cvC_eq (c : Cl) : cvC c = [.str c.name, .str c.super, .lst (c.fields.map cvF), .lst (c.methods.map cvM)] := rfl
attribute [local simp] on1 on2 on3 on4 on5 on6 on7 cvC_eq
end Go.Proofs.YthjonkommphkkaaGreatDoor
namespace Go.Proofs.YthjonkommphkkaaGreatDoor
open Lx Go.RowKit
/-- What an append reads: nothing, or the cells of a row. -/
def SrcAt (w : World) (src : Value) (m size : Nat) (news : List Value) : Prop := news.length = m * size ∧ (∀ u ∈ news, u.oneCell' = true) ∧ ((∃ c, src = .slice none 0 c ∧ m = 0) ∨ ∃ ad c, src = .slice (some ad) m c ∧ ∀ j u, news[j]? = some u → w.cell? (ad.add j) = some u)
theorem SrcAt.below {w w' : World} {src : Value} {m size : Nat} {news : List Value} (h : SrcAt w src m size news) (hb : Below w.heap.size w w') : SrcAt w' src m size news := by
  obtain ⟨h1, h2, h3 | ⟨ad, c, h3, h4⟩⟩ := h
  · exact ⟨h1, h2, .inl h3⟩
  · refine ⟨h1, h2, .inr ⟨ad, c, h3, fun j u hu => ?_⟩⟩
    have h5 := h4 j u hu
    rw [hb.cell (World.block_lt_of_cell? w _ h5)]
    exact h5
theorem flat_from {α : Type} {w : World} {k g off : Nat} {P : α → List Value → Prop} {l : List α} (hc : ∀ i (h : i < l.length), ∃ cs : List Value, cs.length = k ∧ (∀ j, j < k → w.cell? ⟨g, off + (i * k + j), none⟩ = cs[j]?) ∧ P l[i] cs) :
    ∀ m, m ≤ l.length → ∃ xs, Flat k P (l.take m) xs ∧ ∀ j, j < m * k → w.cell? ⟨g, off + j, none⟩ = xs[j]? := by
  intro m
  induction m with
  | zero => intro _; exact ⟨[], Flat.nil, fun j hj => by simp at hj⟩
  | succ m ih =>
    intro hm
    obtain ⟨xs, hf, hx⟩ := ih (by omega)
    obtain ⟨cs, h1, h2, h3⟩ := hc m (by omega)
    have hl : xs.length = m * k := by rw [hf.1, List.length_take]; congr 1; omega
    refine ⟨xs ++ cs, ?_, fun j hj => ?_⟩
    · rw [List.take_succ_eq_append_getElem (by omega)]
      exact hf.snoc h1 h3
    · by_cases hlt : j < m * k
      · rw [List.getElem?_append_left (by omega)]; exact hx j hlt
      · rw [List.getElem?_append_right (by omega), hl]
        have hjk : j - m * k < k := by rw [Nat.succ_mul] at hj; omega
        have := h2 (j - m * k) hjk
        rw [← this, show off + (m * k + (j - m * k)) = off + j from by omega]
theorem IsCl.one {A : Nat → Prop} {w : World} {d : Nat} {e : Cl} {cs : List Value} (h : IsCl A w d e cs) : ∀ u ∈ cs, u.oneCell' = true := by
  obtain ⟨v1, v2, rfl, h1, h2⟩ := h
  have hv : v1.oneCell' = true := by obtain ⟨_, ⟨_, a, c, rfl⟩ | ⟨g, off, c, rfl, _⟩⟩ := h1 <;> rfl
  have hv2 : v2.oneCell' = true := by obtain ⟨_, ⟨_, a, c, rfl⟩ | ⟨g, off, c, rfl, _⟩⟩ := h2 <;> rfl
  intro u hu
  simp at hu
  rcases hu with rfl | rfl | rfl | rfl <;> first | rfl | exact hv | exact hv2
theorem add_off (g off k : Nat) : (⟨g, off, none⟩ : Addr).add k = ⟨g, off + k, none⟩ := by
  unfold Addr.add; split
  · rename_i h; rw [h]; rfl
  · rfl
theorem IsList.src {α : Type} {w : World} {k : Nat} {P : α → List Value → Prop} {l : List α} {v : Value} (hk : 0 < k) (h : IsList Any w k P l v) (hP : ∀ x cs, P x cs → ∀ u ∈ cs, u.oneCell' = true) : ∃ xs, Flat k P l xs ∧ SrcAt w v l.length k xs := by
  obtain ⟨hl, ⟨rfl, a, c, rfl⟩ | ⟨g, off, cap, rfl, hA, hc⟩⟩ := h
  · refine ⟨[], Flat.nil, by simp, by simp, ?_⟩
    cases a with
    | none => exact .inl ⟨c, rfl, rfl⟩
    | some ad => exact .inr ⟨ad, c, rfl, by simp⟩
  · obtain ⟨xs, hf, hx⟩ := flat_from hc l.length (Nat.le_refl _)
    rw [List.take_length] at hf
    refine ⟨xs, hf, hf.1, hf.ones hk hP, .inr ⟨_, cap, rfl, fun j u hu => ?_⟩⟩
    have hj : j < xs.length := (List.getElem?_eq_some_iff.1 hu).1
    rw [add_off, hx j (by rw [← hf.1]; exact hj), hu]
theorem programR_err {l : Bytes} {p er : Nat} (h : programR l = .error (p, er)) : er ≠ 0 := by
  unfold programR at h
  cases hr : readR (fun ts => programP ts 0) l with
  | error x =>
    rw [hr] at h
    obtain ⟨q, f⟩ := x
    have := readR_err hr
    cases h; omega
  | ok c =>
    rw [hr] at h
    simp only at h
    split at h
    · rename_i h0; cases h; exact h0
    · cases h
/-- How parse.Program ends, in one form. -/
theorem ProgOut.form {w : World} {l : Bytes} {e : Ending} {w' : World} (h : ProgOut w (programR l) e w') : Below w.heap.size w w' ∧ ∃ (a : Option Addr) (n c : Nat) (p er : Int), e = .returned (.tuple #[.agg #[.slice a n c], .int .i64 p, .int .i64 er]) ∧ ∃ (x : List Cl) (d : Nat), IsList Any w' 4 (IsCl Any w' d) x (.slice a n c) ∧
    ((er = 0 ∧ p = 0 ∧ programR l = .ok x) ∨ ((er != 0) = true ∧ ∃ (q f : Nat), p = (q : Int) ∧ er = (f : Int) ∧ x = [] ∧ programR l = .error (q, f))) := by
  obtain ⟨hb, h⟩ := h
  refine ⟨hb, ?_⟩
  cases hr : programR l with
  | error x =>
    obtain ⟨p, er⟩ := x
    rw [hr] at h
    have h0 := programR_err hr
    exact ⟨none, 0, 0, p, er, h, [], 0, ⟨by simp, .inl ⟨rfl, _, _, rfl⟩⟩, .inr ⟨by rw [bne_iff_ne]; omega, p, er, rfl, rfl, rfl, rfl⟩⟩
  | ok x =>
    rw [hr] at h
    obtain ⟨a, n, c, h1, d, h2⟩ := h
    exact ⟨a, n, c, 0, 0, h1, x, d, h2.sub (fun _ _ _ => trivial) (by omega) fun _ _ _ => IsCl.sub fun _ _ _ => trivial, .inl ⟨rfl, rfl, rfl⟩⟩
end Go.Proofs.YthjonkommphkkaaGreatDoor
namespace Go.Proofs.YthjonkommphkkaaGreatDoor
open Lx Ax Go.RowKit
section
variable {M : Mp} {w : World} (hM : ∀ g o, M.fz g = some o → w.heap[g]? = some o)
theorem list_rv {α : Type} {k : Nat} {P : α → List Value → Prop} {cv : α → List CV} {l : List α} {v : Value} (hM : ∀ g o, M.fz g = some o → w.heap[g]? = some o) (h : RV M (.lst (l.map cv)) v) (hl : l.length ≤ maxLen) (hcv : ∀ x, (cv x).length = k) (hP : ∀ x ∈ l, ∀ cs, RVs M (cv x) cs → P x cs) : IsList Any w k P l v := by
  generalize hr : l.map cv = rows at h
  cases h with
  | lst0 a c => exact ⟨hl, .inl ⟨by simpa using hr, a, c, rfl⟩⟩
  | lst _ g o n k' c arr T fr hz hn hc hk hs hv =>
    subst hr
    have hn : n = l.length := by simpa using hn
    subst hn
    refine ⟨hl, .inr ⟨g, o, c, rfl, ⟨trivial, hc⟩, fun i hi => ?_⟩⟩
    have hkk : k' = k := by rw [← hk (cv l[i]) (List.mem_map.mpr ⟨_, List.getElem_mem hi, rfl⟩), hcv]
    subst hkk
    have hle : i * k' + k' ≤ l.length * k' := mul_step k' hi
    refine ⟨(arr.toList.drop (o + i * k')).take k', by simp; omega, fun j hj => ?_, ?_⟩
    · rw [List.getElem?_take_of_lt hj, List.getElem?_drop]
      simp [World.cell?, hM _ _ hz, Nat.add_assoc]
    · refine hP _ (List.getElem_mem hi) _ ⟨by rw [hcv]; simp; omega, fun j a b => ?_⟩
      have hj : j < k' := by rw [hcv] at a; exact a
      have := hv i (by simpa using hi) j (by simpa [hcv] using hj) (by omega)
      simpa using this
theorem str_rv {l : Bytes} {v : Value} (h : RV M (.str l) v) : v = .string (strOf l) := by
  cases h with
  | str _ s hs => subst hs; simp [strOf]
theorem int_rv {k : IntKind} {n : Int} {v : Value} (h : RV M (.int k n) v) : v = .int k n := by cases h; rfl
theorem bool_rv {b : Bool} {v : Value} (h : RV M (.bool b) v) : v = .bool b := by cases h; rfl
include hM
theorem ex_rv : ∀ (d : Nat) (e : Ex) (cs : List Value), exSz e ≤ d → d ≤ maxLen → RVs M (cvE e) cs → IsEx Any w d e cs := by
  intro d
  induction d with
  | zero => intro e cs h; have := exSz_pos e; omega
  | succ d ih =>
    intro e cs hd hm h
    obtain ⟨k, n, o, m, ks⟩ := e
    rw [exSz] at hd
    rw [cvE_mk] at h
    obtain ⟨v0, cs, rfl, h0, h⟩ := h.cons_inv
    obtain ⟨v1, cs, rfl, h1, h⟩ := h.cons_inv
    obtain ⟨v2, cs, rfl, h2, h⟩ := h.cons_inv
    obtain ⟨v3, cs, rfl, h3, h⟩ := h.cons_inv
    obtain ⟨v4, cs, rfl, h4, h⟩ := h.cons_inv
    have := h.nil_inv; subst this
    rw [int_rv h0, int_rv h1, str_rv h2, str_rv h3]
    have hln := exsSz_len ks
    exact ⟨v4, rfl, list_rv hM h4 (by omega) cvE_len fun x hx cs hr => ih x cs (by have := exsSz_mem hx; omega) (by omega) hr⟩
theorem st_rv : ∀ (d : Nat) (e : St) (cs : List Value), stSz e ≤ d → d ≤ maxLen → RVs M (cvS e) cs → IsSt Any w d e cs := by
  intro d
  induction d with
  | zero => intro e cs h; have := stSz_pos e; omega
  | succ d ih =>
    intro e cs hd hm h
    obtain ⟨k, nm, ty, es, b, el⟩ := e
    rw [stSz] at hd
    rw [cvS_mk] at h
    obtain ⟨v0, cs, rfl, h0, h⟩ := h.cons_inv
    obtain ⟨v1, cs, rfl, h1, h⟩ := h.cons_inv
    obtain ⟨v2, cs, rfl, h2, h⟩ := h.cons_inv
    obtain ⟨v3, cs, rfl, h3, h⟩ := h.cons_inv
    obtain ⟨v4, cs, rfl, h4, h⟩ := h.cons_inv
    obtain ⟨v5, cs, rfl, h5, h⟩ := h.cons_inv
    have := h.nil_inv; subst this
    rw [int_rv h0, str_rv h1, str_rv h2]
    have l1 := exsSz_len es
    have l2 := stsSz_len b
    have l3 := stsSz_len el
    exact ⟨v3, v4, v5, rfl, list_rv hM h3 (by omega) cvE_len fun x hx cs hr => ex_rv hM d x cs (by have := exsSz_mem hx; omega) (by omega) hr,
      list_rv hM h4 (by omega) cvS_len fun x hx cs hr => ih x cs (by have := stsSz_mem hx; omega) (by omega) hr,
      list_rv hM h5 (by omega) cvS_len fun x hx cs hr => ih x cs (by have := stsSz_mem hx; omega) (by omega) hr⟩
omit hM in
theorem fld_rv (f : Fld) (cs : List Value) (h : RVs M (cvF f) cs) : IsFld f cs := by
  obtain ⟨v0, cs, rfl, h0, h⟩ := h.cons_inv
  obtain ⟨v1, cs, rfl, h1, h⟩ := h.cons_inv
  have := h.nil_inv; subst this
  rw [str_rv h0, str_rv h1]; rfl
theorem me_rv (m : Me) (cs : List Value) (hb : stsSz m.body ≤ 1000000) (hp : m.params.length ≤ 1000000) (h : RVs M (cvM m) cs) : IsMe Any w 1000000 m cs := by
  obtain ⟨v0, cs, rfl, h0, h⟩ := h.cons_inv
  obtain ⟨v1, cs, rfl, h1, h⟩ := h.cons_inv
  obtain ⟨v2, cs, rfl, h2, h⟩ := h.cons_inv
  obtain ⟨v3, cs, rfl, h3, h⟩ := h.cons_inv
  obtain ⟨v4, cs, rfl, h4, h⟩ := h.cons_inv
  have := h.nil_inv; subst this
  have l2 := stsSz_len m.body
  rw [str_rv h0, bool_rv h1, str_rv h3]
  exact ⟨v2, v4, rfl, list_rv hM h2 (by unfold maxLen; omega) cvF_len fun x _ cs hr => fld_rv x cs hr,
    list_rv hM h4 (by unfold maxLen; omega) cvS_len fun x hx cs hr => st_rv hM _ x cs (by have := stsSz_mem hx; omega) (by unfold maxLen; omega) hr⟩
theorem cl_rv (c : Cl) (cs : List Value) (hm : ∀ m ∈ c.methods, stsSz m.body ≤ 1000000 ∧ m.params.length ≤ 1000000) (hf : c.fields.length ≤ 1000000) (hl : c.methods.length ≤ 1000000) (h : RVs M (cvC c) cs) : IsCl Any w 1000000 c cs := by
  obtain ⟨v0, cs, rfl, h0, h⟩ := h.cons_inv
  obtain ⟨v1, cs, rfl, h1, h⟩ := h.cons_inv
  obtain ⟨v2, cs, rfl, h2, h⟩ := h.cons_inv
  obtain ⟨v3, cs, rfl, h3, h⟩ := h.cons_inv
  have := h.nil_inv; subst this
  rw [str_rv h0, str_rv h1]
  exact ⟨v2, v3, rfl, list_rv hM h2 (by unfold maxLen; omega) cvF_len fun x _ cs hr => fld_rv x cs hr,
    list_rv hM h3 (by unfold maxLen; omega) cvM_len fun x hx cs hr => me_rv hM x cs (hm x hx).1 (hm x hx).2 hr⟩
end
theorem firstLim_zero {α : Type} {f : α → Nat} {l : List α} (h : firstLim f l = 0) : ∀ x ∈ l, f x = 0 := by
  induction l with
  | nil => intro x hx; cases hx
  | cons y l ih =>
    rw [firstLim] at h
    split at h
    · rename_i h1; exact absurd h h1
    · rename_i h1
      intro x hx
      rcases List.mem_cons.1 hx with rfl | hx
      · simpa using h1
      · exact ih h x hx
end Go.Proofs.YthjonkommphkkaaGreatDoor
