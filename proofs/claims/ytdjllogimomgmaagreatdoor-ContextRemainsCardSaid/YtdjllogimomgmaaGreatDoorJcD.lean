/-
  The classes above a class, as the reference finds them; walked.
-/
import Derived.Test.YtdjllogimomgmaaGreatDoorJcC
import Derived.Test.YtdjllogimomgmaaGreatDoorJaE
set_option linter.unusedSimpArgs false
set_option linter.unusedVariables false
namespace Go.Proofs.YtdjllogimomgmaaGreatDoor
open Ax Tx Go.RowKit
attribute [local simp] stepS Ax.stepT Dl.on qstep astep estep rd putE argE ofV ofS loadA pickCells isAggD faddA fieldA partA iaddA idxA sliA bnd binA intA strA unA convA bltA lenA mapOf lookA findK keyD scalD storeA mupA appA srcA srcD upd drp Dl.hp Dl.nx CV.cs CV.one buildA placesA fillA zrep tasA ifaceD eqA eqFs eqIs range2 copyA nbeq nble nblt decEq ti_int ti_bool ti_str ti_i64 ti_Strs ti_Hi ti_Cds ti_Cd gd gdB callA resA op1
theorem ACall.le {P : Program} {G : Nat → CV} {f : FuncId} {args : List CV} {H : Heap} {nx : Nat} {Q : Res → Heap → Nat → Prop} (h : ACall P G f args H nx Q) : ACall P G f args H nx fun r H' nx' => nx ≤ nx' ∧ Q r H' nx' :=
  fun M w vs g r a => (h M w vs g r a).mono fun _ _ ⟨M', x, H', n', a1, a2, a3, a4⟩ => ⟨M', x, H', n', a1, a2, a3, a3.nxle, a4⟩
section
variable {P : Program} {G : Nat → CV} {n : Nat} {e : Env} {H : Heap} {nx : Nat} {Q : AExit → Env → Heap → Nat → Prop} {ops : Array Oper} {os : List Oper} {d : Option Nat} {op : Op} {ty : TypeId} {pos : String} {af : Array Edge} {g : Option (Nat × Bool)}
theorem AOpl.callN (hd : okD n d = true) {f : FuncId} {args : List CV} (hq : callA (rd G e) op = some (f, args)) (he : enters P f = true) {v : CV} (hf : FCall P G f args fun r => r = .ret v)
    (h : ∀ nx', nx ≤ nx' → AOpl P G n ops os (putE e d v) H nx' Q) : AOpl P G n ops (⟨d, op, ty, pos, af, none⟩ :: os) e H nx Q :=
  AOpl.call hd hq he (Ax.ACall.mono (ACall.le (hf H nx)) fun r H' nx' ⟨h0, h1, h2⟩ => by subst h1; subst h2; exact h nx' h0)
theorem AOpl.callNG (hd : okD n d = true) (hg : gd ops e ⟨d, op, ty, pos, af, g⟩ = some true) {f : FuncId} {args : List CV} (hq : callA (rd G e) op = some (f, args)) (he : enters P f = true) {v : CV} (hf : FCall P G f args fun r => r = .ret v)
    (h : ∀ nx', nx ≤ nx' → AOpl P G n ops os (putE e d v) H nx' Q) : AOpl P G n ops (⟨d, op, ty, pos, af, g⟩ :: os) e H nx Q :=
  AOpl.callG hd hg hq he (Ax.ACall.mono (ACall.le (hf H nx)) fun r H' nx' ⟨h0, h1, h2⟩ => by subst h1; subst h2; exact h nx' h0)
end
theorem RV.nil_tup {M : Mp} {d : CV} {v : Value} (h : RV M (.tup [.nils, d]) v) : RV M (.tup [.lst [], d]) v := by
  cases h with
  | tup cs vs hl hr =>
    refine .tup _ vs hl fun j a b => ?_
    have := hr j (by simpa using a) b
    match j, a, b, this with
    | 0, _, _, this => exact RV.nil_lst this
    | 1, _, _, this => exact this
/-- A function that gives back an own list and a second value. -/
theorem FCall.ofBodyLB {P : Program} {G : Nat → CV} {f : FuncId} {fn : Func} {c : Code} {args : List CV} {n : Nat} {α : Type} {cv : α → List CV} {k : Nat} {l : List α} {d : CV} (hk : ∀ a, (cv a).length = k) (hf : P.funcs[f]? = some fn) (hb : fn.body = some c) (hn : max args.length fn.ntmps = n)
    (h : ∀ nx, AWp P G n c (argE args) Heap.no nx (BodyQ P fn fun r H' nx' => ∃ c, r = .ret (.tup [c, d]) ∧ OwnL cv k H' nx' c l)) : FCall P G f args fun r => r = .ret (.tup [.lst (l.map cv), d]) := by
  refine FCall.of fun nx => ?_
  intro M w vs g r v
  refine (ACall.of_body hf hb (hn ▸ h nx) M w vs g r v).mono ?_
  rintro e w' ⟨M1, x, H1, n1, a1, a2, a3, c, rfl, ho⟩
  have : ∃ M', EndR M' (.ret (.tup [.lst (l.map cv), d])) e ∧ Rep M' Heap.no n1 w' ∧ Fr H1 M1 n1 w' Heap.no M' n1 w' := by
    rcases ho with ⟨rfl, rfl⟩ | ⟨b, rfl, hb, _⟩
    · cases e <;> simp only [EndR] at a1
      exact ⟨M1, RV.nil_tup a1, a2.weak (Sub.no _), Fr.weak (Sub.no _)⟩
    · refine Fz.sound (.step (r1 := .ret (.tup [.lst (l.map cv), d])) b _ hb (.ret ?_) (.done _ _ _ (Sub.no _))) a2 a1
      have := FV.sl (b := b) (cs := l.flatMap cv) 0 l.length k (by rw [flatMap_len hk]; omega)
      rw [OwnL.frozen hk] at this
      refine .tup _ _ rfl fun j a b' => ?_
      match j, a with
      | 0, _ => exact this
      | 1, _ => exact .same _
  obtain ⟨M2, b1, b2, b3⟩ := this
  exact ⟨M2, _, Heap.no, n1, b1, b2, a3.trans b3, rfl⟩
theorem nodup_sub {α : Type} [DecidableEq α] {l m : List α} (h : l.Nodup) (hs : ∀ x ∈ l, x ∈ m) : l.length ≤ m.length := by
  induction l generalizing m with
  | nil => simp
  | cons a l ih =>
    rw [List.nodup_cons] at h
    have ha := hs a (by simp)
    have := ih (m := m.erase a) h.2 fun x hx => by
      have hne : x ≠ a := fun e => h.1 (e ▸ hx)
      exact (List.mem_erase_of_ne hne).mpr (hs x (by simp [hx]))
    rw [List.length_erase_of_mem ha] at this
    have hpos := List.length_pos_of_mem ha
    simp only [List.length_cons]; omega
theorem cvB_len (a : Bs) : (cvB a).length = 1 := rfl
theorem cvB_one (a : Bs) : (cvB a).all CV.one = true := rfl
theorem inB_mem {l : List Bs} {s : Bs} : inB l s = false ↔ s ∉ l := by
  unfold inB
  rw [List.any_eq_false]
  constructor
  · intro h hm; have := h s hm; simp at this
  · intro h x hx e; simp only [beq_iff_eq] at e; exact h (e ▸ hx)
theorem findN_some {cds : List Cd} {s : Bs} {i : Nat} (h : findN cds s = some i) : ∃ hl : i < cds.length, cds[i].name = s := by
  obtain ⟨h1, h2, _⟩ := List.findIdx?_eq_some_iff_getElem.mp h
  exact ⟨h1, by simpa using h2⟩
theorem own_sep {H : Heap} {nx b : Nat} {x : CV} {acc : List Bs} {L : List (List CV)} (ho : OwnL cvB 1 H nx x acc) (hb : H b = some (.cells [.lst L])) : ∀ b', x = .sl b' 0 acc.length 1 → b ≠ b' := by
  rintro b' rfl rfl
  rcases ho with ⟨_, h⟩ | ⟨b2, h1, h2, _⟩
  · cases h
  · cases h1
    rw [hb, flat_str] at h2
    cases acc with
    | nil => simp at h2
    | cons a l => simp at h2
def chainF (cds : List Cd) : Nat → List Bs → Bs → List Bs × Bool
  | 0, acc, _ => (acc, false)
  | n + 1, acc, s => match findN cds s with
    | none => (acc, false)
    | some i => match inB acc s with
      | true => (acc, true)
      | false => match cds[i]? with
        | some c => if c.super = [] then (acc ++ [s], false) else chainF cds n (acc ++ [s]) c.super
        | none => (acc, false)
def chainC (cds : List Cd) (s : Bs) : List Bs × Bool := chainF cds (cds.length + 1) [] s
set_option maxRecDepth 10000 in
set_option maxHeartbeats 4000000 in
theorem chain_ok (cds : List Cd) (hl : cds.length ≤ 1000) (s0 : Bs) : FCall Tryz.prog cxG 185 [.agg [.lst (cds.map cvCd)], .str s0] fun r => r = .ret (.tup [.lst ((chainC cds s0).1.map cvB), .bool (chainC cds s0).2]) := by
  have hlm : cds.length ≤ maxLen := by simp only [maxLen]; omega
  refine FCall.ofBodyLB cvB_len Tryz.func185 rfl rfl fun nx => ?_
  have esc : ∀ (e : Env) (H : Heap) (nx' : Nat) (b : Bool) (acc : List Bs), OwnL cvB 1 H nx' (e 4) acc → e 5 = .bool b → chainC cds s0 = (acc, b) → ∃ x, resA Tryz.prog H e (Tryz.f185).results.toList = some x ∧ ∃ c, Res.ret (packA x) = .ret (.tup [c, .bool (chainC cds s0).2]) ∧ OwnL cvB 1 H nx' c (chainC cds s0).1 := by
    intro e H nx' b acc ho h hb
    exact ⟨[e 4, .bool b], by simp [Tryz.results185, resA, h], e 4, by rw [hb]; rfl, by rw [hb]; exact ho⟩
  repeat (first | (first | (apply AOpl.step; rfl) | apply AQl.step | apply ASl.step); focus simp [-Option.some.injEq]; rfl | (first | (apply AOpl.stepG; rfl) | apply AQl.stepG | apply ASl.stepG); (focus simp; done); focus simp [-Option.some.injEq]; rfl | (first | (apply AOpl.pass; rfl) | apply AQl.pass | apply ASl.pass); (focus simp; done) | (first | refine AOpl.nil ?_ | refine AWp.skip ?_ | refine AWp.exit ?_ | refine AWp.ret ?_ | refine AQl.nil ?_ | refine ASl.nil ?_); try simp only [Then, InBlock, reduceIte, Nat.reduceEqDiff] | refine AWp.seq ?_ | refine AWp.reg rfl ?_ | refine AWp.block ?_ | apply AWp.condT; (focus simp; done) | apply AWp.condF; (focus simp; done) | refine AWp.regD (by kernel_rfl) (by kernel_rfl) rfl ?_; intro _ | refine AWp.regT (by kernel_rfl) (by kernel_rfl) rfl rfl ?_)
  ((apply AOpl.callN); (focus rfl); (focus (simp [-Option.some.injEq]; rfl)); (focus (kernel_rfl)))
  · exact find_ok cds hlm s0
  intro nx0 hn0
  repeat (first | (first | (apply AOpl.step; rfl) | apply AQl.step | apply ASl.step); focus simp [-Option.some.injEq]; rfl | (first | (apply AOpl.stepG; rfl) | apply AQl.stepG | apply ASl.stepG); (focus simp; done); focus simp [-Option.some.injEq]; rfl | (first | (apply AOpl.pass; rfl) | apply AQl.pass | apply ASl.pass); (focus simp; done) | (first | refine AOpl.nil ?_ | refine AWp.skip ?_ | refine AWp.exit ?_ | refine AWp.ret ?_ | refine AQl.nil ?_ | refine ASl.nil ?_); try simp only [Then, InBlock, reduceIte, Nat.reduceEqDiff] | refine AWp.seq ?_ | refine AWp.reg rfl ?_ | refine AWp.block ?_ | apply AWp.condT; (focus simp; done) | apply AWp.condF; (focus simp; done) | refine AWp.regD (by kernel_rfl) (by kernel_rfl) rfl ?_; intro _ | refine AWp.regT (by kernel_rfl) (by kernel_rfl) rfl rfl ?_)
  refine AWp.count cds.length (fun i e H nx1 => ∃ acc s, i = acc.length ∧ e 1 = .str s ∧ e 2 = .ptr nx 0 ∧ H nx = some (.cells [.lst (cds.map cvCd)]) ∧ nx < nx1 ∧ e 7 = .int .i64 (findI cds s) ∧ OwnL cvB 1 H nx1 (e 6) acc ∧ acc.Nodup ∧ (∀ w ∈ acc, w ∈ cds.map Cd.name) ∧ chainF cds (cds.length + 1 - i) acc s = chainC cds s0) ?_ ?_
  · exact ⟨[], s0, rfl, by simp [putE, argE], by simp [putE], by simp [upd], by omega, by simp [putE], .inl ⟨rfl, by simp [putE, ofV, ofS]⟩, List.nodup_nil, by simp, rfl⟩
  · rintro i e H nx1 hi ⟨acc, s, rfl, h1, h2, hH, hnx, h7, ho, hnd, hsub, hch⟩
    have hfu : cds.length + 1 - acc.length = (cds.length - acc.length) + 1 := by omega
    rw [hfu] at hch
    cases hf : findN cds s with
    | none =>
      have hv : findI cds s = -1 := by simp only [findI, hf]
      rw [hv] at h7
      repeat (first | (first | (apply AOpl.step; rfl) | apply AQl.step | apply ASl.step); focus simp [h1, h2, hH, h7, -Option.some.injEq]; rfl | (first | (apply AOpl.stepG; rfl) | apply AQl.stepG | apply ASl.stepG); (focus simp [h1, h2, hH, h7]; done); focus simp [h1, h2, hH, h7, -Option.some.injEq]; rfl | (first | (apply AOpl.pass; rfl) | apply AQl.pass | apply ASl.pass); (focus simp [h1, h2, hH, h7]; done) | (first | refine AOpl.nil ?_ | refine AWp.skip ?_ | refine AWp.exit ?_ | refine AWp.ret ?_ | refine AQl.nil ?_ | refine ASl.nil ?_); try simp only [Then, InBlock, reduceIte, Nat.reduceEqDiff] | refine AWp.seq ?_ | refine AWp.reg rfl ?_ | refine AWp.block ?_ | apply AWp.condT; (focus simp [h1, h2, hH, h7]; done) | apply AWp.condF; (focus simp [h1, h2, hH, h7]; done) | refine AWp.regD (by kernel_rfl) (by kernel_rfl) rfl ?_; intro _ | refine AWp.regT (by kernel_rfl) (by kernel_rfl) rfl rfl ?_)
      exact esc _ _ _ false acc (by simpa [putE] using ho) (by first | (simp; done) | (simp; rfl)) (by rw [← hch]; simp only [chainF, hf])
    | some k =>
      obtain ⟨hk, hkn⟩ := findN_some hf
      have hv : findI cds s = (k : Int) := by simp only [findI, hf]
      rw [hv] at h7
      have hp : (0 : Int) ≤ (k : Int) := by omega
      obtain ⟨x, hx⟩ : ∃ x, e 6 = x := ⟨_, rfl⟩
      rw [hx] at ho
      repeat (first | (first | (apply AOpl.step; rfl) | apply AQl.step | apply ASl.step); focus simp [h1, h2, hH, h7, hp, hx, -Option.some.injEq]; rfl | (first | (apply AOpl.stepG; rfl) | apply AQl.stepG | apply ASl.stepG); (focus simp [h1, h2, hH, h7, hp, hx]; done); focus simp [h1, h2, hH, h7, hp, hx, -Option.some.injEq]; rfl | (first | (apply AOpl.pass; rfl) | apply AQl.pass | apply ASl.pass); (focus simp [h1, h2, hH, h7, hp, hx]; done) | (first | refine AOpl.nil ?_ | refine AWp.skip ?_ | refine AWp.exit ?_ | refine AWp.ret ?_ | refine AQl.nil ?_ | refine ASl.nil ?_); try simp only [Then, InBlock, reduceIte, Nat.reduceEqDiff] | refine AWp.seq ?_ | refine AWp.reg rfl ?_ | refine AWp.block ?_ | apply AWp.condT; (focus simp [h1, h2, hH, h7, hp, hx]; done) | apply AWp.condF; (focus simp [h1, h2, hH, h7, hp, hx]; done) | refine AWp.regD (by kernel_rfl) (by kernel_rfl) rfl ?_; intro _ | refine AWp.regT (by kernel_rfl) (by kernel_rfl) rfl rfl ?_)
      ((apply AOpl.call); (focus rfl); (focus (simp [h1, h2, hH, h7, hp, hx, -Option.some.injEq]; rfl)); (focus (kernel_rfl)))
      refine (in_own s ho (by simp only [maxLen]; omega)).mono ?_
      rintro r H1 nx2 ⟨rfl, rfl, rfl⟩
      simp only
      cases hin : inB acc s with
      | true =>
        repeat (first | (first | (apply AOpl.step; rfl) | apply AQl.step | apply ASl.step); focus simp [hx, -Option.some.injEq]; rfl | (first | (apply AOpl.stepG; rfl) | apply AQl.stepG | apply ASl.stepG); (focus simp [hx]; done); focus simp [hx, -Option.some.injEq]; rfl | (first | (apply AOpl.pass; rfl) | apply AQl.pass | apply ASl.pass); (focus simp [hx]; done) | (first | refine AOpl.nil ?_ | refine AWp.skip ?_ | refine AWp.exit ?_ | refine AWp.ret ?_ | refine AQl.nil ?_ | refine ASl.nil ?_); try simp only [Then, InBlock, reduceIte, Nat.reduceEqDiff] | refine AWp.seq ?_ | refine AWp.reg rfl ?_ | refine AWp.block ?_ | apply AWp.condT; (focus simp [hx]; done) | apply AWp.condF; (focus simp [hx]; done) | refine AWp.regD (by kernel_rfl) (by kernel_rfl) rfl ?_; intro _ | refine AWp.regT (by kernel_rfl) (by kernel_rfl) rfl rfl ?_)
        exact esc _ _ _ true acc (by simpa [putE] using ho) (by first | (simp; done) | (simp; rfl)) (by rw [← hch]; simp only [chainF, hf, hin])
      | false =>
        have hm := inB_mem.mp hin
        have hnd' : (acc ++ [s]).Nodup := by
          rw [List.nodup_append]
          exact ⟨hnd, by simp, fun a ha b hb => by simp only [List.mem_singleton] at hb; subst hb; exact fun e => hm (e ▸ ha)⟩
        have hsub' : ∀ w ∈ acc ++ [s], w ∈ cds.map Cd.name := by
          intro w hw
          rcases List.mem_append.mp hw with hw | hw
          · exact hsub w hw
          · simp only [List.mem_singleton] at hw
            subst hw
            rw [← hkn]; exact List.mem_map_of_mem (List.getElem_mem hk)
        have hlen := nodup_sub hnd' hsub'
        simp only [List.length_append, List.length_cons, List.length_nil, List.length_map] at hlen
        repeat (first | (first | (apply AOpl.step; rfl) | apply AQl.step | apply ASl.step); focus simp [h1, hx, -Option.some.injEq]; rfl | (first | (apply AOpl.stepG; rfl) | apply AQl.stepG | apply ASl.stepG); (focus simp [h1, hx]; done); focus simp [h1, hx, -Option.some.injEq]; rfl | (first | (apply AOpl.pass; rfl) | apply AQl.pass | apply ASl.pass); (focus simp [h1, hx]; done) | (first | refine AOpl.nil ?_ | refine AWp.skip ?_ | refine AWp.exit ?_ | refine AWp.ret ?_ | refine AQl.nil ?_ | refine ASl.nil ?_); try simp only [Then, InBlock, reduceIte, Nat.reduceEqDiff] | refine AWp.seq ?_ | refine AWp.reg rfl ?_ | refine AWp.block ?_ | apply AWp.condT; (focus simp [h1, hx]; done) | apply AWp.condF; (focus simp [h1, hx]; done) | refine AWp.regD (by kernel_rfl) (by kernel_rfl) rfl ?_; intro _ | refine AWp.regT (by kernel_rfl) (by kernel_rfl) rfl rfl ?_)
        refine AOpl.appRow (k := 1) (u := s) ti_Strs ti_str rfl rfl (by omega) (by simp) cvB_len cvB_one rfl rfl (by first | (simp [rd, putE, hx]; done) | (simp [rd, putE, hx]; rfl)) (by first | (simp [rd, putE]; done) | (simp [rd, putE]; rfl)) ((ho.upd (Nat.le_refl _)).up (Nat.le_succ _)) (by simp [upd, cvB]) (by omega) ?_
        intro c' H2 nx3 ho' hnn hfr
        have hH2 : H2 nx = some (.cells [.lst (cds.map cvCd)]) := by
          rw [hfr nx (by omega) (own_sep ho hH), upd_miss _ _ _ _ (by omega)]; exact hH
        by_cases hs : cds[k].super = []
        · repeat (first | (first | (apply AOpl.step; rfl) | apply AQl.step | apply ASl.step); focus simp [h1, h2, h7, hH2, hk, cd_at hk, hs, -Option.some.injEq]; rfl | (first | (apply AOpl.stepG; rfl) | apply AQl.stepG | apply ASl.stepG); (focus simp [h1, h2, h7, hH2, hk, cd_at hk, hs]; done); focus simp [h1, h2, h7, hH2, hk, cd_at hk, hs, -Option.some.injEq]; rfl | (first | (apply AOpl.pass; rfl) | apply AQl.pass | apply ASl.pass); (focus simp [h1, h2, h7, hH2, hk, cd_at hk, hs]; done) | (first | refine AOpl.nil ?_ | refine AWp.skip ?_ | refine AWp.exit ?_ | refine AWp.ret ?_ | refine AQl.nil ?_ | refine ASl.nil ?_); try simp only [Then, InBlock, reduceIte, Nat.reduceEqDiff] | refine AWp.seq ?_ | refine AWp.reg rfl ?_ | refine AWp.block ?_ | apply AWp.condT; (focus simp [h1, h2, h7, hH2, hk, cd_at hk, hs]; done) | apply AWp.condF; (focus simp [h1, h2, h7, hH2, hk, cd_at hk, hs]; done) | refine AWp.regD (by kernel_rfl) (by kernel_rfl) rfl ?_; intro _ | refine AWp.regT (by kernel_rfl) (by kernel_rfl) rfl rfl ?_)
          exact esc _ _ _ false (acc ++ [s]) (by simpa [putE] using ho') (by first | (simp; done) | (simp; rfl)) (by rw [← hch]; simp only [chainF, hf, hin, List.getElem?_eq_getElem hk, hs, if_true])
        · repeat (first | (first | (apply AOpl.step; rfl) | apply AQl.step | apply ASl.step); focus simp [h1, h2, h7, hH2, hk, cd_at hk, hs, -Option.some.injEq]; rfl | (first | (apply AOpl.stepG; rfl) | apply AQl.stepG | apply ASl.stepG); (focus simp [h1, h2, h7, hH2, hk, cd_at hk, hs]; done); focus simp [h1, h2, h7, hH2, hk, cd_at hk, hs, -Option.some.injEq]; rfl | (first | (apply AOpl.pass; rfl) | apply AQl.pass | apply ASl.pass); (focus simp [h1, h2, h7, hH2, hk, cd_at hk, hs]; done) | (first | refine AOpl.nil ?_ | refine AWp.skip ?_ | refine AWp.exit ?_ | refine AWp.ret ?_ | refine AQl.nil ?_ | refine ASl.nil ?_); try simp only [Then, InBlock, reduceIte, Nat.reduceEqDiff] | refine AWp.seq ?_ | refine AWp.reg rfl ?_ | refine AWp.block ?_ | apply AWp.condT; (focus simp [h1, h2, h7, hH2, hk, cd_at hk, hs]; done) | apply AWp.condF; (focus simp [h1, h2, h7, hH2, hk, cd_at hk, hs]; done) | refine AWp.regD (by kernel_rfl) (by kernel_rfl) rfl ?_; intro _ | refine AWp.regT (by kernel_rfl) (by kernel_rfl) rfl rfl ?_)
          ((apply AOpl.callN); (focus rfl); (focus (simp [h1, h2, h7, hH2, hk, cd_at hk, hs, -Option.some.injEq]; rfl)); (focus (kernel_rfl)))
          · exact find_ok cds hlm _
          intro nx4 hn4
          repeat (first | (first | (apply AOpl.step; rfl) | apply AQl.step | apply ASl.step); focus simp [-Option.some.injEq]; rfl | (first | (apply AOpl.stepG; rfl) | apply AQl.stepG | apply ASl.stepG); (focus simp; done); focus simp [-Option.some.injEq]; rfl | (first | (apply AOpl.pass; rfl) | apply AQl.pass | apply ASl.pass); (focus simp; done) | (first | refine AOpl.nil ?_ | refine AWp.skip ?_ | refine AWp.exit ?_ | refine AWp.ret ?_ | refine AQl.nil ?_ | refine ASl.nil ?_); try simp only [Then, InBlock, reduceIte, Nat.reduceEqDiff] | refine AWp.seq ?_ | refine AWp.reg rfl ?_ | refine AWp.block ?_ | apply AWp.condT; (focus simp; done) | apply AWp.condF; (focus simp; done) | refine AWp.regD (by kernel_rfl) (by kernel_rfl) rfl ?_; intro _ | refine AWp.regT (by kernel_rfl) (by kernel_rfl) rfl rfl ?_)
          refine ⟨by omega, acc ++ [s], cds[k].super, by simp, by simp [putE], by simp [putE, h2], hH2, by omega, by simp [putE], by simpa [putE] using ho'.up hn4, hnd', hsub', ?_⟩
          rw [← hch]
          simp only [chainF, hf, hin, List.getElem?_eq_getElem hk, hs, if_false]
          have : cds.length + 1 - (acc.length + 1) = cds.length - acc.length := by omega
          rw [this]
end Go.Proofs.YtdjllogimomgmaaGreatDoor
namespace Go.Proofs.YtdjllogimomgmaaGreatDoor
open Ax Tx
theorem sliA_tail {H : Heap} (l : List Bs) (a : Bs) : sliA Tryz.prog H 106 (.lst (cvB a :: l.map cvB)) (some (.int .i64 1)) none = some (.lst (l.map cvB)) := by
  have hall : (cvB a :: l.map cvB).all (fun r => Nat.beq r.length 1) = true := by
    rw [List.all_eq_true]
    intro r hr
    rcases List.mem_cons.mp hr with rfl | hr
    · rfl
    · obtain ⟨b, _, rfl⟩ := List.mem_map.mp hr; rfl
  unfold sliA
  simp only [ti_Strs, ti_str]
  simp only [bnd, natOf]
  have h1 : Nat.ble 1 (l.length + 1) = true := Nat.ble_eq_true_of_le (by omega)
  have h2 : Nat.ble (l.length + 1) (l.length + 1) = true := Nat.ble_eq_true_of_le (by omega)
  have h3 : (l.map cvB).take l.length = l.map cvB := List.take_of_length_le (by simp)
  simp [hall, h1, h2, h3]
end Go.Proofs.YtdjllogimomgmaaGreatDoor
namespace Go.Proofs.YtdjllogimomgmaaGreatDoor
open Ax Tx Go.RowKit
attribute [local simp] stepS Ax.stepT Dl.on qstep astep estep rd putE argE ofV ofS loadA pickCells isAggD faddA fieldA partA iaddA idxA sliA bnd binA intA strA unA convA bltA lenA mapOf lookA findK keyD scalD storeA mupA appA srcA srcD upd drp Dl.hp Dl.nx CV.cs CV.one buildA placesA fillA zrep tasA ifaceD eqA eqFs eqIs range2 copyA nbeq nble nblt decEq ti_int ti_bool ti_str ti_i64 ti_Strs ti_Hi ti_Cds ti_Cd gd gdB callA resA op1
def supC (cds : List Cd) (s : Bs) : List Bs := (chainC cds s).1
theorem chainF_len {cds : List Cd} : ∀ (n : Nat) (acc : List Bs) (s : Bs), (chainF cds n acc s).1.length ≤ acc.length + n
  | 0, acc, _ => by simp [chainF]
  | n + 1, acc, s => by
    simp only [chainF]
    split
    · simp
    · split
      · simp
      · split
        · split
          · simp
          · rename_i c _ _
            have := chainF_len (cds := cds) n (acc ++ [s]) c.super
            simp only [List.length_append, List.length_cons, List.length_nil] at this
            omega
        · simp
theorem supC_len {cds : List Cd} (hl : cds.length ≤ 1000) (s : Bs) : (supC cds s).length ≤ 1001 := by
  have := chainF_len (cds := cds) (cds.length + 1) [] s
  simp only [List.length_nil] at this
  show (chainF cds (cds.length + 1) [] s).1.length ≤ 1001
  omega
theorem supers_ok (cds : List Cd) (hl : cds.length ≤ 1000) (s : Bs) : FCall Tryz.prog cxG 225 [.agg [.lst (cds.map cvCd)], .str s] fun r => r = .ret (.lst ((supC cds s).map cvB)) := by
  refine FCall.ofBody Tryz.func225 rfl rfl fun nx => ?_
  repeat (first | (first | (apply AOpl.step; rfl) | apply AQl.step | apply ASl.step); focus simp [-Option.some.injEq]; rfl | (first | (apply AOpl.stepG; rfl) | apply AQl.stepG | apply ASl.stepG); (focus simp; done); focus simp [-Option.some.injEq]; rfl | (first | (apply AOpl.pass; rfl) | apply AQl.pass | apply ASl.pass); (focus simp; done) | (first | refine AOpl.nil ?_ | refine AWp.skip ?_ | refine AWp.exit ?_ | refine AWp.ret ?_ | refine AQl.nil ?_ | refine ASl.nil ?_); try simp only [Then, InBlock, reduceIte, Nat.reduceEqDiff] | refine AWp.seq ?_ | refine AWp.reg rfl ?_ | refine AWp.block ?_ | apply AWp.condT; (focus simp; done) | apply AWp.condF; (focus simp; done) | refine AWp.regD (by kernel_rfl) (by kernel_rfl) rfl ?_; intro _ | refine AWp.regT (by kernel_rfl) (by kernel_rfl) rfl rfl ?_)
  ((apply AOpl.callF); (focus rfl); (focus (simp [-Option.some.injEq]; rfl)); (focus (kernel_rfl)))
  · exact chain_ok cds hl s
  intro nx1
  repeat (first | (first | (apply AOpl.step; rfl) | apply AQl.step | apply ASl.step); focus simp [-Option.some.injEq]; rfl | (first | (apply AOpl.stepG; rfl) | apply AQl.stepG | apply ASl.stepG); (focus simp; done); focus simp [-Option.some.injEq]; rfl | (first | (apply AOpl.pass; rfl) | apply AQl.pass | apply ASl.pass); (focus simp; done) | (first | refine AOpl.nil ?_ | refine AWp.skip ?_ | refine AWp.exit ?_ | refine AWp.ret ?_ | refine AQl.nil ?_ | refine ASl.nil ?_); try simp only [Then, InBlock, reduceIte, Nat.reduceEqDiff] | refine AWp.seq ?_ | refine AWp.reg rfl ?_ | refine AWp.block ?_ | apply AWp.condT; (focus simp; done) | apply AWp.condF; (focus simp; done) | refine AWp.regD (by kernel_rfl) (by kernel_rfl) rfl ?_; intro _ | refine AWp.regT (by kernel_rfl) (by kernel_rfl) rfl rfl ?_)
  refine ⟨[.lst ((supC cds s).map cvB)], by simp [Tryz.results225, resA, putE, ofV, ofS, supC], ?_⟩
  rfl
def subB (cds : List Cd) (a b : Bs) : Bool := inB (supC cds a) b
theorem isSub_ok (cds : List Cd) (hl : cds.length ≤ 1000) (a b : Bs) : FCall Tryz.prog cxG 210 [.agg [.lst (cds.map cvCd)], .str a, .str b] fun r => r = .ret (.bool (subB cds a b)) := by
  refine FCall.ofBody Tryz.func210 rfl rfl fun nx => ?_
  have hs := supC_len hl a
  repeat (first | (first | (apply AOpl.step; rfl) | apply AQl.step | apply ASl.step); focus simp [-Option.some.injEq]; rfl | (first | (apply AOpl.stepG; rfl) | apply AQl.stepG | apply ASl.stepG); (focus simp; done); focus simp [-Option.some.injEq]; rfl | (first | (apply AOpl.pass; rfl) | apply AQl.pass | apply ASl.pass); (focus simp; done) | (first | refine AOpl.nil ?_ | refine AWp.skip ?_ | refine AWp.exit ?_ | refine AWp.ret ?_ | refine AQl.nil ?_ | refine ASl.nil ?_); try simp only [Then, InBlock, reduceIte, Nat.reduceEqDiff] | refine AWp.seq ?_ | refine AWp.reg rfl ?_ | refine AWp.block ?_ | apply AWp.condT; (focus simp; done) | apply AWp.condF; (focus simp; done) | refine AWp.regD (by kernel_rfl) (by kernel_rfl) rfl ?_; intro _ | refine AWp.regT (by kernel_rfl) (by kernel_rfl) rfl rfl ?_)
  ((apply AOpl.callF); (focus rfl); (focus (simp [-Option.some.injEq]; rfl)); (focus (kernel_rfl)))
  · exact supers_ok cds hl a
  intro nx1
  repeat (first | (first | (apply AOpl.step; rfl) | apply AQl.step | apply ASl.step); focus simp [-Option.some.injEq]; rfl | (first | (apply AOpl.stepG; rfl) | apply AQl.stepG | apply ASl.stepG); (focus simp; done); focus simp [-Option.some.injEq]; rfl | (first | (apply AOpl.pass; rfl) | apply AQl.pass | apply ASl.pass); (focus simp; done) | (first | refine AOpl.nil ?_ | refine AWp.skip ?_ | refine AWp.exit ?_ | refine AWp.ret ?_ | refine AQl.nil ?_ | refine ASl.nil ?_); try simp only [Then, InBlock, reduceIte, Nat.reduceEqDiff] | refine AWp.seq ?_ | refine AWp.reg rfl ?_ | refine AWp.block ?_ | apply AWp.condT; (focus simp; done) | apply AWp.condF; (focus simp; done) | refine AWp.regD (by kernel_rfl) (by kernel_rfl) rfl ?_; intro _ | refine AWp.regT (by kernel_rfl) (by kernel_rfl) rfl rfl ?_)
  ((apply AOpl.callF); (focus rfl); (focus (simp [-Option.some.injEq]; rfl)); (focus (kernel_rfl)))
  · exact (in_ok (supC cds a) (by simp only [maxLen]; omega) b).f
  intro nx2
  repeat (first | (first | (apply AOpl.step; rfl) | apply AQl.step | apply ASl.step); focus simp [-Option.some.injEq]; rfl | (first | (apply AOpl.stepG; rfl) | apply AQl.stepG | apply ASl.stepG); (focus simp; done); focus simp [-Option.some.injEq]; rfl | (first | (apply AOpl.pass; rfl) | apply AQl.pass | apply ASl.pass); (focus simp; done) | (first | refine AOpl.nil ?_ | refine AWp.skip ?_ | refine AWp.exit ?_ | refine AWp.ret ?_ | refine AQl.nil ?_ | refine ASl.nil ?_); try simp only [Then, InBlock, reduceIte, Nat.reduceEqDiff] | refine AWp.seq ?_ | refine AWp.reg rfl ?_ | refine AWp.block ?_ | apply AWp.condT; (focus simp; done) | apply AWp.condF; (focus simp; done) | refine AWp.regD (by kernel_rfl) (by kernel_rfl) rfl ?_; intro _ | refine AWp.regT (by kernel_rfl) (by kernel_rfl) rfl rfl ?_)
  refine ⟨[.bool (subB cds a b)], by simp [Tryz.results210, resA, putE, ofV, ofS, subB], ?_⟩
  rfl
def upV (cds : List Cd) (s : Bs) : CV := match supC cds s with
  | [] => .nils
  | _ :: l => .lst (l.map cvB)
theorem up_ok (cds : List Cd) (hl : cds.length ≤ 1000) (s : Bs) : FCall Tryz.prog cxG 226 [.agg [.lst (cds.map cvCd)], .str s] fun r => r = .ret (upV cds s) := by
  refine FCall.ofBody Tryz.func226 rfl rfl fun nx => ?_
  have hs := supC_len hl s
  repeat (first | (first | (apply AOpl.step; rfl) | apply AQl.step | apply ASl.step); focus simp [-Option.some.injEq]; rfl | (first | (apply AOpl.stepG; rfl) | apply AQl.stepG | apply ASl.stepG); (focus simp; done); focus simp [-Option.some.injEq]; rfl | (first | (apply AOpl.pass; rfl) | apply AQl.pass | apply ASl.pass); (focus simp; done) | (first | refine AOpl.nil ?_ | refine AWp.skip ?_ | refine AWp.exit ?_ | refine AWp.ret ?_ | refine AQl.nil ?_ | refine ASl.nil ?_); try simp only [Then, InBlock, reduceIte, Nat.reduceEqDiff] | refine AWp.seq ?_ | refine AWp.reg rfl ?_ | refine AWp.block ?_ | apply AWp.condT; (focus simp; done) | apply AWp.condF; (focus simp; done) | refine AWp.regD (by kernel_rfl) (by kernel_rfl) rfl ?_; intro _ | refine AWp.regT (by kernel_rfl) (by kernel_rfl) rfl rfl ?_)
  ((apply AOpl.callF); (focus rfl); (focus (simp [-Option.some.injEq]; rfl)); (focus (kernel_rfl)))
  · exact supers_ok cds hl s
  intro nx1
  cases hc : supC cds s with
  | nil =>
    repeat (first | (first | (apply AOpl.step; rfl) | apply AQl.step | apply ASl.step); focus simp [-Option.some.injEq]; rfl | (first | (apply AOpl.stepG; rfl) | apply AQl.stepG | apply ASl.stepG); (focus simp; done); focus simp [-Option.some.injEq]; rfl | (first | (apply AOpl.pass; rfl) | apply AQl.pass | apply ASl.pass); (focus simp; done) | (first | refine AOpl.nil ?_ | refine AWp.skip ?_ | refine AWp.exit ?_ | refine AWp.ret ?_ | refine AQl.nil ?_ | refine ASl.nil ?_); try simp only [Then, InBlock, reduceIte, Nat.reduceEqDiff] | refine AWp.seq ?_ | refine AWp.reg rfl ?_ | refine AWp.block ?_ | apply AWp.condT; (focus simp; done) | apply AWp.condF; (focus simp; done) | refine AWp.regD (by kernel_rfl) (by kernel_rfl) rfl ?_; intro _ | refine AWp.regT (by kernel_rfl) (by kernel_rfl) rfl rfl ?_)
    refine ⟨[.nils], by simp [Tryz.results226, resA, putE, ofV, ofS], ?_⟩
    simp only [upV, hc]; rfl
  | cons a l =>
    have hp : ¬ ((l.length : Int) + 1 = 0) := by omega
    repeat (first | (first | (apply AOpl.step; rfl) | apply AQl.step | apply ASl.step); focus simp [hp, -Option.some.injEq]; rfl | (first | (apply AOpl.stepG; rfl) | apply AQl.stepG | apply ASl.stepG); (focus simp [hp]; done); focus simp [hp, -Option.some.injEq]; rfl | (first | (apply AOpl.pass; rfl) | apply AQl.pass | apply ASl.pass); (focus simp [hp]; done) | (first | refine AOpl.nil ?_ | refine AWp.skip ?_ | refine AWp.exit ?_ | refine AWp.ret ?_ | refine AQl.nil ?_ | refine ASl.nil ?_); try simp only [Then, InBlock, reduceIte, Nat.reduceEqDiff] | refine AWp.seq ?_ | refine AWp.reg rfl ?_ | refine AWp.block ?_ | apply AWp.condT; (focus simp [hp]; done) | apply AWp.condF; (focus simp [hp]; done) | refine AWp.regD (by kernel_rfl) (by kernel_rfl) rfl ?_; intro _ | refine AWp.regT (by kernel_rfl) (by kernel_rfl) rfl rfl ?_)
    ((apply AOpl.step); (focus rfl); (focus (simp [-sliA, sliA_tail l a, -Option.some.injEq]; rfl)))
    repeat (first | (first | (apply AOpl.step; rfl) | apply AQl.step | apply ASl.step); focus simp [-Option.some.injEq]; rfl | (first | (apply AOpl.stepG; rfl) | apply AQl.stepG | apply ASl.stepG); (focus simp; done); focus simp [-Option.some.injEq]; rfl | (first | (apply AOpl.pass; rfl) | apply AQl.pass | apply ASl.pass); (focus simp; done) | (first | refine AOpl.nil ?_ | refine AWp.skip ?_ | refine AWp.exit ?_ | refine AWp.ret ?_ | refine AQl.nil ?_ | refine ASl.nil ?_); try simp only [Then, InBlock, reduceIte, Nat.reduceEqDiff] | refine AWp.seq ?_ | refine AWp.reg rfl ?_ | refine AWp.block ?_ | apply AWp.condT; (focus simp; done) | apply AWp.condF; (focus simp; done) | refine AWp.regD (by kernel_rfl) (by kernel_rfl) rfl ?_; intro _ | refine AWp.regT (by kernel_rfl) (by kernel_rfl) rfl rfl ?_)
    refine ⟨[.lst (l.map cvB)], by simp [Tryz.results226, resA, putE, ofV, ofS], ?_⟩
    simp only [upV, hc]; rfl
def intS : Bs := [105, 110, 116]
def typeB (cds : List Cd) (s : Bs) : Bool := s == intS || decide (0 ≤ findI cds s)
theorem type_ok (cds : List Cd) (hl : cds.length ≤ 1000) (s : Bs) : FCall Tryz.prog cxG 164 [.agg [.lst (cds.map cvCd)], .str s] fun r => r = .ret (.bool (typeB cds s)) := by
  refine FCall.ofBody Tryz.func164 rfl rfl fun nx => ?_
  have hlm : cds.length ≤ maxLen := by simp only [maxLen]; omega
  by_cases h1 : s = [105, 110, 116]
  · repeat (first | (first | (apply AOpl.step; rfl) | apply AQl.step | apply ASl.step); focus simp [h1, -Option.some.injEq]; rfl | (first | (apply AOpl.stepG; rfl) | apply AQl.stepG | apply ASl.stepG); (focus simp [h1]; done); focus simp [h1, -Option.some.injEq]; rfl | (first | (apply AOpl.pass; rfl) | apply AQl.pass | apply ASl.pass); (focus simp [h1]; done) | (first | refine AOpl.nil ?_ | refine AWp.skip ?_ | refine AWp.exit ?_ | refine AWp.ret ?_ | refine AQl.nil ?_ | refine ASl.nil ?_); try simp only [Then, InBlock, reduceIte, Nat.reduceEqDiff] | refine AWp.seq ?_ | refine AWp.reg rfl ?_ | refine AWp.block ?_ | apply AWp.condT; (focus simp [h1]; done) | apply AWp.condF; (focus simp [h1]; done) | refine AWp.regD (by kernel_rfl) (by kernel_rfl) rfl ?_; intro _ | refine AWp.regT (by kernel_rfl) (by kernel_rfl) rfl rfl ?_)
    refine ⟨[.bool true], by simp [Tryz.results164, resA, putE, ofV, ofS], ?_⟩
    simp [typeB, h1, intS]; rfl
  · have hb : (s == [105, 110, 116]) = false := by simpa using h1
    repeat (first | (first | (apply AOpl.step; rfl) | apply AQl.step | apply ASl.step); focus simp [hb, -Option.some.injEq]; rfl | (first | (apply AOpl.stepG; rfl) | apply AQl.stepG | apply ASl.stepG); (focus simp [hb]; done); focus simp [hb, -Option.some.injEq]; rfl | (first | (apply AOpl.pass; rfl) | apply AQl.pass | apply ASl.pass); (focus simp [hb]; done) | (first | refine AOpl.nil ?_ | refine AWp.skip ?_ | refine AWp.exit ?_ | refine AWp.ret ?_ | refine AQl.nil ?_ | refine ASl.nil ?_); try simp only [Then, InBlock, reduceIte, Nat.reduceEqDiff] | refine AWp.seq ?_ | refine AWp.reg rfl ?_ | refine AWp.block ?_ | apply AWp.condT; (focus simp [hb]; done) | apply AWp.condF; (focus simp [hb]; done) | refine AWp.regD (by kernel_rfl) (by kernel_rfl) rfl ?_; intro _ | refine AWp.regT (by kernel_rfl) (by kernel_rfl) rfl rfl ?_)
    ((apply AOpl.callFG); (focus rfl); (focus (simp [hb])); (focus (simp [hb, -Option.some.injEq]; rfl)); (focus (kernel_rfl)))
    · exact find_ok cds hlm s
    intro nx1
    by_cases h2 : 0 ≤ findI cds s
    · repeat (first | (first | (apply AOpl.step; rfl) | apply AQl.step | apply ASl.step); focus simp [hb, h2, -Option.some.injEq]; rfl | (first | (apply AOpl.stepG; rfl) | apply AQl.stepG | apply ASl.stepG); (focus simp [hb, h2]; done); focus simp [hb, h2, -Option.some.injEq]; rfl | (first | (apply AOpl.pass; rfl) | apply AQl.pass | apply ASl.pass); (focus simp [hb, h2]; done) | (first | refine AOpl.nil ?_ | refine AWp.skip ?_ | refine AWp.exit ?_ | refine AWp.ret ?_ | refine AQl.nil ?_ | refine ASl.nil ?_); try simp only [Then, InBlock, reduceIte, Nat.reduceEqDiff] | refine AWp.seq ?_ | refine AWp.reg rfl ?_ | refine AWp.block ?_ | apply AWp.condT; (focus simp [hb, h2]; done) | apply AWp.condF; (focus simp [hb, h2]; done) | refine AWp.regD (by kernel_rfl) (by kernel_rfl) rfl ?_; intro _ | refine AWp.regT (by kernel_rfl) (by kernel_rfl) rfl rfl ?_)
      refine ⟨[.bool true], by simp [Tryz.results164, resA, putE, ofV, ofS], ?_⟩
      have ht : typeB cds s = decide (0 ≤ findI cds s) := by simp only [typeB, intS, hb, Bool.false_or]
      simp only [ht, h2, decide_true, decide_false]; rfl
    · repeat (first | (first | (apply AOpl.step; rfl) | apply AQl.step | apply ASl.step); focus simp [hb, h2, -Option.some.injEq]; rfl | (first | (apply AOpl.stepG; rfl) | apply AQl.stepG | apply ASl.stepG); (focus simp [hb, h2]; done); focus simp [hb, h2, -Option.some.injEq]; rfl | (first | (apply AOpl.pass; rfl) | apply AQl.pass | apply ASl.pass); (focus simp [hb, h2]; done) | (first | refine AOpl.nil ?_ | refine AWp.skip ?_ | refine AWp.exit ?_ | refine AWp.ret ?_ | refine AQl.nil ?_ | refine ASl.nil ?_); try simp only [Then, InBlock, reduceIte, Nat.reduceEqDiff] | refine AWp.seq ?_ | refine AWp.reg rfl ?_ | refine AWp.block ?_ | apply AWp.condT; (focus simp [hb, h2]; done) | apply AWp.condF; (focus simp [hb, h2]; done) | refine AWp.regD (by kernel_rfl) (by kernel_rfl) rfl ?_; intro _ | refine AWp.regT (by kernel_rfl) (by kernel_rfl) rfl rfl ?_)
      refine ⟨[.bool false], by simp [Tryz.results164, resA, putE, ofV, ofS], ?_⟩
      have ht : typeB cds s = decide (0 ≤ findI cds s) := by simp only [typeB, intS, hb, Bool.false_or]
      simp only [ht, h2, decide_true, decide_false]; rfl
end Go.Proofs.YtdjllogimomgmaaGreatDoor
namespace Go.Proofs.YtdjllogimomgmaaGreatDoor
open Ax Tx Go.RowKit
attribute [local simp] stepS Ax.stepT Dl.on qstep astep estep rd putE over argE ofV ofS loadA pickCells isAggD faddA fieldA partA iaddA idxA sliA bnd binA intA strA unA convA bltA lenA mapOf lookA findK keyD scalD storeA mupA appA srcA srcD upd drp Dl.hp Dl.nx CV.cs CV.one buildA placesA fillA zrep tasA ifaceD eqA eqFs eqIs range2 copyA nbeq nble nblt decEq beqI bneI beqS bneS isED Int.ofNat_inj List.getElem?_map List.getElem?_eq_getElem Option.map_some ti_int ti_bool ti_str ti_i64 ti_Strs ti_Hi ti_Cds ti_Cd ti_Flds ti_Fld gd gdB callA resA op1
theorem puR_mapR {α : Type} {cv : α → List CV} (h : ∀ a, puL (cv a) = true) (l : List α) : puR (l.map cv) = true := by
  induction l with
  | nil => rfl
  | cons a l ih => simp [puR, h a, ih]
theorem pu_cds (cds : List Cd) (s : Bs) : puL [.agg [.lst (cds.map cvCd)], .str s] = true := by
  have hS : ∀ x : Sg, puL (cvSg x) = true := fun x => by simp [cvSg, puL, puV, puR_mapR (fun a : Bs => (rfl : puL (cvB a) = true))]
  have hC : ∀ x : Cd, puL (cvCd x) = true := fun x => by simp [cvCd, puL, puV, puR_mapR (fun a : Fld => (rfl : puL (cvFld a) = true)), puR_mapR hS]
  simp [puL, puV, puR_mapR hC]
theorem find_one (cds : List Cd) (hl : cds.length ≤ maxLen) (s : Bs) : FCall1 Tryz.prog cxG 15 [.agg [.lst (cds.map cvCd)], .str s] (.int .i64 (findI cds s)) := (find_ok cds hl s).one cxG_pu (pu_cds cds s) rfl
theorem chainF_found {cds : List Cd} : ∀ (n : Nat) (acc : List Bs) (s : Bs), (∀ w ∈ acc, ∃ i, findN cds w = some i) → ∀ w ∈ (chainF cds n acc s).1, ∃ i, findN cds w = some i
  | 0, acc, _, h => by simpa [chainF] using h
  | n + 1, acc, s, h => by
    simp only [chainF]
    split
    · exact h
    · rename_i i hi
      have h' : ∀ w ∈ acc ++ [s], ∃ i, findN cds w = some i := by
        intro w hw
        rcases List.mem_append.mp hw with hw | hw
        · exact h w hw
        · simp only [List.mem_singleton] at hw; subst hw; exact ⟨i, hi⟩
      split
      · exact h
      · split
        · split
          · exact h'
          · exact chainF_found n _ _ h'
        · exact h
theorem supC_found {cds : List Cd} {s w : Bs} (h : w ∈ supC cds s) : ∃ i, findN cds w = some i := chainF_found _ _ _ (by simp) w h
def clsOf (cds : List Cd) (c : Bs) : Option Cd := (findN cds c).bind fun i => cds[i]?
theorem clsOf_at {cds : List Cd} {c : Bs} {k : Nat} (h : findN cds c = some k) (hk : k < cds.length) : clsOf cds c = some cds[k] := by simp [clsOf, h, hk]
/-- The field of a name in the first class of a list that has one. -/
def fieldW (cds : List Cd) (f : Bs) : List Bs → CV
  | [] => .tup [.str [], .str [], .bool false]
  | c :: l => match clsOf cds c with
    | none => .tup [.str [], .str [], .bool false]
    | some d => match d.fields.find? (fun x => decide (x.name = f)) with
      | some x => .tup [.str c, .str x.typ, .bool true]
      | none => fieldW cds f l
def fieldV (cds : List Cd) (s f : Bs) : CV := fieldW cds f (supC cds s)
theorem dropAt {α : Type} {l : List α} {i : Nat} (h : i < l.length) : l.drop i = l[i] :: l.drop (i + 1) := List.drop_eq_getElem_cons h
theorem dropEnd {α : Type} {l : List α} {i : Nat} (hi : i ≤ l.length) (h : ¬ i < l.length) : l.drop i = [] := List.drop_eq_nil_of_le (by omega)
set_option maxRecDepth 10000 in
set_option maxHeartbeats 4000000 in
theorem field_ok (cds : List Cd) (hl : cds.length ≤ 1000) (hf : ∀ c ∈ cds, c.fields.length ≤ 1000) (s f : Bs) : FCall Tryz.prog cxG 206 [.agg [.lst (cds.map cvCd)], .str s, .str f] fun r => r = .ret (fieldV cds s f) := by
  have hlm : cds.length ≤ maxLen := by simp only [maxLen]; omega
  have hsl := supC_len hl s
  refine FCall.ofBody Tryz.func206 rfl rfl fun nx => ?_
  repeat (first | (first | (apply AOpl.step; rfl) | apply ASl.step); focus simp [*, -Option.some.injEq]; rfl | (first | (apply AOpl.stepG; rfl) | apply ASl.stepG); (focus simp [*]; done); focus simp [*, -Option.some.injEq]; rfl | (first | (apply AOpl.pass; rfl) | apply ASl.pass); (focus simp [*]; done) | (first | refine AOpl.nil ?_ | refine AWp.skip ?_ | refine AWp.exit ?_ | refine AWp.ret ?_ | refine ASl.nil ?_); try simp only [Then, InBlock, reduceIte, Nat.reduceEqDiff] | refine AWp.seq ?_ | refine AWp.reg rfl ?_ | refine AWp.block ?_ | apply AWp.condT; focus simp [*]; done | apply AWp.condF; focus simp [*]; done | refine AWp.regT (by kernel_rfl) (by kernel_rfl) rfl rfl ?_)
  (first | (first | (apply AOpl.callN; rfl) | apply ASl.call); (focus simp [*, -Option.some.injEq]; rfl); kernel_rfl | (first | (apply AOpl.callNG; rfl) | apply ASl.callg); (focus simp [*]; done); (focus simp [*, -Option.some.injEq]; rfl); kernel_rfl)
  · exact supers_ok cds hl s
  intro nx0 hn0
  repeat (first | (first | (apply AOpl.step; rfl) | apply ASl.step); focus simp [*, -Option.some.injEq]; rfl | (first | (apply AOpl.stepG; rfl) | apply ASl.stepG); (focus simp [*]; done); focus simp [*, -Option.some.injEq]; rfl | (first | (apply AOpl.pass; rfl) | apply ASl.pass); (focus simp [*]; done) | (first | refine AOpl.nil ?_ | refine AWp.skip ?_ | refine AWp.exit ?_ | refine AWp.ret ?_ | refine ASl.nil ?_); try simp only [Then, InBlock, reduceIte, Nat.reduceEqDiff] | refine AWp.seq ?_ | refine AWp.reg rfl ?_ | refine AWp.block ?_ | apply AWp.condT; focus simp [*]; done | apply AWp.condF; focus simp [*]; done | refine AWp.regT (by kernel_rfl) (by kernel_rfl) rfl rfl ?_)
  refine AWp.countO (supC cds s).length [6, 7, 8, 10, 11, 12] 13 (fun i e H _ => e 10 = .int .i64 i ∧ H nx = some (.cells [.lst (cds.map cvCd)]) ∧ fieldW cds f ((supC cds s).drop i) = fieldV cds s f) ⟨(by first | (simp (disch := omega) [putE, over, ofV, ofS, *]; done) | (simp (disch := omega) [putE, over, ofV, ofS, *]; rfl)), (by first | assumption | (simp (disch := omega) [upd_hit, upd_miss, drp_hit, drp_miss, *]; done)), rfl⟩ ?_
  rintro i v H nx1 hi hn1 ⟨h10, hH, hw⟩
  have q1 : ∀ k, ¬ nx = nx1 + k := fun k => by omega
  repeat (first | (first | (apply AOpl.step; rfl) | apply ASl.step); focus simp [*, -Option.some.injEq]; rfl | (first | (apply AOpl.stepG; rfl) | apply ASl.stepG); (focus simp [*]; done); focus simp [*, -Option.some.injEq]; rfl | (first | (apply AOpl.pass; rfl) | apply ASl.pass); (focus simp [*]; done) | (first | refine AOpl.nil ?_ | refine AWp.skip ?_ | refine AWp.exit ?_ | refine AWp.ret ?_ | refine ASl.nil ?_); try simp only [Then, InBlock, reduceIte, Nat.reduceEqDiff] | refine AWp.seq ?_ | refine AWp.reg rfl ?_ | refine AWp.block ?_ | apply AWp.condT; focus simp [*]; done | apply AWp.condF; focus simp [*]; done | refine AWp.regT (by kernel_rfl) (by kernel_rfl) rfl rfl ?_)
  (((apply AWp.cond'); (focus (simp [*, -Ax.CV.bool.injEq]; rfl))) <;> (intro hb) <;> (try simp only [decide_eq_true_eq, decide_eq_false_iff_not, Bool.not_eq_true', Bool.not_eq_false', Bool.not_eq_true, Bool.not_eq_false] at hb))
  ·
    have hlt : i < (supC cds s).length := by simpa using hb
    obtain ⟨k, hk⟩ := supC_found (List.getElem_mem hlt)
    obtain ⟨hkl, -⟩ := findN_some hk
    have hv : findI cds (supC cds s)[i] = (k : Int) := by simp only [findI, hk]
    have hfl := hf _ (List.getElem_mem hkl)
    rw [dropAt hlt] at hw
    simp only [fieldW, clsOf_at hk hkl] at hw
    repeat (first | (first | (apply AOpl.step; rfl) | apply ASl.step); focus simp [*, -Option.some.injEq]; rfl | (first | (apply AOpl.stepG; rfl) | apply ASl.stepG); (focus simp [*]; done); focus simp [*, -Option.some.injEq]; rfl | (first | (apply AOpl.pass; rfl) | apply ASl.pass); (focus simp [*]; done) | (first | refine AOpl.nil ?_ | refine AWp.skip ?_ | refine AWp.exit ?_ | refine AWp.ret ?_ | refine ASl.nil ?_); try simp only [Then, InBlock, reduceIte, Nat.reduceEqDiff] | refine AWp.seq ?_ | refine AWp.reg rfl ?_ | refine AWp.block ?_ | apply AWp.condT; focus simp [*]; done | apply AWp.condF; focus simp [*]; done | refine AWp.regT (by kernel_rfl) (by kernel_rfl) rfl rfl ?_)
    (first | (first | (apply AOpl.callN; rfl) | apply ASl.call); (focus simp [*, -Option.some.injEq]; rfl); kernel_rfl | (first | (apply AOpl.callNG; rfl) | apply ASl.callg); (focus simp [*]; done); (focus simp [*, -Option.some.injEq]; rfl); kernel_rfl)
    · exact find_one cds hlm _
    repeat (first | (first | (apply AOpl.step; rfl) | apply ASl.step); focus simp [cvCd, *, -Option.some.injEq]; rfl | (first | (apply AOpl.stepG; rfl) | apply ASl.stepG); (focus simp [cvCd, *]; done); focus simp [cvCd, *, -Option.some.injEq]; rfl | (first | (apply AOpl.pass; rfl) | apply ASl.pass); (focus simp [cvCd, *]; done) | (first | refine AOpl.nil ?_ | refine AWp.skip ?_ | refine AWp.exit ?_ | refine AWp.ret ?_ | refine ASl.nil ?_); try simp only [Then, InBlock, reduceIte, Nat.reduceEqDiff] | refine AWp.seq ?_ | refine AWp.reg rfl ?_ | refine AWp.block ?_ | apply AWp.condT; focus simp [cvCd, *]; done | apply AWp.condF; focus simp [cvCd, *]; done | refine AWp.regT (by kernel_rfl) (by kernel_rfl) rfl rfl ?_)
    refine AWp.countO cds[k].fields.length [6, 7, 8, 12] 13 (fun j e H _ => e 12 = .int .i64 j ∧ H nx = some (.cells [.lst (cds.map cvCd)]) ∧ H (nx1 + 10) = some (.cells (cvCd cds[k])) ∧ (cds[k].fields.drop j).find? (fun x => decide (x.name = f)) = cds[k].fields.find? (fun x => decide (x.name = f))) ⟨(by first | (simp (disch := omega) [putE, over, ofV, ofS, *]; done) | (simp (disch := omega) [putE, over, ofV, ofS, *]; rfl)), (by first | assumption | (simp (disch := omega) [upd_hit, upd_miss, drp_hit, drp_miss, *]; done)), by simp (disch := omega) [upd_hit, cvCd], rfl⟩ ?_
    rintro j v2 H2 nx2 hj hn2 ⟨h12, hH2, hC, hw2⟩
    have q2 : ∀ k, ¬ nx = nx2 + k := fun k => by omega
    simp only [cvCd] at hC
    repeat (first | (first | (apply AOpl.step; rfl) | apply ASl.step); focus simp [*, -Option.some.injEq]; rfl | (first | (apply AOpl.stepG; rfl) | apply ASl.stepG); (focus simp [*]; done); focus simp [*, -Option.some.injEq]; rfl | (first | (apply AOpl.pass; rfl) | apply ASl.pass); (focus simp [*]; done) | (first | refine AOpl.nil ?_ | refine AWp.skip ?_ | refine AWp.exit ?_ | refine AWp.ret ?_ | refine ASl.nil ?_); try simp only [Then, InBlock, reduceIte, Nat.reduceEqDiff] | refine AWp.seq ?_ | refine AWp.reg rfl ?_ | refine AWp.block ?_ | apply AWp.condT; focus simp [*]; done | apply AWp.condF; focus simp [*]; done | refine AWp.regT (by kernel_rfl) (by kernel_rfl) rfl rfl ?_)
    (((apply AWp.cond'); (focus (simp [*, -Ax.CV.bool.injEq]; rfl))) <;> (intro hb) <;> (try simp only [decide_eq_true_eq, decide_eq_false_iff_not, Bool.not_eq_true', Bool.not_eq_false', Bool.not_eq_true, Bool.not_eq_false] at hb))
    ·
      have hlj : j < cds[k].fields.length := by simpa using hb
      rw [dropAt hlj] at hw2
      repeat (first | (first | (apply AOpl.step; rfl) | apply ASl.step); focus simp [cvFld, *, -Option.some.injEq]; rfl | (first | (apply AOpl.stepG; rfl) | apply ASl.stepG); (focus simp [cvFld, *]; done); focus simp [cvFld, *, -Option.some.injEq]; rfl | (first | (apply AOpl.pass; rfl) | apply ASl.pass); (focus simp [cvFld, *]; done) | (first | refine AOpl.nil ?_ | refine AWp.skip ?_ | refine AWp.exit ?_ | refine AWp.ret ?_ | refine ASl.nil ?_); try simp only [Then, InBlock, reduceIte, Nat.reduceEqDiff] | refine AWp.seq ?_ | refine AWp.reg rfl ?_ | refine AWp.block ?_ | apply AWp.condT; focus simp [cvFld, *]; done | apply AWp.condF; focus simp [cvFld, *]; done | refine AWp.regT (by kernel_rfl) (by kernel_rfl) rfl rfl ?_)
      (((apply AWp.cond'); (focus (simp [*, -Ax.CV.bool.injEq]; rfl))) <;> (intro hb) <;> (try simp only [decide_eq_true_eq, decide_eq_false_iff_not, Bool.not_eq_true', Bool.not_eq_false', Bool.not_eq_true, Bool.not_eq_false] at hb))
      ·
        simp only [List.find?_cons, hb, decide_true, decide_false] at hw2
        simp only [← hw2] at hw
        repeat (first | (first | (apply AOpl.step; rfl) | apply ASl.step); focus simp [cvFld, *, -Option.some.injEq]; rfl | (first | (apply AOpl.stepG; rfl) | apply ASl.stepG); (focus simp [cvFld, *]; done); focus simp [cvFld, *, -Option.some.injEq]; rfl | (first | (apply AOpl.pass; rfl) | apply ASl.pass); (focus simp [cvFld, *]; done) | (first | refine AOpl.nil ?_ | refine AWp.skip ?_ | refine AWp.exit ?_ | refine AWp.ret ?_ | refine ASl.nil ?_); try simp only [Then, InBlock, reduceIte, Nat.reduceEqDiff] | refine AWp.seq ?_ | refine AWp.reg rfl ?_ | refine AWp.block ?_ | apply AWp.condT; focus simp [cvFld, *]; done | apply AWp.condF; focus simp [cvFld, *]; done | refine AWp.regT (by kernel_rfl) (by kernel_rfl) rfl rfl ?_)
        (refine ⟨_, (by simp [*]; rfl), ?_⟩; (try simp only [packA]))
        (first | (rw [← hw]; done) | (rw [← hw]; rfl))
      ·
        simp only [List.find?_cons, hb, decide_true, decide_false] at hw2
        repeat (first | (first | (apply AOpl.step; rfl) | apply ASl.step); focus simp [cvFld, wrap_up hlj (show cds[k].fields.length ≤ maxLen by simp only [maxLen]; omega), *, -Option.some.injEq]; rfl | (first | (apply AOpl.stepG; rfl) | apply ASl.stepG); (focus simp [cvFld, wrap_up hlj (show cds[k].fields.length ≤ maxLen by simp only [maxLen]; omega), *]; done); focus simp [cvFld, wrap_up hlj (show cds[k].fields.length ≤ maxLen by simp only [maxLen]; omega), *, -Option.some.injEq]; rfl | (first | (apply AOpl.pass; rfl) | apply ASl.pass); (focus simp [cvFld, wrap_up hlj (show cds[k].fields.length ≤ maxLen by simp only [maxLen]; omega), *]; done) | (first | refine AOpl.nil ?_ | refine AWp.skip ?_ | refine AWp.exit ?_ | refine AWp.ret ?_ | refine ASl.nil ?_); try simp only [Then, InBlock, reduceIte, Nat.reduceEqDiff] | refine AWp.seq ?_ | refine AWp.reg rfl ?_ | refine AWp.block ?_ | apply AWp.condT; focus simp [cvFld, wrap_up hlj (show cds[k].fields.length ≤ maxLen by simp only [maxLen]; omega), *]; done | apply AWp.condF; focus simp [cvFld, wrap_up hlj (show cds[k].fields.length ≤ maxLen by simp only [maxLen]; omega), *]; done | refine AWp.regT (by kernel_rfl) (by kernel_rfl) rfl rfl ?_)
        exact ⟨by ((repeat (first | exact Keeps.base _ _ _ _ | (with_reducible exact Keeps.refl _ _ _) | (refine Keeps.put rfl ?_) | (refine Keeps.over' rfl rfl ?_)))), hlj, (by first | (simp (disch := omega) [putE, over, ofV, ofS, *]; done) | (simp (disch := omega) [putE, over, ofV, ofS, *]; rfl)), hH2, by simp [hC, cvCd], hw2⟩
    ·
      rw [dropEnd hj (by simpa using hb)] at hw2
      simp only [← hw2, List.find?_nil] at hw
      repeat (first | (first | (apply AOpl.step; rfl) | apply ASl.step); focus simp [wrap_up hlt (show (supC cds s).length ≤ maxLen by simp only [maxLen]; omega), *, -Option.some.injEq]; rfl | (first | (apply AOpl.stepG; rfl) | apply ASl.stepG); (focus simp [wrap_up hlt (show (supC cds s).length ≤ maxLen by simp only [maxLen]; omega), *]; done); focus simp [wrap_up hlt (show (supC cds s).length ≤ maxLen by simp only [maxLen]; omega), *, -Option.some.injEq]; rfl | (first | (apply AOpl.pass; rfl) | apply ASl.pass); (focus simp [wrap_up hlt (show (supC cds s).length ≤ maxLen by simp only [maxLen]; omega), *]; done) | (first | refine AOpl.nil ?_ | refine AWp.skip ?_ | refine AWp.exit ?_ | refine AWp.ret ?_ | refine ASl.nil ?_); try simp only [Then, InBlock, reduceIte, Nat.reduceEqDiff] | refine AWp.seq ?_ | refine AWp.reg rfl ?_ | refine AWp.block ?_ | apply AWp.condT; focus simp [wrap_up hlt (show (supC cds s).length ≤ maxLen by simp only [maxLen]; omega), *]; done | apply AWp.condF; focus simp [wrap_up hlt (show (supC cds s).length ≤ maxLen by simp only [maxLen]; omega), *]; done | refine AWp.regT (by kernel_rfl) (by kernel_rfl) rfl rfl ?_)
      exact ⟨by ((repeat (first | exact Keeps.base _ _ _ _ | (with_reducible exact Keeps.refl _ _ _) | (refine Keeps.put rfl ?_) | (refine Keeps.over' rfl rfl ?_)))), hlt, (by first | (simp (disch := omega) [putE, over, ofV, ofS, *]; done) | (simp (disch := omega) [putE, over, ofV, ofS, *]; rfl)), hH2, hw⟩
  ·
    rw [dropEnd hi (by simpa using hb)] at hw
    repeat (first | (first | (apply AOpl.step; rfl) | apply ASl.step); focus simp [*, -Option.some.injEq]; rfl | (first | (apply AOpl.stepG; rfl) | apply ASl.stepG); (focus simp [*]; done); focus simp [*, -Option.some.injEq]; rfl | (first | (apply AOpl.pass; rfl) | apply ASl.pass); (focus simp [*]; done) | (first | refine AOpl.nil ?_ | refine AWp.skip ?_ | refine AWp.exit ?_ | refine AWp.ret ?_ | refine ASl.nil ?_); try simp only [Then, InBlock, reduceIte, Nat.reduceEqDiff] | refine AWp.seq ?_ | refine AWp.reg rfl ?_ | refine AWp.block ?_ | apply AWp.condT; focus simp [*]; done | apply AWp.condF; focus simp [*]; done | refine AWp.regT (by kernel_rfl) (by kernel_rfl) rfl rfl ?_)
    (refine ⟨_, (by simp [*]; rfl), ?_⟩; (try simp only [packA]))
    (first | (rw [← hw]; done) | (rw [← hw]; rfl))
end Go.Proofs.YtdjllogimomgmaaGreatDoor
