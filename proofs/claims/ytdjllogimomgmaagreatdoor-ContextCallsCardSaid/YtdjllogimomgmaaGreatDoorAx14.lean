/-
  AX: the closed executor: code and functions.
-/
import Derived.Test.YtdjllogimomgmaaGreatDoorAx13
set_option linter.unusedSimpArgs false
set_option linter.unusedVariables false
namespace Go.Proofs.YtdjllogimomgmaaGreatDoor
namespace Ax
abbrev Out := AExit × Tr CV × Tr CB × Nat
/-- The environment behind a drawn region. -/
def endE (ops : List Oper) (acts : List Act1) (e : Tr CV) : Tr CV := match ops, acts with
  | o :: os, a :: as => endE os as (setT e o.dst a.val)
  | _, _ => e
/-- The new blocks that no effect has had. -/
def endH (ops : Array Oper) (pl : Plan) (nx0 : Nat) (acts : List Act1) (h : Tr CB) : Nat → Tr CB
  | 0 => h
  | k + 1 => match (acts[k]?).getD .skip with
    | .alloc _ kk => match (List.range pl.m).any (fun j => anc (ancs ops) (pl.eix j) k) with
      | true => endH ops pl nx0 acts h k
      | false => Tr.put 20 (endH ops pl nx0 acts h k) (nx0 + k) (some kk)
    | _ => endH ops pl nx0 acts h k
theorem endH_get {ops : Array Oper} {ps : PS} {nx0 : Nat} {h : Tr CB} : ∀ (k b : Nat) (kk : CB), k ≤ ops.size → (endH ops (ps.plan ops.size) nx0 ps.acts h k).get b = some kk → newL ops (ps.plan ops.size) nx0 (ps.plan ops.size).m (allL ops) b = some kk ∨ ((∀ i', i' < k → b = nx0 + i' → newL ops (ps.plan ops.size) nx0 (ps.plan ops.size).m (allL ops) b = none) ∧ h.get b = some kk)
  | 0, b, kk, _, hg => .inr ⟨fun i' hi => absurd hi (Nat.not_lt_zero _), hg⟩
  | k + 1, b, kk, hk, hg => by
    have step : (endH ops (ps.plan ops.size) nx0 ps.acts h k).get b = some kk → (b = nx0 + k → newL ops (ps.plan ops.size) nx0 (ps.plan ops.size).m (allL ops) b = none) → newL ops (ps.plan ops.size) nx0 (ps.plan ops.size).m (allL ops) b = some kk ∨ ((∀ i', i' < k + 1 → b = nx0 + i' → newL ops (ps.plan ops.size) nx0 (ps.plan ops.size).m (allL ops) b = none) ∧ h.get b = some kk) := by
      intro h1 h2
      rcases endH_get k b kk (by omega) h1 with h3 | ⟨h3, h4⟩
      · exact .inl h3
      · refine .inr ⟨fun i' hi' hb => ?_, h4⟩
        by_cases e : i' = k
        · subst e; exact h2 hb
        · exact h3 i' (by omega) hb
    have nonew : (∀ c kk, (ps.plan ops.size).act k ≠ .alloc c kk) ∨ (List.range (ps.plan ops.size).m).any (fun j => anc (ancs ops) ((ps.plan ops.size).eix j) k) = true → b = nx0 + k → newL ops (ps.plan ops.size) nx0 (ps.plan ops.size).m (allL ops) b = none := by
      intro hor hb
      cases hn : newL ops (ps.plan ops.size) nx0 (ps.plan ops.size).m (allL ops) b with
      | none => rfl
      | some k2 =>
        obtain ⟨n1, n2, ⟨c, n3⟩, n4⟩ := newL_some hn
        have e : b - nx0 = k := by omega
        rw [e] at n2 n3 n4
        rcases hor with hor | hor
        · exact absurd n3 (hor _ _)
        · obtain ⟨j, hj, ha⟩ := List.any_eq_true.mp hor
          rw [n4 j (List.mem_range.mp hj)] at ha; cases ha
    unfold endH at hg
    split at hg
    · rename_i c k2 hact
      split at hg
      · rename_i hc
        exact step hg (nonew (.inr hc))
      · rename_i hc
        rcases Tr.get_put _ _ _ _ _ _ hg with ⟨a, e⟩ | ⟨a, e⟩
        · cases e
          left
          subst a
          refine newL_of (c := c) (by omega) (by simp only [Nat.add_sub_cancel_left, allL]; exact lt_blt (by omega)) (by simp only [Nat.add_sub_cancel_left]; exact hact) (fun j hj => ?_)
          simp only [Nat.add_sub_cancel_left]
          have := List.any_eq_false.mp hc j (List.mem_range.mpr hj)
          simpa using this
        · exact step e (fun hb => absurd hb a)
    · rename_i hna
      exact step hg (nonew (.inl fun c k2 hx => hna c k2 hx))
theorem endH_sub {ops : Array Oper} {ps : PS} {nx0 : Nat} : Sub (hv (endH ops (ps.plan ops.size) nx0 ps.acts ((ps.hs[(ps.plan ops.size).m]?).getD .lf) ops.size)) (heapL ops (ps.plan ops.size) nx0 (ps.plan ops.size).m (allL ops)) := by
  intro b k hb
  unfold heapL
  rcases endH_get ops.size b k (Nat.le_refl _) hb with h1 | ⟨h1, h2⟩
  · rw [h1]
  · cases h3 : newL ops (ps.plan ops.size) nx0 (ps.plan ops.size).m (allL ops) b with
    | some k' =>
      obtain ⟨n1, n2, _, _⟩ := newL_some h3
      have := h1 (b - nx0) (blt_lt n2) (by omega)
      rw [h3] at this; cases this
    | none => exact h2
theorem endE_get {ops : Array Oper} {acts : List Act1} {e0 : Env} : ∀ (os : List Oper) (as : List Act1) (e : Tr CV) (k : Nat), ops.toList.drop k = os → acts.drop k = as → acts.length = ops.size → (∀ i o t, ops[i]? = some o → o.dst = some t → wr ops t = some i) →
    (∀ t, vw e t = .any ∨ vw e t = (match wr ops t with | some i => if i < k then ((acts[i]?).getD .skip).val else e0 t | none => e0 t)) →
    ∀ t, vw (endE os as e) t = .any ∨ vw (endE os as e) t = (match wr ops t with | some i => ((acts[i]?).getD .skip).val | none => e0 t)
  | [], as, e, k, h1, h2, h3, h4, h5, t => by
    have hk : ops.size ≤ k := by
      have := congrArg List.length h1
      simp at this; omega
    have : endE [] as e = e := by cases as <;> rfl
    rw [this]
    rcases h5 t with h | h
    · exact .inl h
    · right
      rw [h]
      cases hw : wr ops t with
      | none => rfl
      | some i =>
        obtain ⟨o, ho, _⟩ := wr_some hw
        have := (Array.getElem?_eq_some_iff.mp ho).1
        simp only
        rw [if_pos (by omega)]
  | o :: os, [], e, k, h1, h2, h3, h4, h5, t => by
    have a1 := congrArg List.length h1
    have a2 := congrArg List.length h2
    simp at a1 a2; omega
  | o :: os, a :: as, e, k, h1, h2, h3, h4, h5, t => by
    have ho : ops[k]? = some o := by
      have := congrArg List.head? h1
      simpa [List.head?_drop] using this
    have ha : acts[k]? = some a := by
      have := congrArg List.head? h2
      simpa [List.head?_drop] using this
    refine endE_get os as (setT e o.dst a.val) (k + 1) (by have := congrArg List.tail h1; simpa [List.tail_drop] using this) (by have := congrArg List.tail h2; simpa [List.tail_drop] using this) h3 h4 (fun t' => ?_) t
    rcases vw_setT e o.dst a.val t' with h | h
    · rw [h]
      by_cases hd : o.dst = some t'
      · right
        have hw := h4 k o t' ho hd
        rw [hw, hd]
        simp [putE, ha]
      · have e1 : putE (vw e) o.dst a.val t' = vw e t' := by
          cases hdd : o.dst with
          | none => rfl
          | some d => simp only [putE]; rw [if_neg (fun x => hd (by rw [hdd, x]))]
        rw [e1]
        rcases h5 t' with h6 | h6
        · exact .inl h6
        · right
          rw [h6]
          cases hw : wr ops t' with
          | none => rfl
          | some i =>
            have hne : i ≠ k := fun x => by
              obtain ⟨o', g1, g2⟩ := wr_some hw
              rw [x, ho] at g1; cases g1; exact hd g2
            simp only
            by_cases hlt : i < k
            · rw [if_pos hlt, if_pos (by omega)]
            · rw [if_neg hlt, if_neg (by omega)]
    · exact .inl h
def runD (P : Program) (G : Nat → CV) (call : Call1) (n : Nat) (ops : Array Oper) (e : Tr CV) (h : Tr CB) (nx : Nat) : Option Out :=
  match P.follows .mixedOrders with
  | true => match planL P G call ops (vw e) nx ops.toList ⟨[], [h], [nx + ops.size], [], false⟩ with
    | some pf => match chkAll P G n ops (vw e) nx (pf.plan ops.size) 0 ops.toList && chkH ops nx pf (pf.plan ops.size) with
      | true => match pf.pan with
        | true => match (pf.plan ops.size).act ((pf.plan ops.size).eix (pf.plan ops.size).m) with
          | .pan _ v => some (.pan v, .lf, (pf.hs[(pf.plan ops.size).m + 1]?).getD .lf, (pf.plan ops.size).nxs ((pf.plan ops.size).m + 1))
          | _ => none
        | false => some (.normal, endE ops.toList pf.acts e, endH ops (pf.plan ops.size) nx pf.acts ((pf.hs[(pf.plan ops.size).m]?).getD .lf) ops.size, (pf.plan ops.size).nxs (pf.plan ops.size).m)
      | false => none
    | none => none
  | false => none
/-- A post on a heap and an environment of which less is known. -/
theorem AWp.weakPost {P : Program} {G : Nat → CV} {n : Nat} {c : Code} {e : Env} {H : Heap} {nx : Nat} {Q Q' : AExit → Env → Heap → Nat → Prop} (h : AWp P G n c e H nx Q)
    (hq : ∀ x e1 H1 nx1, Q x e1 H1 nx1 → ∃ e2 H2, (∀ t, e2 t = e1 t ∨ e2 t = .any) ∧ Sub H2 H1 ∧ Q' x e2 H2 nx1) : AWp P G n c e H nx Q' := fun M a w g r v =>
  wp_mono (h M a w g r v) fun ex a' w' ⟨M', x, e', H', nx', h1, h2, h3, h4, h5⟩ => by
    obtain ⟨e2, H2, k1, k2, k3⟩ := hq _ _ _ _ h5
    exact ⟨M', x, e2, H2, nx', h1, h2.weak k2, h3.trans (.weak k2), h4.weak k1, k3⟩
theorem runD_sound {P : Program} {G : Nat → CV} {call : Call1} (hc : CallOk P G call) {n id : Nat} {ops : Array Oper} {e : Tr CV} {h : Tr CB} {nx : Nat} {x : AExit} {e' : Tr CV} {h' : Tr CB} {nx' : Nat}
    (hr : runD P G call n ops e h nx = some (x, e', h', nx')) : AWp P G n (.region id ops true) (vw e) (hv h) nx (Is x e' h' nx') := by
  unfold runD at hr
  split at hr
  case h_2 => cases hr
  rename_i hm
  split at hr
  case h_2 => cases hr
  rename_i pf hpl
  split at hr
  case h_2 => cases hr
  rename_i hck
  simp only [Bool.and_eq_true] at hck
  have ok := plan_ok hc hpl hck.1 hck.2
  obtain ⟨_, l0, _⟩ := planL_steps hpl
  have hlen : pf.acts.length = ops.size := by simpa using l0
  have hwr : ∀ i o t, ops[i]? = some o → o.dst = some t → wr ops t = some i := fun i o t ho ht => ((ok.op i o ho).dst t ht).2
  split at hr
  · rename_i hp
    split at hr
    case h_2 => cases hr
    rename_i j v hA
    cases hr
    have hlt : (pf.plan ops.size).eix (pf.plan ops.size).m < ops.size := by
      rcases ok.eixm with ⟨_, _, _, hx⟩ | hx
      · exact hx
      · have hge : pf.acts[(pf.plan ops.size).eix (pf.plan ops.size).m]? = none := List.getElem?_eq_none (by omega)
        simp only [PS.plan] at hA hge
        rw [hge] at hA; cases hA
    refine AWp.weakPost (AWp.drawn (Q := fun x e1 H1 nx1 => x = .pan v ∧ H1 = (pf.plan ops.size).hs ((pf.plan ops.size).m + 1) ∧ nx1 = (pf.plan ops.size).nxs ((pf.plan ops.size).m + 1)) hm ok (fun j' v' hv' e' => ?_) (fun hge => ?_)) ?_
    · rw [hA] at hv'; cases hv'; exact ⟨rfl, rfl, rfl⟩
    · omega
    · rintro x e1 H1 nx1 ⟨rfl, rfl, rfl⟩
      exact ⟨vw .lf, _, fun t => .inr rfl, Sub.refl _, rfl, rfl, rfl, rfl⟩
  · rename_i hp
    cases hr
    refine AWp.weakPost (AWp.drawn (Q := fun x e1 H1 nx1 => x = .normal ∧ e1 = envL ops (pf.plan ops.size) (vw e) (allL ops) ∧ H1 = heapL ops (pf.plan ops.size) nx (pf.plan ops.size).m (allL ops) ∧ nx1 = (pf.plan ops.size).nxs (pf.plan ops.size).m) hm ok (fun j v hv' e' => ?_) (fun _ => ⟨rfl, rfl, rfl, rfl⟩)) ?_
    · have em : (pf.plan ops.size).m = pf.eix.length := by simp [PS.plan, hp]
      rw [em] at hv'
      have e1 : (pf.plan ops.size).eix pf.eix.length = ops.size := by simp [PS.plan]
      rw [e1] at hv'
      have : (pf.plan ops.size).act ops.size = .skip := by
        show (pf.acts[ops.size]?).getD .skip = .skip
        rw [List.getElem?_eq_none (by omega)]; rfl
      rw [this] at hv'; cases hv'
    · rintro x e1 H1 nx1 ⟨rfl, rfl, rfl, rfl⟩
      refine ⟨_, _, fun t => ?_, endH_sub, rfl, rfl, rfl, rfl⟩
      have := endE_get (ops := ops) (acts := pf.acts) (e0 := vw e) ops.toList pf.acts e 0 (by simp) (by simp) hlen hwr (fun t => by
        right
        cases hw : wr ops t <;> simp) t
      rcases this with h1 | h1
      · exact .inr h1
      · left
        rw [h1]
        unfold envL
        cases hw : wr ops t with
        | none => rfl
        | some i =>
          obtain ⟨o, ho, _⟩ := wr_some hw
          have hlt := (Array.getElem?_eq_some_iff.mp ho).1
          simp only [allL, lt_blt hlt]
          rfl
def loopN (body : Tr CV → Tr CB → Nat → Option Out) : Nat → Tr CV → Tr CB → Nat → Option Out
  | 0, _, _, _ => none
  | k + 1, e, h, nx => match body e h nx with
    | some (.normal, e', h', nx') => loopN body k e' h' nx'
    | r => r
def runC (P : Program) (G : Nat → CV) (call : Call1) (lf n : Nat) : Code → Tr CV → Tr CB → Nat → Option Out
  | .skip, e, h, nx => some (.normal, e, h, nx)
  | .region _ ops false, e, h, nx => runL P G call n ops ops.toList e h nx
  | .region _ ops true, e, h, nx => runD P G call n ops e h nx
  | .seq a b, e, h, nx => match runC P G call lf n a e h nx with
    | some (.normal, e', h', nx') => runC P G call lf n b e' h' nx'
    | r => r
  | .cond c a b, e, h, nx => match rd G (vw e) c with
    | .bool true => runC P G call lf n a e h nx
    | .bool false => runC P G call lf n b e h nx
    | _ => none
  | .block id c, e, h, nx => match runC P G call lf n c e h nx with
    | some (.exit i, e', h', nx') => match Nat.beq i id with
      | true => some (.normal, e', h', nx')
      | false => some (.exit i, e', h', nx')
    | r => r
  | .loop c, e, h, nx => loopN (fun e h nx => runC P G call lf n c e h nx) lf e h nx
  | .exit id, e, h, nx => some (.exit id, e, h, nx)
  | .ret, e, h, nx => some (.ret, e, h, nx)
  | _, _, _, _ => none
theorem runC_sound {P : Program} {G : Nat → CV} {call : Call1} (hc : CallOk P G call) {lf n : Nat} : ∀ (c : Code) (e : Tr CV) (h : Tr CB) (nx : Nat) (x : AExit) (e' : Tr CV) (h' : Tr CB) (nx' : Nat),
    runC P G call lf n c e h nx = some (x, e', h', nx') → AWp P G n c (vw e) (hv h) nx (Is x e' h' nx')
  | .skip, e, h, nx, x, e', h', nx', hr => by
    cases hr; exact AWp.skip ⟨rfl, rfl, rfl, rfl⟩
  | .region _ ops false, e, h, nx, x, e', h', nx', hr => by
    refine AWp.region ?_
    have := runL_sound hc ops.toList 0 e h nx x e' h' nx' (by simp) hr
    rw [List.range_eq_range']
    simpa using this
  | .region _ ops true, e, h, nx, x, e', h', nx', hr => runD_sound hc hr
  | .seq a b, e, h, nx, x, e', h', nx', hr => by
    refine AWp.seq ?_
    unfold runC at hr
    split at hr
    · rename_i e1 h1 nx1 ha
      refine (runC_sound hc a e h nx _ _ _ _ ha).mono ?_
      rintro x1 e2 H2 nx2 ⟨rfl, rfl, rfl, rfl⟩
      exact runC_sound hc b e1 h1 _ _ _ _ _ hr
    · rename_i hne
      refine (runC_sound hc a e h nx _ _ _ _ hr).mono ?_
      rintro x1 e2 H2 nx2 ⟨rfl, rfl, rfl, rfl⟩
      cases x1 with
      | normal => exact absurd hr (hne _ _ _)
      | exit id => exact ⟨rfl, rfl, rfl, rfl⟩
      | ret => exact ⟨rfl, rfl, rfl, rfl⟩
      | pan v => exact ⟨rfl, rfl, rfl, rfl⟩
  | .cond c a b, e, h, nx, x, e', h', nx', hr => by
    unfold runC at hr
    split at hr
    · rename_i hb; exact AWp.cond hb (runC_sound hc a e h nx _ _ _ _ hr)
    · rename_i hb; exact AWp.cond hb (runC_sound hc b e h nx _ _ _ _ hr)
    · cases hr
  | .block id c, e, h, nx, x, e', h', nx', hr => by
    refine AWp.block ?_
    unfold runC at hr
    split at hr
    · rename_i i e1 h1 nx1 hcx
      refine (runC_sound hc c e h nx _ _ _ _ hcx).mono ?_
      rintro x1 e2 H2 nx2 ⟨rfl, rfl, rfl, rfl⟩
      simp only [InBlock]
      split at hr
      · rename_i hb
        cases hr
        rw [if_pos (beq_eq hb)]
        exact ⟨rfl, rfl, rfl, rfl⟩
      · rename_i hb
        cases hr
        rw [if_neg (fun e => by rw [e, Nat.beq_refl] at hb; cases hb)]
        exact ⟨rfl, rfl, rfl, rfl⟩
    · rename_i hne
      refine (runC_sound hc c e h nx _ _ _ _ hr).mono ?_
      rintro x1 e2 H2 nx2 ⟨rfl, rfl, rfl, rfl⟩
      cases x1 with
      | exit i => exact absurd hr (hne _ _ _ _)
      | normal => exact ⟨rfl, rfl, rfl, rfl⟩
      | ret => exact ⟨rfl, rfl, rfl, rfl⟩
      | pan v => exact ⟨rfl, rfl, rfl, rfl⟩
  | .loop c, e, h, nx, x, e', h', nx', hr => by
    refine AWp.loop (α := Nat) (fun k e1 H1 nx1 => ∃ te th, e1 = vw te ∧ H1 = hv th ∧ loopN (fun e h nx => runC P G call lf n c e h nx) k te th nx1 = some (x, e', h', nx')) id lf ⟨e, h, rfl, rfl, hr⟩ ?_
    rintro k e1 H1 nx1 ⟨te, th, rfl, rfl, hl⟩
    cases k with
    | zero => cases hl
    | succ k =>
      unfold loopN at hl
      split at hl
      · rename_i e2 h2 nx2 hb
        refine (runC_sound hc c te th nx1 _ _ _ _ hb).mono ?_
        rintro x1 e3 H3 nx3 ⟨rfl, rfl, rfl, rfl⟩
        exact ⟨k, Nat.lt_succ_self k, e2, h2, rfl, rfl, hl⟩
      · rename_i hne
        refine (runC_sound hc c te th nx1 _ _ _ _ hl).mono ?_
        rintro x1 e3 H3 nx3 ⟨rfl, rfl, rfl, rfl⟩
        cases x1 with
        | normal => exact absurd hl (hne _ _ _)
        | exit id => exact ⟨rfl, rfl, rfl, rfl⟩
        | ret => exact ⟨rfl, rfl, rfl, rfl⟩
        | pan v => exact ⟨rfl, rfl, rfl, rfl⟩
  | .exit id, e, h, nx, x, e', h', nx', hr => by cases hr; exact AWp.exit ⟨rfl, rfl, rfl, rfl⟩
  | .ret, e, h, nx, x, e', h', nx', hr => by cases hr; exact AWp.ret ⟨rfl, rfl, rfl, rfl⟩
  | .rangeFunc _ _ _ _, e, h, nx, x, e', h', nx', hr => by cases hr
  | .scope _, e, h, nx, x, e', h', nx', hr => by cases hr
  | .label _, e, h, nx, x, e', h', nx', hr => by cases hr
  | .goto _, e, h, nx, x, e', h', nx', hr => by cases hr
  | .refuse _, e, h, nx, x, e', h', nx', hr => by cases hr
def argT : List CV → Nat → Tr CV → Tr CV
  | [], _, t => t
  | c :: cs, k, t => argT cs (k + 1) (Tr.put 20 t k (some c))
theorem argT_get : ∀ (cs : List CV) (k : Nat) (t : Tr CV) (m : Nat) (y : CV), (argT cs k t).get m = some y → (k ≤ m ∧ cs[m - k]? = some y) ∨ t.get m = some y
  | [], k, t, m, y, h => .inr h
  | c :: cs, k, t, m, y, h => by
    rcases argT_get cs (k + 1) _ m y h with ⟨h1, h2⟩ | h1
    · refine .inl ⟨by omega, ?_⟩
      rw [show m - k = (m - (k + 1)) + 1 by omega]
      simpa using h2
    · rcases Tr.get_put _ _ _ _ _ _ h1 with ⟨a, b⟩ | ⟨a, b⟩
      · cases b; subst a; exact .inl ⟨Nat.le_refl _, by simp⟩
      · exact .inr b
theorem argT_vw (cs : List CV) (t : Nat) : vw (argT cs 0 .lf) t = argE cs t ∨ vw (argT cs 0 .lf) t = .any := by
  unfold vw
  cases hg : (argT cs 0 .lf).get t with
  | none => exact .inr rfl
  | some y =>
    left
    rcases argT_get cs 0 .lf t y hg with ⟨_, h⟩ | h
    · simp only [Nat.sub_zero] at h; simp [argE, h]
    · cases h
/-- Functions; 'sp' are those with a meaning of their own. -/
def runF (P : Program) (G : Nat → CV) (sp : Call1 → Call1) (lf : Nat) : Nat → Call1
  | 0 => fun _ _ _ _ => none
  | fuel + 1 => fun f args h nx => match sp (runF P G sp lf fuel) f args h nx with
    | some r => some r
    | none => match P.funcs[f]? with
      | some fn => match fn.body with
        | some c => match runC P G (runF P G sp lf fuel) lf (max args.length fn.ntmps) c (argT args 0 .lf) h nx with
          | some (.pan v, _, h', nx') => some (.pan v, h', nx')
          | some (.exit _, _, _, _) => none
          | some (_, e', h', nx') => match resA P (hv h') (vw e') fn.results.toList with
            | some l => some (.ret (packA l), h', nx')
            | none => none
          | none => none
        | none => none
      | none => none
theorem runF_sound {P : Program} {G : Nat → CV} {sp : Call1 → Call1} {lf : Nat} (hsp : ∀ call, CallOk P G call → CallOk P G (sp call)) : ∀ fuel, CallOk P G (runF P G sp lf fuel)
  | 0 => fun f args h nx r h' nx' hr => by cases hr
  | fuel + 1 => fun f args h nx r h' nx' hr => by
    have ih := runF_sound (lf := lf) hsp fuel
    unfold runF at hr
    split at hr
    · rename_i r1 hs
      cases hr
      exact hsp _ ih _ _ _ _ _ _ _ hs
    · split at hr
      · rename_i fn hfn
        split at hr
        · rename_i c hb
          have key : ∀ x e1 h1 nx1, runC P G (runF P G sp lf fuel) lf (max args.length fn.ntmps) c (argT args 0 .lf) h nx = some (x, e1, h1, nx1) → AWp P G (max args.length fn.ntmps) c (argE args) (hv h) nx (Is x e1 h1 nx1) :=
            fun x e1 h1 nx1 hx => AWp.weak (argT_vw args) (Sub.refl _) (runC_sound ih c _ _ _ _ _ _ _ hx)
          split at hr
          · rename_i v e1 h1 nx1 hx
            cases hr
            refine ACall.of_body hfn hb ((key _ _ _ _ hx).mono ?_)
            rintro x1 e2 H2 nx2 ⟨rfl, rfl, rfl, rfl⟩
            exact ⟨rfl, rfl, rfl⟩
          · cases hr
          · rename_i x1 e1 h1 nx1 hn1 hn2 hx
            split at hr
            · rename_i l hl
              cases hr
              refine ACall.of_body hfn hb ((key _ _ _ _ hx).mono ?_)
              rintro x2 e2 H2 nx2 ⟨rfl, rfl, rfl, rfl⟩
              cases x2 with
              | normal => exact ⟨l, hl, rfl, rfl, rfl⟩
              | ret => exact ⟨l, hl, rfl, rfl, rfl⟩
              | exit i => exact absurd rfl (hn2 _ )
              | pan v => exact absurd rfl (hn1 _)
            · cases hr
          · cases hr
        · cases hr
      · cases hr
end Ax
end Go.Proofs.YtdjllogimomgmaaGreatDoor
