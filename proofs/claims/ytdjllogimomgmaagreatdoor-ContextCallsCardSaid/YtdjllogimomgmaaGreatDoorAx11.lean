/-
  AX: a closed executor: tries, equality of abstract values, regions in order.
-/
import Derived.Test.YtdjllogimomgmaaGreatDoorAx10
set_option linter.unusedSimpArgs false
set_option linter.unusedVariables false
namespace Go.Proofs.YtdjllogimomgmaaGreatDoor
namespace Ax
/-- Tries by numbers. -/
inductive Tr (α : Type) where
  | lf
  | nd (l : Tr α) (v : Option α) (r : Tr α)
def Tr.get {α : Type} : Tr α → Nat → Option α
  | .lf, _ => none
  | .nd l v r, n => match Nat.beq n 0 with
    | true => v
    | false => match Nat.beq (n % 2) 1 with
      | true => l.get (n / 2)
      | false => r.get (n / 2 - 1)
def Tr.put {α : Type} : Nat → Tr α → Nat → Option α → Tr α
  | 0, _, _, _ => .lf
  | f + 1, .lf, n, x => match Nat.beq n 0 with
    | true => .nd .lf x .lf
    | false => match Nat.beq (n % 2) 1 with
      | true => .nd (Tr.put f .lf (n / 2) x) none .lf
      | false => .nd .lf none (Tr.put f .lf (n / 2 - 1) x)
  | f + 1, .nd l v r, n, x => match Nat.beq n 0 with
    | true => .nd l x r
    | false => match Nat.beq (n % 2) 1 with
      | true => .nd (Tr.put f l (n / 2) x) v r
      | false => .nd l v (Tr.put f r (n / 2 - 1) x)
theorem beqF {a b : Nat} (h : a ≠ b) : Nat.beq a b = false := by
  cases hb : Nat.beq a b with
  | false => rfl
  | true => exact absurd (Nat.eq_of_beq_eq_true hb) h
theorem Tr.get_put {α : Type} : ∀ (f : Nat) (t : Tr α) (n : Nat) (x : Option α) (m : Nat) (y : α), (Tr.put f t n x).get m = some y → (m = n ∧ x = some y) ∨ (m ≠ n ∧ t.get m = some y) := by
  intro f
  induction f with
  | zero => intro t n x m y h; simp [Tr.put, Tr.get] at h
  | succ f ih =>
    intro t n x m y h
    have key : ∀ (l : Tr α) (v : Option α) (r : Tr α), (match Nat.beq n 0 with
        | true => Tr.nd l x r
        | false => match Nat.beq (n % 2) 1 with
          | true => Tr.nd (Tr.put f l (n / 2) x) v r
          | false => Tr.nd l v (Tr.put f r (n / 2 - 1) x)).get m = some y → (m = n ∧ x = some y) ∨ (m ≠ n ∧ (Tr.nd l v r).get m = some y) := by
      intro l v r h
      by_cases hn : n = 0
      · subst hn
        simp only [Tr.get] at h ⊢
        by_cases hm : m = 0
        · subst hm; simp at h; exact .inl ⟨rfl, h⟩
        · refine .inr ⟨hm, ?_⟩
          have e : Nat.beq m 0 = false := beqF hm
          simp only [e] at h ⊢
          exact h
      · have e : Nat.beq n 0 = false := beqF hn
        by_cases ho : n % 2 = 1
        · have eo : Nat.beq (n % 2) 1 = true := by simpa using ho
          simp only [e, eo, Tr.get] at h ⊢
          by_cases hm : m = 0
          · subst hm; exact .inr ⟨fun x => hn x.symm, h⟩
          · have em : Nat.beq m 0 = false := beqF hm
            simp only [em] at h ⊢
            by_cases mo : m % 2 = 1
            · have emo : Nat.beq (m % 2) 1 = true := by simpa using mo
              simp only [emo] at h ⊢
              rcases ih _ _ _ _ _ h with ⟨a, b⟩ | ⟨a, b⟩
              · exact .inl ⟨by omega, b⟩
              · exact .inr ⟨fun e => a (by rw [e]), b⟩
            · have emo : Nat.beq (m % 2) 1 = false := beqF mo
              simp only [emo] at h ⊢
              exact .inr ⟨fun e => mo (by rw [e]; exact ho), h⟩
        · have eo : Nat.beq (n % 2) 1 = false := beqF ho
          simp only [e, eo, Tr.get] at h ⊢
          by_cases hm : m = 0
          · subst hm; exact .inr ⟨fun x => hn x.symm, h⟩
          · have em : Nat.beq m 0 = false := beqF hm
            simp only [em] at h ⊢
            by_cases mo : m % 2 = 1
            · have emo : Nat.beq (m % 2) 1 = true := by simpa using mo
              simp only [emo] at h ⊢
              exact .inr ⟨fun e => ho (by rw [← e]; exact mo), h⟩
            · have emo : Nat.beq (m % 2) 1 = false := beqF mo
              simp only [emo] at h ⊢
              rcases ih _ _ _ _ _ h with ⟨a, b⟩ | ⟨a, b⟩
              · exact .inl ⟨by omega, b⟩
              · exact .inr ⟨fun e => a (by rw [e]), b⟩
    cases t with
    | lf =>
      simp only [Tr.put] at h
      rcases key .lf none .lf h with a | ⟨a, b⟩
      · exact .inl a
      · refine .inr ⟨a, ?_⟩
        simp only [Tr.get] at b
        split at b
        · cases b
        · split at b <;> cases b
    | nd l v r => simp only [Tr.put] at h; exact key l v r h
/-! views -/
def vw (e : Tr CV) : Env := fun t => match e.get t with
  | some c => c
  | none => .any
def hv (h : Tr CB) : Heap := fun b => h.get b
def setT (e : Tr CV) (d : Option Nat) (c : CV) : Tr CV := match d with
  | some i => Tr.put 20 e i (some c)
  | none => e
theorem vw_setT (e : Tr CV) (d : Option Nat) (c : CV) (t : Nat) : vw (setT e d c) t = putE (vw e) d c t ∨ vw (setT e d c) t = .any := by
  cases d with
  | none => exact .inl rfl
  | some i =>
    unfold setT
    show (match (Tr.put 20 e i (some c)).get t with | some c => c | none => .any) = _ ∨ (match (Tr.put 20 e i (some c)).get t with | some c => c | none => .any) = _
    cases hg : (Tr.put 20 e i (some c)).get t with
    | none => exact .inr rfl
    | some y =>
      left
      rcases Tr.get_put _ _ _ _ _ _ hg with ⟨a, b⟩ | ⟨a, b⟩
      · cases b; simp [putE, a]
      · simp [putE, a, vw, b]
theorem hv_put (h : Tr CB) (b : Nat) (k : CB) : Sub (hv (Tr.put 20 h b (some k))) (upd (hv h) b k) := by
  intro x y hx
  rcases Tr.get_put _ _ _ _ _ _ hx with ⟨a, c⟩ | ⟨a, c⟩
  · cases c; subst a; exact upd_hit _ _ _
  · rw [upd_miss _ _ _ _ a]; exact c
theorem hv_del (h : Tr CB) (b : Nat) : Sub (hv (Tr.put 20 h b none)) (drp (hv h) b) := by
  intro x y hx
  rcases Tr.get_put _ _ _ _ _ _ hx with ⟨a, c⟩ | ⟨a, c⟩
  · cases c
  · rw [drp_miss _ _ _ a]; exact c
def Dl.tr (h : Tr CB) (nx : Nat) : Dl → Tr CB
  | .no => h
  | .set b k => Tr.put 20 h b (some k)
  | .mv b k => Tr.put 20 (Tr.put 20 h b none) nx (some k)
  | .nw k => Tr.put 20 h nx (some k)
theorem Sub.trans {A B C : Heap} (h : Sub A B) (h' : Sub B C) : Sub A C := fun b k x => h' b k (h b k x)
theorem Sub.upd {A B : Heap} (h : Sub A B) (b : Nat) (k : CB) : Sub (Ax.upd A b k) (Ax.upd B b k) := by
  intro x y hx
  by_cases e : x = b
  · subst e; rw [upd_hit] at hx ⊢; exact hx
  · rw [upd_miss _ _ _ _ e] at hx ⊢; exact h x y hx
theorem Dl.tr_sub (h : Tr CB) (nx : Nat) (d : Dl) : Sub (hv (d.tr h nx)) (d.hp (hv h) nx) := by
  cases d with
  | no => exact Sub.refl _
  | set b k => exact hv_put h b k
  | mv b k => exact (hv_put _ nx k).trans ((hv_del h b).upd nx k)
  | nw k => exact hv_put h nx k
section weak
variable {P : Program} {G : Nat → CV} {n : Nat} {e e' : Env} {H H' : Heap} {nx : Nat} {Q : AExit → Env → Heap → Nat → Prop}
theorem Post.src {M : Mp} {w : World} (s : Sub H' H) {ex : Exit} {a' : Act} {w' : World} (h : Post n H' M nx w Q ex a' w') : Post n H M nx w Q ex a' w' := by
  obtain ⟨M', x, e', H', nx', h1, h2, h3, h4, h5⟩ := h
  exact ⟨M', x, e', H', nx', h1, h2, h3.src s, h4, h5⟩
theorem AWp.weak {c : Code} (he : ∀ t, e' t = e t ∨ e' t = .any) (hs : Sub H' H) (h : AWp P G n c e' H' nx Q) : AWp P G n c e H nx Q := fun M a w g r v =>
  wp_mono (h M a w g (r.weak hs) (v.weak he)) fun _ _ _ hp => hp.src hs
theorem AOps.weak {ops : Array Oper} {l : List Nat} (he : ∀ t, e' t = e t ∨ e' t = .any) (hs : Sub H' H) (h : AOps P G n ops l e' H' nx Q) : AOps P G n ops l e H nx Q := fun M a w g r v =>
  wpOps_mono (fun _ _ _ hp => hp.src hs) l (h M a w g (r.weak hs) (v.weak he))
theorem ACall.weak {f : FuncId} {args : List CV} {R : Res → Heap → Nat → Prop} (hs : Sub H' H) (h : ACall P G f args H' nx R) : ACall P G f args H nx R := fun M w vs g r v =>
  (h M w vs g (r.weak hs) v).mono fun _ _ ⟨M', x, H1, n', a1, a2, a3, a4⟩ => ⟨M', x, H1, n', a1, a2, a3.src hs, a4⟩
end weak
/-! equality of abstract values -/
mutual
def beqV : CV → CV → Bool
  | .any, .any => true
  | .bool a, .bool b => a == b
  | .int k a, .int k' b => decide (k = k') && decide (a = b)
  | .str a, .str b => a == b
  | .nilp, .nilp => true
  | .ptr a b, .ptr c d => Nat.beq a c && Nat.beq b d
  | .rop a, .rop b => beqL a b
  | .nils, .nils => true
  | .sl a b c d, .sl a' b' c' d' => Nat.beq a a' && Nat.beq b b' && Nat.beq c c' && Nat.beq d d'
  | .lst a, .lst b => beqR a b
  | .nilm, .nilm => true
  | .mp a, .mp b => Nat.beq a b
  | .fmp a b, .fmp c d => beqL a c && beqL b d
  | .nilf, .nilf => true
  | .fn f a b, .fn f' c d => decide (f = f') && beqL a c && beqL b d
  | .nili, .nili => true
  | .iface t a, .iface t' b => Nat.beq t t' && beqV a b
  | .agg a, .agg b => beqL a b
  | .tup a, .tup b => beqL a b
  | _, _ => false
def beqL : List CV → List CV → Bool
  | [], [] => true
  | a :: as, b :: bs => beqV a b && beqL as bs
  | _, _ => false
def beqR : List (List CV) → List (List CV) → Bool
  | [], [] => true
  | a :: as, b :: bs => beqL a b && beqR as bs
  | _, _ => false
end
mutual
theorem beqV_eq : ∀ {a b : CV}, beqV a b = true → a = b
  | .any, b, h => by cases b <;> first | rfl | (simp [beqV] at h)
  | .bool a, b, h => by cases b <;> simp [beqV] at h <;> simp [h]
  | .int k a, b, h => by cases b <;> simp [beqV] at h <;> simp [h]
  | .str a, b, h => by cases b <;> simp [beqV] at h <;> simp [h]
  | .nilp, b, h => by cases b <;> first | rfl | (simp [beqV] at h)
  | .ptr a c, b, h => by cases b <;> simp [beqV] at h <;> simp [h]
  | .rop a, b, h => by cases b <;> simp [beqV] at h; simp [beqL_eq h]
  | .nils, b, h => by cases b <;> first | rfl | (simp [beqV] at h)
  | .sl a c d e, b, h => by cases b <;> simp [beqV] at h <;> simp [h]
  | .lst a, b, h => by cases b <;> simp [beqV] at h; simp [beqR_eq h]
  | .nilm, b, h => by cases b <;> first | rfl | (simp [beqV] at h)
  | .mp a, b, h => by cases b <;> simp [beqV] at h <;> simp [h]
  | .fmp a c, b, h => by cases b <;> simp [beqV] at h; simp [beqL_eq h.1, beqL_eq h.2]
  | .nilf, b, h => by cases b <;> first | rfl | (simp [beqV] at h)
  | .fn f a c, b, h => by cases b <;> simp [beqV] at h; simp [h.1.1, beqL_eq h.1.2, beqL_eq h.2]
  | .nili, b, h => by cases b <;> first | rfl | (simp [beqV] at h)
  | .iface t a, b, h => by cases b <;> simp [beqV] at h; simp [h.1, beqV_eq h.2]
  | .agg a, b, h => by cases b <;> simp [beqV] at h; simp [beqL_eq h]
  | .tup a, b, h => by cases b <;> simp [beqV] at h; simp [beqL_eq h]
theorem beqL_eq : ∀ {a b : List CV}, beqL a b = true → a = b
  | [], b, h => by cases b <;> first | rfl | (simp [beqL] at h)
  | a :: as, b, h => by cases b <;> simp [beqL] at h; rw [beqV_eq h.1, beqL_eq h.2]
theorem beqR_eq : ∀ {a b : List (List CV)}, beqR a b = true → a = b
  | [], b, h => by cases b <;> first | rfl | (simp [beqR] at h)
  | a :: as, b, h => by cases b <;> simp [beqR] at h; rw [beqL_eq h.1, beqR_eq h.2]
end
/-! regions in order -/
abbrev Call1 := FuncId → List CV → Tr CB → Nat → Option (Res × Tr CB × Nat)
def Is (x : AExit) (e : Tr CV) (h : Tr CB) (nx : Nat) : AExit → Env → Heap → Nat → Prop := fun x' e' H' nx' => x' = x ∧ e' = vw e ∧ H' = hv h ∧ nx' = nx
def IsR (r : Res) (h : Tr CB) (nx : Nat) : Res → Heap → Nat → Prop := fun r' H' nx' => r' = r ∧ H' = hv h ∧ nx' = nx
def CallOk (P : Program) (G : Nat → CV) (call : Call1) : Prop := ∀ f args h nx r h' nx', call f args h nx = some (r, h', nx') → ACall P G f args (hv h) nx (IsR r h' nx')
def okD (n : Nat) (d : Option Nat) : Bool := match d with
  | some i => Nat.blt i n
  | none => true
theorem okD_spec {n : Nat} {d : Option Nat} (h : okD n d = true) : ∀ j, d = some j → j < n := by
  intro j hj; subst hj; exact blt_lt h
def panA (ρ : Operand → CV) (op : Op) : Option CV := match op with
  | .panic x => match ρ x with
    | .iface t c => some (.iface t c)
    | _ => none
  | _ => none
def runL (P : Program) (G : Nat → CV) (call : Call1) (n : Nat) (ops : Array Oper) : List Oper → Tr CV → Tr CB → Nat → Option (AExit × Tr CV × Tr CB × Nat)
  | [], e, h, nx => some (.normal, e, h, nx)
  | o :: os, e, h, nx => match gd ops (vw e) o with
    | some b => match okD n o.dst with
      | true => match b with
        | false => runL P G call n ops os (setT e o.dst (.tup [])) h nx
        | true => match qstep P (hv h) (rd G (vw e)) o.op with
          | some c => runL P G call n ops os (setT e o.dst c) h nx
          | none => match astep P (rd G (vw e)) nx o.op with
            | some (c, k) => runL P G call n ops os (setT e o.dst c) (Tr.put 20 h nx (some k)) (nx + 1)
            | none => match estep P (hv h) nx (rd G (vw e)) o.op with
              | some (c, d) => runL P G call n ops os (setT e o.dst c) (d.tr h nx) (d.nx nx)
              | none => match callA (rd G (vw e)) o.op with
                | some (f, args) => match enters P f with
                  | true => match call f args h nx with
                    | some (.ret v, h', nx') => runL P G call n ops os (setT e o.dst v) h' nx'
                    | some (.pan v, h', nx') => some (.pan v, e, h', nx')
                    | none => none
                  | false => none
                | none => match panA (rd G (vw e)) o.op with
                  | some v => some (.pan v, e, h, nx)
                  | none => none
      | false => none
    | none => none
theorem runL_sound {P : Program} {G : Nat → CV} {call : Call1} (hc : CallOk P G call) {n : Nat} {ops : Array Oper} : ∀ (os : List Oper) (k : Nat) (e : Tr CV) (h : Tr CB) (nx : Nat) (x : AExit) (e' : Tr CV) (h' : Tr CB) (nx' : Nat), ops.toList.drop k = os →
    runL P G call n ops os e h nx = some (x, e', h', nx') → AOps P G n ops (List.range' k os.length) (vw e) (hv h) nx (Is x e' h' nx')
  | [], k, e, h, nx, x, e', h', nx', _, hr => by
    cases hr
    exact AOps.nil ⟨rfl, rfl, rfl, rfl⟩
  | o :: os, k, e, h, nx, x, e', h', nx', hk, hr => by
    have ho : ops[k]? = some o := by
      have := congrArg List.head? hk
      simpa [List.head?_drop] using this
    have hk' : ops.toList.drop (k + 1) = os := by
      have := congrArg List.tail hk
      simpa [List.tail_drop] using this
    simp only [List.length_cons, List.range'_succ]
    unfold runL at hr
    split at hr
    case h_2 => cases hr
    rename_i b hg
    split at hr
    case h_2 => cases hr
    rename_i hd
    have hd' := okD_spec hd
    split at hr
    · exact AOps.unwanted ho hg hd' (AOps.weak (vw_setT _ _ _) (Sub.refl _) (runL_sound hc os (k + 1) _ _ _ _ _ _ _ hk' hr))
    · split at hr
      · rename_i c hq
        exact AOps.quiet ho hg hd' hq (AOps.weak (vw_setT _ _ _) (Sub.refl _) (runL_sound hc os (k + 1) _ _ _ _ _ _ _ hk' hr))
      · split at hr
        · rename_i c kk hq
          exact AOps.new ho hg hd' hq (AOps.weak (vw_setT _ _ _) (hv_put _ _ _) (runL_sound hc os (k + 1) _ _ _ _ _ _ _ hk' hr))
        · split at hr
          · rename_i c d hq
            exact AOps.write ho hg hd' hq (AOps.weak (vw_setT _ _ _) (Dl.tr_sub _ _ _) (runL_sound hc os (k + 1) _ _ _ _ _ _ _ hk' hr))
          · split at hr
            · rename_i f args hq
              split at hr
              case h_2 => cases hr
              rename_i he
              split at hr
              · rename_i v h1 nx1 hcall
                refine AOps.call ho hg hd' hq he ((hc _ _ _ _ _ _ _ hcall).mono ?_)
                rintro r H1 n1 ⟨rfl, rfl, rfl⟩
                exact AOps.weak (vw_setT _ _ _) (Sub.refl _) (runL_sound hc os (k + 1) _ _ _ _ _ _ _ hk' hr)
              · rename_i v h1 nx1 hcall
                cases hr
                refine AOps.call ho hg hd' hq he ((hc _ _ _ _ _ _ _ hcall).mono ?_)
                rintro r H1 n1 ⟨rfl, rfl, rfl⟩
                exact ⟨rfl, rfl, rfl, rfl⟩
              · cases hr
            · split at hr
              · rename_i v hp
                cases hr
                unfold panA at hp
                split at hp
                · rename_i xo hop
                  split at hp
                  · rename_i t c hx
                    cases hp
                    exact AOps.panic ho hg hop hx ⟨rfl, rfl, rfl, rfl⟩
                  · cases hp
                · cases hp
              · cases hr
end Ax
end Go.Proofs.YtdjllogimomgmaaGreatDoor
