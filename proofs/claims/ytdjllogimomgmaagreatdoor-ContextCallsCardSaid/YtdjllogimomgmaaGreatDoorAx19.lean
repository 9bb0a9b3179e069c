/-
  AX: the closed executor once more, with every value made plain before it is put away (so that the kernel runs it fast).
-/
import Derived.Test.YtdjllogimomgmaaGreatDoorAx18
set_option linter.unusedSimpArgs false
set_option linter.unusedVariables false
namespace Go.Proofs.YtdjllogimomgmaaGreatDoor
namespace Ax
noncomputable section
/-! making plain -/
def fN {α : Type} (n : Nat) (k : Nat → α) : α := Nat.rec (motive := fun _ => α) (k 0) (fun m _ => k (Nat.succ m)) n
def fB {α : Type} (b : Bool) (k : Bool → α) : α := Bool.rec (k false) (k true) b
def fI {α : Type} (n : Int) (k : Int → α) : α := Int.rec (motive := fun _ => α) (fun m => fN m fun m => k (Int.ofNat m)) (fun m => fN m fun m => k (Int.negSucc m)) n
def fSp {α β : Type} (l : List β) (k : List β → α) : α := List.rec (motive := fun _ => (List β → α) → α) (fun k => k []) (fun a _ ih k => ih fun t => k (a :: t)) l k
theorem fN_eq {α : Type} (n : Nat) (k : Nat → α) : fN n k = k n := by cases n <;> rfl
theorem fB_eq {α : Type} (b : Bool) (k : Bool → α) : fB b k = k b := by cases b <;> rfl
theorem fI_eq {α : Type} (n : Int) (k : Int → α) : fI n k = k n := by
  cases n with
  | ofNat m => exact fN_eq m fun m => k (Int.ofNat m)
  | negSucc m => exact fN_eq m fun m => k (Int.negSucc m)
theorem fSp_eq {α β : Type} : ∀ (l : List β) (k : List β → α), fSp l k = k l
  | [], k => rfl
  | a :: t, k => fSp_eq t fun t => k (a :: t)
def fW {α : Type} (c : CV) (k : CV → α) : α := match c with
  | .bool b => fB b fun b => k (.bool b)
  | .int kk n => fI n fun n => k (.int kk n)
  | .str l => fSp l fun l => k (.str l)
  | .ptr b o => fN b fun b => fN o fun o => k (.ptr b o)
  | .sl b o n kk => fN b fun b => fN o fun o => fN n fun n => fN kk fun kk => k (.sl b o n kk)
  | .mp b => fN b fun b => k (.mp b)
  | .any => k .any
  | .nilp => k .nilp
  | .nils => k .nils
  | .nilm => k .nilm
  | .nilf => k .nilf
  | .nili => k .nili
  | .rop cs => k (.rop cs)
  | .lst rows => k (.lst rows)
  | .fmp a b => k (.fmp a b)
  | .fn f a b => k (.fn f a b)
  | .iface t v => k (.iface t v)
  | .agg cs => k (.agg cs)
  | .tup cs => k (.tup cs)
theorem fW_eq {α : Type} (c : CV) (k : CV → α) : fW c k = k c := by
  cases c <;> simp only [fW, fB_eq, fI_eq, fSp_eq, fN_eq]
def fL {α : Type} (l : List CV) (k : List CV → α) : α := List.rec (motive := fun _ => (List CV → α) → α) (fun k => k []) (fun a _ ih k => fW a fun a => ih fun t => k (a :: t)) l k
theorem fL_eq {α : Type} : ∀ (l : List CV) (k : List CV → α), fL l k = k l
  | [], k => rfl
  | a :: t, k => by
    show (fW a fun a => fL t fun t => k (a :: t)) = _
    rw [fW_eq, fL_eq]
def fV {α : Type} (c : CV) (k : CV → α) : α := match c with
  | .bool b => fB b fun b => k (.bool b)
  | .int kk n => fI n fun n => k (.int kk n)
  | .str l => fSp l fun l => k (.str l)
  | .ptr b o => fN b fun b => fN o fun o => k (.ptr b o)
  | .sl b o n kk => fN b fun b => fN o fun o => fN n fun n => fN kk fun kk => k (.sl b o n kk)
  | .mp b => fN b fun b => k (.mp b)
  | .any => k .any
  | .nilp => k .nilp
  | .nils => k .nils
  | .nilm => k .nilm
  | .nilf => k .nilf
  | .nili => k .nili
  | .rop cs => fSp cs fun cs => k (.rop cs)
  | .lst rows => fSp rows fun rows => k (.lst rows)
  | .fmp a b => k (.fmp a b)
  | .fn f a b => fL a fun a => fL b fun b => k (.fn f a b)
  | .iface t v => fW v fun v => k (.iface t v)
  | .agg cs => fL cs fun cs => k (.agg cs)
  | .tup cs => fL cs fun cs => k (.tup cs)
theorem fV_eq {α : Type} (c : CV) (k : CV → α) : fV c k = k c := by
  cases c <;> simp only [fV, fB_eq, fI_eq, fSp_eq, fN_eq, fL_eq, fW_eq]
def fC {α : Type} (c : CB) (k : CB → α) : α := match c with
  | .cells cs => fSp cs fun cs => k (.cells cs)
  | .map a b => fL a fun a => fL b fun b => k (.map a b)
  | .iter l p => fSp l fun l => fN p fun p => k (.iter l p)
theorem fC_eq {α : Type} (c : CB) (k : CB → α) : fC c k = k c := by cases c <;> simp only [fC, fSp_eq, fL_eq, fN_eq]
def fCn {α : Type} (c : CB) (k : CB → α) : α := match c with
  | .cells cs => fL cs fun cs => k (.cells cs)
  | .map a b => fL a fun a => fL b fun b => k (.map a b)
  | .iter l p => fSp l fun l => fN p fun p => k (.iter l p)
theorem fCn_eq {α : Type} (c : CB) (k : CB → α) : fCn c k = k c := by cases c <;> simp only [fCn, fSp_eq, fL_eq, fN_eq]
/-- A trie with one place written. -/
def putK {α β : Type} (f : Nat) : Tr α → Nat → Option α → (Tr α → β) → β := Nat.rec (motive := fun _ => Tr α → Nat → Option α → (Tr α → β) → β) (fun _ _ _ k => k .lf)
  (fun _ ih t n x k => Tr.casesOn (motive := fun _ => β) t
    (match Nat.beq n 0 with
      | true => k (.nd .lf x .lf)
      | false => match Nat.beq (n % 2) 1 with
        | true => ih .lf (n / 2) x fun l => k (.nd l none .lf)
        | false => ih .lf (n / 2 - 1) x fun r => k (.nd .lf none r))
    (fun l v r => match Nat.beq n 0 with
      | true => k (.nd l x r)
      | false => match Nat.beq (n % 2) 1 with
        | true => ih l (n / 2) x fun l => k (.nd l v r)
        | false => ih r (n / 2 - 1) x fun r => k (.nd l v r))) f
theorem putK_eq {α β : Type} : ∀ (f : Nat) (t : Tr α) (n : Nat) (x : Option α) (k : Tr α → β), putK f t n x k = k (Tr.put f t n x)
  | 0, t, n, x, k => rfl
  | f + 1, .lf, n, x, k => by
    show (match Nat.beq n 0 with
      | true => k (.nd .lf x .lf)
      | false => match Nat.beq (n % 2) 1 with
        | true => putK f .lf (n / 2) x fun l => k (.nd l none .lf)
        | false => putK f .lf (n / 2 - 1) x fun r => k (.nd .lf none r)) = _
    unfold Tr.put
    cases Nat.beq n 0 with
    | true => rfl
    | false => cases Nat.beq (n % 2) 1 with
      | true => exact putK_eq f .lf (n / 2) x _
      | false => exact putK_eq f .lf (n / 2 - 1) x _
  | f + 1, .nd l v r, n, x, k => by
    show (match Nat.beq n 0 with
      | true => k (.nd l x r)
      | false => match Nat.beq (n % 2) 1 with
        | true => putK f l (n / 2) x fun l => k (.nd l v r)
        | false => putK f r (n / 2 - 1) x fun r => k (.nd l v r)) = _
    unfold Tr.put
    cases Nat.beq n 0 with
    | true => rfl
    | false => cases Nat.beq (n % 2) 1 with
      | true => exact putK_eq f l (n / 2) x _
      | false => exact putK_eq f r (n / 2 - 1) x _
def setK {β : Type} (e : Tr CV) (d : Option Nat) (c : CV) (k : Tr CV → β) : β := match d with
  | some i => putK 20 e i (some c) k
  | none => k e
theorem setK_eq {β : Type} (e : Tr CV) (d : Option Nat) (c : CV) (k : Tr CV → β) : setK e d c k = k (setT e d c) := by
  cases d <;> simp only [setK, setT, putK_eq]
def dlK {β : Type} (h : Tr CB) (nx : Nat) (d : Dl) (k : Tr CB → β) : β := match d with
  | .no => k h
  | .set b kk => fN b fun b => fC kk fun kk => putK 20 h b (some kk) k
  | .mv b kk => fN b fun b => fC kk fun kk => putK 20 h b none fun h => putK 20 h nx (some kk) k
  | .nw kk => fCn kk fun kk => putK 20 h nx (some kk) k
theorem dlK_eq {β : Type} (h : Tr CB) (nx : Nat) (d : Dl) (k : Tr CB → β) : dlK h nx d k = k (d.tr h nx) := by
  cases d <;> simp only [dlK, Dl.tr, putK_eq, fC_eq, fCn_eq, fN_eq]
/-- Operations one after the other. -/
def runLS (P : Program) (G : Nat → CV) (call : Call1) (n : Nat) (ops : Array Oper) (l : List Oper) : Tr CV → Tr CB → Nat → Option Out := List.rec (motive := fun _ => Tr CV → Tr CB → Nat → Option Out)
  (fun e h nx => some (.normal, e, h, nx))
  (fun o _ ih e h nx => match gd ops (vw e) o with
    | some b => match okD n o.dst with
      | true => match b with
        | false => setK e o.dst (.tup []) fun e => ih e h nx
        | true => match qstep P (hv h) (rd G (vw e)) o.op with
          | some c => fV c fun c => setK e o.dst c fun e => ih e h nx
          | none => match astep P (rd G (vw e)) nx o.op with
            | some (c, k) => fV c fun c => setK e o.dst c fun e => fCn k fun k => putK 20 h nx (some k) fun h => fN (nx + 1) fun nx => ih e h nx
            | none => match estep P (hv h) nx (rd G (vw e)) o.op with
              | some (c, d) => fV c fun c => setK e o.dst c fun e => dlK h nx d fun h => fN (d.nx nx) fun nx => ih e h nx
              | none => match callA (rd G (vw e)) o.op with
                | some (f, args) => match enters P f with
                  | true => fN f fun f => fL args fun args => match call f args h nx with
                    | some (.ret v, h', nx') => fV v fun v => setK e o.dst v fun e => ih e h' nx'
                    | some (.pan v, h', nx') => some (.pan v, e, h', nx')
                    | none => none
                  | false => none
                | none => match panA (rd G (vw e)) o.op with
                  | some v => some (.pan v, e, h, nx)
                  | none => none
      | false => none
    | none => none) l
theorem runLS_eq {P : Program} {G : Nat → CV} {call : Call1} {n : Nat} {ops : Array Oper} : ∀ (os : List Oper) (e : Tr CV) (h : Tr CB) (nx : Nat), runLS P G call n ops os e h nx = runL P G call n ops os e h nx
  | [], e, h, nx => rfl
  | o :: os, e, h, nx => by
    show (match gd ops (vw e) o with
    | some b => match okD n o.dst with
      | true => match b with
        | false => setK e o.dst (.tup []) fun e => runLS P G call n ops os e h nx
        | true => match qstep P (hv h) (rd G (vw e)) o.op with
          | some c => fV c fun c => setK e o.dst c fun e => runLS P G call n ops os e h nx
          | none => match astep P (rd G (vw e)) nx o.op with
            | some (c, k) => fV c fun c => setK e o.dst c fun e => fCn k fun k => putK 20 h nx (some k) fun h => fN (nx + 1) fun nx => runLS P G call n ops os e h nx
            | none => match estep P (hv h) nx (rd G (vw e)) o.op with
              | some (c, d) => fV c fun c => setK e o.dst c fun e => dlK h nx d fun h => fN (d.nx nx) fun nx => runLS P G call n ops os e h nx
              | none => match callA (rd G (vw e)) o.op with
                | some (f, args) => match enters P f with
                  | true => fN f fun f => fL args fun args => match call f args h nx with
                    | some (.ret v, h', nx') => fV v fun v => setK e o.dst v fun e => runLS P G call n ops os e h' nx'
                    | some (.pan v, h', nx') => some (.pan v, e, h', nx')
                    | none => none
                  | false => none
                | none => match panA (rd G (vw e)) o.op with
                  | some v => some (.pan v, e, h, nx)
                  | none => none
      | false => none
    | none => none) = _
    simp only [fV_eq, setK_eq, fCn_eq, putK_eq, fN_eq, dlK_eq, fL_eq, runLS_eq]
    rfl
/-! drawn regions that look -/
theorem Tr.get_put_same {α : Type} : ∀ (f : Nat) (t : Tr α) (n : Nat) (x : Option α), n + 1 < 2 ^ f → (Tr.put f t n x).get n = x
  | 0, t, n, x, h => by simp at h
  | f + 1, t, n, x, h => by
    have hp : 2 ^ (f + 1) = 2 * 2 ^ f := by rw [Nat.pow_succ]; omega
    have key : ∀ (l : Tr α) (v : Option α) (r : Tr α), (match Nat.beq n 0 with
        | true => Tr.nd l x r
        | false => match Nat.beq (n % 2) 1 with
          | true => Tr.nd (Tr.put f l (n / 2) x) v r
          | false => Tr.nd l v (Tr.put f r (n / 2 - 1) x)).get n = x := by
      intro l v r
      by_cases hn : n = 0
      · subst hn; rfl
      · rw [beqF hn]
        by_cases h2 : n % 2 = 1
        · have : Nat.beq (n % 2) 1 = true := by rw [h2]; rfl
          simp only [this, Tr.get, beqF hn]
          exact Tr.get_put_same f l _ x (by omega)
        · simp only [beqF h2, Tr.get, beqF hn]
          exact Tr.get_put_same f r _ x (by omega)
    cases t with
    | lf => exact key .lf none .lf
    | nd l v r => exact key l v r
theorem Tr.get_put_other {α : Type} : ∀ (f : Nat) (t : Tr α) (n : Nat) (x : Option α) (m : Nat), n + 1 < 2 ^ f → m ≠ n → (Tr.put f t n x).get m = t.get m
  | 0, t, n, x, m, h, hm => by simp at h
  | f + 1, t, n, x, m, h, hm => by
    have hp : 2 ^ (f + 1) = 2 * 2 ^ f := by rw [Nat.pow_succ]; omega
    have key : ∀ (l : Tr α) (v : Option α) (r : Tr α), (match Nat.beq n 0 with
        | true => Tr.nd l x r
        | false => match Nat.beq (n % 2) 1 with
          | true => Tr.nd (Tr.put f l (n / 2) x) v r
          | false => Tr.nd l v (Tr.put f r (n / 2 - 1) x)).get m = (Tr.nd l v r).get m := by
      intro l v r
      by_cases hn : n = 0
      · subst hn
        simp only [Tr.get, beqF hm]
      · rw [beqF hn]
        by_cases h2 : n % 2 = 1
        · have : Nat.beq (n % 2) 1 = true := by rw [h2]; rfl
          simp only [this, Tr.get]
          by_cases hm0 : m = 0
          · subst hm0; rfl
          · simp only [beqF hm0]
            by_cases hm2 : m % 2 = 1
            · have e2 : Nat.beq (m % 2) 1 = true := by rw [hm2]; rfl
              simp only [e2]
              exact Tr.get_put_other f l _ x _ (by omega) (by omega)
            · simp only [beqF hm2]
        · simp only [beqF h2, Tr.get]
          by_cases hm0 : m = 0
          · subst hm0; rfl
          · simp only [beqF hm0]
            by_cases hm2 : m % 2 = 1
            · have e2 : Nat.beq (m % 2) 1 = true := by rw [hm2]; rfl
              simp only [e2]
            · simp only [beqF hm2]
              exact Tr.get_put_other f r _ x _ (by omega) (by omega)
    cases t with
    | lf =>
      have := key .lf none .lf
      rw [show (Tr.lf : Tr α).get m = (Tr.nd .lf none .lf).get m by
        simp only [Tr.get]
        split
        · rfl
        · split <;> rfl]
      exact this
    | nd l v r => exact key l v r
theorem vw_set {e : Tr CV} {d : Option Nat} {c : CV} (hd : ∀ j, d = some j → j < 1000) : vw (setT e d c) = putE (vw e) d c := by
  cases d with
  | none => rfl
  | some i =>
    have hi : i + 1 < 2 ^ 20 := by have := hd i rfl; omega
    funext t
    show (match (Tr.put 20 e i (some c)).get t with | some c => c | none => .any) = if t = i then c else vw e t
    by_cases ht : t = i
    · subst ht; rw [Tr.get_put_same 20 e t (some c) hi]; simp
    · rw [Tr.get_put_other 20 e i (some c) t hi ht, if_neg ht]; rfl
def runQS (P : Program) (G : Nat → CV) (ops : Array Oper) (h : Tr CB) (l : List Oper) : Tr CV → Option (Tr CV) := List.rec (motive := fun _ => Tr CV → Option (Tr CV))
  (fun e => some e)
  (fun o _ ih e => match okD 1000 o.dst with
    | true => match gd ops (vw e) o with
      | some b => match b with
        | false => setK e o.dst (.tup []) fun e => ih e
        | true => match qstep P (hv h) (rd G (vw e)) o.op with
          | some c => fV c fun c => setK e o.dst c fun e => ih e
          | none => none
      | none => none
    | false => none) l
theorem runQS_sound {P : Program} {G : Nat → CV} {ops : Array Oper} {h : Tr CB} : ∀ (os : List Oper) (e e' : Tr CV), runQS P G ops h os e = some e' → ∀ j, ∃ l, QRun P G (hv h) ops j os (vw e) l (vw e') j
  | [], e, e', hr => by
    have : some e = some e' := hr
    cases this; exact fun j => ⟨[], .nil _ _⟩
  | o :: os, e, e', hr => by
    have hr' : (match okD 1000 o.dst with
      | true => match gd ops (vw e) o with
        | some b => match b with
          | false => setK e o.dst (.tup []) fun e => runQS P G ops h os e
          | true => match qstep P (hv h) (rd G (vw e)) o.op with
            | some c => fV c fun c => setK e o.dst c fun e => runQS P G ops h os e
            | none => none
        | none => none
      | false => none) = some e' := hr
    simp only [fV_eq, setK_eq] at hr'
    split at hr'
    case h_2 => cases hr'
    rename_i hd
    have hd' := okD_spec hd
    split at hr'
    case h_2 => cases hr'
    rename_i b hg
    split at hr'
    · intro j
      obtain ⟨l, hl⟩ := runQS_sound os _ _ hr' j
      rw [vw_set hd'] at hl
      exact ⟨_, .skip hg hl⟩
    · split at hr'
      case h_2 => cases hr'
      rename_i c hq
      intro j
      obtain ⟨l, hl⟩ := runQS_sound os _ _ hr' j
      rw [vw_set hd'] at hl
      exact ⟨_, .look c hg hq hl⟩
def fT {α β : Type} (fv : α → (α → β) → β) (t : Tr α) (k : Tr α → β) : β := Tr.rec (motive := fun _ => (Tr α → β) → β) (fun k => k .lf)
  (fun _ v _ ihl ihr k => ihl fun l => ihr fun r => match v with
    | some x => fv x fun x => k (.nd l (some x) r)
    | none => k (.nd l none r)) t k
theorem fT_eq {α β : Type} {fv : α → (α → β) → β} (hf : ∀ x k, fv x k = k x) : ∀ (t : Tr α) (k : Tr α → β), fT fv t k = k t
  | .lf, k => rfl
  | .nd l v r, k => by
    show (fT fv l fun l => fT fv r fun r => match v with
      | some x => fv x fun x => k (.nd l (some x) r)
      | none => k (.nd l none r)) = _
    rw [fT_eq hf, fT_eq hf]
    cases v <;> simp only [hf]
def runDS (P : Program) (G : Nat → CV) (call : Call1) (n : Nat) (ops : Array Oper) (e : Tr CV) (h : Tr CB) (nx : Nat) : Option Out :=
  match P.follows .mixedOrders with
  | true => match stat n ops with
    | true => match runQS P G ops h ops.toList e with
      | some e' => fN (nx + ops.size) fun nx => some (.normal, e', h, nx)
      | none => match runD P G call n ops e h nx with
        | some (x, e', h', nx') => fT fV e' fun e' => fT fC h' fun h' => fN nx' fun nx' => some (x, e', h', nx')
        | none => none
    | false => match runD P G call n ops e h nx with
      | some (x, e', h', nx') => fT fV e' fun e' => fT fC h' fun h' => fN nx' fun nx' => some (x, e', h', nx')
      | none => none
  | false => none
theorem runDS_sound {P : Program} {G : Nat → CV} {call : Call1} (hc : CallOk P G call) {n id : Nat} {ops : Array Oper} {e : Tr CV} {h : Tr CB} {nx : Nat} {x : AExit} {e' : Tr CV} {h' : Tr CB} {nx' : Nat}
    (hr : runDS P G call n ops e h nx = some (x, e', h', nx')) : AWp P G n (.region id ops true) (vw e) (hv h) nx (Is x e' h' nx') := by
  have old : (match runD P G call n ops e h nx with
        | some (x, e', h', nx') => fT fV e' fun e' => fT fC h' fun h' => fN nx' fun nx' => some (x, e', h', nx')
        | none => none) = some (x, e', h', nx') → AWp P G n (.region id ops true) (vw e) (hv h) nx (Is x e' h' nx') := by
    intro hx
    simp only [fT_eq fV_eq, fT_eq fC_eq, fN_eq] at hx
    split at hx
    · rename_i hd; cases hx; exact runD_sound hc hd
    · cases hx
  unfold runDS at hr
  split at hr
  case h_2 => cases hr
  rename_i hm
  split at hr
  · rename_i hst
    split at hr
    · rename_i e1 hq
      rw [fN_eq] at hr
      cases hr
      obtain ⟨l, hl⟩ := runQS_sound _ _ _ hq 0
      exact AWp.regQ hm hst hl ⟨rfl, rfl, rfl, rfl⟩
    · exact old hr
  · exact old hr
/-! code, functions -/
def loopS (body : Tr CV → Tr CB → Nat → Option Out) (k : Nat) : Tr CV → Tr CB → Nat → Option Out := Nat.rec (motive := fun _ => Tr CV → Tr CB → Nat → Option Out) (fun _ _ _ => none)
  (fun _ ih e h nx => match body e h nx with
    | some (.normal, e', h', nx') => ih e' h' nx'
    | r => r) k
theorem loopS_eq {b1 b2 : Tr CV → Tr CB → Nat → Option Out} (hb : ∀ e h nx, b1 e h nx = b2 e h nx) : ∀ (k : Nat) (e : Tr CV) (h : Tr CB) (nx : Nat), loopS b1 k e h nx = loopN b2 k e h nx
  | 0, e, h, nx => rfl
  | k + 1, e, h, nx => by
    show (match b1 e h nx with
    | some (.normal, e', h', nx') => loopS b1 k e' h' nx'
    | r => r) = _
    rw [hb]
    show _ = (match b2 e h nx with
      | some (.normal, e', h', nx') => loopN b2 k e' h' nx'
      | r => r)
    cases b2 e h nx with
    | none => rfl
    | some x =>
      obtain ⟨x, e1, h1, n1⟩ := x
      cases x with
      | normal => exact loopS_eq hb k e1 h1 n1
      | _ => rfl
def runCS (P : Program) (G : Nat → CV) (call : Call1) (lf n : Nat) (c : Code) : Tr CV → Tr CB → Nat → Option Out := Code.rec (motive := fun _ => Tr CV → Tr CB → Nat → Option Out)
  (fun e h nx => some (.normal, e, h, nx))
  (fun _ ops d => Bool.rec (fun e h nx => runLS P G call n ops ops.toList e h nx) (fun e h nx => runDS P G call n ops e h nx) d)
  (fun _ _ iha ihb e h nx => match iha e h nx with
    | some (.normal, e', h', nx') => ihb e' h' nx'
    | r => r)
  (fun c _ _ iha ihb e h nx => match rd G (vw e) c with
    | .bool b => Bool.rec (ihb e h nx) (iha e h nx) b
    | _ => none)
  (fun id _ ih e h nx => match ih e h nx with
    | some (.exit i, e', h', nx') => match Nat.beq i id with
      | true => some (.normal, e', h', nx')
      | false => some (.exit i, e', h', nx')
    | r => r)
  (fun _ ih e h nx => loopS ih lf e h nx)
  (fun _ _ _ _ _ _ _ _ _ => none)
  (fun id e h nx => some (.exit id, e, h, nx))
  (fun _ _ _ _ _ => none) (fun _ _ _ _ => none) (fun _ _ _ _ => none)
  (fun e h nx => some (.ret, e, h, nx))
  (fun _ _ _ _ => none) c
theorem runCS_sound {P : Program} {G : Nat → CV} {call : Call1} (hc : CallOk P G call) {lf n : Nat} : ∀ (c : Code) (e : Tr CV) (h : Tr CB) (nx : Nat) (x : AExit) (e' : Tr CV) (h' : Tr CB) (nx' : Nat),
    runCS P G call lf n c e h nx = some (x, e', h', nx') → AWp P G n c (vw e) (hv h) nx (Is x e' h' nx')
  | .skip, e, h, nx, x, e', h', nx', hr => by
    have hr : some (AExit.normal, e, h, nx) = some (x, e', h', nx') := hr
    cases hr; exact AWp.skip ⟨rfl, rfl, rfl, rfl⟩
  | .region id ops false, e, h, nx, x, e', h', nx', hr => by
    have hr : runLS P G call n ops ops.toList e h nx = some (x, e', h', nx') := hr
    rw [runLS_eq] at hr
    refine AWp.region ?_
    have := runL_sound hc ops.toList 0 e h nx x e' h' nx' (by simp) hr
    rw [List.range_eq_range']
    simpa using this
  | .region id ops true, e, h, nx, x, e', h', nx', hr => runDS_sound hc hr
  | .seq a b, e, h, nx, x, e', h', nx', hr => by
    refine AWp.seq ?_
    have hr : (match runCS P G call lf n a e h nx with
      | some (.normal, e', h', nx') => runCS P G call lf n b e' h' nx'
      | r => r) = some (x, e', h', nx') := hr
    split at hr
    · rename_i e1 h1 nx1 ha
      refine (runCS_sound hc a e h nx _ _ _ _ ha).mono ?_
      rintro x1 e2 H2 nx2 ⟨rfl, rfl, rfl, rfl⟩
      exact runCS_sound hc b e1 h1 _ _ _ _ _ hr
    · rename_i hne
      refine (runCS_sound hc a e h nx _ _ _ _ hr).mono ?_
      rintro x1 e2 H2 nx2 ⟨rfl, rfl, rfl, rfl⟩
      cases x1 with
      | normal => exact absurd hr (hne _ _ _)
      | exit id => exact ⟨rfl, rfl, rfl, rfl⟩
      | ret => exact ⟨rfl, rfl, rfl, rfl⟩
      | pan v => exact ⟨rfl, rfl, rfl, rfl⟩
  | .cond c a b, e, h, nx, x, e', h', nx', hr => by
    have hr : (match rd G (vw e) c with
      | .bool t => Bool.rec (motive := fun _ => Option Out) (runCS P G call lf n b e h nx) (runCS P G call lf n a e h nx) t
      | _ => none) = some (x, e', h', nx') := hr
    split at hr
    case h_2 => cases hr
    rename_i t ht
    refine AWp.cond ht ?_
    cases t
    · exact runCS_sound hc b e h nx _ _ _ _ hr
    · exact runCS_sound hc a e h nx _ _ _ _ hr
  | .block id c, e, h, nx, x, e', h', nx', hr => by
    refine AWp.block ?_
    have hr : (match runCS P G call lf n c e h nx with
      | some (.exit i, e', h', nx') => match Nat.beq i id with
        | true => some (.normal, e', h', nx')
        | false => some (.exit i, e', h', nx')
      | r => r) = some (x, e', h', nx') := hr
    split at hr
    · rename_i i e1 h1 nx1 ha
      refine (runCS_sound hc c e h nx _ _ _ _ ha).mono ?_
      rintro x1 e2 H2 nx2 ⟨rfl, rfl, rfl, rfl⟩
      split at hr
      · rename_i hi
        cases hr
        show if i = id then _ else _
        rw [if_pos (beq_eq hi)]; exact ⟨rfl, rfl, rfl, rfl⟩
      · rename_i hi
        cases hr
        show if i = id then _ else _
        rw [if_neg (fun e => by subst e; simp at hi)]; exact ⟨rfl, rfl, rfl, rfl⟩
    · rename_i hne
      refine (runCS_sound hc c e h nx _ _ _ _ hr).mono ?_
      rintro x1 e2 H2 nx2 ⟨rfl, rfl, rfl, rfl⟩
      cases x1 with
      | exit i => exact absurd hr (hne _ _ _ _)
      | normal => exact ⟨rfl, rfl, rfl, rfl⟩
      | ret => exact ⟨rfl, rfl, rfl, rfl⟩
      | pan v => exact ⟨rfl, rfl, rfl, rfl⟩
  | .loop c, e, h, nx, x, e', h', nx', hr => by
    have hr : loopS (fun e h nx => runCS P G call lf n c e h nx) lf e h nx = some (x, e', h', nx') := hr
    rw [loopS_eq (fun _ _ _ => rfl)] at hr
    refine AWp.loop (α := Nat) (fun k e1 H1 nx1 => ∃ te th, e1 = vw te ∧ H1 = hv th ∧ loopN (fun e h nx => runCS P G call lf n c e h nx) k te th nx1 = some (x, e', h', nx')) id lf ⟨e, h, rfl, rfl, hr⟩ ?_
    rintro k e1 H1 nx1 ⟨te, th, rfl, rfl, hk⟩
    cases k with
    | zero => cases hk
    | succ k =>
      unfold loopN at hk
      split at hk
      · rename_i e2 h2 nx2 hb
        refine (runCS_sound hc c te th nx1 _ _ _ _ hb).mono ?_
        rintro x1 e3 H3 nx3 ⟨rfl, rfl, rfl, rfl⟩
        exact ⟨k, Nat.lt_succ_self k, e2, h2, rfl, rfl, hk⟩
      · rename_i hne
        refine (runCS_sound hc c te th nx1 _ _ _ _ hk).mono ?_
        rintro x1 e3 H3 nx3 ⟨rfl, rfl, rfl, rfl⟩
        cases x1 with
        | normal => exact absurd hk (hne _ _ _)
        | exit i => exact ⟨rfl, rfl, rfl, rfl⟩
        | ret => exact ⟨rfl, rfl, rfl, rfl⟩
        | pan v => exact ⟨rfl, rfl, rfl, rfl⟩
  | .exit id, e, h, nx, x, e', h', nx', hr => by
    have hr : some (AExit.exit id, e, h, nx) = some (x, e', h', nx') := hr
    cases hr; exact AWp.exit ⟨rfl, rfl, rfl, rfl⟩
  | .ret, e, h, nx, x, e', h', nx', hr => by
    have hr : some (AExit.ret, e, h, nx) = some (x, e', h', nx') := hr
    cases hr; exact AWp.ret ⟨rfl, rfl, rfl, rfl⟩
  | .rangeFunc _ _ _ _, e, h, nx, x, e', h', nx', hr => by cases hr
  | .scope _, e, h, nx, x, e', h', nx', hr => by cases hr
  | .label _, e, h, nx, x, e', h', nx', hr => by cases hr
  | .goto _, e, h, nx, x, e', h', nx', hr => by cases hr
  | .refuse _, e, h, nx, x, e', h', nx', hr => by cases hr
def argK {β : Type} (l : List CV) : Nat → Tr CV → (Tr CV → β) → β := List.rec (motive := fun _ => Nat → Tr CV → (Tr CV → β) → β) (fun _ t k => k t) (fun c _ ih j t k => putK 20 t j (some c) fun t => fN (j + 1) fun j => ih j t k) l
theorem argK_eq {β : Type} : ∀ (l : List CV) (j : Nat) (t : Tr CV) (k : Tr CV → β), argK l j t k = k (argT l j t)
  | [], j, t, k => rfl
  | c :: cs, j, t, k => by
    show (putK 20 t j (some c) fun t => fN (j + 1) fun j => argK cs j t k) = _
    rw [putK_eq, fN_eq, argK_eq]; rfl
/-- A body, run. -/
def bodyS (P : Program) (G : Nat → CV) (call : Call1) (lf : Nat) : Call1 := fun f args h nx => match P.funcs[f]? with
  | some fn => match fn.body with
    | some c => argK args 0 .lf fun e => match runCS P G call lf (max args.length fn.ntmps) c e h nx with
      | some (x, e', h', nx') => match x with
        | .pan v => some (.pan v, h', nx')
        | .exit _ => none
        | _ => match resA P (hv h') (vw e') fn.results.toList with
          | some l => fV (packA l) fun v => some (.ret v, h', nx')
          | none => none
      | none => none
    | none => none
  | none => none
theorem bodyS_ok {P : Program} {G : Nat → CV} {call : Call1} {lf : Nat} (ih : CallOk P G call) : CallOk P G (bodyS P G call lf) := fun f args h nx r h' nx' hr => by
  unfold bodyS at hr
  simp only [argK_eq, fV_eq] at hr
  split at hr
  case h_2 => cases hr
  rename_i fn hfn
  split at hr
  case h_2 => cases hr
  rename_i c hb
  split at hr
  case h_2 => cases hr
  rename_i x e1 h1 nx1 hx
  have key : AWp P G (max args.length fn.ntmps) c (argE args) (hv h) nx (Is x e1 h1 nx1) := AWp.weak (argT_vw args) (Sub.refl _) (runCS_sound ih c _ _ _ _ _ _ _ hx)
  split at hr
  · cases hr
    refine ACall.of_body hfn hb (key.mono ?_)
    rintro x1 e2 H2 nx2 ⟨rfl, rfl, rfl, rfl⟩
    exact ⟨rfl, rfl, rfl⟩
  · cases hr
  · rename_i hn1 hn2
    split at hr
    case h_2 => cases hr
    rename_i l hl
    cases hr
    refine ACall.of_body hfn hb (key.mono ?_)
    rintro x2 e2 H2 nx2 ⟨rfl, rfl, rfl, rfl⟩
    cases x2 with
    | normal => exact ⟨l, hl, rfl, rfl, rfl⟩
    | ret => exact ⟨l, hl, rfl, rfl, rfl⟩
    | exit i => exact absurd rfl (hn2 _)
    | pan v => exact absurd rfl (hn1 _)
/-- Functions; 'sp' are those with a meaning of their own. -/
def runFS (P : Program) (G : Nat → CV) (sp : Call1 → Call1) (lf fuel : Nat) : Call1 := Nat.rec (motive := fun _ => Call1) (fun _ _ _ _ => none)
  (fun _ ih f args h nx => match sp ih f args h nx with
    | some r => some r
    | none => bodyS P G ih lf f args h nx) fuel
theorem runFS_sound {P : Program} {G : Nat → CV} {sp : Call1 → Call1} {lf : Nat} (hsp : ∀ call, CallOk P G call → CallOk P G (sp call)) : ∀ fuel, CallOk P G (runFS P G sp lf fuel)
  | 0 => fun f args h nx r h' nx' hr => by cases hr
  | fuel + 1 => fun f args h nx r h' nx' hr => by
    have ih := runFS_sound (lf := lf) hsp fuel
    have hr : (match sp (runFS P G sp lf fuel) f args h nx with
      | some r => some r
      | none => bodyS P G (runFS P G sp lf fuel) lf f args h nx) = some (r, h', nx') := hr
    split at hr
    · rename_i r1 hs
      cases hr
      exact hsp _ ih _ _ _ _ _ _ _ hs
    · exact bodyS_ok ih _ _ _ _ _ _ _ hr
end
end Ax
end Go.Proofs.YtdjllogimomgmaaGreatDoor
