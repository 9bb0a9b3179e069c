/-
  AX: values without blocks of their own; closed runs as contracts.
-/
import Derived.Test.YtdjllogimomgmaaGreatDoorAx15
set_option linter.unusedSimpArgs false
set_option linter.unusedVariables false
namespace Go.Proofs.YtdjllogimomgmaaGreatDoor
namespace Ax
mutual
def puV : CV → Bool
  | .ptr _ _ => false
  | .sl _ _ _ _ => false
  | .mp _ => false
  | .rop cs => puL cs
  | .lst rows => puR rows
  | .fmp a b => puL a && puL b
  | .fn _ a b => puL a && puL b
  | .iface _ v => puV v
  | .agg cs => puL cs
  | .tup cs => puL cs
  | _ => true
def puL : List CV → Bool
  | [] => true
  | c :: cs => puV c && puL cs
def puR : List (List CV) → Bool
  | [] => true
  | r :: rs => puL r && puR rs
end
theorem puL_get : ∀ {cs : List CV}, puL cs = true → ∀ j (h : j < cs.length), puV cs[j] = true
  | [], _, j, h => by simp at h
  | c :: cs, hp, j, h => by
    simp only [puL, Bool.and_eq_true] at hp
    cases j with
    | zero => exact hp.1
    | succ j => exact puL_get hp.2 j (by simpa using h)
theorem puR_get : ∀ {rs : List (List CV)}, puR rs = true → ∀ j (h : j < rs.length), puL rs[j] = true
  | [], _, j, h => by simp at h
  | c :: cs, hp, j, h => by
    simp only [puR, Bool.and_eq_true] at hp
    cases j with
    | zero => exact hp.1
    | succ j => exact puR_get hp.2 j (by simpa using h)
theorem RV.swap {M M' : Mp} (hz : ∀ g x, M.fz g = some x → M'.fz g = some x) {c : CV} {v : Value} (h : RV M c v) (hp : puV c = true) : RV M' c v := by
  induction h with
  | any v => exact .any v
  | bool b => exact .bool b
  | int k n => exact .int k n
  | str l s h => exact .str l s h
  | nilp => exact .nilp
  | ptr b o g m h => cases hp
  | rop cs g o arr T fr h hl _ ih => exact .rop cs g o arr T fr (hz _ _ h) hl (fun j a b => ih j a b (puL_get hp j a))
  | nils => exact .nils
  | sl b o n k g m c h hn hm => cases hp
  | lst0 a c => exact .lst0 a c
  | lst rows g o n k c arr T fr h hn hc hk hl _ ih => exact .lst rows g o n k c arr T fr (hz _ _ h) hn hc hk hl (fun i a j b d => ih i a j b d (puL_get (puR_get hp i a) j b))
  | nilm => exact .nilm
  | mp b g m h => cases hp
  | fmp ks vs g en clock h h1 h2 _ _ i1 i2 =>
    simp only [puV, Bool.and_eq_true] at hp
    exact .fmp ks vs g en clock (hz _ _ h) h1 h2 (fun j a b => i1 j a b (puL_get hp.1 j a)) (fun j a b => i2 j a b (puL_get hp.2 j a))
  | nilf => exact .nilf
  | fn f fs cs fs' cs' l1 l2 _ _ i1 i2 =>
    simp only [puV, Bool.and_eq_true] at hp
    exact .fn f fs cs fs' cs' l1 l2 (fun j a b => i1 j a b (puL_get hp.1 j a)) (fun j a b => i2 j a b (puL_get hp.2 j a))
  | nili => exact .nili
  | iface t x v _ ih => exact .iface t x v (ih hp)
  | agg cs vs hl _ ih => exact .agg cs vs hl (fun j a b => ih j a b (puL_get hp j a))
  | tup cs vs hl _ ih => exact .tup cs vs hl (fun j a b => ih j a b (puL_get hp j a))
theorem RVs.swap {M M' : Mp} (hz : ∀ g x, M.fz g = some x → M'.fz g = some x) {cs : List CV} {vs : List Value} (h : RVs M cs vs) (hp : puL cs = true) : RVs M' cs vs :=
  ⟨h.1, fun j a b => (h.2 j a b).swap hz (puL_get hp j a)⟩
def Res.pu : Res → Bool
  | .ret v => puV v
  | .pan v => puV v
theorem EndR.swap {M M' : Mp} (hz : ∀ g x, M.fz g = some x → M'.fz g = some x) {r : Res} {e : Ending} (h : EndR M r e) (hp : r.pu = true) : EndR M' r e := by
  cases r with
  | ret v => cases e <;> simp only [EndR] at h ⊢; exact h.swap hz hp
  | pan v => cases e <;> simp only [EndR] at h ⊢; obtain ⟨z, h1, h2⟩ := h; exact ⟨z, h1, h2.swap hz hp⟩
/-- What holds with no block of one's own holds beside all blocks. -/
theorem FCall.of0 {P : Program} {G : Nat → CV} {f : FuncId} {args : List CV} {Q : Res → Prop} (hG : ∀ g, puV (G g) = true) (ha : puL args = true) (hr : ∀ r, Q r → r.pu = true) (h : ACall P G f args Heap.no 0 fun r _ _ => Q r) : FCall P G f args Q := by
  refine FCall.of fun nx => ?_
  intro M w vs g r v
  have r0 : Rep ⟨M.fz, fun _ => none⟩ Heap.no 0 w := ⟨fun _ _ h => (by cases h), fun _ _ _ _ _ _ _ h => (by cases h), fun _ _ => rfl, r.fz, fun _ _ _ _ _ _ h => (by cases h)⟩
  refine (h ⟨M.fz, fun _ => none⟩ w vs (fun x => RV.swap (M := M) (M' := ⟨M.fz, fun _ => none⟩) (fun _ _ h => h) (g x) (hG x)) r0 (RVs.swap (M := M) (M' := ⟨M.fz, fun _ => none⟩) (fun _ _ h => h) v ha)).mono ?_
  rintro e w' ⟨M1, x, H1, nx1, a1, a2, a3, a4⟩
  refine ⟨⟨M1.fz, M.bk⟩, x, Heap.no, nx, EndR.swap (M := M1) (M' := ⟨M1.fz, M.bk⟩) (fun _ _ h => h) a1 (hr x a4), ⟨fun _ _ h => (by cases h), fun _ _ _ _ _ _ _ h => (by cases h), r.fresh, a2.fz, fun _ _ _ _ _ _ h => (by cases h)⟩, ?_, a4⟩
  refine ⟨⟨fun x y h => a3.ext.fz x y h, fun _ _ h => h⟩, a3.os, a3.tape, a3.output, a3.grown, fun x hx _ => a3.kept x hx (fun ⟨_, _, _, h, _⟩ => by cases h), fun x ⟨_, _, _, h, _⟩ => (by cases h), fun _ _ => rfl, Nat.le_refl _, fun x y h => ?_⟩
  rcases a3.fzn x y h with h1 | ⟨_, _, _, h1, _⟩ | h1
  · exact .inl h1
  · cases h1
  · exact .inr (.inr h1)
def yes : Option (Res × Tr CB × Nat) → Bool
  | some (.ret (.bool b), _, _) => b
  | _ => false
/-- A closed run that returns true. -/
theorem FCall.closed {P : Program} {G : Nat → CV} {call : Call1} (hc : CallOk P G call) (hG : ∀ g, puV (G g) = true) {f : FuncId} (h : yes (call f [] .lf 0) = true) : FCall P G f [] fun r => r = .ret (.bool true) := by
  refine FCall.of0 hG rfl (fun r hr => by subst hr; rfl) ?_
  cases hx : call f [] .lf 0 with
  | none => rw [hx] at h; cases h
  | some x =>
    obtain ⟨r, h', nx'⟩ := x
    rw [hx] at h
    cases r with
    | pan v => cases h
    | ret v => cases v with
      | bool b =>
        have hb : b = true := h
        subst hb
        exact (hc _ _ _ _ _ _ _ hx).mono fun _ _ _ ⟨a, _, _⟩ => a
      | _ => cases h
end Ax
end Go.Proofs.YtdjllogimomgmaaGreatDoor
