/-
  AX: more operations that only look.
-/
import Derived.Test.YtdjllogimomgmaaGreatDoorAx1
import Derived.Lib.Strings
set_option linter.unusedSimpArgs false
set_option linter.unusedVariables false
namespace Go.Proofs.YtdjllogimomgmaaGreatDoor
namespace Ax
def natOf : Int → Option Nat
  | .ofNat n => some n
  | .negSucc _ => none
theorem natOf_spec {j : Int} {n : Nat} (h : natOf j = some n) : j = (n : Int) := by
  cases j with
  | ofNat m => cases h; rfl
  | negSucc m => cases h
@[simp] theorem natOf_cast (n : Nat) : natOf (n : Int) = some n := rfl
@[simp] theorem natOf_lit (n : Nat) : natOf (OfNat.ofNat n : Int) = some n := rfl
@[simp] theorem natOf_zero : natOf 0 = some 0 := rfl
@[simp] theorem natOf_one : natOf 1 = some 1 := rfl
@[simp] theorem natOf_succ (n : Nat) : natOf ((n : Int) + 1) = some (n + 1) := rfl
/-! addresses of elements -/
def iaddA (P : Program) (t : TypeId) (x ix : CV) : Option CV := match ix with
  | .int _ j => match natOf j with
    | some n => match ti P t with
      | some ⟨.slice e, _, _, _⟩ => match ti P e with
        | some i => match x with
          | .sl b o len k => match Nat.beq i.size k && Nat.blt n len with
            | true => some (.ptr b (o + n * k))
            | false => none
          | .lst rows => match rows[n]? with
            | some r => match Nat.beq r.length i.size with
              | true => some (.rop r)
              | false => none
            | none => none
          | _ => none
        | none => none
      | some ⟨.array len e, _, _, _⟩ => match ti P e with
        | some i => match Nat.blt n len with
          | true => match x with
            | .ptr b o => some (.ptr b (o + n * i.size))
            | .rop cs => match Nat.ble (n * i.size) cs.length with
              | true => some (.rop (cs.drop (n * i.size)))
              | false => none
            | _ => none
          | false => none
        | none => none
      | _ => none
    | none => none
  | _ => none
theorem blt_lt {a b : Nat} (h : Nat.blt a b = true) : a < b := Nat.le_of_ble_eq_true h
theorem lt_blt {a b : Nat} (h : a < b) : Nat.blt a b = true := Nat.ble_eq_true_of_le h
theorem data_len (s : ByteArray) : s.data.toList.length = s.size := by rw [Array.length_toList]; rfl
theorem beq_eq {a b : Nat} (h : Nat.beq a b = true) : a = b := Nat.eq_of_beq_eq_true h
theorem iaddA_sound {P : Program} {t : TypeId} {x ix c : CV} {M : Mp} {w : World} {v u : Value} (h : iaddA P t x ix = some c) (hx : RV M x v) (hi : RV M ix u) :
    ∃ z, (Instr.indexAt t v u).run P w = .ok z w ∧ RV M c z := by
  unfold iaddA at h
  split at h
  case h_2 => cases h
  rename_i kk j
  cases hi
  split at h
  case h_2 => cases h
  rename_i n hn
  have hj := natOf_spec hn
  subst hj
  split at h
  · rename_i e _ _ _ ht
    split at h
    case h_2 => cases h
    rename_i i hti
    split at h
    · rename_i b o len k
      split at h
      case h_2 => cases h
      rename_i hb
      cases h
      simp only [Bool.and_eq_true] at hb
      have h1 := beq_eq hb.1
      have h2 := blt_lt hb.2
      cases hx with
      | sl _ _ _ _ g m c' hm hn' hm' =>
        refine ⟨.pointer (some ⟨g, o + n * k, none⟩), ?_, .ptr _ _ g m hm⟩
        simp [Instr.indexAt, asIntOf, ti_und ht, h2, ti_size hti, h1, addr_add]
    · rename_i rows
      split at h
      case h_2 => cases h
      rename_i r hr
      split at h
      case h_2 => cases h
      rename_i hb
      cases h
      have hb' := beq_eq hb
      obtain ⟨hlt, hre⟩ := List.getElem?_eq_some_iff.mp hr
      cases hx with
      | lst0 a c' => simp at hlt
      | lst _ g o n' k c' arr T fr hg hn' hc hk hl hrr =>
        have hkk : i.size = k := by rw [← hb', ← hre]; exact hk _ (List.getElem_mem hlt)
        have hlt' : n < n' := by omega
        refine ⟨.pointer (some ⟨g, o + n * k, none⟩), ?_, ?_⟩
        · simp [Instr.indexAt, asIntOf, ti_und ht, hlt', ti_size hti, hkk, addr_add]
        · have hrl : r.length = k := by rw [hb', hkk]
          have hmul : n * k + k ≤ n' * k := by
            have : (n + 1) * k ≤ n' * k := Nat.mul_le_mul_right _ hlt'
            rw [Nat.add_mul] at this; omega
          refine .rop r g (o + n * k) arr T fr hg (by omega) (fun q a b => ?_)
          have := hrr n hlt q (by rw [hre]; exact a) b
          simpa [hre] using this
    · cases h
  · rename_i len e _ _ _ ht
    split at h
    case h_2 => cases h
    rename_i i hti
    split at h
    case h_2 => cases h
    rename_i hb
    have h2 := blt_lt hb
    split at h
    · rename_i b o
      cases h
      cases hx with
      | ptr _ _ g m hm =>
        refine ⟨.pointer (some ⟨g, o + n * i.size, none⟩), ?_, .ptr _ _ g m hm⟩
        simp [Instr.indexAt, asIntOf, Instr.sureAddr, ti_und ht, h2, ti_size hti, addr_add]
    · rename_i cs
      split at h
      case h_2 => cases h
      rename_i hle
      cases h
      have hx0 := hx
      cases hx with
      | rop _ g o arr T fr hg hl hr =>
        refine ⟨.pointer (some ⟨g, o + n * i.size, none⟩), ?_, hx0.ropDrop _ (Nat.le_of_ble_eq_true hle)⟩
        simp [Instr.indexAt, asIntOf, Instr.sureAddr, ti_und ht, h2, ti_size hti, addr_add]
    · cases h
  · cases h
/-! elements -/
def idxA (P : Program) (t : TypeId) (x ix : CV) : Option CV := match ix with
  | .int _ j => match natOf j with
    | some n => match ti P t with
      | some ⟨.string, _, _, _⟩ => match x with
        | .str l => match l[n]? with
          | some b => some (.int .u8 b.toNat)
          | none => none
        | _ => none
      | some ⟨.array len e, _, _, _⟩ => match ti P e with
        | some i => match Nat.blt n len with
          | true => match x with
            | .agg cs => partA i cs (n * i.size)
            | _ => none
          | false => none
        | none => none
      | _ => none
    | none => none
  | _ => none
theorem idxA_sound {P : Program} {t : TypeId} {x ix c : CV} {M : Mp} {w : World} {v u : Value} (h : idxA P t x ix = some c) (hx : RV M x v) (hi : RV M ix u) :
    ∃ z, (Instr.index t v u).run P w = .ok z w ∧ RV M c z := by
  unfold idxA at h
  split at h
  case h_2 => cases h
  rename_i kk j
  cases hi
  split at h
  case h_2 => cases h
  rename_i n hn
  have hj := natOf_spec hn
  subst hj
  split at h
  · rename_i ht
    split at h
    · rename_i l
      split at h
      · rename_i b hb
        cases h
        cases hx with
        | str _ s hs =>
          subst hs
          refine ⟨.int .u8 b.toNat, ?_, .int _ _⟩
          obtain ⟨hlt, hbe⟩ := List.getElem?_eq_some_iff.mp hb
          have hsz : n < s.size := by rw [← data_len]; exact hlt
          have e : s[n]? = some b := by
            rw [getElem?_pos s n hsz, ← hbe]; rfl
          simp [Instr.index, asIntOf, ti_und ht, e]
      · cases h
    · cases h
  · rename_i len e _ _ _ ht
    split at h
    case h_2 => cases h
    rename_i i hti
    split at h
    case h_2 => cases h
    rename_i hb
    have h2 := blt_lt hb
    split at h
    · rename_i cs
      cases hx with
      | agg _ vs hl hr =>
        obtain ⟨z, h1, h3⟩ := partA_sound (w := w) hti ⟨hl, hr⟩ h
        exact ⟨z, by simp [Instr.index, asIntOf, ti_und ht, h2, ti_size hti, h1], h3⟩
    · cases h
  · cases h
/-! slices of slices and strings -/
def bnd (x : Option CV) (d : Nat) : Option Nat := match x with
  | none => some d
  | some (.int _ j) => natOf j
  | _ => none
theorem bnd_run {P : Program} {w : World} {M : Mp} {x : Option CV} {v : Option Value} {d n y : Nat} {code : BoundsCode} (h : bnd x d = some n) (hx : ∀ c, x = some c → ∃ u, v = some u ∧ RV M c u) (hn : x = none → v = none) (hy : n ≤ y) :
    (match v with | some u => Instr.sliceBound u y code | none => pure d).run P w = .ok n w := by
  unfold bnd at h
  split at h
  · cases h; rw [hn rfl]; rfl
  · rename_i k j
    obtain ⟨u, hu, hr⟩ := hx _ rfl
    subst hu
    cases hr
    have hj := natOf_spec h
    subst hj
    simp [Instr.sliceBound, asIntOf, hy]
  · cases h
def sliA (P : Program) (H : Heap) (t : TypeId) (x : CV) (lo hi : Option CV) : Option CV := match ti P t with
  | some ⟨.string, _, _, _⟩ => match x with
    | .str l => match bnd lo 0, bnd hi l.length with
      | some a, some b => match Nat.ble a b && Nat.ble b l.length with
        | true => some (.str ((l.drop a).take (b - a)))
        | false => none
      | _, _ => none
    | _ => none
  | some ⟨.slice e, _, _, _⟩ => match ti P e with
    | some i => match x with
      | .lst rows => match bnd lo 0, bnd hi rows.length with
        | some a, some b => match Nat.ble a b && Nat.ble b rows.length with
          | true => match rows.all (fun r => Nat.beq r.length i.size) with
            | true => some (.lst ((rows.drop a).take (b - a)))
            | false => none
          | false => none
        | _, _ => none
      | .nils => match bnd lo 0, bnd hi 0 with
        | some 0, some 0 => some .nils
        | _, _ => none
      | .sl b o n k => match bnd lo 0, bnd hi n with
        | some l, some h => match Nat.ble l h && Nat.ble h n && Nat.beq i.size k with
          | true => match Nat.beq l 0 with
            | true => some (.sl b o h k)
            | false => match Nat.blt l h with
              | true => some (.sl b (o + l * k) (h - l) k)
              | false => some (.lst [])
          | false => none
        | _, _ => none
      | _ => none
    | none => none
  | some ⟨.array len e, _, _, _⟩ => match ti P e with
    | some i => match x, lo, hi with
      | .ptr b o, none, none => match H b with
        | some (.cells cs) => match Nat.ble (o + len * i.size) cs.length with
          | true => some (.sl b o len i.size)
          | false => none
        | _ => none
      | _, _, _ => none
    | none => none
  | _ => none
theorem RV.lstSub {M : Mp} {rows : List (List CV)} {g o n k c a b : Nat} {arr : Array Value} {T : TypeId} {fr : Nat × Nat} (h : M.fz g = some (.cells arr T fr)) (hn : n = rows.length)
    (hk : ∀ r ∈ rows, r.length = k) (hl : o + n * k ≤ arr.size)
    (hr : ∀ i (a : i < rows.length) j (b : j < rows[i].length) (d : o + i * k + j < arr.size), RV M rows[i][j] arr[o + i * k + j]) (hab : a ≤ b) (hb : b ≤ rows.length) (hc : b - a ≤ c) :
    RV M (.lst ((rows.drop a).take (b - a))) (.slice (some ⟨g, o + a * k, none⟩) (b - a) c) := by
  have hmul : a * k + (b - a) * k ≤ n * k := by
    rw [← Nat.add_mul]; exact Nat.mul_le_mul_right _ (by omega)
  refine .lst _ g (o + a * k) (b - a) k c arr T fr h (by simp; omega) hc (fun r hm => hk r (List.mem_of_mem_drop (List.mem_of_mem_take hm))) (by omega) (fun i ai j bj d => ?_)
  have hi : a + i < rows.length := by simp at ai; omega
  have e : ((rows.drop a).take (b - a))[i] = rows[a + i] := by simp
  have bj' : j < rows[a + i].length := by rw [← e]; exact bj
  have := hr (a + i) hi j bj' (by rw [Nat.add_mul]; omega)
  simp only [e]
  have e2 : o + a * k + i * k + j = o + (a + i) * k + j := by rw [Nat.add_mul]; omega
  simpa [e2] using this
theorem sliA_sound {P : Program} {H : Heap} {t : TypeId} {x c : CV} {lo hi : Option CV} {M : Mp} {nx : Nat} {w : World} {v : Value} {lo' hi' : Option Value} (h : sliA P H t x lo hi = some c) (r : Rep M H nx w) (hx : RV M x v)
    (hl : ∀ c, lo = some c → ∃ u, lo' = some u ∧ RV M c u) (hln : lo = none → lo' = none) (hh : ∀ c, hi = some c → ∃ u, hi' = some u ∧ RV M c u) (hhn : hi = none → hi' = none) :
    ∃ z, (Instr.sliceAt t v lo' hi' none).run P w = .ok z w ∧ RV M c z := by
  have bnds : ∀ (isS : Bool) (len cap a b : Nat), bnd lo 0 = some a → bnd hi len = some b → a ≤ b → b ≤ cap → (Instr.sliceBounds isS len cap lo' hi' none).run P w = .ok (a, b, cap) w := by
    intro isS len cap a b h1 h2 h3 h4
    have e1 := bnd_run (P := P) (w := w) (code := if isS then .sliceAcap else .sliceAlen) h2 hh hhn h4
    have e2 := bnd_run (P := P) (w := w) (code := .sliceB) h1 hl hln h3
    unfold Instr.sliceBounds
    simp only [Sem.run_bind, Sem.run_pure, Result.andThen_ok, Option.isSome_none, Bool.false_eq_true, if_false]
    cases hi' with
    | none =>
      simp only [Sem.run_pure, Result.ok.injEq, and_true] at e1
      subst e1
      cases lo' with
      | none => simp only [Sem.run_pure, Result.ok.injEq, and_true] at e2; subst e2; simp
      | some l => simp only at e2; simp [e2]
    | some u =>
      simp only at e1
      cases lo' with
      | none => simp only [Sem.run_pure, Result.ok.injEq, and_true] at e2; subst e2; simp [e1]
      | some l => simp only at e2; simp [e1, e2]
  unfold sliA at h
  split at h
  · rename_i ht
    split at h
    case h_2 => cases h
    rename_i l
    split at h
    case h_2 => cases h
    rename_i a b ha hb
    split at h
    case h_2 => cases h
    rename_i hc
    cases h
    simp only [Bool.and_eq_true] at hc
    have h1 := Nat.le_of_ble_eq_true hc.1
    have h2 := Nat.le_of_ble_eq_true hc.2
    cases hx with
    | str _ s hs =>
      subst hs
      have hsz : s.data.toList.length = s.size := data_len s
      rw [hsz] at hb h2
      refine ⟨.string (s.extract a b), ?_, .str _ _ ?_⟩
      · simp [Instr.sliceAt, Instr.slice, ti_und ht, bnds false _ _ a b ha hb h1 h2]
      · exact Lib.extract_data s a b
  · rename_i e _ _ _ ht
    split at h
    case h_2 => cases h
    rename_i i hti
    split at h
    · rename_i rows
      split at h
      case h_2 => cases h
      rename_i a b ha hb
      split at h
      case h_2 => cases h
      rename_i hc
      split at h
      case h_2 => cases h
      rename_i hall
      cases h
      simp only [Bool.and_eq_true] at hc
      have h1 := Nat.le_of_ble_eq_true hc.1
      have h2 := Nat.le_of_ble_eq_true hc.2
      cases hx with
      | lst0 ad cp =>
        simp at h2; subst h2; simp at h1; subst h1
        refine ⟨_, by simp [Instr.sliceAt, Instr.slice, ti_und ht, bnds true 0 cp 0 0 ha hb (by omega) (by omega), ti_size hti]; rfl, ?_⟩
        simpa using RV.lst0 _ _
      | lst _ g o n k cp arr T fr hg hn hcp hk hll hrr =>
        subst hn
        by_cases hz : cp = a
        · subst hz
          have hab : b = cp := by omega
          subst hab
          refine ⟨_, by simp [Instr.sliceAt, Instr.slice, ti_und ht, bnds true rows.length b b b ha hb (by omega) (by omega), ti_size hti]; rfl, ?_⟩
          simpa using RV.lst0 _ _
        · refine ⟨_, by simp [Instr.sliceAt, Instr.slice, ti_und ht, bnds true rows.length cp a b ha hb (by omega) (by omega), ti_size hti, hz, addr_add]; rfl, ?_⟩
          by_cases hemp : rows = []
          · subst hemp
            simp at h2
            subst h2
            simp at h1; subst h1
            simpa using RV.lst0 _ _
          · have hks : i.size = k := by
              obtain ⟨r0, hr0⟩ := List.exists_mem_of_ne_nil _ hemp
              rw [← beq_eq (List.all_eq_true.mp hall r0 hr0)]; exact hk r0 hr0
            rw [hks]
            exact RV.lstSub hg rfl hk hll hrr h1 h2 (by omega)
    · split at h
      · rename_i ha hb
        cases h
        cases hx with
        | nils => exact ⟨_, by simp [Instr.sliceAt, Instr.slice, ti_und ht, bnds true 0 0 0 0 ha hb (by omega) (by omega), ti_size hti], .nils⟩
      · cases h
    · rename_i b o n k
      split at h
      case h_2 => cases h
      rename_i l hh' ha hb
      split at h
      case h_2 => cases h
      rename_i hc
      simp only [Bool.and_eq_true] at hc
      have h1 := Nat.le_of_ble_eq_true hc.1.1
      have h2 := Nat.le_of_ble_eq_true hc.1.2
      have h3 := beq_eq hc.2
      cases hx with
      | sl _ _ _ _ g m cp hm hn hm' =>
        have e := bnds true n cp l hh' ha hb h1 (by omega)
        split at h
        · rename_i hz
          have hz' := beq_eq hz
          subst hz'
          cases h
          refine ⟨.slice (some ⟨g, o, none⟩) hh' cp, ?_, .sl _ _ _ _ g m cp hm (by omega) hm'⟩
          simp [Instr.sliceAt, Instr.slice, ti_und ht, e, ti_size hti, addr_add]
        · split at h
          · rename_i hlt
            have hlt' := blt_lt hlt
            cases h
            have hmul : l * k + (cp - l) * k ≤ cp * k := by rw [← Nat.add_mul]; exact Nat.mul_le_mul_right _ (by omega)
            refine ⟨.slice (some ⟨g, o + l * k, none⟩) (hh' - l) (cp - l), ?_, .sl _ _ _ _ g m (cp - l) hm (by omega) (by omega)⟩
            have hne : cp ≠ l := by omega
            simp [Instr.sliceAt, Instr.slice, ti_und ht, e, ti_size hti, hne, h3, addr_add]
          · rename_i hlt
            cases h
            have hle : hh' - l = 0 := by
              have : ¬ l < hh' := fun hx => by rw [lt_blt hx] at hlt; cases hlt
              omega
            refine ⟨_, by simp [Instr.sliceAt, Instr.slice, ti_und ht, e, ti_size hti]; rfl, ?_⟩
            rw [hle]; exact .lst0 _ _
    · cases h
  · rename_i len e _ _ _ ht
    split at h
    case h_2 => cases h
    rename_i i hti
    split at h
    case h_2 => cases h
    rename_i b o
    split at h
    case h_2 => cases h
    rename_i cs hb
    split at h
    case h_2 => cases h
    rename_i hle
    cases h
    have hle' := Nat.le_of_ble_eq_true hle
    cases hx with
    | ptr _ _ g m hm =>
      obtain ⟨g', m', hm', arr, T, ha, hs, hr⟩ := r.blk b _ hb
      rw [hm] at hm'; cases hm'
      have hlen : cs.length ≤ m := by have := hr.1; simp at this; omega
      refine ⟨.slice (some ⟨g, o, none⟩) len len, ?_, .sl _ _ _ _ g m len hm (by omega) (by omega)⟩
      have e1 := hln rfl
      have e2 := hhn rfl
      subst e1; subst e2
      simp [Instr.sliceAt, ti_und ht, Instr.sureAddr, Instr.sliceBounds, ti_size hti, Addr.add]
  · cases h
end Ax
end Go.Proofs.YtdjllogimomgmaaGreatDoor
