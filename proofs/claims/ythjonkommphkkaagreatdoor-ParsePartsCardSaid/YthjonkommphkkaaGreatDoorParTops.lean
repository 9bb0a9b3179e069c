/-
  parse.Class, parse.Method, parse.Field, walked.
-/
import Derived.Test.YthjonkommphkkaaGreatDoorJpBe
set_option linter.unusedSimpArgs false
set_option linter.unusedVariables false
namespace Go.Proofs.YthjonkommphkkaaGreatDoor
open Lx Go.RowKit
namespace Lx
/-- What parse.Class, parse.Method, parse.Field give: the tree, or the offset and the error. -/
def classR (l : Bytes) : Except (Nat × Nat) Cl := match readR (fun ts => classP ts 0) l with
  | .error x => .error x
  | .ok c => if classLim c ≠ 0 then .error (0, classLim c) else .ok c
def methodR (l : Bytes) : Except (Nat × Nat) Me := match readR (fun ts => methodP ts 0) l with
  | .error x => .error x
  | .ok c => if methodLim c ≠ 0 then .error (0, methodLim c) else .ok c
def fieldR (l : Bytes) : Except (Nat × Nat) Fld := readR (fun ts => fieldP ts 0) l
end Lx
/-- Cells of a block, written one behind the other. -/
def setAll (b : Nat) : Nat → List Value → World → World
  | _, [], w => w
  | o, v :: l, w => setAll b (o + 1) l (w.setCell ⟨b, o, none⟩ v)
def setC : Nat → List Value → Array Value → Array Value
  | _, [], c => c
  | o, v :: l, c => setC (o + 1) l (c.setIfInBounds o v)
theorem setAll_ne {b k : Nat} (h : k ≠ b) : ∀ l o w, (setAll b o l w).heap[k]? = w.heap[k]?
  | [], _, _ => rfl
  | v :: l, o, w => by rw [setAll, setAll_ne h l, set_block_ne _ _ _ _ _ h]
theorem setAll_at {b : Nat} {T : TypeId} {fr : Nat × Nat} : ∀ l o c w, w.heap[b]? = some (.cells c T fr) → (setAll b o l w).heap[b]? = some (.cells (setC o l c) T fr)
  | [], _, _, _, h => h
  | v :: l, o, c, w, h => setAll_at l _ _ _ (set_block_at h)
theorem setAll_size {b : Nat} : ∀ l o w, (setAll b o l w).heap.size = w.heap.size
  | [], _, _ => rfl
  | v :: l, o, w => by rw [setAll, setAll_size l]; simp
theorem setAll_penv {pb g cap b i : Nat} {ts : List Tok} (h1 : b ≠ pb) (h2 : b ≠ g) : ∀ l o w, PEnv pb g cap ts i w → PEnv pb g cap ts i (setAll b o l w)
  | [], _, _, h => h
  | v :: l, o, w, h => setAll_penv h1 h2 l _ _ (h.set h1 h2 _ _)
theorem setAll_out {b : Nat} : ∀ l o w, (setAll b o l w).os = w.os ∧ (setAll b o l w).tape = w.tape ∧ (setAll b o l w).output = w.output
  | [], _, _ => ⟨rfl, rfl, rfl⟩
  | v :: l, o, w => setAll_out l _ _
theorem setAll_below {b n : Nat} {w : World} (hb : n ≤ b) : ∀ l o wc, Below n w wc → Below n w (setAll b o l wc)
  | [], _, _, h => h
  | v :: l, o, wc, h => setAll_below hb l _ _ (h.setCell (by exact hb) _)
theorem setAll_kept {A : Nat → Prop} {b : Nat} (hb : ¬ A b) (l : List Value) (o : Nat) (w : World) : KeptA A w (setAll b o l w) := fun k hk _ => setAll_ne (fun e => hb (by rw [← e]; exact hk)) _ _ _
theorem setAll_grown {pb cb : Nat} {w w2 : World} (hg : w.grownBy w2 (some pb)) (l : List Value) (o : Nat) : Grown2 pb cb w (setAll cb o l w2) := by
  obtain ⟨h1, h2, h3⟩ := setAll_out (b := cb) l o w2
  refine ⟨h1.trans hg.os, h2.trans hg.tape, h3.trans hg.output, by rw [setAll_size]; exact hg.size, fun k hk h4 h5 => ?_⟩
  rw [setAll_ne h5]
  exact hg.block k hk (by intro e; cases e; exact h4 rfl)
def formCl (cs : Array Value) : Prop := ∃ (nm sp : ByteArray) (a1 : Option Addr) (n1 c1 : Nat) (a2 : Option Addr) (n2 c2 : Nat), cs = #[.string nm, .string sp, .slice a1 n1 c1, .slice a2 n2 c2]
def factCl (x : Cl) (cs : Array Value) : Fact := fCl x cs.toList
set_option maxHeartbeats 1000000 in
theorem rule_Class (cb : Nat) : RuleC 23 cb 25 #[.string ⟨#[]⟩, .string ⟨#[]⟩, .slice none 0 0, .slice none 0 0] formCl factCl (fun ts => classP ts 0) := by
  intro pb g cap ts w hT hE h1 h2 hcb
  obtain ⟨R, hr⟩ : ∃ R, R = classP ts 0 := ⟨_, rfl⟩
  show Calls _ _ _ _ (RuleOut pb g cap ts w cb _ formCl factCl (classP ts 0))
  rw [← hr]
  have HR := Lib.hid hr
  have HE := Lib.hid hE
  have HC := Lib.hid hcb
  have hcl := lt_of_heap hcb
  clear hr hE hcb
  go_enter Tryz.func23, Tryz.ntmps23
  go_wp2_with fail
  refine (par_class hT HE.out).mono ?_
  intro e w2 ho
  rw [← HR.out] at ho
  cases R with
  | error q =>
    obtain ⟨hg, rfl⟩ := out_error ho
    exact ⟨rfl, rfl, hg⟩
  | ok x =>
    obtain ⟨x, j⟩ := x
    obtain ⟨hg, v, rfl, ⟨nm, sp, a1, n1, c1, a2, n2, c2, rfl, hx⟩, hE2⟩ := out_ok ho
    have hc2 : w2.heap[cb]? = some (.cells #[.string ⟨#[]⟩, .string ⟨#[]⟩, .slice none 0 0, .slice none 0 0] 25 (0, 0)) := (hg.block cb hcl (by intro e; cases e; exact h1 rfl)).trans HC.out
    obtain ⟨c0, cz⟩ := blk_cell hc2
    have d0 := c0 0
    have d1 := c0 1
    have d2 := c0 2
    have d3 := c0 3
    simp only [List.getElem?_toArray, List.getElem?_cons_zero, List.getElem?_cons_succ] at d0 d1 d2 d3
    have HG := Lib.hid hg
    have HX := Lib.hid hx
    have HE2 := Lib.hid hE2
    have HC2 := Lib.hid hc2
    have hgl := HE2.out.g_lt
    clear hg hx hE2 hc2 c0 ho HR
    go_wp2_with fail
    refine bodyPost_end (v := .tuple #[]) ?_ rfl ⟨rfl, setAll_penv h1 h2 [.string nm, .string sp, .slice a1 n1 c1, .slice a2 n2 c2] 0 _ HE2.out, ⟨_, ⟨nm, sp, a1, n1, c1, a2, n2, c2, rfl⟩, setAll_at [.string nm, .string sp, .slice a1 n1 c1, .slice a2 n2 c2] 0 _ _ HC2.out, (fCl x _).kept _ _ _ (setAll_kept (by have := hcl; simp; omega) [.string nm, .string sp, .slice a1 n1 c1, .slice a2 n2 c2] 0 _) HX.out⟩, setAll_grown HG.out [.string nm, .string sp, .slice a1 n1 c1, .slice a2 n2 c2] 0⟩
    simp [results, Tryz.results23, go_sem]
theorem calls_Class (args : Array Value) (w : World) : (callFunc 23 args).run Tryz.prog w = .ok (.enter 23 args) w := by simp [go_sem]
/-- How parse.Class ends. -/
def ClassOut (w : World) (r : Except (Nat × Nat) Cl) (e : Ending) (w' : World) : Prop := Below w.heap.size w w' ∧ match r with
  | .error (p, er) => e = .returned (.tuple #[.agg #[.string ⟨#[]⟩, .string ⟨#[]⟩, .slice none 0 0, .slice none 0 0], .int .i64 (p : Int), .int .i64 (er : Int)])
  | .ok x => ∃ (nm sp : ByteArray) (a1 : Option Addr) (n1 c1 : Nat) (a2 : Option Addr) (n2 c2 : Nat), e = .returned (.tuple #[.agg #[.string nm, .string sp, .slice a1 n1 c1, .slice a2 n2 c2], .int .i64 0, .int .i64 0]) ∧ (fCl x [.string nm, .string sp, .slice a1 n1 c1, .slice a2 n2 c2]).holds (w.heap.size ≤ ·) w'
set_option maxHeartbeats 1000000 in
theorem par_TClass (s : ByteArray) (w : World) (hs : s.size ≤ maxLen) (hL : Laid w) : Calls Tryz.prog 6 #[.string s] w (ClassOut w (classR s.data.toList)) := by
  obtain ⟨R, hR⟩ : ∃ R, R = classR s.data.toList := ⟨_, rfl⟩
  rw [← hR]
  unfold classR at hR
  have HL := Lib.hid hL
  have HS := Lib.hid hs
  have HRR := Lib.hid hR
  clear hL hs hR
  have hmf : ∀ (fn : Fn) (first cap : Array Value) (w : World), (Instr.makeFunc fn first cap).run Tryz.prog w = .ok (.func fn first cap) w := fun _ _ _ _ => rfl
  go_enter Tryz.func6, Tryz.ntmps6
  go_wp2_with fail
  refine (par_read (rule_Class (w.heap.size + 1)) calls_Class s _ HS.out ((HL.out.alloc _).alloc _) (alloc_last _ _ _ (by simp))).mono ?_
  rintro e w2 ⟨hg, ho⟩
  have hb := below_of_grown (w := w) (((Below.refl w.heap.size w).alloc (Nat.le_refl _) _).alloc (by simp) _) hg (by omega)
  have hsz := hg.size
  simp only [World.size_alloc] at hsz
  have hB : w2.heap[w.heap.size]? = some (.cells #[.string ⟨#[]⟩, .string ⟨#[]⟩, .slice none 0 0, .slice none 0 0] 25 (0, 0)) := (hg.block _ (by simp; omega) (by simp)).trans ((((Below.refl _ _).alloc (Nat.le_refl _) _).block w.heap.size (by simp)).trans (alloc_last _ _ _ rfl))
  obtain ⟨bc, bf⟩ := blk_cell hB
  have b0 := bc 0
  have b1 := bc 1
  have b2 := bc 2
  have b3 := bc 3
  simp only [List.getElem?_toArray, List.getElem?_cons_zero, List.getElem?_cons_succ] at b0 b1 b2 b3
  have hbl : w.heap.size < w2.heap.size := by omega
  have HB := Lib.hid hb
  have HRB := Lib.hid hB
  clear hg hb hB bc
  cases hr : readR (fun ts => classP ts 0) s.data.toList with
  | error x =>
    obtain ⟨p, er⟩ := x
    rw [hr] at ho
    have hRR := HRR.out
    rw [hr] at hRR
    subst ho
    have her := readR_err hr
    have he0 : ((er : Int) != 0) = true := by rw [bne, beq_eq_false_iff_ne.2 (by omega)]; rfl
    have RR := Lib.hid hRR
    clear hr hRR HRR
    go_wp2_with fail
    refine bodyPost_ret (v := .tuple #[.agg #[.string ⟨#[]⟩, .string ⟨#[]⟩, .slice none 0 0, .slice none 0 0], .int .i64 (p : Int), .int .i64 (er : Int)]) ?_ rfl ⟨setAll_below (Nat.le_refl _) [.string ⟨#[]⟩, .string ⟨#[]⟩, .slice none 0 0, .slice none 0 0] 0 _ HB.out, by rw [RR.out]⟩
    simp [results, Tryz.results6, go_sem, b0, b1, b2, b3]
  | ok x =>
    rw [hr] at ho
    have hRR := HRR.out
    rw [hr] at hRR
    obtain ⟨rfl, ⟨ts, j, hT, hsp, hj⟩, cs, ⟨nm, sp, a1, n1, c1, a2, n2, c2, rfl⟩, hcb, hx⟩ := ho
    obtain ⟨xc, xf⟩ := blk_cell hcb
    have x0 := xc 0
    have x1 := xc 1
    have x2 := xc 2
    have x3 := xc 3
    simp only [List.getElem?_toArray, List.getElem?_cons_zero, List.getElem?_cons_succ] at x0 x1 x2 x3
    have hxl : w.heap.size + 1 < w2.heap.size := by omega
    have hMB : ∀ y ∈ x.methods, MeB y := fun m hm => by
      have h1 := classP_dep hsp m hm
      have h2 := hT.len
      exact ⟨by have := h1.1; omega, by have := h1.2; omega⟩
    replace hx : (fCl x [.string nm, .string sp, .slice a1 n1 c1, .slice a2 n2 c2]).holds (w.heap.size < ·) w2 := (fCl x _).sub _ _ _ (fun g h1 _ => by simp at h1; omega) hx
    replace hRR : R = if classLim x ≠ 0 then .error (0, classLim x) else .ok x := hRR
    obtain ⟨d, hx⟩ := hx
    have HX := Lib.hid hx
    have RR := Lib.hid hRR
    have HCB := Lib.hid hcb
    have HMB := Lib.hid hMB
    clear hr hRR HRR hx hcb hsp xc hMB
    go_wp2_with fail
    refine (par_classLimits d x _ _ _ _ _ _ _ _ _ (HX.out.sub (fun _ _ _ => trivial)) HMB.out).mono ?_
    rintro e w3 ⟨rfl, hb3⟩
    have yc := (blk_cell ((hb3.block _ hxl).trans HCB.out)).1
    have zc := (blk_cell ((hb3.block _ hbl).trans HRB.out)).1
    have y0 := yc 0
    have z0 := zc 0
    have y1 := yc 1
    have z1 := zc 1
    have y2 := yc 2
    have z2 := zc 2
    have y3 := yc 3
    have z3 := zc 3
    have yf := (blk_cell ((hb3.block _ hxl).trans HCB.out)).2
    have zf := (blk_cell ((hb3.block _ hbl).trans HRB.out)).2
    simp only [List.getElem?_toArray, List.getElem?_cons_zero, List.getElem?_cons_succ] at y0 y1 y2 y3 z0 z1 z2 z3
    have hsz3 := hb3.size
    have HB3 := Lib.hid (HB.out.trans (hb3.mono (by omega)))
    have HX3 : Hid ((fCl x [.string nm, .string sp, .slice a1 n1 c1, .slice a2 n2 c2]).holds (w.heap.size < ·) w3) := (fCl x _).kept _ _ _ (.of_below hb3) ⟨d, HX.out⟩
    have hl1 : w.heap.size + 1 < w3.heap.size := by omega
    have hl2 : w.heap.size < w3.heap.size := by omega
    clear hb3 HX HCB HRB HB bf xf yc zc b0 b1 b2 b3 x0 x1 x2 x3
    by_cases h0 : classLim x = 0
    · have hRR := RR.out
      rw [if_neg (fun h => h h0)] at hRR
      have RR2 := Lib.hid hRR
      have hz1 : (((classLim x : Nat) : Int) != 0) = false := by rw [h0]; rfl
      clear hRR RR h0
      go_wp2_with fail
      refine bodyPost_ret (v := .tuple #[.agg #[.string nm, .string sp, .slice a1 n1 c1, .slice a2 n2 c2], .int .i64 0, .int .i64 0]) ?_ rfl ⟨setAll_below (Nat.le_refl _) [.string nm, .string sp, .slice a1 n1 c1, .slice a2 n2 c2] 0 _ HB3.out, ?_⟩
      · simp [results, Tryz.results6, go_sem, z0, z1, z2, z3]
      · rw [RR2.out]
        refine ⟨nm, sp, a1, n1, c1, a2, n2, c2, rfl, ?_⟩
        exact (fCl x _).sub _ _ _ (fun g h1 _ => by omega) ((fCl x _).kept _ _ _ (setAll_kept (by simp) [.string nm, .string sp, .slice a1 n1 c1, .slice a2 n2 c2] 0 _) HX3.out)
    · have hRR := RR.out
      rw [if_pos h0] at hRR
      have RR2 := Lib.hid hRR
      have hz1 : (((classLim x : Nat) : Int) != 0) = true := by rw [bne, beq_eq_false_iff_ne.2 (by omega)]; rfl
      clear hRR RR h0
      go_wp2_with fail
      refine bodyPost_ret (v := .tuple #[.agg #[.string ⟨#[]⟩, .string ⟨#[]⟩, .slice none 0 0, .slice none 0 0], .int .i64 0, .int .i64 (classLim x : Int)]) ?_ rfl ⟨setAll_below (Nat.le_refl _) [.string ⟨#[]⟩, .string ⟨#[]⟩, .slice none 0 0, .slice none 0 0] 0 _ HB3.out, by rw [RR2.out]; rfl⟩
      simp [results, Tryz.results6, go_sem, z0, z1, z2, z3]
def formMe (cs : Array Value) : Prop := ∃ (nm : ByteArray) (sb : Bool) (a1 : Option Addr) (n1 c1 : Nat) (rs : ByteArray) (a2 : Option Addr) (n2 c2 : Nat), cs = #[.string nm, .bool sb, .slice a1 n1 c1, .string rs, .slice a2 n2 c2]
def factMe (x : Me) (cs : Array Value) : Fact := fMe x cs.toList
set_option maxHeartbeats 1000000 in
theorem rule_Method (cb : Nat) : RuleC 31 cb 35 #[.string ⟨#[]⟩, .bool false, .slice none 0 0, .string ⟨#[]⟩, .slice none 0 0] formMe factMe (fun ts => methodP ts 0) := by
  intro pb g cap ts w hT hE h1 h2 hcb
  obtain ⟨R, hr⟩ : ∃ R, R = methodP ts 0 := ⟨_, rfl⟩
  show Calls _ _ _ _ (RuleOut pb g cap ts w cb _ formMe factMe (methodP ts 0))
  rw [← hr]
  have HR := Lib.hid hr
  have HE := Lib.hid hE
  have HC := Lib.hid hcb
  have hcl := lt_of_heap hcb
  clear hr hE hcb
  go_enter Tryz.func31, Tryz.ntmps31
  go_wp2_with fail
  refine (par_method hT HE.out).mono ?_
  intro e w2 ho
  rw [← HR.out] at ho
  cases R with
  | error q =>
    obtain ⟨hg, rfl⟩ := out_error ho
    exact ⟨rfl, rfl, hg⟩
  | ok x =>
    obtain ⟨x, j⟩ := x
    obtain ⟨hg, v, rfl, ⟨nm, sb, a1, n1, c1, rs, a2, n2, c2, rfl, hx⟩, hE2⟩ := out_ok ho
    have hc2 : w2.heap[cb]? = some (.cells #[.string ⟨#[]⟩, .bool false, .slice none 0 0, .string ⟨#[]⟩, .slice none 0 0] 35 (0, 0)) := (hg.block cb hcl (by intro e; cases e; exact h1 rfl)).trans HC.out
    obtain ⟨c0, cz⟩ := blk_cell hc2
    have d0 := c0 0
    have d1 := c0 1
    have d2 := c0 2
    have d3 := c0 3
    have d4 := c0 4
    simp only [List.getElem?_toArray, List.getElem?_cons_zero, List.getElem?_cons_succ] at d0 d1 d2 d3 d4
    have HG := Lib.hid hg
    have HX := Lib.hid hx
    have HE2 := Lib.hid hE2
    have HC2 := Lib.hid hc2
    have hgl := HE2.out.g_lt
    clear hg hx hE2 hc2 c0 ho HR
    go_wp2_with fail
    refine bodyPost_end (v := .tuple #[]) ?_ rfl ⟨rfl, setAll_penv h1 h2 [.string nm, .bool sb, .slice a1 n1 c1, .string rs, .slice a2 n2 c2] 0 _ HE2.out, ⟨_, ⟨nm, sb, a1, n1, c1, rs, a2, n2, c2, rfl⟩, setAll_at [.string nm, .bool sb, .slice a1 n1 c1, .string rs, .slice a2 n2 c2] 0 _ _ HC2.out, (fMe x _).kept _ _ _ (setAll_kept (by have := hcl; simp; omega) [.string nm, .bool sb, .slice a1 n1 c1, .string rs, .slice a2 n2 c2] 0 _) HX.out⟩, setAll_grown HG.out [.string nm, .bool sb, .slice a1 n1 c1, .string rs, .slice a2 n2 c2] 0⟩
    simp [results, Tryz.results31, go_sem]
theorem calls_Method (args : Array Value) (w : World) : (callFunc 31 args).run Tryz.prog w = .ok (.enter 31 args) w := by simp [go_sem]
/-- How parse.Method ends. -/
def MethodOut (w : World) (r : Except (Nat × Nat) Me) (e : Ending) (w' : World) : Prop := Below w.heap.size w w' ∧ match r with
  | .error (p, er) => e = .returned (.tuple #[.agg #[.string ⟨#[]⟩, .bool false, .slice none 0 0, .string ⟨#[]⟩, .slice none 0 0], .int .i64 (p : Int), .int .i64 (er : Int)])
  | .ok x => ∃ (nm : ByteArray) (sb : Bool) (a1 : Option Addr) (n1 c1 : Nat) (rs : ByteArray) (a2 : Option Addr) (n2 c2 : Nat), e = .returned (.tuple #[.agg #[.string nm, .bool sb, .slice a1 n1 c1, .string rs, .slice a2 n2 c2], .int .i64 0, .int .i64 0]) ∧ (fMe x [.string nm, .bool sb, .slice a1 n1 c1, .string rs, .slice a2 n2 c2]).holds (w.heap.size ≤ ·) w'
set_option maxHeartbeats 1000000 in
theorem par_TMethod (s : ByteArray) (w : World) (hs : s.size ≤ maxLen) (hL : Laid w) : Calls Tryz.prog 9 #[.string s] w (MethodOut w (methodR s.data.toList)) := by
  obtain ⟨R, hR⟩ : ∃ R, R = methodR s.data.toList := ⟨_, rfl⟩
  rw [← hR]
  unfold methodR at hR
  have HL := Lib.hid hL
  have HS := Lib.hid hs
  have HRR := Lib.hid hR
  clear hL hs hR
  have hmf : ∀ (fn : Fn) (first cap : Array Value) (w : World), (Instr.makeFunc fn first cap).run Tryz.prog w = .ok (.func fn first cap) w := fun _ _ _ _ => rfl
  go_enter Tryz.func9, Tryz.ntmps9
  go_wp2_with fail
  refine (par_read (rule_Method (w.heap.size + 1)) calls_Method s _ HS.out ((HL.out.alloc _).alloc _) (alloc_last _ _ _ (by simp))).mono ?_
  rintro e w2 ⟨hg, ho⟩
  have hb := below_of_grown (w := w) (((Below.refl w.heap.size w).alloc (Nat.le_refl _) _).alloc (by simp) _) hg (by omega)
  have hsz := hg.size
  simp only [World.size_alloc] at hsz
  have hB : w2.heap[w.heap.size]? = some (.cells #[.string ⟨#[]⟩, .bool false, .slice none 0 0, .string ⟨#[]⟩, .slice none 0 0] 35 (0, 0)) := (hg.block _ (by simp; omega) (by simp)).trans ((((Below.refl _ _).alloc (Nat.le_refl _) _).block w.heap.size (by simp)).trans (alloc_last _ _ _ rfl))
  obtain ⟨bc, bf⟩ := blk_cell hB
  have b0 := bc 0
  have b1 := bc 1
  have b2 := bc 2
  have b3 := bc 3
  have b4 := bc 4
  simp only [List.getElem?_toArray, List.getElem?_cons_zero, List.getElem?_cons_succ] at b0 b1 b2 b3 b4
  have hbl : w.heap.size < w2.heap.size := by omega
  have HB := Lib.hid hb
  have HRB := Lib.hid hB
  clear hg hb hB bc
  cases hr : readR (fun ts => methodP ts 0) s.data.toList with
  | error x =>
    obtain ⟨p, er⟩ := x
    rw [hr] at ho
    have hRR := HRR.out
    rw [hr] at hRR
    subst ho
    have her := readR_err hr
    have he0 : ((er : Int) != 0) = true := by rw [bne, beq_eq_false_iff_ne.2 (by omega)]; rfl
    have RR := Lib.hid hRR
    clear hr hRR HRR
    go_wp2_with fail
    refine bodyPost_ret (v := .tuple #[.agg #[.string ⟨#[]⟩, .bool false, .slice none 0 0, .string ⟨#[]⟩, .slice none 0 0], .int .i64 (p : Int), .int .i64 (er : Int)]) ?_ rfl ⟨setAll_below (Nat.le_refl _) [.string ⟨#[]⟩, .bool false, .slice none 0 0, .string ⟨#[]⟩, .slice none 0 0] 0 _ HB.out, by rw [RR.out]⟩
    simp [results, Tryz.results9, go_sem, b0, b1, b2, b3, b4]
  | ok x =>
    rw [hr] at ho
    have hRR := HRR.out
    rw [hr] at hRR
    obtain ⟨rfl, ⟨ts, j, hT, hsp, hj⟩, cs, ⟨nm, sb, a1, n1, c1, rs, a2, n2, c2, rfl⟩, hcb, hx⟩ := ho
    obtain ⟨xc, xf⟩ := blk_cell hcb
    have x0 := xc 0
    have x1 := xc 1
    have x2 := xc 2
    have x3 := xc 3
    have x4 := xc 4
    simp only [List.getElem?_toArray, List.getElem?_cons_zero, List.getElem?_cons_succ] at x0 x1 x2 x3 x4
    have hxl : w.heap.size + 1 < w2.heap.size := by omega
    have hMB : MeB x := by
      have h1 := methodP_dep hsp
      have h2 := hT.len
      exact ⟨by have := h1.1; omega, by have := h1.2; omega⟩
    replace hx : (fMe x [.string nm, .bool sb, .slice a1 n1 c1, .string rs, .slice a2 n2 c2]).holds (w.heap.size < ·) w2 := (fMe x _).sub _ _ _ (fun g h1 _ => by simp at h1; omega) hx
    replace hRR : R = if methodLim x ≠ 0 then .error (0, methodLim x) else .ok x := hRR
    obtain ⟨d, hx⟩ := hx
    have HX := Lib.hid hx
    have RR := Lib.hid hRR
    have HCB := Lib.hid hcb
    have HMB := Lib.hid hMB
    clear hr hRR HRR hx hcb hsp xc hMB
    go_wp2_with fail
    refine (par_methodLimits d x _ _ _ _ _ _ _ _ _ _ (HX.out.sub (fun _ _ _ => trivial)) HMB.out).mono ?_
    rintro e w3 ⟨rfl, hb3⟩
    have yc := (blk_cell ((hb3.block _ hxl).trans HCB.out)).1
    have zc := (blk_cell ((hb3.block _ hbl).trans HRB.out)).1
    have y0 := yc 0
    have z0 := zc 0
    have y1 := yc 1
    have z1 := zc 1
    have y2 := yc 2
    have z2 := zc 2
    have y3 := yc 3
    have z3 := zc 3
    have y4 := yc 4
    have z4 := zc 4
    have yf := (blk_cell ((hb3.block _ hxl).trans HCB.out)).2
    have zf := (blk_cell ((hb3.block _ hbl).trans HRB.out)).2
    simp only [List.getElem?_toArray, List.getElem?_cons_zero, List.getElem?_cons_succ] at y0 y1 y2 y3 y4 z0 z1 z2 z3 z4
    have hsz3 := hb3.size
    have HB3 := Lib.hid (HB.out.trans (hb3.mono (by omega)))
    have HX3 : Hid ((fMe x [.string nm, .bool sb, .slice a1 n1 c1, .string rs, .slice a2 n2 c2]).holds (w.heap.size < ·) w3) := (fMe x _).kept _ _ _ (.of_below hb3) ⟨d, HX.out⟩
    have hl1 : w.heap.size + 1 < w3.heap.size := by omega
    have hl2 : w.heap.size < w3.heap.size := by omega
    clear hb3 HX HCB HRB HB bf xf yc zc b0 b1 b2 b3 b4 x0 x1 x2 x3 x4
    by_cases h0 : methodLim x = 0
    · have hRR := RR.out
      rw [if_neg (fun h => h h0)] at hRR
      have RR2 := Lib.hid hRR
      have hz1 : (((methodLim x : Nat) : Int) != 0) = false := by rw [h0]; rfl
      clear hRR RR h0
      go_wp2_with fail
      refine bodyPost_ret (v := .tuple #[.agg #[.string nm, .bool sb, .slice a1 n1 c1, .string rs, .slice a2 n2 c2], .int .i64 0, .int .i64 0]) ?_ rfl ⟨setAll_below (Nat.le_refl _) [.string nm, .bool sb, .slice a1 n1 c1, .string rs, .slice a2 n2 c2] 0 _ HB3.out, ?_⟩
      · simp [results, Tryz.results9, go_sem, z0, z1, z2, z3, z4]
      · rw [RR2.out]
        refine ⟨nm, sb, a1, n1, c1, rs, a2, n2, c2, rfl, ?_⟩
        exact (fMe x _).sub _ _ _ (fun g h1 _ => by omega) ((fMe x _).kept _ _ _ (setAll_kept (by simp) [.string nm, .bool sb, .slice a1 n1 c1, .string rs, .slice a2 n2 c2] 0 _) HX3.out)
    · have hRR := RR.out
      rw [if_pos h0] at hRR
      have RR2 := Lib.hid hRR
      have hz1 : (((methodLim x : Nat) : Int) != 0) = true := by rw [bne, beq_eq_false_iff_ne.2 (by omega)]; rfl
      clear hRR RR h0
      go_wp2_with fail
      refine bodyPost_ret (v := .tuple #[.agg #[.string ⟨#[]⟩, .bool false, .slice none 0 0, .string ⟨#[]⟩, .slice none 0 0], .int .i64 0, .int .i64 (methodLim x : Int)]) ?_ rfl ⟨setAll_below (Nat.le_refl _) [.string ⟨#[]⟩, .bool false, .slice none 0 0, .string ⟨#[]⟩, .slice none 0 0] 0 _ HB3.out, by rw [RR2.out]; rfl⟩
      simp [results, Tryz.results9, go_sem, z0, z1, z2, z3, z4]
def formFi (cs : Array Value) : Prop := ∃ (a b : ByteArray), cs = #[.string a, .string b]
def factFi (x : Fld) (cs : Array Value) : Fact := ⟨fun _ _ => cs = #[.string (strOf x.name), .string (strOf x.typ)], fun _ _ _ _ h => h, fun _ _ _ _ h => h⟩
set_option maxHeartbeats 1000000 in
theorem rule_Field (cb : Nat) : RuleC 37 cb 40 #[.string ⟨#[]⟩, .string ⟨#[]⟩] formFi factFi (fun ts => fieldP ts 0) := by
  intro pb g cap ts w hT hE h1 h2 hcb
  obtain ⟨R, hr⟩ : ∃ R, R = fieldP ts 0 := ⟨_, rfl⟩
  show Calls _ _ _ _ (RuleOut pb g cap ts w cb _ formFi factFi (fieldP ts 0))
  rw [← hr]
  have HR := Lib.hid hr
  have HE := Lib.hid hE
  have HC := Lib.hid hcb
  have hcl := lt_of_heap hcb
  clear hr hE hcb
  go_enter Tryz.func37, Tryz.ntmps37
  go_wp2_with fail
  refine (par_field hT HE.out).mono ?_
  intro e w2 ho
  rw [← HR.out] at ho
  cases R with
  | error q =>
    obtain ⟨hg, rfl⟩ := out_error ho
    exact ⟨rfl, rfl, hg⟩
  | ok x =>
    obtain ⟨x, j⟩ := x
    obtain ⟨hg, v, rfl, rfl, hE2⟩ := out_ok ho
    have hc2 : w2.heap[cb]? = some (.cells #[.string ⟨#[]⟩, .string ⟨#[]⟩] 40 (0, 0)) := (hg.block cb hcl (by intro e; cases e; exact h1 rfl)).trans HC.out
    obtain ⟨c0, cz⟩ := blk_cell hc2
    have d0 := c0 0
    have d1 := c0 1
    simp only [List.getElem?_toArray, List.getElem?_cons_zero, List.getElem?_cons_succ] at d0 d1
    have HG := Lib.hid hg
    have HE2 := Lib.hid hE2
    have HC2 := Lib.hid hc2
    have hgl := HE2.out.g_lt
    clear hg hE2 hc2 c0 ho HR
    go_wp2_with fail
    refine bodyPost_end (v := .tuple #[]) ?_ rfl ⟨rfl, setAll_penv h1 h2 [.string (strOf x.name), .string (strOf x.typ)] 0 _ HE2.out, ⟨_, ⟨_, _, rfl⟩, setAll_at [.string (strOf x.name), .string (strOf x.typ)] 0 _ _ HC2.out, rfl⟩, setAll_grown HG.out [.string (strOf x.name), .string (strOf x.typ)] 0⟩
    simp [results, Tryz.results37, go_sem]
theorem calls_Field (args : Array Value) (w : World) : (callFunc 37 args).run Tryz.prog w = .ok (.enter 37 args) w := by simp [go_sem]
/-- How parse.Field ends. -/
def FieldOut (w : World) (r : Except (Nat × Nat) Fld) (e : Ending) (w' : World) : Prop := Below w.heap.size w w' ∧ match r with
  | .error (p, er) => e = .returned (.tuple #[.agg #[.string ⟨#[]⟩, .string ⟨#[]⟩], .int .i64 (p : Int), .int .i64 (er : Int)])
  | .ok x => e = .returned (.tuple #[.agg #[.string (strOf x.name), .string (strOf x.typ)], .int .i64 0, .int .i64 0])
set_option maxHeartbeats 1000000 in
theorem par_TField (s : ByteArray) (w : World) (hs : s.size ≤ maxLen) (hL : Laid w) : Calls Tryz.prog 12 #[.string s] w (FieldOut w (fieldR s.data.toList)) := by
  obtain ⟨R, hR⟩ : ∃ R, R = fieldR s.data.toList := ⟨_, rfl⟩
  rw [← hR]
  unfold fieldR at hR
  have HL := Lib.hid hL
  have HS := Lib.hid hs
  have HRR := Lib.hid hR
  clear hL hs hR
  have hmf : ∀ (fn : Fn) (first cap : Array Value) (w : World), (Instr.makeFunc fn first cap).run Tryz.prog w = .ok (.func fn first cap) w := fun _ _ _ _ => rfl
  go_enter Tryz.func12, Tryz.ntmps12
  go_wp2_with fail
  refine (par_read (rule_Field (w.heap.size + 1)) calls_Field s _ HS.out ((HL.out.alloc _).alloc _) (alloc_last _ _ _ (by simp))).mono ?_
  rintro e w2 ⟨hg, ho⟩
  have hb := below_of_grown (w := w) (((Below.refl w.heap.size w).alloc (Nat.le_refl _) _).alloc (by simp) _) hg (by omega)
  have hsz := hg.size
  simp only [World.size_alloc] at hsz
  have hB : w2.heap[w.heap.size]? = some (.cells #[.string ⟨#[]⟩, .string ⟨#[]⟩] 40 (0, 0)) := (hg.block _ (by simp; omega) (by simp)).trans ((((Below.refl _ _).alloc (Nat.le_refl _) _).block w.heap.size (by simp)).trans (alloc_last _ _ _ rfl))
  obtain ⟨bc, bf⟩ := blk_cell hB
  have b0 := bc 0
  have b1 := bc 1
  simp only [List.getElem?_toArray, List.getElem?_cons_zero, List.getElem?_cons_succ] at b0 b1
  have hbl : w.heap.size < w2.heap.size := by omega
  have HB := Lib.hid hb
  have HRB := Lib.hid hB
  clear hg hb hB bc
  cases hr : readR (fun ts => fieldP ts 0) s.data.toList with
  | error x =>
    obtain ⟨p, er⟩ := x
    rw [hr] at ho
    have hRR := HRR.out
    rw [hr] at hRR
    subst ho
    have her := readR_err hr
    have he0 : ((er : Int) != 0) = true := by rw [bne, beq_eq_false_iff_ne.2 (by omega)]; rfl
    have RR := Lib.hid hRR
    clear hr hRR HRR
    go_wp2_with fail
    refine bodyPost_ret (v := .tuple #[.agg #[.string ⟨#[]⟩, .string ⟨#[]⟩], .int .i64 (p : Int), .int .i64 (er : Int)]) ?_ rfl ⟨setAll_below (Nat.le_refl _) [.string ⟨#[]⟩, .string ⟨#[]⟩] 0 _ HB.out, by rw [RR.out]⟩
    simp [results, Tryz.results12, go_sem, b0, b1]
  | ok x =>
    rw [hr] at ho
    have hRR := HRR.out
    rw [hr] at hRR
    obtain ⟨rfl, ⟨ts, j, hT, hsp, hj⟩, cs, _, hcb, rfl⟩ := ho
    obtain ⟨xc, xf⟩ := blk_cell hcb
    have x0 := xc 0
    have x1 := xc 1
    simp only [List.getElem?_toArray, List.getElem?_cons_zero, List.getElem?_cons_succ] at x0 x1
    have hxl : w.heap.size + 1 < w2.heap.size := by omega
    have RR := Lib.hid hRR
    clear hr hRR HRR hcb hsp xc
    go_wp2_with fail
    refine bodyPost_ret (v := .tuple #[.agg #[.string (strOf x.name), .string (strOf x.typ)], .int .i64 0, .int .i64 0]) ?_ rfl ⟨setAll_below (Nat.le_refl _) [.string (strOf x.name), .string (strOf x.typ)] 0 _ HB.out, by rw [RR.out]⟩
    simp [results, Tryz.results12, go_sem, b0, b1]
end Go.Proofs.YthjonkommphkkaaGreatDoor
