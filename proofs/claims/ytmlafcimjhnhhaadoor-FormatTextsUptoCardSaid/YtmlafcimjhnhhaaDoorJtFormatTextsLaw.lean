/-
  FormatTexts, walked.
-/
import Derived.Test.YtmlafcimjhnhhaaDoorJtJpBj
import Derived.Test.YtmlafcimjhnhhaaDoorJtJpBn
import Derived.Deep.QuietTactic
import Derived.BigQuiet
set_option linter.unusedSectionVars false
set_option linter.unusedSimpArgs false
set_option linter.unnecessarySimpa false
set_option linter.unusedVariables false
set_option linter.unusedVariables false
namespace Go.Proofs.YtmlafcimjhnhhaaDoor
open Lx Ax Go.RowKit
theorem IsList.laterC {w w':World}{d:Nat}{l:List Cl}{v:Value}(h:IsList Any w 4 (IsCl Any w d) l v)(hb:Below w.heap.size w w'):IsList Any w' 4 (IsCl Any w' d) l v:=h.kept (kept_any hb) (by omega) fun _ _ _=>IsCl.kept (kept_any hb)
theorem ref9_Program (d:Nat)(x:List Cl)(a:Option Addr)(n c:Nat)(w:World)(h:IsList Any w 4 (IsCl Any w d) x (.slice a n c))(hB:∀ c∈x,ClB d c)(hs:clsSz x≤2000000) :
  Calls Tryd.prog 7 #[.agg #[.slice a n c]] w fun e w'=>e=.returned (.tuple #[.string (strOf (progR x).1),.int .i64 ((progR x).2:Nat)])∧Below w.heap.size w w':=by
 rw [progR_eq hB hs];have hM:∀ g o,Any g→w.heap[g]?=some o→(snap w).fz g=some o:=fun g o _ h=>h
 have hv:RV (snap w) (.lst (x.map cvC)) (.slice a n c):=rv_list (by decide) hM h cvC_len fun y _ cs hy=>rv_cl hM hy
 have hr:RV (snap w) (.agg [.lst (x.map cvC)]) (.agg #[.slice a n c]):=.agg _ [.slice a n c] rfl (RVs.one hv).2;refine ((rt_Program d x h.1 (fun c hc=>by obtain⟨cs,h⟩:=h.each c hc;exact lenC_of h) hB hs).f Heap.no 0 (snap w) w [.agg #[.slice a n c]] (paG_rg _) (Rep.snap w) (.one hr)).mono ?_;rintro e w' ⟨M',r,H',nx',h1,h2,h3,_,rfl⟩;refine⟨?_,h3.below⟩;cases e <;> simp only [EndR] at h1;obtain⟨us,rfl,hs⟩:=tup_of h1;obtain⟨u0,_,rfl,r0,hs⟩:=hs.cons_inv;obtain⟨u1,_,rfl,r1,hs⟩:=hs.cons_inv;cases hs.nil_inv;rw [str_strOf r0,int_of r1]
set_option maxHeartbeats 4000000 in
theorem fmt_Check (d:Nat)(x:List Cl)(a:Option Addr)(n c:Nat)(w:World)(h:IsList Any w 4 (IsCl Any w d) x (.slice a n c))(hB:∀ c∈x,ClB d c)(hL:FLaid w) :
  Calls Tryd.prog 8 #[.agg #[.slice a n c]] w fun e w'=>e=.returned (.int .i64 ((progR x).2:Nat))∧Below w.heap.size w w':=by
 have HX:Hid (IsList Any (w.alloc (.cells #[.slice a n c] 24)) 4 (IsCl Any (w.alloc (.cells #[.slice a n c] 24)) d) x (.slice a n c)):=h.laterC ((Below.refl _ _).alloc (Nat.le_refl _) _);have HB:=Lib.hid hB;have HF:=Lib.hid hL;clear h hB hL;go_enter Tryd.func8,Tryd.ntmps8;go_wp2_with fail;refine (fmt_Program d x _ _ _ _ HX.out HB.out (HF.out.alloc _)).mono ?_;rintro e w4 ⟨rfl,hb4⟩;have HW4:Hid (Below w.heap.size w w4):=((Below.refl _ _).alloc (Nat.le_refl _) _).trans (hb4.mono (by simp));obtain⟨S,hS⟩:∃ S,S=strOf (progR x).1:=⟨_,rfl⟩;obtain⟨k,hk⟩:∃ k,k=(progR x).2:=⟨_,rfl⟩;rw [← hS,← hk];have HK:=Lib.hid hk;clear hb4 HX HB HF hS hk;go_wp2_with fail;go_ret;exact⟨by rw [← HK.out];rfl,HW4.out⟩
set_option maxHeartbeats 8000000 in
set_option maxRecDepth 100000 in
theorem law_FormatTexts (d1:Nat)(x1:List Cl)(a1:Option Addr)(n1 c1:Nat)(w:World)(hl:IsList Any w 4 (IsCl Any w d1) x1 (.slice a1 n1 c1))(hB:∀ c∈x1,ClB d1 c)(hs:clsSz x1≤2000000)(hF:FLaid w):Calls Tryd.prog 3 #[.agg #[.slice a1 n1 c1]] w fun e w'=>e=.returned (.bool true)∧Below w.heap.size w w':=by
 have HF:=Lib.hid hF;have HB:=Lib.hid hB;have HSZ:=Lib.hid hs;have hk:(w.alloc (.cells #[.slice a1 n1 c1] 24)).cell? ⟨w.heap.size,0,none⟩=some (.slice a1 n1 c1):=by simp [go_sem]
 have HX1:=Lib.hid hl;have HX2:Hid (IsList Any (w.alloc (.cells #[.slice a1 n1 c1] 24)) 4 (IsCl Any (w.alloc (.cells #[.slice a1 n1 c1] 24)) d1) x1 (.slice a1 n1 c1)):=hl.laterC ((Below.refl _ _).alloc (Nat.le_refl _) _);clear hF hB hs hl;go_enter Tryd.func3,Tryd.ntmps3;go_wp2_with fail;refine (fmt_Program d1 x1 _ _ _ _ HX2.out HB.out (HF.out.alloc _)).mono ?_;rintro e w4 ⟨rfl,hb4⟩;have HW4:Hid (Below w.heap.size w w4):=((Below.refl _ _).alloc (Nat.le_refl _) _).trans (hb4.mono (by simp));have HF4:Hid (FLaid w4):=(HF.out.alloc _).below hb4 (Nat.le_refl _);have hs4:w.heap.size<w4.heap.size:=by have:=hb4.size;simp at this;omega
 have b1:w4.cell? ⟨w.heap.size,0,none⟩=some (.slice a1 n1 c1):=(hb4.cell (p:=⟨w.heap.size,0,none⟩) (by simp)).trans hk;have HX4:Hid (IsList Any w4 4 (IsCl Any w4 d1) x1 (.slice a1 n1 c1)):=HX1.out.laterC HW4.out;obtain⟨S,hS⟩:∃ S,S=strOf (progR x1).1:=⟨_,rfl⟩;obtain⟨k,hk9⟩:∃ k,k=(progR x1).2:=⟨_,rfl⟩;rw [← hS,← hk9];have HS9:=Lib.hid hS;have HK9:=Lib.hid hk9;clear hb4 hk HX2 hS hk9;go_wp2_with fail;refine (ref9_Program d1 x1 _ _ _ _ HX4.out HB.out HSZ.out).mono ?_;rintro e w5 ⟨rfl,hb5⟩;rw [← HS9.out,← HK9.out];have HB5:Hid (Below w.heap.size w w5):=HW4.out.trans (hb5.mono HW4.out.size);have HF5:Hid (FLaid w5):=HF4.out.below hb5 (Nat.le_refl _);have b2:w5.cell? ⟨w.heap.size,0,none⟩=some (.slice a1 n1 c1):=(hb5.cell (p:=⟨w.heap.size,0,none⟩) hs4).trans b1;have HX5:Hid (IsList Any w5 4 (IsCl Any w5 d1) x1 (.slice a1 n1 c1)):=HX4.out.laterC hb5;have e1:(S.toList == S.toList)=true:=beq_self_eq_true _;have e2:((k:Int) == (k:Int))=true:=beq_self_eq_true _;clear hb5 b1 HX4 HF4 hs4;go_wp2_with fail;refine (fmt_Check d1 x1 _ _ _ _ HX5.out HB.out HF5.out).mono ?_;rintro e w6 ⟨rfl,hb6⟩;rw [← HK9.out];have HB6:Hid (Below w.heap.size w w6):=HB5.out.trans (hb6.mono HB5.out.size);have HF6:Hid (FLaid w6):=HF5.out.below hb6 (Nat.le_refl _);clear hb6 b2 HX5;go_wp2_with fail;refine (law09_awake _ HF6.out).mono ?_;rintro e w9 ⟨rfl,hb9⟩;have HB9:=Lib.hid (HB6.out.trans (hb9.mono HB6.out.size));clear hb9;go_wp2_with fail;go_ret;exact⟨rfl,HB9.out⟩
end Go.Proofs.YtmlafcimjhnhhaaDoor
