/-
  FormatMethods, walked.
-/
import Derived.Test.YtmlafcimjhnhhaaDoorJmJpBj
import Derived.Test.YtmlafcimjhnhhaaDoorJmJpBn
import Derived.Deep.QuietTactic
import Derived.BigQuiet
set_option linter.unusedSectionVars false
set_option linter.unusedSimpArgs false
set_option linter.unnecessarySimpa false
set_option linter.unusedVariables false
set_option linter.unusedVariables false
namespace Go.Proofs.YtmlafcimjhnhhaaDoor
open Lx Ax Go.RowKit
theorem isMe_agg {M:Mp}{w:World}(hM:∀ g o,Any g→w.heap[g]?=some o→M.fz g=some o){d:Nat}{x:Me}{nm:ByteArray}{sb:Bool}{a1:Option Addr}{n1 c1:Nat}{rs:ByteArray}{a2:Option Addr}{n2 c2:Nat}(h:IsMe Any w d x [.string nm,.bool sb,.slice a1 n1 c1,.string rs,.slice a2 n2 c2]):RV M (.agg (cvM x)) (.agg #[.string nm,.bool sb,.slice a1 n1 c1,.string rs,.slice a2 n2 c2]):=by
 obtain⟨h1,h2⟩:=rv_me hM h;exact .agg _ _ h1 h2
theorem IsMe.later {w w':World}{d D:Nat}{x:Me}{cs:List Value}(h:IsMe Any w d x cs)(hb:Below w.heap.size w w')(hd:d≤D):IsMe Any w' D x cs:=(IsMe.kept (kept_any hb) h).le hd
theorem fmt_Method (d:Nat)(x:Me)(nm:ByteArray)(sb:Bool)(a1:Option Addr)(n1 c1:Nat)(rs:ByteArray)(a2:Option Addr)(n2 c2:Nat)(w:World)(h:IsMe Any w d x [.string nm,.bool sb,.slice a1 n1 c1,.string rs,.slice a2 n2 c2])(hB:MethB d x)(hL:FLaid w) :
  Calls Tryd.prog 12 #[.agg #[.string nm,.bool sb,.slice a1 n1 c1,.string rs,.slice a2 n2 c2]] w fun r w'=>r=.returned (.tuple #[.string (strOf (methF x).1),.int .i64 ((methF x).2:Nat)])∧Below w.heap.size w w':=by
 refine ((fm_Method d x (lenM_of h) hB).f Heap.no 0 (snap w) w _ hL.rg (Rep.snap w) (.one (isMe_agg (fun g o _ h=>h) h))).mono ?_;rintro r w' ⟨M',r,H',nx',h1,h2,h3,_,rfl⟩;refine⟨?_,h3.below⟩;cases r <;> simp only [EndR] at h1;obtain⟨us,rfl,hs⟩:=tup_of h1;obtain⟨u0,_,rfl,r0,hs⟩:=hs.cons_inv;obtain⟨u1,_,rfl,r1,hs⟩:=hs.cons_inv;cases hs.nil_inv;rw [str_strOf r0,int_of r1]
theorem ref9_Method (d:Nat)(x:Me)(nm:ByteArray)(sb:Bool)(a1:Option Addr)(n1 c1:Nat)(rs:ByteArray)(a2:Option Addr)(n2 c2:Nat)(w:World)(h:IsMe Any w d x [.string nm,.bool sb,.slice a1 n1 c1,.string rs,.slice a2 n2 c2])(hB:MethB d x)(hs:meSz x≤2000000) :
  Calls Tryd.prog 13 #[.agg #[.string nm,.bool sb,.slice a1 n1 c1,.string rs,.slice a2 n2 c2]] w fun r w'=>r=.returned (.tuple #[.string (strOf (methF x).1),.int .i64 ((methF x).2:Nat)])∧Below w.heap.size w w':=by
 rw [methF_eq hs];refine ((rt_Method d x (lenM_of h) hB hs).f Heap.no 0 (snap w) w _ (paG_rg _) (Rep.snap w) (.one (isMe_agg (fun g o _ h=>h) h))).mono ?_;rintro r w' ⟨M',r,H',nx',h1,h2,h3,_,rfl⟩;refine⟨?_,h3.below⟩;cases r <;> simp only [EndR] at h1;obtain⟨us,rfl,hs⟩:=tup_of h1;obtain⟨u0,_,rfl,r0,hs⟩:=hs.cons_inv;obtain⟨u1,_,rfl,r1,hs⟩:=hs.cons_inv;cases hs.nil_inv;rw [str_strOf r0,int_of r1]
set_option maxHeartbeats 8000000 in
set_option maxRecDepth 100000 in
theorem law_FormatMethods (d:Nat)(x:Me)(nm:ByteArray)(sb:Bool)(a1:Option Addr)(n1 c1:Nat)(rs:ByteArray)(a2:Option Addr)(n2 c2:Nat)(w:World)(hx:IsMe Any w d x [.string nm,.bool sb,.slice a1 n1 c1,.string rs,.slice a2 n2 c2])(hB:MethB d x)(hs:meSz x≤2000000)(hF:FLaid w):Calls Tryd.prog 5 #[.agg #[.string nm,.bool sb,.slice a1 n1 c1,.string rs,.slice a2 n2 c2]] w fun e w'=>e=.returned (.bool true)∧Below w.heap.size w w':=by
 have HF:=Lib.hid hF;have HB:=Lib.hid hB;have HSZ:=Lib.hid hs;have HX1:=Lib.hid hx;obtain⟨O0,hO0⟩:∃ O0,O0=(Obj.cells #[.string nm,.bool sb,.slice a1 n1 c1,.string rs,.slice a2 n2 c2] 41):=⟨_,rfl⟩;have HX2:Hid (IsMe Any (w.alloc O0) d x [.string nm,.bool sb,.slice a1 n1 c1,.string rs,.slice a2 n2 c2]):=hx.later ((Below.refl _ _).alloc (Nat.le_refl _) _) (Nat.le_refl _);subst hO0;clear hF hB hs hx;go_enter Tryd.func5,Tryd.ntmps5;go_wp2_with fail;refine (fmt_Method d x _ _ _ _ _ _ _ _ _ _ HX2.out HB.out (HF.out.alloc _)).mono ?_;rintro e w4 ⟨rfl,hb4⟩;have HW4:Hid (Below w.heap.size w w4):=((Below.refl _ _).alloc (Nat.le_refl _) _).trans (hb4.mono (by simp));have HF4:Hid (FLaid w4):=(HF.out.alloc _).below hb4 (Nat.le_refl _);have hs4:w.heap.size<w4.heap.size:=by have:=hb4.size;simp at this;omega
 have HX4:Hid (IsMe Any w4 d x [.string nm,.bool sb,.slice a1 n1 c1,.string rs,.slice a2 n2 c2]):=HX1.out.later HW4.out (Nat.le_refl _);have b0:w4.cell? ⟨w.heap.size,0,none⟩=some (.string nm):=(hb4.cell (p:=⟨w.heap.size,0,none⟩) (by simp)).trans (by simp [go_sem]);have b1:w4.cell? ⟨w.heap.size,1,none⟩=some (.bool sb):=(hb4.cell (p:=⟨w.heap.size,1,none⟩) (by simp)).trans (by simp [go_sem]);have b2:w4.cell? ⟨w.heap.size,2,none⟩=some (.slice a1 n1 c1):=(hb4.cell (p:=⟨w.heap.size,2,none⟩) (by simp)).trans (by simp [go_sem]);have b3:w4.cell? ⟨w.heap.size,3,none⟩=some (.string rs):=(hb4.cell (p:=⟨w.heap.size,3,none⟩) (by simp)).trans (by simp [go_sem]);have b4:w4.cell? ⟨w.heap.size,4,none⟩=some (.slice a2 n2 c2):=(hb4.cell (p:=⟨w.heap.size,4,none⟩) (by simp)).trans (by simp [go_sem]);obtain⟨S,hS⟩:∃ S,S=strOf (methF x).1:=⟨_,rfl⟩;obtain⟨k,hk9⟩:∃ k,k=(methF x).2:=⟨_,rfl⟩;rw [← hS,← hk9];have HS9:=Lib.hid hS;have HK9:=Lib.hid hk9;clear hb4 HX2 hS hk9;go_wp2_with fail;refine (ref9_Method d x _ _ _ _ _ _ _ _ _ _ HX4.out HB.out HSZ.out).mono ?_;rintro e w5 ⟨rfl,hb5⟩;rw [← HS9.out,← HK9.out];have HB5:Hid (Below w.heap.size w w5):=HW4.out.trans (hb5.mono HW4.out.size);have HF5:Hid (FLaid w5):=HF4.out.below hb5 (Nat.le_refl _);have e1:(S.toList == S.toList)=true:=beq_self_eq_true _;have e2:((k:Int) == (k:Int))=true:=beq_self_eq_true _;clear hb5 b0 b1 b2 b3 b4 HX4 HF4 hs4 HW4;go_wp2_with fail;refine (law09_awake _ HF5.out).mono ?_;rintro e w9 ⟨rfl,hb9⟩;have HB9:=Lib.hid (HB5.out.trans (hb9.mono HB5.out.size));clear hb9;go_wp2_with fail;go_ret;exact⟨rfl,HB9.out⟩
end Go.Proofs.YtmlafcimjhnhhaaDoor
