/-
  FormatBack, walked.
-/
import Derived.Test.YtmlafcimjhnhhaaGreatDoorJbJpBq
import Derived.Test.YtmlafcimjhnhhaaGreatDoorJbFmtG
import Derived.Test.YtmlafcimjhnhhaaGreatDoorJbJpBf
import Derived.Test.YtmlafcimjhnhhaaGreatDoorJbJpBg
import Derived.Test.YtmlafcimjhnhhaaGreatDoorJbJpBe
import Derived.Deep.QuietTactic
import Derived.BigQuiet
set_option linter.unusedSectionVars false
set_option linter.unusedSimpArgs false
set_option linter.unnecessarySimpa false
set_option linter.unusedVariables false
namespace Go.Proofs.YtmlafcimjhnhhaaGreatDoor
open Lx Ax Go.RowKit
set_option maxHeartbeats 8000000 in
set_option maxRecDepth 100000 in
theorem law_FormatBack (d1:Nat)(x1:List Cl)(a1:Option Addr)(n1 c1:Nat)(w:World)(hl:IsList Any w 4 (IsCl Any w d1) x1 (.slice a1 n1 c1))(hB:∀ c∈x1,ClB d1 c)(hL:Laid w)(hF:FLaid w):Calls Tryz.prog 4 #[.agg #[.slice a1 n1 c1]] w fun e w'=>e=.returned (.bool true)∧Below w.heap.size w w':=by
 have HL:=Lib.hid hL;have HF:=Lib.hid hF;have HB:=Lib.hid hB;have HC:=Lib.hid (progR_cases hB);have hk:(w.alloc (.cells #[.slice a1 n1 c1] 35)).cell? ⟨w.heap.size,0,none⟩=some (.slice a1 n1 c1):=by simp [go_sem]
 have HX1:=Lib.hid hl;have HX2:Hid (IsList Any (w.alloc (.cells #[.slice a1 n1 c1] 35)) 4 (IsCl Any (w.alloc (.cells #[.slice a1 n1 c1] 35)) d1) x1 (.slice a1 n1 c1)):=hl.laterC ((Below.refl _ _).alloc (Nat.le_refl _) _);clear hL hF hB hl;go_enter Tryz.func4,Tryz.ntmps4;go_wp2_with fail;refine (fmt_Program d1 x1 _ _ _ _ HX2.out HB.out (HF.out.alloc _)).mono ?_;rintro e w4 ⟨rfl,hb4⟩;have HW4:Hid (Below w.heap.size w w4):=((Below.refl _ _).alloc (Nat.le_refl _) _).trans (hb4.mono (by simp));have HL4:Hid (Laid w4):=(HL.out.alloc _).below hb4 (Nat.le_refl _);have HF4:Hid (FLaid w4):=(HF.out.alloc _).below hb4 (Nat.le_refl _);have hs4:w.heap.size<w4.heap.size:=by have:=hb4.size;simp at this;omega
 have b1:w4.cell? ⟨w.heap.size,0,none⟩=some (.slice a1 n1 c1):=(hb4.cell (p:=⟨w.heap.size,0,none⟩) (by simp)).trans hk;have HX4:Hid (IsList Any w4 4 (IsCl Any w4 d1) x1 (.slice a1 n1 c1)):=HX1.out.laterC HW4.out;clear hb4 hk HX2;rcases HC.out with⟨k,hk0,e1⟩ | ⟨e1,hw,h0,h65⟩
 ·rw [e1];have hk1:((k:Int) == 0)=false:=beq_eq_false_iff_ne.2 (by omega);have hk2:¬ (k:Int)=0:=by omega
  have hz:(strOf []).size=0:=rfl;have hz2:strOf []=ByteArray.empty:=rfl;clear e1;go_wp2_with fail;refine (law09_awake _ HF4.out).mono ?_;rintro e w9 ⟨rfl,hb9⟩;have HB9:=Lib.hid (HW4.out.trans (hb9.mono HW4.out.size));clear hb9;go_wp2_with fail;go_ret;exact⟨rfl,HB9.out⟩
 ·rw [e1];dsimp only;obtain⟨T,hT⟩:∃ T,T=strOf (soText x1):=⟨_,rfl⟩;have hTl:T.data.toList=soText x1:=by rw [hT,strOf_data]
  have HP:Hid (programR T.data.toList=.ok x1):=by
   show _=_
   rw [hTl];exact format_back hw h0 h65
  have hts:T.size≤65536:=by rw [← len_list,hTl];exact h65
  rw [← hT];have HTS:=Lib.hid hts;clear hT hTl e1 h65 hts hw h0 HC;go_wp2_with fail;refine (par_Program T _ (by have:=HTS.out;unfold maxLen;omega) HL4.out).mono ?_;intro e w5 ho;obtain⟨hb5,a2,n2,c2,p2,er2,rfl,x2,d2,hl2,hc2⟩:=ho.form;rw [HP.out] at hc2;obtain⟨rfl,rfl,rfl⟩:er2=0∧p2=0∧x1=x2:=by
   rcases hc2 with⟨a,b,c⟩ | ⟨_,q,f,_,_,_,c⟩
   ·cases c;exact⟨a,b,rfl⟩
   ·cases c
  have HB5:Hid (Below w.heap.size w w5):=HW4.out.trans (hb5.mono HW4.out.size);have HF5:Hid (FLaid w5):=HF4.out.below hb5 (Nat.le_refl _);have hs5:w.heap.size<w5.heap.size:=by have:=hb5.size;omega
  have b2:w5.cell? ⟨w.heap.size,0,none⟩=some (.slice a1 n1 c1):=(hb5.cell (p:=⟨w.heap.size,0,none⟩) hs4).trans b1;have HX:Hid (IsList Any (w5.alloc (.cells #[.slice a2 n2 c2] 35)) 4 (IsCl Any (w5.alloc (.cells #[.slice a2 n2 c2] 35)) (d1+d2)) x1 (.slice a1 n1 c1)):=((HX4.out.laterC hb5).laterC ((Below.refl _ _).alloc (Nat.le_refl _) _)).mono fun _ _ _ h=>h.le (by omega)
  have HY:Hid (IsList Any (w5.alloc (.cells #[.slice a2 n2 c2] 35)) 4 (IsCl Any (w5.alloc (.cells #[.slice a2 n2 c2] 35)) (d1+d2)) x1 (.slice a2 n2 c2)):=(hl2.laterC ((Below.refl _ _).alloc (Nat.le_refl _) _)).mono fun _ _ _ h=>h.le (by omega)
  clear hb5 hl2 hc2 ho HX4 b1 HP;go_wp2_with fail;refine (ref_Same _ _ _ _ _ _ _ _ _ _ HX.out HY.out).mono ?_;rintro e w6 ⟨hb6,b,rfl,hbi⟩;obtain rfl:b=true:=hbi.2 rfl;have HW6:Hid (Below w5.heap.size w5 w6):=((Below.refl _ _).alloc (Nat.le_refl _) _).trans (hb6.mono (by simp));have HF6:Hid (FLaid w6):=HF5.out.below HW6.out (Nat.le_refl _);have HB6:Hid (Below w.heap.size w w6):=HB5.out.trans (HW6.out.mono HB5.out.size);clear hb6 hbi b2 hs4 hs5 HX HY;go_wp2_with fail;refine (law09_awake _ HF6.out).mono ?_;rintro e w9 ⟨rfl,hb9⟩;have HB9:=Lib.hid (HB6.out.trans (hb9.mono HB6.out.size));clear hb9;go_wp2_with fail;go_ret;exact⟨rfl,HB9.out⟩
end Go.Proofs.YtmlafcimjhnhhaaGreatDoor
