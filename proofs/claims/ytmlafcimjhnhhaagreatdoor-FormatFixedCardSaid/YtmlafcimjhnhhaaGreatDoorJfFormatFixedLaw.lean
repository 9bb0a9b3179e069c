/-
  FormatFixed, walked.
-/
import Derived.Test.YtmlafcimjhnhhaaGreatDoorJfJpBq
import Derived.Test.YtmlafcimjhnhhaaGreatDoorJfFmtG
import Derived.Test.YtmlafcimjhnhhaaGreatDoorJfJpBf
import Derived.Test.YtmlafcimjhnhhaaGreatDoorJfJpBg
import Derived.Test.YtmlafcimjhnhhaaGreatDoorJfJpBe
import Derived.Deep.QuietTactic
import Derived.BigQuiet
set_option linter.unusedSectionVars false
set_option linter.unusedSimpArgs false
set_option linter.unnecessarySimpa false
set_option linter.unusedVariables false
namespace Go.Proofs.YtmlafcimjhnhhaaGreatDoor
open Lx Ax Go.RowKit
theorem progR_wf {l:List Cl}(hw:∀ c∈l,WfC c)(h0:sourceLim l=0):progR l=if 65536<(soP l).flatten.length then ([],3) else ((soP l).flatten,0):=by
 unfold progR;rw [soLim0 h0,firstLim_all fun c hc=>clFault_wf (hw c hc)];simp
theorem IsList.laterC {w w':World}{d:Nat}{l:List Cl}{v:Value}(h:IsList Any w 4 (IsCl Any w d) l v)(hb:Below w.heap.size w w'):IsList Any w' 4 (IsCl Any w' d) l v:=h.kept (kept_any hb) (by omega) fun _ _ _=>IsCl.kept (kept_any hb)
set_option maxHeartbeats 8000000 in
set_option maxRecDepth 100000 in
theorem law_FormatFixed (s:ByteArray)(w:World)(hs:s.size≤maxLen)(hL:Laid w)(hF:FLaid w):Calls Tryz.prog 5 #[.string s] w fun e w'=>e=.returned (.bool true)∧Below w.heap.size w w':=by
 have HL:=Lib.hid hL;have HF:=Lib.hid hF;have HS:=Lib.hid hs;unfold maxLen at hs;clear hL hF;go_enter Tryz.func5,Tryz.ntmps5;go_wp2_with fail;refine (par_Program s _ HS.out HL.out).mono ?_;intro e w3 ho;obtain⟨hb3,a1,n1,c1,p1,er1,rfl,x1,d1,hl1,hc1⟩:=ho.form;have HB3:=Lib.hid hb3;have HL3:Hid (Laid w3):=HL.out.below hb3 (Nat.le_refl _);have HF3:Hid (FLaid w3):=HF.out.below hb3 (Nat.le_refl _);have HX1:=Lib.hid hl1;clear hb3 hl1 ho;rcases hc1 with⟨rfl,rfl,hok⟩ | ⟨her,_⟩
 ·have HOK:=Lib.hid hok;clear hok
  by_cases h6:6000<s.size
  ·go_wp2_with fail;refine (law09_awake _ (HF3.out.alloc _)).mono ?_;rintro e w9 ⟨rfl,hb9⟩;have HB9:=Lib.hid (HB3.out.trans ((((Below.refl _ _).alloc (Nat.le_refl _) _).trans (hb9.mono (by simp))).mono HB3.out.size));clear hb9;go_wp2_with fail;go_ret;exact⟨rfl,HB9.out⟩
  ·have hk:(w3.alloc (.cells #[.slice a1 n1 c1] 35)).cell? ⟨w3.heap.size,0,none⟩=some (.slice a1 n1 c1):=by simp [go_sem]
   have HX2:Hid (IsList Any (w3.alloc (.cells #[.slice a1 n1 c1] 35)) 4 (IsCl Any (w3.alloc (.cells #[.slice a1 n1 c1] 35)) d1) x1 (.slice a1 n1 c1)):=HX1.out.laterC ((Below.refl _ _).alloc (Nat.le_refl _) _);have HW:=Lib.hid (programR_wf HOK.out);have HBB:Hid (∀ c∈x1,ClB d1 c):=show _ from fun c hc=>by obtain⟨cs,h⟩:=HX1.out.each c hc;exact clB_of h (HW.out.1 c hc)
   have HPR:=Lib.hid (progR_wf HW.out.1 HW.out.2);go_wp2_with fail;refine (fmt_Program d1 x1 _ _ _ _ HX2.out HBB.out (HF3.out.alloc _)).mono ?_;rintro e w4 ⟨rfl,hb4⟩;have HW4:Hid (Below w3.heap.size w3 w4):=((Below.refl _ _).alloc (Nat.le_refl _) _).trans (hb4.mono (by simp));have HB4:Hid (Below w.heap.size w w4):=HB3.out.trans (HW4.out.mono HB3.out.size);have HL4:Hid (Laid w4):=(HL3.out.alloc _).below hb4 (Nat.le_refl _);have HF4:Hid (FLaid w4):=(HF3.out.alloc _).below hb4 (Nat.le_refl _);have hs4:w3.heap.size<w4.heap.size:=by have:=hb4.size;simp at this;omega
   have b1:w4.cell? ⟨w3.heap.size,0,none⟩=some (.slice a1 n1 c1):=(hb4.cell (p:=⟨w3.heap.size,0,none⟩) (by simp)).trans hk;have HX4:Hid (IsList Any w4 4 (IsCl Any w4 d1) x1 (.slice a1 n1 c1)):=HX1.out.laterC HW4.out;clear hb4 hk HX2
   by_cases h65:65536<(soP x1).flatten.length
   ·have e1:progR x1=([],3):=by rw [HPR.out,if_pos h65]
    rw [e1];clear e1 HPR;have hz:(strOf []).size=0:=rfl;have hz2:strOf []=ByteArray.empty:=rfl;go_wp2_with fail;refine (law09_awake _ HF4.out).mono ?_;rintro e w9 ⟨rfl,hb9⟩;have HB9:=Lib.hid (HB4.out.trans (hb9.mono HB4.out.size));clear hb9;go_wp2_with fail;go_ret;exact⟨rfl,HB9.out⟩
   ·have e1:progR x1=((soP x1).flatten,0):=by rw [HPR.out,if_neg h65]
    have e2:=soP_fits HW.out.1 (Nat.le_of_not_lt h65);rw [e1];dsimp only;rw [e2] at e1 h65 ⊢;have HE:=Lib.hid e1;obtain⟨T,hT⟩:∃ T,T=strOf (soText x1):=⟨_,rfl⟩;have hTl:T.data.toList=soText x1:=by rw [hT,strOf_data]
    have HP:Hid (programR T.data.toList=.ok x1):=by
     show _=_
     rw [hTl];exact format_back HW.out.1 HW.out.2 (Nat.le_of_not_lt h65)
    have hts:T.size≤65536:=by rw [← len_list,hTl];exact Nat.le_of_not_lt h65
    rw [← hT];have HT:=Lib.hid hT;have HTS:=Lib.hid hts;clear hT hTl HPR HOK e1 e2 h65 hts;go_wp2_with fail;refine (par_Program T _ (by have:=HTS.out;unfold maxLen;omega) HL4.out).mono ?_;intro e w5 ho;obtain⟨hb5,a2,n2,c2,p2,er2,rfl,x2,d2,hl2,hc2⟩:=ho.form;rw [HP.out] at hc2;obtain⟨rfl,rfl,rfl⟩:er2=0∧p2=0∧x1=x2:=by
     rcases hc2 with⟨a,b,c⟩ | ⟨_,q,f,_,_,_,c⟩
     ·cases c;exact⟨a,b,rfl⟩
     ·cases c
    have HB5:Hid (Below w.heap.size w w5):=HB4.out.trans (hb5.mono HB4.out.size);have HF5:Hid (FLaid w5):=HF4.out.below hb5 (Nat.le_refl _);have hs5:w3.heap.size<w5.heap.size:=by have:=hb5.size;omega
    have b2:w5.cell? ⟨w3.heap.size,0,none⟩=some (.slice a1 n1 c1):=(hb5.cell (p:=⟨w3.heap.size,0,none⟩) hs4).trans b1;have hk5:(w5.alloc (.cells #[.slice a2 n2 c2] 35)).cell? ⟨w5.heap.size,0,none⟩=some (.slice a2 n2 c2):=by simp [go_sem]
    have HY0:=Lib.hid hl2;have HY:Hid (IsList Any (w5.alloc (.cells #[.slice a2 n2 c2] 35)) 4 (IsCl Any (w5.alloc (.cells #[.slice a2 n2 c2] 35)) d2) x1 (.slice a2 n2 c2)):=hl2.laterC ((Below.refl _ _).alloc (Nat.le_refl _) _);have HX5:Hid (IsList Any w5 4 (IsCl Any w5 d1) x1 (.slice a1 n1 c1)):=HX4.out.laterC hb5;have HBC:Hid (∀ c∈x1,ClB d2 c):=show _ from fun c hc=>by obtain⟨cs,h⟩:=HY0.out.each c hc;exact clB_of h (HW.out.1 c hc)
    clear hb5 hl2 hc2 ho b1 HP HX4;go_wp2_with fail;refine (fmt_Program d2 x1 _ _ _ _ HY.out HBC.out (HF5.out.alloc _)).mono ?_;rintro e w6 ⟨rfl,hb6⟩;rw [HE.out];dsimp only;rw [← HT.out];have HW6:Hid (Below w5.heap.size w5 w6):=((Below.refl _ _).alloc (Nat.le_refl _) _).trans (hb6.mono (by simp));have HB6:Hid (Below w.heap.size w w6):=HB5.out.trans (HW6.out.mono HB5.out.size);have HF6:Hid (FLaid w6):=(HF5.out.alloc _).below hb6 (Nat.le_refl _);have hs6:w5.heap.size<w6.heap.size:=by have:=hb6.size;simp at this;omega
    have b3:w6.cell? ⟨w3.heap.size,0,none⟩=some (.slice a1 n1 c1):=(HW6.out.cell (p:=⟨w3.heap.size,0,none⟩) hs5).trans b2;have b4:w6.cell? ⟨w5.heap.size,0,none⟩=some (.slice a2 n2 c2):=(hb6.cell (p:=⟨w5.heap.size,0,none⟩) (by simp)).trans hk5;have HX6:Hid (IsList Any w6 4 (IsCl Any w6 (d1+d2)) x1 (.slice a1 n1 c1)):=(HX5.out.laterC HW6.out).mono fun _ _ _ h=>h.le (by omega)
    have HY6:Hid (IsList Any w6 4 (IsCl Any w6 (d1+d2)) x1 (.slice a2 n2 c2)):=(HY0.out.laterC HW6.out).mono fun _ _ _ h=>h.le (by omega)
    clear hb6 b2 hk5 HE HT;go_wp2_with fail;refine (ref_Same _ _ _ _ _ _ _ _ _ _ HX6.out HY6.out).mono ?_;rintro e w7 ⟨hb7,b,rfl,hbi⟩;obtain rfl:b=true:=hbi.2 rfl;have HF7:Hid (FLaid w7):=HF6.out.below hb7 (Nat.le_refl _);have HB7:Hid (Below w.heap.size w w7):=HB6.out.trans (hb7.mono HB6.out.size);clear hb7 hbi b3 b4;go_wp2_with fail;refine (law09_awake _ HF7.out).mono ?_;rintro e w9 ⟨rfl,hb9⟩;have HB9:=Lib.hid (HB7.out.trans (hb9.mono HB7.out.size));clear hb9;go_wp2_with fail;go_ret;exact⟨rfl,HB9.out⟩
 ·go_wp2_with fail;refine (law09_awake _ (HF3.out.alloc _)).mono ?_;rintro e w9 ⟨rfl,hb9⟩;have HB9:=Lib.hid (HB3.out.trans ((((Below.refl _ _).alloc (Nat.le_refl _) _).trans (hb9.mono (by simp))).mono HB3.out.size));clear hb9;go_wp2_with fail;go_ret;exact⟨rfl,HB9.out⟩
end Go.Proofs.YtmlafcimjhnhhaaGreatDoor
