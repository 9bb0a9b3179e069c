/-
  FormatExprs, walked.
-/
import Derived.Test.YtmlafcimjhnhhaaGreatDoorJeJpBq
import Derived.Test.YtmlafcimjhnhhaaGreatDoorJeJpBt
import Derived.Test.YtmlafcimjhnhhaaGreatDoorJeJpBe
import Derived.Deep.QuietTactic
import Derived.BigQuiet
set_option linter.unusedSectionVars false
set_option linter.unusedSimpArgs false
set_option linter.unnecessarySimpa false
set_option linter.unusedVariables false
set_option linter.unusedVariables false
namespace Go.Proofs.YtmlafcimjhnhhaaGreatDoor
open Lx Ax Go.RowKit
theorem isList_one {α:Type}{w:World}{b k:Nat}{P:α→List Value→Prop}{x:α}{cs:Array Value}{T:TypeId}{fr:Nat×Nat}(hb:w.heap[b]?=some (.cells cs T fr))(hk:cs.size=k)(h:P x cs.toList):IsList Any w k P [x] (.slice (some ⟨b,0,none⟩) 1 1):=by
 refine⟨by unfold maxLen;simp,.inr ⟨b,0,1,rfl,⟨trivial,Nat.le_refl _⟩,fun i hi=>?_⟩⟩;obtain rfl:i=0:=by simpa using hi
 exact⟨cs.toList,by simp [hk],fun j hj=>by simp [World.cell?,hb],h⟩
theorem IsEx.later {w w':World}{d D:Nat}{x:Ex}{cs:List Value}(h:IsEx Any w d x cs)(hb:Below w.heap.size w w')(hd:d≤D):IsEx Any w' D x cs:=(IsEx.kept (kept_any hb) _ _ _ h).le hd
theorem alloc3 (w:World)(o1 o2 o3:Obj):Below w.heap.size w (((w.alloc o1).alloc o2).alloc o3):=(((Below.refl _ _).alloc (Nat.le_refl _) _).alloc (by simp) _).alloc (by simp;omega) _
theorem alloc_mid (w:World)(o1 o2 o3:Obj):(((w.alloc o1).alloc o2).alloc o3).heap[w.heap.size+1]?=some o2:=(((Below.refl _ _).alloc (Nat.le_refl _) _).block _ (by simp)).trans (alloc_last _ _ _ (by simp))
theorem alloc_lst (w:World)(o1 o2 o3:Obj):(((w.alloc o1).alloc o2).alloc o3).heap[w.heap.size+1+1]?=some o3:=alloc_last _ _ _ (by simp)
theorem exprF_eq (e:Ex):exprT9 e=exprF e:=by unfold exprT9 exprF fitT;rw [exP_text]
/-- What format makes of an expression: an error, or the text of a well-formed expression within the limits. -/
theorem exprF_cases {d:Nat}{e:Ex}(hB:ExB d e)(hs:exSz e≤2000000):(∃ k:Nat,k≠0∧exprF e=([],k))∨(exprF e=(exText e,0)∧WfE e∧exDepth e≤32∧(exText e).length≤65536):=by
 rw [← exprF_eq];unfold exprT9
 by_cases h0:32<exDeep e
 ·exact .inl ⟨15,by decide,by rw [if_pos h0]⟩
 ·rw [if_neg h0]
  by_cases h1:exFault e=0
  ·rw [if_neg (by simpa using h1)];unfold fitT
   by_cases h2:65536<(exText e).length
   ·exact .inl ⟨3,by decide,by rw [if_pos h2]⟩
   ·have hd:=deep_eq e (by have:=exDepth_sz e;omega);exact .inr ⟨by rw [if_neg h2],wfE_of (numB_of hB) h1,by omega,Nat.le_of_not_lt h2⟩
  ·exact .inl ⟨exFault e,h1,by rw [if_pos h1]⟩
theorem isEx_agg {M:Mp}{w:World}(hM:∀ g o,Any g→w.heap[g]?=some o→M.fz g=some o){d:Nat}{e:Ex}{k n:Int}{o m:ByteArray}{a:Option Addr}{l c:Nat}(h:IsEx Any w d e [.int .i64 k,.int .i64 n,.string o,.string m,.slice a l c]):RV M (.agg (cvE e)) (.agg #[.int .i64 k,.int .i64 n,.string o,.string m,.slice a l c]):=by
 obtain⟨h1,h2⟩:=rv_ex hM _ _ _ h;exact .agg _ _ h1 h2
theorem fmt_Expr (d:Nat)(e:Ex)(k n:Int)(o m:ByteArray)(a:Option Addr)(l c:Nat)(w:World)(h:IsEx Any w d e [.int .i64 k,.int .i64 n,.string o,.string m,.slice a l c])(hB:ExB d e)(hL:FLaid w) :
  Calls Tryz.prog 6 #[.agg #[.int .i64 k,.int .i64 n,.string o,.string m,.slice a l c]] w fun r w'=>r=.returned (.tuple #[.string (strOf (exprF e).1),.int .i64 ((exprF e).2:Nat)])∧Below w.heap.size w w':=by
 refine ((fm_Expr d e (lenE_of _ _ _ h) hB).f Heap.no 0 (snap w) w _ hL.rg (Rep.snap w) (.one (isEx_agg (fun g o _ h=>h) h))).mono ?_;rintro r w' ⟨M',r,H',nx',h1,h2,h3,_,rfl⟩;refine⟨?_,h3.below⟩;cases r <;> simp only [EndR] at h1;obtain⟨us,rfl,hs⟩:=tup_of h1;obtain⟨u0,_,rfl,r0,hs⟩:=hs.cons_inv;obtain⟨u1,_,rfl,r1,hs⟩:=hs.cons_inv;cases hs.nil_inv;rw [str_strOf r0,int_of r1]
theorem ref9_Expr (d:Nat)(e:Ex)(k n:Int)(o m:ByteArray)(a:Option Addr)(l c:Nat)(w:World)(h:IsEx Any w d e [.int .i64 k,.int .i64 n,.string o,.string m,.slice a l c])(hB:ExB d e)(hs:exSz e≤2000000) :
  Calls Tryz.prog 7 #[.agg #[.int .i64 k,.int .i64 n,.string o,.string m,.slice a l c]] w fun r w'=>r=.returned (.tuple #[.string (strOf (exprF e).1),.int .i64 ((exprF e).2:Nat)])∧Below w.heap.size w w':=by
 rw [← exprF_eq];refine ((rt_Expr d e (lenE_of _ _ _ h) hB hs).f Heap.no 0 (snap w) w _ (paG_rg _) (Rep.snap w) (.one (isEx_agg (fun g o _ h=>h) h))).mono ?_;rintro r w' ⟨M',r,H',nx',h1,h2,h3,_,rfl⟩;refine⟨?_,h3.below⟩;cases r <;> simp only [EndR] at h1;obtain⟨us,rfl,hs⟩:=tup_of h1;obtain⟨u0,_,rfl,r0,hs⟩:=hs.cons_inv;obtain⟨u1,_,rfl,r1,hs⟩:=hs.cons_inv;cases hs.nil_inv;rw [str_strOf r0,int_of r1]
set_option maxHeartbeats 8000000 in
set_option maxRecDepth 100000 in
theorem law_FormatExprs (d:Nat)(x:Ex)(k n:Int)(o m:ByteArray)(a:Option Addr)(l c:Nat)(w:World)(hx:IsEx Any w d x [.int .i64 k,.int .i64 n,.string o,.string m,.slice a l c])(hB:ExB d x)(hs:exSz x≤2000000)(hL:Laid w)(hF:FLaid w):Calls Tryz.prog 3 #[.agg #[.int .i64 k,.int .i64 n,.string o,.string m,.slice a l c]] w fun e w'=>e=.returned (.bool true)∧Below w.heap.size w w':=by
 have HL:=Lib.hid hL;have HF:=Lib.hid hF;have HB:=Lib.hid hB;have HSZ:=Lib.hid hs;have HC:=Lib.hid (exprF_cases hB hs);have HX1:=Lib.hid hx;obtain⟨O0,hO0⟩:∃ O0,O0=(Obj.cells #[.int .i64 k,.int .i64 n,.string o,.string m,.slice a l c] 24):=⟨_,rfl⟩;have HX2:Hid (IsEx Any (w.alloc O0) d x [.int .i64 k,.int .i64 n,.string o,.string m,.slice a l c]):=hx.later ((Below.refl _ _).alloc (Nat.le_refl _) _) (Nat.le_refl _);have hh:(w.alloc O0).heap[w.heap.size]?=some O0:=alloc_last _ _ _ rfl;subst hO0;have HH:=Lib.hid hh;have b0:=(blk_cell hh).1 0;have b1:=(blk_cell hh).1 1;have b2:=(blk_cell hh).1 2;have b3:=(blk_cell hh).1 3;have b4:=(blk_cell hh).1 4;simp only [List.getElem?_toArray,List.getElem?_cons_zero,List.getElem?_cons_succ] at b0 b1 b2 b3 b4;clear hL hF hB hs hx hh;go_enter Tryz.func3,Tryz.ntmps3;go_wp2_with fail;refine (fmt_Expr d x _ _ _ _ _ _ _ _ HX2.out HB.out (HF.out.alloc _)).mono ?_;rintro e w4 ⟨rfl,hb4⟩;have HW4:Hid (Below w.heap.size w w4):=((Below.refl _ _).alloc (Nat.le_refl _) _).trans (hb4.mono (by simp));have HL4:Hid (Laid w4):=(HL.out.alloc _).below hb4 (Nat.le_refl _);have HF4:Hid (FLaid w4):=(HF.out.alloc _).below hb4 (Nat.le_refl _);have hs4:w.heap.size<w4.heap.size:=by have:=hb4.size;simp at this;omega
 have hh4:=(hb4.block _ (by simp)).trans HH.out;have HX4:Hid (IsEx Any w4 d x [.int .i64 k,.int .i64 n,.string o,.string m,.slice a l c]):=HX1.out.later HW4.out (Nat.le_refl _);have HH4:=Lib.hid hh4;replace b0:=(blk_cell hh4).1 0;replace b1:=(blk_cell hh4).1 1;replace b2:=(blk_cell hh4).1 2;replace b3:=(blk_cell hh4).1 3;replace b4:=(blk_cell hh4).1 4;simp only [List.getElem?_toArray,List.getElem?_cons_zero,List.getElem?_cons_succ] at b0 b1 b2 b3 b4;clear hb4 HX2 hh4 HH;go_wp2_with fail;refine (ref9_Expr d x _ _ _ _ _ _ _ _ HX4.out HB.out HSZ.out).mono ?_;rintro e w5 ⟨rfl,hb5⟩;have HW5:Hid (Below w.heap.size w w5):=HW4.out.trans (hb5.mono HW4.out.size);have HL5:Hid (Laid w5):=HL4.out.below hb5 (Nat.le_refl _);have HF5:Hid (FLaid w5):=HF4.out.below hb5 (Nat.le_refl _);have hs5:w.heap.size<w5.heap.size:=by have:=hb5.size;omega
 have hh5:=(hb5.block _ hs4).trans HH4.out;have HX5:Hid (IsEx Any w5 d x [.int .i64 k,.int .i64 n,.string o,.string m,.slice a l c]):=HX1.out.later HW5.out (Nat.le_refl _);have HH5:=Lib.hid hh5;replace b0:=(blk_cell hh5).1 0;replace b1:=(blk_cell hh5).1 1;replace b2:=(blk_cell hh5).1 2;replace b3:=(blk_cell hh5).1 3;replace b4:=(blk_cell hh5).1 4;simp only [List.getElem?_toArray,List.getElem?_cons_zero,List.getElem?_cons_succ] at b0 b1 b2 b3 b4;clear hb5 hh5 HH4 HX4 HL4 HF4 hs4 HW4;rcases HC.out with⟨kk,hk0,e1⟩ | ⟨e1,hw,h0,h65⟩
 ·rw [e1];have hk1:((kk:Int) == 0)=false:=beq_eq_false_iff_ne.2 (by omega);have hk2:¬ (kk:Int)=0:=by omega
  have hk3:((kk:Int) != (kk:Int))=false:=by simp
  have hz:(strOf []).size=0:=rfl;have hz2:strOf []=ByteArray.empty:=rfl;clear e1;go_wp2_with fail;refine (law09_awake _ HF5.out).mono ?_;rintro e w9 ⟨rfl,hb9⟩;have HB9:=Lib.hid (HW5.out.trans (hb9.mono HW5.out.size));clear hb9;go_wp2_with fail;go_ret;exact⟨rfl,HB9.out⟩
 ·rw [e1];dsimp only;obtain⟨T,hT⟩:∃ T,T=strOf (exText x):=⟨_,rfl⟩;have hTl:T.data.toList=exText x:=by rw [hT,strOf_data]
  have HP:Hid (exprR T.data.toList=.ok x):=by
   show _=_
   rw [hTl];exact expr_text_back hw h0 h65
  have hts:T.size≤65536:=by rw [← len_list,hTl];exact h65
  rw [← hT];have HTS:=Lib.hid hts;clear hT hTl e1 h65 hts hw h0 HC;go_wp2_with fail;refine (par_Expr T _ (by have:=HTS.out;unfold maxLen;omega) HL5.out).mono ?_;rintro e w6 ⟨hb6,ho⟩;rw [HP.out] at ho;obtain⟨k2,n2,o2,m2,a2,l2,c2,rfl,d2,hx2⟩:=ho;have HX2:Hid (IsEx Any w6 d2 x [.int .i64 k2,.int .i64 n2,.string o2,.string m2,.slice a2 l2 c2]):=IsEx.sub (fun _ _ _=>trivial) _ _ _ hx2;have HW6:Hid (Below w.heap.size w w6):=HW5.out.trans (hb6.mono HW5.out.size);have HF6:Hid (FLaid w6):=HF5.out.below hb6 (Nat.le_refl _);have hs6:w.heap.size<w6.heap.size:=by have:=hb6.size;omega
  have hh6:=(hb6.block _ hs5).trans HH5.out;replace b0:=(blk_cell hh6).1 0;replace b1:=(blk_cell hh6).1 1;replace b2:=(blk_cell hh6).1 2;replace b3:=(blk_cell hh6).1 3;replace b4:=(blk_cell hh6).1 4;simp only [List.getElem?_toArray,List.getElem?_cons_zero,List.getElem?_cons_succ] at b0 b1 b2 b3 b4;have HX:Hid (IsList Any (((w6.alloc (.cells #[.int .i64 k2,.int .i64 n2,.string o2,.string m2,.slice a2 l2 c2] 24)).alloc (.cells #[.int .i64 k,.int .i64 n,.string o,.string m,.slice a l c] 24)).alloc (.cells #[.int .i64 k2,.int .i64 n2,.string o2,.string m2,.slice a2 l2 c2] 24)) 5 (IsEx Any (((w6.alloc (.cells #[.int .i64 k2,.int .i64 n2,.string o2,.string m2,.slice a2 l2 c2] 24)).alloc (.cells #[.int .i64 k,.int .i64 n,.string o,.string m,.slice a l c] 24)).alloc (.cells #[.int .i64 k2,.int .i64 n2,.string o2,.string m2,.slice a2 l2 c2] 24)) (d+d2)) [x] (.slice (some ⟨w6.heap.size+1,0,none⟩) 1 1)):=isList_one (alloc_mid _ _ _ _) rfl ((HX1.out.later HW6.out (Nat.le_refl _)).later (alloc3 _ _ _ _) (by omega));have HY:Hid (IsList Any (((w6.alloc (.cells #[.int .i64 k2,.int .i64 n2,.string o2,.string m2,.slice a2 l2 c2] 24)).alloc (.cells #[.int .i64 k,.int .i64 n,.string o,.string m,.slice a l c] 24)).alloc (.cells #[.int .i64 k2,.int .i64 n2,.string o2,.string m2,.slice a2 l2 c2] 24)) 5 (IsEx Any (((w6.alloc (.cells #[.int .i64 k2,.int .i64 n2,.string o2,.string m2,.slice a2 l2 c2] 24)).alloc (.cells #[.int .i64 k,.int .i64 n,.string o,.string m,.slice a l c] 24)).alloc (.cells #[.int .i64 k2,.int .i64 n2,.string o2,.string m2,.slice a2 l2 c2] 24)) (d+d2)) [x] (.slice (some ⟨w6.heap.size+1+1,0,none⟩) 1 1)):=isList_one (alloc_lst _ _ _ _) rfl (HX2.out.later (alloc3 _ _ _ _) (by omega));clear hb6 hx2 HP hh6 HX2 HX5 HH5 HL5 HF5 hs5 HW5;go_wp2_with fail;refine (ref_SameExprs _ _ _ _ _ _ _ _ _ _ HX.out HY.out).mono ?_;rintro e w7 ⟨hb7,bb,rfl,hbi⟩;obtain rfl:bb=true:=hbi.2 rfl;have HWc:Hid (Below w6.heap.size w6 w7):=(alloc3 _ _ _ _).trans (hb7.mono (by simp;omega));have HF7:Hid (FLaid w7):=HF6.out.below HWc.out (Nat.le_refl _);have HB7:Hid (Below w.heap.size w w7):=HW6.out.trans (HWc.out.mono HW6.out.size);clear hb7 hbi b0 b1 b2 b3 b4 hs6 HX HY HWc;go_wp2_with fail;refine (law09_awake _ HF7.out).mono ?_;rintro e w9 ⟨rfl,hb9⟩;have HB9:=Lib.hid (HB7.out.trans (hb9.mono HB7.out.size));clear hb9;go_wp2_with fail;go_ret;exact⟨rfl,HB9.out⟩
end Go.Proofs.YtmlafcimjhnhhaaGreatDoor
