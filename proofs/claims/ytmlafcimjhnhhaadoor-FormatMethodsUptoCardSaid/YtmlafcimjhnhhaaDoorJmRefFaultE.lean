/-
  ref09's faults of expressions, walked (printed by genrfault.py).
-/
import Derived.Test.YtmlafcimjhnhhaaDoorJmJpAt
import Derived.Test.YtmlafcimjhnhhaaDoorJmJpAy
import Derived.Test.YtmlafcimjhnhhaaDoorJmJpAs
set_option linter.unusedSectionVars false
set_option linter.unusedSimpArgs false
set_option linter.unnecessarySimpa false
set_option linter.unusedVariables false
namespace Go.Proofs.YtmlafcimjhnhhaaDoor
open Lx Go.RowKit
set_option linter.unusedSimpArgs false
theorem ref_typ (t:Bytes)(w:World)(ht:t.length≤maxLen):Calls Tryd.prog 54 #[.string (strOf t)] w fun e w'=>e=.returned (.bool (isType t))∧Below w.heap.size w w':=by
 have HT:=Lib.hid ht;clear ht
 by_cases h:t=[105,110,116]
 ·have q:((strOf t).toList == [105,110,116])=true:=by rw [ByteArray.toList_eq,strOf_data,h];rfl
  have HR:Hid (isType t=true):=by show _=_;rw [h];rfl
  clear h;go_enter Tryd.func54,Tryd.ntmps54;go_wp2_with fail;go_ret;exact⟨by rw [HR.out];rfl,.refl _ _⟩
 ·have q:((strOf t).toList == [105,110,116])=false:=by rw [ByteArray.toList_eq,strOf_data,beq_eq_false_iff_ne];exact h
  have HR:Hid (isType t=isIdent t):=by show _=_;unfold isType;rw [beq_eq_false_iff_ne.2 h];rfl
  clear h;go_enter Tryd.func54,Tryd.ntmps54;go_wp2_with fail;refine (ref_Ident _ _ (by rw [strOf_size];exact HT.out)).mono ?_;rintro e w' ⟨rfl,hb⟩;have HB:=Lib.hid hb;clear hb;rw [strOf_data];go_wp2_with fail;go_ret;exact⟨by rw [HR.out];rfl,HB.out⟩
set_option maxHeartbeats 1000000 in
theorem ref_kids (k n:Int)(oo mm:Bytes)(a:Option Addr)(l c:Nat)(w:World)(hl:l≤maxLen) :
  Calls Tryd.prog 93 #[.agg #[.int .i64 k,.int .i64 n,.string (strOf oo),.string (strOf mm),.slice a l c]] w fun r w'=>r=.returned (.bool (kidsOk k l))∧Below w.heap.size w w':=by
 unfold maxLen at hl
 by_cases hk6:k=6
 ·subst hk6
  by_cases h:l=2
  ·have q:((l:Int) == 2)=true:=by rw [beq_iff_eq];omega
   have HR:Hid (kidsOk 6 l=true):=by show _=_;simp [kidsOk,h]
   clear h;go_enter Tryd.func93,Tryd.ntmps93;go_wp2_with fail;go_ret;exact⟨by rw [HR.out];rfl,((Below.refl _ _).alloc (Nat.le_refl _) _)⟩
  ·have q:((l:Int) == 2)=false:=by rw [beq_eq_false_iff_ne];omega
   have HR:Hid (kidsOk 6 l=false):=by show _=_;simp [kidsOk,h]
   clear h;go_enter Tryd.func93,Tryd.ntmps93;go_wp2_with fail;go_ret;exact⟨by rw [HR.out];rfl,((Below.refl _ _).alloc (Nat.le_refl _) _)⟩
 by_cases hk8:k=8
 ·subst hk8
  by_cases h:l=1
  ·have q:((l:Int) == 1)=true:=by rw [beq_iff_eq];omega
   have HR:Hid (kidsOk 8 l=true):=by show _=_;simp [kidsOk,h]
   clear h;go_enter Tryd.func93,Tryd.ntmps93;go_wp2_with fail;go_ret;exact⟨by rw [HR.out];rfl,((Below.refl _ _).alloc (Nat.le_refl _) _)⟩
  ·have q:((l:Int) == 1)=false:=by rw [beq_eq_false_iff_ne];omega
   have HR:Hid (kidsOk 8 l=false):=by show _=_;simp [kidsOk,h]
   clear h;go_enter Tryd.func93,Tryd.ntmps93;go_wp2_with fail;go_ret;exact⟨by rw [HR.out];rfl,((Below.refl _ _).alloc (Nat.le_refl _) _)⟩
 by_cases hk9:k=9
 ·subst hk9
  by_cases h:1≤l
  ·have q:(1:Int)≤(l:Int):=by omega
   have HR:Hid (kidsOk 9 l=true):=by show _=_;simp [kidsOk,h]
   go_enter Tryd.func93,Tryd.ntmps93;go_wp2_with fail;go_ret;exact⟨by rw [HR.out];rfl,((Below.refl _ _).alloc (Nat.le_refl _) _)⟩
  ·have q:decide ((1:Int)≤(l:Int))=false:=by rw [decide_eq_false_iff_not];omega
   have HR:Hid (kidsOk 9 l=false):=by show _=_;simp [kidsOk,h]
   go_enter Tryd.func93,Tryd.ntmps93;go_wp2_with fail;go_ret;exact⟨by rw [HR.out];rfl,((Below.refl _ _).alloc (Nat.le_refl _) _)⟩
 by_cases hk10:k=10
 ·subst hk10;have HR:Hid (kidsOk 10 l=true):=by show _=_;simp [kidsOk]
  go_enter Tryd.func93,Tryd.ntmps93;go_wp2_with fail;go_ret;exact⟨by rw [HR.out];rfl,((Below.refl _ _).alloc (Nat.le_refl _) _)⟩
 have q6:(k == 6)=false:=by rw [beq_eq_false_iff_ne];exact hk6
 have q8:(k == 8)=false:=by rw [beq_eq_false_iff_ne];exact hk8
 have q9:(k == 9)=false:=by rw [beq_eq_false_iff_ne];exact hk9
 have q10:(k == 10)=false:=by rw [beq_eq_false_iff_ne];exact hk10
 by_cases h:l=0
 ·have q:((l:Int) == 0)=true:=by rw [beq_iff_eq];omega
  have HR:Hid (kidsOk k l=true):=by show _=_;simp [kidsOk,h,hk6,hk8,hk9,hk10]
  clear h;go_enter Tryd.func93,Tryd.ntmps93;go_wp2_with fail;go_ret;exact⟨by rw [HR.out];rfl,((Below.refl _ _).alloc (Nat.le_refl _) _)⟩
 ·have q:((l:Int) == 0)=false:=by rw [beq_eq_false_iff_ne];omega
  have HR:Hid (kidsOk k l=false):=by show _=_;simp [kidsOk,h,hk6,hk8,hk9,hk10]
  clear h;go_enter Tryd.func93,Tryd.ntmps93;go_wp2_with fail;go_ret;exact⟨by rw [HR.out];rfl,((Below.refl _ _).alloc (Nat.le_refl _) _)⟩
set_option maxHeartbeats 8000000 in
theorem ref_own (k n:Int)(oo mm:Bytes)(a:Option Addr)(l c:Nat)(w:World)(hl:l≤maxLen)(hoo:oo.length≤maxLen)(hmm:mm.length≤maxLen) :
  Calls Tryd.prog 84 #[.agg #[.int .i64 k,.int .i64 n,.string (strOf oo),.string (strOf mm),.slice a l c]] w fun r w'=>r=.returned (.int .i64 (ownFault k n oo mm l:Int))∧Below w.heap.size w w':=by
 have HLL:=Lib.hid hl;have Boo:=Lib.hid hoo;have Bmm:=Lib.hid hmm;clear hl hoo hmm
 by_cases hk1:k=1
 ·subst hk1
  by_cases hoo:oo=[]
  rotate_left
  ·have eoo:=isEmpty_pos (strOf oo) (by rw [strOf_size];exact List.length_pos_iff.2 hoo);have HR:Hid (ownFault 1 n oo mm l=1):=by show _=_;simp [ownFault,namedK,hoo]
   go_enter Tryd.func84,Tryd.ntmps84;go_wp2_with fail;go_ret;exact⟨by rw [HR.out];rfl,((Below.refl _ _).alloc (Nat.le_refl _) _)⟩
  have eoo:=isEmpty_zero (strOf oo) (by rw [strOf_size,hoo];rfl);have Hoo:=Lib.hid hoo;clear hoo
  by_cases hmm:mm=[]
  rotate_left
  ·have emm:=isEmpty_pos (strOf mm) (by rw [strOf_size];exact List.length_pos_iff.2 hmm);have HR:Hid (ownFault 1 n oo mm l=1):=by show _=_;simp [ownFault,namedK,Hoo.out,hmm]
   go_enter Tryd.func84,Tryd.ntmps84;go_wp2_with fail;go_ret;exact⟨by rw [HR.out];rfl,((Below.refl _ _).alloc (Nat.le_refl _) _)⟩
  have emm:=isEmpty_zero (strOf mm) (by rw [strOf_size,hmm];rfl);have Hmm:=Lib.hid hmm;clear hmm;cases hk:kidsOk 1 l
  ·have HR:Hid (ownFault 1 n oo mm l=1):=by show _=_;simp [ownFault,namedK,Hoo.out,Hmm.out,hk]
   go_enter Tryd.func84,Tryd.ntmps84;go_wp2_with fail;refine (ref_kids _ _ _ _ _ _ _ _ HLL.out).mono ?_;rintro e w2 ⟨rfl,hb2⟩;have HB2:=Lib.hid (((Below.refl _ _).alloc (Nat.le_refl _) _).trans (hb2.mono (by simp)));clear hb2;go_wp2_with fail;go_ret;exact⟨by rw [HR.out];rfl,HB2.out⟩
  have HK:=Lib.hid hk
  by_cases hx:n=-9223372036854775808
  ·have HR:Hid (ownFault 1 n oo mm l=4):=by show _=_;simp [ownFault,namedK,Hoo.out,Hmm.out,HK.out,hx]
   have qx:(n == -9223372036854775808)=true:=by rw [beq_iff_eq];exact hx
   clear hx;go_enter Tryd.func84,Tryd.ntmps84;go_wp2_with fail;refine (ref_kids _ _ _ _ _ _ _ _ HLL.out).mono ?_;rintro e w2 ⟨rfl,hb2⟩;have HB2:=Lib.hid (((Below.refl _ _).alloc (Nat.le_refl _) _).trans (hb2.mono (by simp)));have hs2:w.heap.size<w2.heap.size:=by have:=hb2.size;simp at this;omega
   have u0:w2.cell? ⟨w.heap.size,0,none⟩=some (.int .i64 1):=(hb2.cell (p:=⟨w.heap.size,0,none⟩) (by simp)).trans (by simp [go_sem]);have u1:w2.cell? ⟨w.heap.size,1,none⟩=some (.int .i64 n):=(hb2.cell (p:=⟨w.heap.size,1,none⟩) (by simp)).trans (by simp [go_sem]);have u2:w2.cell? ⟨w.heap.size,2,none⟩=some (.string (strOf oo)):=(hb2.cell (p:=⟨w.heap.size,2,none⟩) (by simp)).trans (by simp [go_sem]);have u3:w2.cell? ⟨w.heap.size,3,none⟩=some (.string (strOf mm)):=(hb2.cell (p:=⟨w.heap.size,3,none⟩) (by simp)).trans (by simp [go_sem]);clear hb2;go_wp2_with fail;go_ret;exact⟨by rw [HR.out];rfl,HB2.out⟩
  have qx:(n == -9223372036854775808)=false:=by rw [beq_eq_false_iff_ne];exact hx
  go_enter Tryd.func84,Tryd.ntmps84;go_wp2_with fail;refine (ref_kids _ _ _ _ _ _ _ _ HLL.out).mono ?_;rintro e w2 ⟨rfl,hb2⟩;have HB2:=Lib.hid (((Below.refl _ _).alloc (Nat.le_refl _) _).trans (hb2.mono (by simp)));have hs2:w.heap.size<w2.heap.size:=by have:=hb2.size;simp at this;omega
  have u0:w2.cell? ⟨w.heap.size,0,none⟩=some (.int .i64 1):=(hb2.cell (p:=⟨w.heap.size,0,none⟩) (by simp)).trans (by simp [go_sem]);have u1:w2.cell? ⟨w.heap.size,1,none⟩=some (.int .i64 n):=(hb2.cell (p:=⟨w.heap.size,1,none⟩) (by simp)).trans (by simp [go_sem]);have u2:w2.cell? ⟨w.heap.size,2,none⟩=some (.string (strOf oo)):=(hb2.cell (p:=⟨w.heap.size,2,none⟩) (by simp)).trans (by simp [go_sem]);have u3:w2.cell? ⟨w.heap.size,3,none⟩=some (.string (strOf mm)):=(hb2.cell (p:=⟨w.heap.size,3,none⟩) (by simp)).trans (by simp [go_sem]);clear hb2;have HR:Hid (ownFault 1 n oo mm l=0):=by show _=_;simp [ownFault,namedK,Hoo.out,Hmm.out,HK.out,hx]
  go_wp2_with fail;go_ret;exact⟨by rw [HR.out];rfl,HB2.out⟩
 by_cases hk2:k=2
 ·subst hk2
  by_cases hn:n=0
  rotate_left
  ·have qn:(n != 0)=true:=by rw [bne_iff_ne];exact hn
   have HR:Hid (ownFault 2 n oo mm l=1):=by show _=_;simp [ownFault,namedK,hn]
   go_enter Tryd.func84,Tryd.ntmps84;go_wp2_with fail;go_ret;exact⟨by rw [HR.out];rfl,((Below.refl _ _).alloc (Nat.le_refl _) _)⟩
  subst hn
  by_cases hoo:oo=[]
  rotate_left
  ·have eoo:=isEmpty_pos (strOf oo) (by rw [strOf_size];exact List.length_pos_iff.2 hoo);have HR:Hid (ownFault 2 0 oo mm l=1):=by show _=_;simp [ownFault,namedK,hoo]
   go_enter Tryd.func84,Tryd.ntmps84;go_wp2_with fail;go_ret;exact⟨by rw [HR.out];rfl,((Below.refl _ _).alloc (Nat.le_refl _) _)⟩
  have eoo:=isEmpty_zero (strOf oo) (by rw [strOf_size,hoo];rfl);have Hoo:=Lib.hid hoo;clear hoo
  by_cases hmm:mm=[]
  rotate_left
  ·have emm:=isEmpty_pos (strOf mm) (by rw [strOf_size];exact List.length_pos_iff.2 hmm);have HR:Hid (ownFault 2 0 oo mm l=1):=by show _=_;simp [ownFault,namedK,Hoo.out,hmm]
   go_enter Tryd.func84,Tryd.ntmps84;go_wp2_with fail;go_ret;exact⟨by rw [HR.out];rfl,((Below.refl _ _).alloc (Nat.le_refl _) _)⟩
  have emm:=isEmpty_zero (strOf mm) (by rw [strOf_size,hmm];rfl);have Hmm:=Lib.hid hmm;clear hmm;cases hk:kidsOk 2 l
  ·have HR:Hid (ownFault 2 0 oo mm l=1):=by show _=_;simp [ownFault,namedK,Hoo.out,Hmm.out,hk]
   go_enter Tryd.func84,Tryd.ntmps84;go_wp2_with fail;refine (ref_kids _ _ _ _ _ _ _ _ HLL.out).mono ?_;rintro e w2 ⟨rfl,hb2⟩;have HB2:=Lib.hid (((Below.refl _ _).alloc (Nat.le_refl _) _).trans (hb2.mono (by simp)));clear hb2;go_wp2_with fail;go_ret;exact⟨by rw [HR.out];rfl,HB2.out⟩
  have HK:=Lib.hid hk;go_enter Tryd.func84,Tryd.ntmps84;go_wp2_with fail;refine (ref_kids _ _ _ _ _ _ _ _ HLL.out).mono ?_;rintro e w2 ⟨rfl,hb2⟩;have HB2:=Lib.hid (((Below.refl _ _).alloc (Nat.le_refl _) _).trans (hb2.mono (by simp)));have hs2:w.heap.size<w2.heap.size:=by have:=hb2.size;simp at this;omega
  have u0:w2.cell? ⟨w.heap.size,0,none⟩=some (.int .i64 2):=(hb2.cell (p:=⟨w.heap.size,0,none⟩) (by simp)).trans (by simp [go_sem]);have u1:w2.cell? ⟨w.heap.size,1,none⟩=some (.int .i64 0):=(hb2.cell (p:=⟨w.heap.size,1,none⟩) (by simp)).trans (by simp [go_sem]);have u2:w2.cell? ⟨w.heap.size,2,none⟩=some (.string (strOf oo)):=(hb2.cell (p:=⟨w.heap.size,2,none⟩) (by simp)).trans (by simp [go_sem]);have u3:w2.cell? ⟨w.heap.size,3,none⟩=some (.string (strOf mm)):=(hb2.cell (p:=⟨w.heap.size,3,none⟩) (by simp)).trans (by simp [go_sem]);clear hb2;have HR:Hid (ownFault 2 0 oo mm l=0):=by show _=_;simp [ownFault,namedK,Hoo.out,Hmm.out,HK.out]
  go_wp2_with fail;go_ret;exact⟨by rw [HR.out];rfl,HB2.out⟩
 by_cases hk3:k=3
 ·subst hk3
  by_cases hn:n=0
  rotate_left
  ·have qn:(n != 0)=true:=by rw [bne_iff_ne];exact hn
   have HR:Hid (ownFault 3 n oo mm l=1):=by show _=_;simp [ownFault,namedK,hn]
   go_enter Tryd.func84,Tryd.ntmps84;go_wp2_with fail;go_ret;exact⟨by rw [HR.out];rfl,((Below.refl _ _).alloc (Nat.le_refl _) _)⟩
  subst hn
  by_cases hoo:oo=[]
  rotate_left
  ·have eoo:=isEmpty_pos (strOf oo) (by rw [strOf_size];exact List.length_pos_iff.2 hoo);have HR:Hid (ownFault 3 0 oo mm l=1):=by show _=_;simp [ownFault,namedK,hoo]
   go_enter Tryd.func84,Tryd.ntmps84;go_wp2_with fail;go_ret;exact⟨by rw [HR.out];rfl,((Below.refl _ _).alloc (Nat.le_refl _) _)⟩
  have eoo:=isEmpty_zero (strOf oo) (by rw [strOf_size,hoo];rfl);have Hoo:=Lib.hid hoo;clear hoo;cases hk:kidsOk 3 l
  ·have HR:Hid (ownFault 3 0 oo mm l=1):=by show _=_;simp [ownFault,namedK,Hoo.out,hk]
   go_enter Tryd.func84,Tryd.ntmps84;go_wp2_with fail;refine (ref_kids _ _ _ _ _ _ _ _ HLL.out).mono ?_;rintro e w2 ⟨rfl,hb2⟩;have HB2:=Lib.hid (((Below.refl _ _).alloc (Nat.le_refl _) _).trans (hb2.mono (by simp)));clear hb2;go_wp2_with fail;go_ret;exact⟨by rw [HR.out];rfl,HB2.out⟩
  have HK:=Lib.hid hk;go_enter Tryd.func84,Tryd.ntmps84;go_wp2_with fail;refine (ref_kids _ _ _ _ _ _ _ _ HLL.out).mono ?_;rintro e w2 ⟨rfl,hb2⟩;have HB2:=Lib.hid (((Below.refl _ _).alloc (Nat.le_refl _) _).trans (hb2.mono (by simp)));have hs2:w.heap.size<w2.heap.size:=by have:=hb2.size;simp at this;omega
  have u0:w2.cell? ⟨w.heap.size,0,none⟩=some (.int .i64 3):=(hb2.cell (p:=⟨w.heap.size,0,none⟩) (by simp)).trans (by simp [go_sem]);have u1:w2.cell? ⟨w.heap.size,1,none⟩=some (.int .i64 0):=(hb2.cell (p:=⟨w.heap.size,1,none⟩) (by simp)).trans (by simp [go_sem]);have u2:w2.cell? ⟨w.heap.size,2,none⟩=some (.string (strOf oo)):=(hb2.cell (p:=⟨w.heap.size,2,none⟩) (by simp)).trans (by simp [go_sem]);have u3:w2.cell? ⟨w.heap.size,3,none⟩=some (.string (strOf mm)):=(hb2.cell (p:=⟨w.heap.size,3,none⟩) (by simp)).trans (by simp [go_sem]);clear hb2;cases hImm:isIdent mm
  ·have HR:Hid (ownFault 3 0 oo mm l=5):=by show _=_;simp [ownFault,namedK,Hoo.out,HK.out,hImm]
   rw [← strOf_data mm] at hImm;go_wp2_with fail;refine (ref_Ident _ _ (by rw [strOf_size];exact Bmm.out)).mono ?_;rintro e w9 ⟨rfl,hb9⟩;have HB9:=Lib.hid (HB2.out.trans (hb9.mono HB2.out.size));clear hb9;go_wp2_with fail;go_ret;exact⟨by rw [HR.out];rfl,HB9.out⟩
  have HImm:=Lib.hid hImm;rw [← strOf_data mm] at hImm;go_wp2_with fail;refine (ref_Ident _ _ (by rw [strOf_size];exact Bmm.out)).mono ?_;rintro e w3 ⟨rfl,hb9⟩;have HB3:=Lib.hid (HB2.out.trans (hb9.mono HB2.out.size));have hs3:w.heap.size<w3.heap.size:=Nat.lt_of_lt_of_le hs2 hb9.size;have t3:w3.cell? ⟨w.heap.size,3,none⟩=some (.string (strOf mm)):=(hb9.cell (p:=⟨w.heap.size,3,none⟩) hs2).trans u3;clear hb9;have HR:Hid (ownFault 3 0 oo mm l=0):=by show _=_;simp [ownFault,namedK,Hoo.out,HK.out,HImm.out]
  go_wp2_with fail;go_ret;exact⟨by rw [HR.out];rfl,HB3.out⟩
 by_cases hk4:k=4
 ·subst hk4
  by_cases hn:n=0
  rotate_left
  ·have qn:(n != 0)=true:=by rw [bne_iff_ne];exact hn
   have HR:Hid (ownFault 4 n oo mm l=1):=by show _=_;simp [ownFault,namedK,hn]
   go_enter Tryd.func84,Tryd.ntmps84;go_wp2_with fail;go_ret;exact⟨by rw [HR.out];rfl,((Below.refl _ _).alloc (Nat.le_refl _) _)⟩
  subst hn
  by_cases hoo:oo=[]
  rotate_left
  ·have eoo:=isEmpty_pos (strOf oo) (by rw [strOf_size];exact List.length_pos_iff.2 hoo);have HR:Hid (ownFault 4 0 oo mm l=1):=by show _=_;simp [ownFault,namedK,hoo]
   go_enter Tryd.func84,Tryd.ntmps84;go_wp2_with fail;go_ret;exact⟨by rw [HR.out];rfl,((Below.refl _ _).alloc (Nat.le_refl _) _)⟩
  have eoo:=isEmpty_zero (strOf oo) (by rw [strOf_size,hoo];rfl);have Hoo:=Lib.hid hoo;clear hoo
  by_cases hmm:mm=[]
  rotate_left
  ·have emm:=isEmpty_pos (strOf mm) (by rw [strOf_size];exact List.length_pos_iff.2 hmm);have HR:Hid (ownFault 4 0 oo mm l=1):=by show _=_;simp [ownFault,namedK,Hoo.out,hmm]
   go_enter Tryd.func84,Tryd.ntmps84;go_wp2_with fail;go_ret;exact⟨by rw [HR.out];rfl,((Below.refl _ _).alloc (Nat.le_refl _) _)⟩
  have emm:=isEmpty_zero (strOf mm) (by rw [strOf_size,hmm];rfl);have Hmm:=Lib.hid hmm;clear hmm;cases hk:kidsOk 4 l
  ·have HR:Hid (ownFault 4 0 oo mm l=1):=by show _=_;simp [ownFault,namedK,Hoo.out,Hmm.out,hk]
   go_enter Tryd.func84,Tryd.ntmps84;go_wp2_with fail;refine (ref_kids _ _ _ _ _ _ _ _ HLL.out).mono ?_;rintro e w2 ⟨rfl,hb2⟩;have HB2:=Lib.hid (((Below.refl _ _).alloc (Nat.le_refl _) _).trans (hb2.mono (by simp)));clear hb2;go_wp2_with fail;go_ret;exact⟨by rw [HR.out];rfl,HB2.out⟩
  have HK:=Lib.hid hk;go_enter Tryd.func84,Tryd.ntmps84;go_wp2_with fail;refine (ref_kids _ _ _ _ _ _ _ _ HLL.out).mono ?_;rintro e w2 ⟨rfl,hb2⟩;have HB2:=Lib.hid (((Below.refl _ _).alloc (Nat.le_refl _) _).trans (hb2.mono (by simp)));have hs2:w.heap.size<w2.heap.size:=by have:=hb2.size;simp at this;omega
  have u0:w2.cell? ⟨w.heap.size,0,none⟩=some (.int .i64 4):=(hb2.cell (p:=⟨w.heap.size,0,none⟩) (by simp)).trans (by simp [go_sem]);have u1:w2.cell? ⟨w.heap.size,1,none⟩=some (.int .i64 0):=(hb2.cell (p:=⟨w.heap.size,1,none⟩) (by simp)).trans (by simp [go_sem]);have u2:w2.cell? ⟨w.heap.size,2,none⟩=some (.string (strOf oo)):=(hb2.cell (p:=⟨w.heap.size,2,none⟩) (by simp)).trans (by simp [go_sem]);have u3:w2.cell? ⟨w.heap.size,3,none⟩=some (.string (strOf mm)):=(hb2.cell (p:=⟨w.heap.size,3,none⟩) (by simp)).trans (by simp [go_sem]);clear hb2;have HR:Hid (ownFault 4 0 oo mm l=0):=by show _=_;simp [ownFault,namedK,Hoo.out,Hmm.out,HK.out]
  go_wp2_with fail;go_ret;exact⟨by rw [HR.out];rfl,HB2.out⟩
 by_cases hk5:k=5
 ·subst hk5
  by_cases hn:n=0
  rotate_left
  ·have qn:(n != 0)=true:=by rw [bne_iff_ne];exact hn
   have HR:Hid (ownFault 5 n oo mm l=1):=by show _=_;simp [ownFault,namedK,hn]
   go_enter Tryd.func84,Tryd.ntmps84;go_wp2_with fail;go_ret;exact⟨by rw [HR.out];rfl,((Below.refl _ _).alloc (Nat.le_refl _) _)⟩
  subst hn
  by_cases hoo:oo=[]
  rotate_left
  ·have eoo:=isEmpty_pos (strOf oo) (by rw [strOf_size];exact List.length_pos_iff.2 hoo);have HR:Hid (ownFault 5 0 oo mm l=1):=by show _=_;simp [ownFault,namedK,hoo]
   go_enter Tryd.func84,Tryd.ntmps84;go_wp2_with fail;go_ret;exact⟨by rw [HR.out];rfl,((Below.refl _ _).alloc (Nat.le_refl _) _)⟩
  have eoo:=isEmpty_zero (strOf oo) (by rw [strOf_size,hoo];rfl);have Hoo:=Lib.hid hoo;clear hoo
  by_cases hmm:mm=[]
  rotate_left
  ·have emm:=isEmpty_pos (strOf mm) (by rw [strOf_size];exact List.length_pos_iff.2 hmm);have HR:Hid (ownFault 5 0 oo mm l=1):=by show _=_;simp [ownFault,namedK,Hoo.out,hmm]
   go_enter Tryd.func84,Tryd.ntmps84;go_wp2_with fail;go_ret;exact⟨by rw [HR.out];rfl,((Below.refl _ _).alloc (Nat.le_refl _) _)⟩
  have emm:=isEmpty_zero (strOf mm) (by rw [strOf_size,hmm];rfl);have Hmm:=Lib.hid hmm;clear hmm;cases hk:kidsOk 5 l
  ·have HR:Hid (ownFault 5 0 oo mm l=1):=by show _=_;simp [ownFault,namedK,Hoo.out,Hmm.out,hk]
   go_enter Tryd.func84,Tryd.ntmps84;go_wp2_with fail;refine (ref_kids _ _ _ _ _ _ _ _ HLL.out).mono ?_;rintro e w2 ⟨rfl,hb2⟩;have HB2:=Lib.hid (((Below.refl _ _).alloc (Nat.le_refl _) _).trans (hb2.mono (by simp)));clear hb2;go_wp2_with fail;go_ret;exact⟨by rw [HR.out];rfl,HB2.out⟩
  have HK:=Lib.hid hk;go_enter Tryd.func84,Tryd.ntmps84;go_wp2_with fail;refine (ref_kids _ _ _ _ _ _ _ _ HLL.out).mono ?_;rintro e w2 ⟨rfl,hb2⟩;have HB2:=Lib.hid (((Below.refl _ _).alloc (Nat.le_refl _) _).trans (hb2.mono (by simp)));have hs2:w.heap.size<w2.heap.size:=by have:=hb2.size;simp at this;omega
  have u0:w2.cell? ⟨w.heap.size,0,none⟩=some (.int .i64 5):=(hb2.cell (p:=⟨w.heap.size,0,none⟩) (by simp)).trans (by simp [go_sem]);have u1:w2.cell? ⟨w.heap.size,1,none⟩=some (.int .i64 0):=(hb2.cell (p:=⟨w.heap.size,1,none⟩) (by simp)).trans (by simp [go_sem]);have u2:w2.cell? ⟨w.heap.size,2,none⟩=some (.string (strOf oo)):=(hb2.cell (p:=⟨w.heap.size,2,none⟩) (by simp)).trans (by simp [go_sem]);have u3:w2.cell? ⟨w.heap.size,3,none⟩=some (.string (strOf mm)):=(hb2.cell (p:=⟨w.heap.size,3,none⟩) (by simp)).trans (by simp [go_sem]);clear hb2;have HR:Hid (ownFault 5 0 oo mm l=0):=by show _=_;simp [ownFault,namedK,Hoo.out,Hmm.out,HK.out]
  go_wp2_with fail;go_ret;exact⟨by rw [HR.out];rfl,HB2.out⟩
 by_cases hk6:k=6
 ·subst hk6
  by_cases h1:n<1
  ·skip
   have HR:Hid (ownFault 6 n oo mm l=12):=by show _=_;simp [ownFault,namedK,h1]
   go_enter Tryd.func84,Tryd.ntmps84;go_wp2_with fail;go_ret;exact⟨by rw [HR.out];rfl,((Below.refl _ _).alloc (Nat.le_refl _) _)⟩
  by_cases h5:5<n
  ·skip
   have HR:Hid (ownFault 6 n oo mm l=12):=by show _=_;simp [ownFault,namedK,h1,h5]
   go_enter Tryd.func84,Tryd.ntmps84;go_wp2_with fail;go_ret;exact⟨by rw [HR.out];rfl,((Below.refl _ _).alloc (Nat.le_refl _) _)⟩
  by_cases hoo:oo=[]
  rotate_left
  ·have eoo:=isEmpty_pos (strOf oo) (by rw [strOf_size];exact List.length_pos_iff.2 hoo);have HR:Hid (ownFault 6 n oo mm l=1):=by show _=_;simp [ownFault,namedK,h1,h5,hoo]
   go_enter Tryd.func84,Tryd.ntmps84;go_wp2_with fail;go_ret;exact⟨by rw [HR.out];rfl,((Below.refl _ _).alloc (Nat.le_refl _) _)⟩
  have eoo:=isEmpty_zero (strOf oo) (by rw [strOf_size,hoo];rfl);have Hoo:=Lib.hid hoo;clear hoo
  by_cases hmm:mm=[]
  rotate_left
  ·have emm:=isEmpty_pos (strOf mm) (by rw [strOf_size];exact List.length_pos_iff.2 hmm);have HR:Hid (ownFault 6 n oo mm l=1):=by show _=_;simp [ownFault,namedK,h1,h5,Hoo.out,hmm]
   go_enter Tryd.func84,Tryd.ntmps84;go_wp2_with fail;go_ret;exact⟨by rw [HR.out];rfl,((Below.refl _ _).alloc (Nat.le_refl _) _)⟩
  have emm:=isEmpty_zero (strOf mm) (by rw [strOf_size,hmm];rfl);have Hmm:=Lib.hid hmm;clear hmm;cases hk:kidsOk 6 l
  ·have HR:Hid (ownFault 6 n oo mm l=1):=by show _=_;simp [ownFault,namedK,h1,h5,Hoo.out,Hmm.out,hk]
   go_enter Tryd.func84,Tryd.ntmps84;go_wp2_with fail;refine (ref_kids _ _ _ _ _ _ _ _ HLL.out).mono ?_;rintro e w2 ⟨rfl,hb2⟩;have HB2:=Lib.hid (((Below.refl _ _).alloc (Nat.le_refl _) _).trans (hb2.mono (by simp)));clear hb2;go_wp2_with fail;go_ret;exact⟨by rw [HR.out];rfl,HB2.out⟩
  have HK:=Lib.hid hk;go_enter Tryd.func84,Tryd.ntmps84;go_wp2_with fail;refine (ref_kids _ _ _ _ _ _ _ _ HLL.out).mono ?_;rintro e w2 ⟨rfl,hb2⟩;have HB2:=Lib.hid (((Below.refl _ _).alloc (Nat.le_refl _) _).trans (hb2.mono (by simp)));have hs2:w.heap.size<w2.heap.size:=by have:=hb2.size;simp at this;omega
  have u0:w2.cell? ⟨w.heap.size,0,none⟩=some (.int .i64 6):=(hb2.cell (p:=⟨w.heap.size,0,none⟩) (by simp)).trans (by simp [go_sem]);have u1:w2.cell? ⟨w.heap.size,1,none⟩=some (.int .i64 n):=(hb2.cell (p:=⟨w.heap.size,1,none⟩) (by simp)).trans (by simp [go_sem]);have u2:w2.cell? ⟨w.heap.size,2,none⟩=some (.string (strOf oo)):=(hb2.cell (p:=⟨w.heap.size,2,none⟩) (by simp)).trans (by simp [go_sem]);have u3:w2.cell? ⟨w.heap.size,3,none⟩=some (.string (strOf mm)):=(hb2.cell (p:=⟨w.heap.size,3,none⟩) (by simp)).trans (by simp [go_sem]);clear hb2;have HR:Hid (ownFault 6 n oo mm l=0):=by show _=_;simp [ownFault,namedK,h1,h5,Hoo.out,Hmm.out,HK.out]
  go_wp2_with fail;go_ret;exact⟨by rw [HR.out];rfl,HB2.out⟩
 by_cases hk7:k=7
 ·subst hk7
  by_cases hn:n=0
  rotate_left
  ·have qn:(n != 0)=true:=by rw [bne_iff_ne];exact hn
   have HR:Hid (ownFault 7 n oo mm l=1):=by show _=_;simp [ownFault,namedK,hn]
   go_enter Tryd.func84,Tryd.ntmps84;go_wp2_with fail;go_ret;exact⟨by rw [HR.out];rfl,((Below.refl _ _).alloc (Nat.le_refl _) _)⟩
  subst hn
  by_cases hoo:oo=[]
  rotate_left
  ·have eoo:=isEmpty_pos (strOf oo) (by rw [strOf_size];exact List.length_pos_iff.2 hoo);have HR:Hid (ownFault 7 0 oo mm l=1):=by show _=_;simp [ownFault,namedK,hoo]
   go_enter Tryd.func84,Tryd.ntmps84;go_wp2_with fail;go_ret;exact⟨by rw [HR.out];rfl,((Below.refl _ _).alloc (Nat.le_refl _) _)⟩
  have eoo:=isEmpty_zero (strOf oo) (by rw [strOf_size,hoo];rfl);have Hoo:=Lib.hid hoo;clear hoo;cases hk:kidsOk 7 l
  ·have HR:Hid (ownFault 7 0 oo mm l=1):=by show _=_;simp [ownFault,namedK,Hoo.out,hk]
   go_enter Tryd.func84,Tryd.ntmps84;go_wp2_with fail;refine (ref_kids _ _ _ _ _ _ _ _ HLL.out).mono ?_;rintro e w2 ⟨rfl,hb2⟩;have HB2:=Lib.hid (((Below.refl _ _).alloc (Nat.le_refl _) _).trans (hb2.mono (by simp)));clear hb2;go_wp2_with fail;go_ret;exact⟨by rw [HR.out];rfl,HB2.out⟩
  have HK:=Lib.hid hk;go_enter Tryd.func84,Tryd.ntmps84;go_wp2_with fail;refine (ref_kids _ _ _ _ _ _ _ _ HLL.out).mono ?_;rintro e w2 ⟨rfl,hb2⟩;have HB2:=Lib.hid (((Below.refl _ _).alloc (Nat.le_refl _) _).trans (hb2.mono (by simp)));have hs2:w.heap.size<w2.heap.size:=by have:=hb2.size;simp at this;omega
  have u0:w2.cell? ⟨w.heap.size,0,none⟩=some (.int .i64 7):=(hb2.cell (p:=⟨w.heap.size,0,none⟩) (by simp)).trans (by simp [go_sem]);have u1:w2.cell? ⟨w.heap.size,1,none⟩=some (.int .i64 0):=(hb2.cell (p:=⟨w.heap.size,1,none⟩) (by simp)).trans (by simp [go_sem]);have u2:w2.cell? ⟨w.heap.size,2,none⟩=some (.string (strOf oo)):=(hb2.cell (p:=⟨w.heap.size,2,none⟩) (by simp)).trans (by simp [go_sem]);have u3:w2.cell? ⟨w.heap.size,3,none⟩=some (.string (strOf mm)):=(hb2.cell (p:=⟨w.heap.size,3,none⟩) (by simp)).trans (by simp [go_sem]);clear hb2;cases hImm:isIdent mm
  ·have HR:Hid (ownFault 7 0 oo mm l=5):=by show _=_;simp [ownFault,namedK,Hoo.out,HK.out,hImm]
   rw [← strOf_data mm] at hImm;go_wp2_with fail;refine (ref_Ident _ _ (by rw [strOf_size];exact Bmm.out)).mono ?_;rintro e w9 ⟨rfl,hb9⟩;have HB9:=Lib.hid (HB2.out.trans (hb9.mono HB2.out.size));clear hb9;go_wp2_with fail;go_ret;exact⟨by rw [HR.out];rfl,HB9.out⟩
  have HImm:=Lib.hid hImm;rw [← strOf_data mm] at hImm;go_wp2_with fail;refine (ref_Ident _ _ (by rw [strOf_size];exact Bmm.out)).mono ?_;rintro e w3 ⟨rfl,hb9⟩;have HB3:=Lib.hid (HB2.out.trans (hb9.mono HB2.out.size));have hs3:w.heap.size<w3.heap.size:=Nat.lt_of_lt_of_le hs2 hb9.size;have t3:w3.cell? ⟨w.heap.size,3,none⟩=some (.string (strOf mm)):=(hb9.cell (p:=⟨w.heap.size,3,none⟩) hs2).trans u3;clear hb9;have HR:Hid (ownFault 7 0 oo mm l=0):=by show _=_;simp [ownFault,namedK,Hoo.out,HK.out,HImm.out]
  go_wp2_with fail;go_ret;exact⟨by rw [HR.out];rfl,HB3.out⟩
 by_cases hk8:k=8
 ·subst hk8
  by_cases hn:n=0
  rotate_left
  ·have qn:(n != 0)=true:=by rw [bne_iff_ne];exact hn
   have HR:Hid (ownFault 8 n oo mm l=1):=by show _=_;simp [ownFault,namedK,hn]
   go_enter Tryd.func84,Tryd.ntmps84;go_wp2_with fail;go_ret;exact⟨by rw [HR.out];rfl,((Below.refl _ _).alloc (Nat.le_refl _) _)⟩
  subst hn
  by_cases hoo:oo=[]
  rotate_left
  ·have eoo:=isEmpty_pos (strOf oo) (by rw [strOf_size];exact List.length_pos_iff.2 hoo);have HR:Hid (ownFault 8 0 oo mm l=1):=by show _=_;simp [ownFault,namedK,hoo]
   go_enter Tryd.func84,Tryd.ntmps84;go_wp2_with fail;go_ret;exact⟨by rw [HR.out];rfl,((Below.refl _ _).alloc (Nat.le_refl _) _)⟩
  have eoo:=isEmpty_zero (strOf oo) (by rw [strOf_size,hoo];rfl);have Hoo:=Lib.hid hoo;clear hoo;cases hk:kidsOk 8 l
  ·have HR:Hid (ownFault 8 0 oo mm l=1):=by show _=_;simp [ownFault,namedK,Hoo.out,hk]
   go_enter Tryd.func84,Tryd.ntmps84;go_wp2_with fail;refine (ref_kids _ _ _ _ _ _ _ _ HLL.out).mono ?_;rintro e w2 ⟨rfl,hb2⟩;have HB2:=Lib.hid (((Below.refl _ _).alloc (Nat.le_refl _) _).trans (hb2.mono (by simp)));clear hb2;go_wp2_with fail;go_ret;exact⟨by rw [HR.out];rfl,HB2.out⟩
  have HK:=Lib.hid hk;go_enter Tryd.func84,Tryd.ntmps84;go_wp2_with fail;refine (ref_kids _ _ _ _ _ _ _ _ HLL.out).mono ?_;rintro e w2 ⟨rfl,hb2⟩;have HB2:=Lib.hid (((Below.refl _ _).alloc (Nat.le_refl _) _).trans (hb2.mono (by simp)));have hs2:w.heap.size<w2.heap.size:=by have:=hb2.size;simp at this;omega
  have u0:w2.cell? ⟨w.heap.size,0,none⟩=some (.int .i64 8):=(hb2.cell (p:=⟨w.heap.size,0,none⟩) (by simp)).trans (by simp [go_sem]);have u1:w2.cell? ⟨w.heap.size,1,none⟩=some (.int .i64 0):=(hb2.cell (p:=⟨w.heap.size,1,none⟩) (by simp)).trans (by simp [go_sem]);have u2:w2.cell? ⟨w.heap.size,2,none⟩=some (.string (strOf oo)):=(hb2.cell (p:=⟨w.heap.size,2,none⟩) (by simp)).trans (by simp [go_sem]);have u3:w2.cell? ⟨w.heap.size,3,none⟩=some (.string (strOf mm)):=(hb2.cell (p:=⟨w.heap.size,3,none⟩) (by simp)).trans (by simp [go_sem]);clear hb2;cases hImm:isIdent mm
  ·have HR:Hid (ownFault 8 0 oo mm l=5):=by show _=_;simp [ownFault,namedK,Hoo.out,HK.out,hImm]
   rw [← strOf_data mm] at hImm;go_wp2_with fail;refine (ref_Ident _ _ (by rw [strOf_size];exact Bmm.out)).mono ?_;rintro e w9 ⟨rfl,hb9⟩;have HB9:=Lib.hid (HB2.out.trans (hb9.mono HB2.out.size));clear hb9;go_wp2_with fail;go_ret;exact⟨by rw [HR.out];rfl,HB9.out⟩
  have HImm:=Lib.hid hImm;rw [← strOf_data mm] at hImm;go_wp2_with fail;refine (ref_Ident _ _ (by rw [strOf_size];exact Bmm.out)).mono ?_;rintro e w3 ⟨rfl,hb9⟩;have HB3:=Lib.hid (HB2.out.trans (hb9.mono HB2.out.size));have hs3:w.heap.size<w3.heap.size:=Nat.lt_of_lt_of_le hs2 hb9.size;have t3:w3.cell? ⟨w.heap.size,3,none⟩=some (.string (strOf mm)):=(hb9.cell (p:=⟨w.heap.size,3,none⟩) hs2).trans u3;clear hb9;have HR:Hid (ownFault 8 0 oo mm l=0):=by show _=_;simp [ownFault,namedK,Hoo.out,HK.out,HImm.out]
  go_wp2_with fail;go_ret;exact⟨by rw [HR.out];rfl,HB3.out⟩
 by_cases hk9:k=9
 ·subst hk9
  by_cases hn:n=0
  rotate_left
  ·have qn:(n != 0)=true:=by rw [bne_iff_ne];exact hn
   have HR:Hid (ownFault 9 n oo mm l=1):=by show _=_;simp [ownFault,namedK,hn]
   go_enter Tryd.func84,Tryd.ntmps84;go_wp2_with fail;go_ret;exact⟨by rw [HR.out];rfl,((Below.refl _ _).alloc (Nat.le_refl _) _)⟩
  subst hn
  by_cases hoo:oo=[]
  rotate_left
  ·have eoo:=isEmpty_pos (strOf oo) (by rw [strOf_size];exact List.length_pos_iff.2 hoo);have HR:Hid (ownFault 9 0 oo mm l=1):=by show _=_;simp [ownFault,namedK,hoo]
   go_enter Tryd.func84,Tryd.ntmps84;go_wp2_with fail;go_ret;exact⟨by rw [HR.out];rfl,((Below.refl _ _).alloc (Nat.le_refl _) _)⟩
  have eoo:=isEmpty_zero (strOf oo) (by rw [strOf_size,hoo];rfl);have Hoo:=Lib.hid hoo;clear hoo;cases hk:kidsOk 9 l
  ·have HR:Hid (ownFault 9 0 oo mm l=1):=by show _=_;simp [ownFault,namedK,Hoo.out,hk]
   go_enter Tryd.func84,Tryd.ntmps84;go_wp2_with fail;refine (ref_kids _ _ _ _ _ _ _ _ HLL.out).mono ?_;rintro e w2 ⟨rfl,hb2⟩;have HB2:=Lib.hid (((Below.refl _ _).alloc (Nat.le_refl _) _).trans (hb2.mono (by simp)));clear hb2;go_wp2_with fail;go_ret;exact⟨by rw [HR.out];rfl,HB2.out⟩
  have HK:=Lib.hid hk;go_enter Tryd.func84,Tryd.ntmps84;go_wp2_with fail;refine (ref_kids _ _ _ _ _ _ _ _ HLL.out).mono ?_;rintro e w2 ⟨rfl,hb2⟩;have HB2:=Lib.hid (((Below.refl _ _).alloc (Nat.le_refl _) _).trans (hb2.mono (by simp)));have hs2:w.heap.size<w2.heap.size:=by have:=hb2.size;simp at this;omega
  have u0:w2.cell? ⟨w.heap.size,0,none⟩=some (.int .i64 9):=(hb2.cell (p:=⟨w.heap.size,0,none⟩) (by simp)).trans (by simp [go_sem]);have u1:w2.cell? ⟨w.heap.size,1,none⟩=some (.int .i64 0):=(hb2.cell (p:=⟨w.heap.size,1,none⟩) (by simp)).trans (by simp [go_sem]);have u2:w2.cell? ⟨w.heap.size,2,none⟩=some (.string (strOf oo)):=(hb2.cell (p:=⟨w.heap.size,2,none⟩) (by simp)).trans (by simp [go_sem]);have u3:w2.cell? ⟨w.heap.size,3,none⟩=some (.string (strOf mm)):=(hb2.cell (p:=⟨w.heap.size,3,none⟩) (by simp)).trans (by simp [go_sem]);clear hb2;cases hImm:isIdent mm
  ·have HR:Hid (ownFault 9 0 oo mm l=5):=by show _=_;simp [ownFault,namedK,Hoo.out,HK.out,hImm]
   rw [← strOf_data mm] at hImm;go_wp2_with fail;refine (ref_Ident _ _ (by rw [strOf_size];exact Bmm.out)).mono ?_;rintro e w9 ⟨rfl,hb9⟩;have HB9:=Lib.hid (HB2.out.trans (hb9.mono HB2.out.size));clear hb9;go_wp2_with fail;go_ret;exact⟨by rw [HR.out];rfl,HB9.out⟩
  have HImm:=Lib.hid hImm;rw [← strOf_data mm] at hImm;go_wp2_with fail;refine (ref_Ident _ _ (by rw [strOf_size];exact Bmm.out)).mono ?_;rintro e w3 ⟨rfl,hb9⟩;have HB3:=Lib.hid (HB2.out.trans (hb9.mono HB2.out.size));have hs3:w.heap.size<w3.heap.size:=Nat.lt_of_lt_of_le hs2 hb9.size;have t3:w3.cell? ⟨w.heap.size,3,none⟩=some (.string (strOf mm)):=(hb9.cell (p:=⟨w.heap.size,3,none⟩) hs2).trans u3;clear hb9;have HR:Hid (ownFault 9 0 oo mm l=0):=by show _=_;simp [ownFault,namedK,Hoo.out,HK.out,HImm.out]
  go_wp2_with fail;go_ret;exact⟨by rw [HR.out];rfl,HB3.out⟩
 by_cases hk10:k=10
 ·subst hk10
  by_cases hn:n=0
  rotate_left
  ·have qn:(n != 0)=true:=by rw [bne_iff_ne];exact hn
   have HR:Hid (ownFault 10 n oo mm l=1):=by show _=_;simp [ownFault,namedK,hn]
   go_enter Tryd.func84,Tryd.ntmps84;go_wp2_with fail;go_ret;exact⟨by rw [HR.out];rfl,((Below.refl _ _).alloc (Nat.le_refl _) _)⟩
  subst hn;cases hk:kidsOk 10 l
  ·have HR:Hid (ownFault 10 0 oo mm l=1):=by show _=_;simp [ownFault,namedK,hk]
   go_enter Tryd.func84,Tryd.ntmps84;go_wp2_with fail;refine (ref_kids _ _ _ _ _ _ _ _ HLL.out).mono ?_;rintro e w2 ⟨rfl,hb2⟩;have HB2:=Lib.hid (((Below.refl _ _).alloc (Nat.le_refl _) _).trans (hb2.mono (by simp)));clear hb2;go_wp2_with fail;go_ret;exact⟨by rw [HR.out];rfl,HB2.out⟩
  have HK:=Lib.hid hk;go_enter Tryd.func84,Tryd.ntmps84;go_wp2_with fail;refine (ref_kids _ _ _ _ _ _ _ _ HLL.out).mono ?_;rintro e w2 ⟨rfl,hb2⟩;have HB2:=Lib.hid (((Below.refl _ _).alloc (Nat.le_refl _) _).trans (hb2.mono (by simp)));have hs2:w.heap.size<w2.heap.size:=by have:=hb2.size;simp at this;omega
  have u0:w2.cell? ⟨w.heap.size,0,none⟩=some (.int .i64 10):=(hb2.cell (p:=⟨w.heap.size,0,none⟩) (by simp)).trans (by simp [go_sem]);have u1:w2.cell? ⟨w.heap.size,1,none⟩=some (.int .i64 0):=(hb2.cell (p:=⟨w.heap.size,1,none⟩) (by simp)).trans (by simp [go_sem]);have u2:w2.cell? ⟨w.heap.size,2,none⟩=some (.string (strOf oo)):=(hb2.cell (p:=⟨w.heap.size,2,none⟩) (by simp)).trans (by simp [go_sem]);have u3:w2.cell? ⟨w.heap.size,3,none⟩=some (.string (strOf mm)):=(hb2.cell (p:=⟨w.heap.size,3,none⟩) (by simp)).trans (by simp [go_sem]);clear hb2;cases hIoo:isIdent oo
  ·have HR:Hid (ownFault 10 0 oo mm l=5):=by show _=_;simp [ownFault,namedK,HK.out,hIoo]
   rw [← strOf_data oo] at hIoo;go_wp2_with fail;refine (ref_Ident _ _ (by rw [strOf_size];exact Boo.out)).mono ?_;rintro e w9 ⟨rfl,hb9⟩;have HB9:=Lib.hid (HB2.out.trans (hb9.mono HB2.out.size));clear hb9;go_wp2_with fail;go_ret;exact⟨by rw [HR.out];rfl,HB9.out⟩
  have HIoo:=Lib.hid hIoo;rw [← strOf_data oo] at hIoo;go_wp2_with fail;refine (ref_Ident _ _ (by rw [strOf_size];exact Boo.out)).mono ?_;rintro e w3 ⟨rfl,hb9⟩;have HB3:=Lib.hid (HB2.out.trans (hb9.mono HB2.out.size));have hs3:w.heap.size<w3.heap.size:=Nat.lt_of_lt_of_le hs2 hb9.size;have t3:w3.cell? ⟨w.heap.size,3,none⟩=some (.string (strOf mm)):=(hb9.cell (p:=⟨w.heap.size,3,none⟩) hs2).trans u3;clear hb9;cases hImm:isIdent mm
  ·have HR:Hid (ownFault 10 0 oo mm l=5):=by show _=_;simp [ownFault,namedK,HK.out,HIoo.out,hImm]
   rw [← strOf_data mm] at hImm;go_wp2_with fail;refine (ref_Ident _ _ (by rw [strOf_size];exact Bmm.out)).mono ?_;rintro e w9 ⟨rfl,hb9⟩;have HB9:=Lib.hid (HB3.out.trans (hb9.mono HB3.out.size));clear hb9;go_wp2_with fail;go_ret;exact⟨by rw [HR.out];rfl,HB9.out⟩
  have HImm:=Lib.hid hImm;rw [← strOf_data mm] at hImm;go_wp2_with fail;refine (ref_Ident _ _ (by rw [strOf_size];exact Bmm.out)).mono ?_;rintro e w4 ⟨rfl,hb9⟩;have HB4:=Lib.hid (HB3.out.trans (hb9.mono HB3.out.size));have hs4:w.heap.size<w4.heap.size:=Nat.lt_of_lt_of_le hs3 hb9.size;have t3:w4.cell? ⟨w.heap.size,3,none⟩=some (.string (strOf mm)):=(hb9.cell (p:=⟨w.heap.size,3,none⟩) hs3).trans t3;clear hb9;have HR:Hid (ownFault 10 0 oo mm l=0):=by show _=_;simp [ownFault,namedK,HK.out,HIoo.out,HImm.out]
  go_wp2_with fail;go_ret;exact⟨by rw [HR.out];rfl,HB4.out⟩
 have hr:k<1∨10<k:=by omega
 have HR:Hid (ownFault k n oo mm l=12):=by show _=_;rcases hr with hr | hr <;> simp [ownFault,hr]
 rcases hr with hr | hr
 ·go_enter Tryd.func84,Tryd.ntmps84;go_wp2_with fail;go_ret;exact⟨by rw [HR.out];rfl,((Below.refl _ _).alloc (Nat.le_refl _) _)⟩
 ·have hr2:decide (k<1)=false:=by rw [decide_eq_false_iff_not];omega
  go_enter Tryd.func84,Tryd.ntmps84;go_wp2_with fail;go_ret;exact⟨by rw [HR.out];rfl,((Below.refl _ _).alloc (Nat.le_refl _) _)⟩
end Go.Proofs.YtmlafcimjhnhhaaDoor
