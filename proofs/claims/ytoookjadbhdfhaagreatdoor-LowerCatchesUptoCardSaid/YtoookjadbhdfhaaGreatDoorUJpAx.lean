/-
  expr of the checker, which is only read; walked.
-/
import Derived.Test.YtoookjadbhdfhaaGreatDoorUJpAw
import Derived.Test.YtoookjadbhdfhaaGreatDoorUJpAr
set_option linter.unusedSectionVars false
set_option linter.unusedSimpArgs false
set_option linter.unnecessarySimpa false
set_option linter.unusedVariables false
set_option linter.unusedSimpArgs false
set_option linter.unusedVariables false
namespace Go.Proofs.YtoookjadbhdfhaaGreatDoor
section
open Lx Ax Go.RowKit
attribute [local simp] stepS Ax.stepT Dl.on qstep astep estep rd putE over argE ofV ofS loadA pickCells isAggD faddA fieldA partA iaddA idxA bnd binA intA strA unA convA bltA lenA mapOf findK keyD scalD storeA appA srcA srcD upd drp Dl.hp Dl.nx CV.cs CV.one buildA placesA fillA zrep tasA ifaceD eqA eqFs eqIs range2 copyA nbeq nble nblt decEq beqI bneI beqS bneS isED Int.ofNat_inj List.getElem?_map List.getElem?_eq_getElem Option.map_some ti_int ti_bool ti_str ti_i64 ti_Strs ti_Cds ti_Cd ti_Flds ti_Fld ti_Sgs ti_Sg ti_Hi ti_Exs ti_Ex ti_Chk ti_Flt ti_Errno gd gdB callA resA op1
attribute [local simp] nu1 nu2 nu3 nu4 nu5 nu6 nu7 nu8 nu9 nu10 nu11 nu12 nu13 upd_upd
theorem sli_tailE {H:Heap}(x:Ex)(l:List Ex):sliA Tryz.prog H 61 (.lst ([.int .i64 x.kind,.int .i64 x.n,.str x.of,.str x.name,.lst (x.kids.map cvE)]::l.map cvE)) (some (.int .i64 1)) none=some (.lst (l.map cvE)):=by
 have:=sliA_lo (P:=Tryz.prog) (H:=H) (kk:=.i64) (rows:=cvE x::l.map cvE) (m:=1) ti_Exs ti_Ex (fun r hr=>by
  rcases List.mem_cons.mp hr with rfl | hr
  ·rw [Xz];rfl
  ·obtain⟨b,_,rfl⟩:=List.mem_map.mp hr;rw [Xz];rfl) (by simp)
 rw [Xz x] at this;simpa using this
section
variable (h:List Cd) (cls res:Bytes) (sc:List Fld) (at':Int)
set_option maxRecDepth 10000 in
set_option maxHeartbeats 16000000 in
theorem tk_expr1 (hc:HC h)(hs:sc.length≤lim)(k n:Int)(o m:Bytes)(ks:List Ex)(hkl:ks.length≤lim)(ih:∀ e∈ks,ExOk h cls res sc at' e):ExOk h cls res sc at' (.mk k n o m ks):=by
 refine FRes.ofBody tkG_pu (by simp [puL,puV,puE,ckV_pu]) (tkB_pu _) Tryz.func95 rfl rfl fun nx=>?_
 have hkd:=tk_kids (.mk k n o m ks);obtain⟨w,hw⟩:∃ w,exT9 h cls sc (.mk k n o m ks)=w:=⟨_,rfl⟩;rw [hw];rw [exT9] at hw
 repeat (first | (first | (apply Xf;rfl) | apply Xj);focus simp [cvE_mk, *,-Option.some.injEq];rfl | (first | (apply Xa;rfl) | apply Xb);(focus simp [cvE_mk, *];done);focus simp [cvE_mk, *,-Option.some.injEq];rfl | (first | (apply Xg;rfl) | apply Xk);(focus simp [cvE_mk, *];done) | (first | refine Xl ?_ | refine Xi ?_ | refine Xh ?_ | refine Xo ?_ | refine Xq ?_);try simp only [Xx,Xy,reduceIte,Nat.reduceEqDiff] | refine Xn ?_ | refine Xp rfl ?_ | refine Xc ?_ | apply Xd;focus simp [cvE_mk, *];done | apply Xe;focus simp [cvE_mk, *];done | refine Yb rfl rfl ?_ | (first | (apply AOpl.pickOrZ;rfl) | (apply AOpl.pickAndZ;rfl));(focus (simp [cvE_mk, *,-Ax.CV.bool.injEq];rfl));(focus (intro hq;(try simp only [Bool.not_eq_true',Bool.not_eq_false',decide_eq_true_eq,decide_eq_false_iff_not,Bool.and_eq_true,Bool.or_eq_false_iff] at hq);simp [cvE_mk, *,-Ax.CV.bool.injEq];rfl));intro z hz | (first | (apply AOpl.pickOrGZ;rfl) | (apply AOpl.pickAndGZ;rfl));(focus simp [cvE_mk, *];done);(focus (simp [cvE_mk, *,-Ax.CV.bool.injEq];rfl));(focus (intro hq;(try simp only [Bool.not_eq_true',Bool.not_eq_false',decide_eq_true_eq,decide_eq_false_iff_not,Bool.and_eq_true,Bool.or_eq_false_iff] at hq);simp [cvE_mk, *,-Ax.CV.bool.injEq];rfl));intro z hz | (first | (apply AOpl.pickOrCZ;rfl) | (apply AOpl.pickAndCZ;rfl));(focus (simp [cvE_mk, *,-Ax.CV.bool.injEq,-Option.some.injEq];rfl));(focus (intro hq;(try simp only [Bool.not_eq_true',Bool.not_eq_false',decide_eq_true_eq,decide_eq_false_iff_not,Bool.and_eq_true,Bool.or_eq_false_iff] at hq);simp [cvE_mk, *,-Ax.CV.bool.injEq];rfl));(focus (intro hp hq;(try simp only [Bool.not_eq_true',Bool.not_eq_false',decide_eq_true_eq,decide_eq_false_iff_not,Bool.and_eq_true,Bool.or_eq_false_iff] at hp hq);simp [cvE_mk, *,-Ax.CV.bool.injEq];rfl));intro z hz | (apply AOpl.passC;rfl);focus simp [cvE_mk, *,-Ax.CV.bool.injEq];done | (apply AOpl.lookC;rfl);(focus (simp [cvE_mk, *,-Ax.CV.bool.injEq,-Option.some.injEq];rfl));focus intro _;simp [cvE_mk, *,-Option.some.injEq];rfl)
 cases z with
 | false =>
   rw [if_pos (by simp at hz;omega)] at hw;rw [← hw];clear hw;refine gW ?_
   ((apply AOpl.callP);(focus rfl);(focus (first | rfl | (simp [*];done)));(focus simp [*,-Option.some.injEq];rfl);kernel_rfl)
   ·exact need_no 12 _
   rfl
 | true =>
 rw [if_neg (by simp at hz;omega)] at hw;refine gW ?_
 ((apply Xr);(focus rfl);(focus (first | rfl | (simp [*];done)));(focus simp [*,-Option.some.injEq];rfl);kernel_rfl)
 ·exact need_ok 12 _
 repeat (first | (first | (apply Xf;rfl) | apply Xj);focus simp [*,-Option.some.injEq];rfl | (first | (apply Xa;rfl) | apply Xb);(focus simp [*];done);focus simp [*,-Option.some.injEq];rfl | (first | (apply Xg;rfl) | apply Xk);(focus simp [*];done) | (first | refine Xl ?_ | refine Xi ?_ | refine Xh ?_ | refine Xo ?_ | refine Xq ?_);try simp only [Xx,Xy,reduceIte,Nat.reduceEqDiff] | refine Xn ?_ | refine Xp rfl ?_ | refine Xc ?_ | apply Xd;focus simp [*];done | apply Xe;focus simp [*];done | refine Yb rfl rfl ?_ | (first | (apply AOpl.pickOrZ;rfl) | (apply AOpl.pickAndZ;rfl));(focus (simp [*,-Ax.CV.bool.injEq];rfl));(focus (intro hq;(try simp only [Bool.not_eq_true',Bool.not_eq_false',decide_eq_true_eq,decide_eq_false_iff_not,Bool.and_eq_true,Bool.or_eq_false_iff] at hq);simp [*,-Ax.CV.bool.injEq];rfl));intro z hz | (first | (apply AOpl.pickOrGZ;rfl) | (apply AOpl.pickAndGZ;rfl));(focus simp [*];done);(focus (simp [*,-Ax.CV.bool.injEq];rfl));(focus (intro hq;(try simp only [Bool.not_eq_true',Bool.not_eq_false',decide_eq_true_eq,decide_eq_false_iff_not,Bool.and_eq_true,Bool.or_eq_false_iff] at hq);simp [*,-Ax.CV.bool.injEq];rfl));intro z hz | (first | (apply AOpl.pickOrCZ;rfl) | (apply AOpl.pickAndCZ;rfl));(focus (simp [*,-Ax.CV.bool.injEq,-Option.some.injEq];rfl));(focus (intro hq;(try simp only [Bool.not_eq_true',Bool.not_eq_false',decide_eq_true_eq,decide_eq_false_iff_not,Bool.and_eq_true,Bool.or_eq_false_iff] at hq);simp [*,-Ax.CV.bool.injEq];rfl));(focus (intro hp hq;(try simp only [Bool.not_eq_true',Bool.not_eq_false',decide_eq_true_eq,decide_eq_false_iff_not,Bool.and_eq_true,Bool.or_eq_false_iff] at hp hq);simp [*,-Ax.CV.bool.injEq];rfl));intro z hz | (apply AOpl.passC;rfl);focus simp [*,-Ax.CV.bool.injEq];done | (apply AOpl.lookC;rfl);(focus (simp [*,-Ax.CV.bool.injEq,-Option.some.injEq];rfl));focus intro _;simp [*,-Option.some.injEq];rfl)
 rename_i hz1 z2 hz2;cases z with
 | false =>
   rw [if_pos (by
    by_cases h6:k=6
    ·refine⟨h6,?_⟩;simp [h6] at hz;rw [hz] at hz2;simp at hz2;omega
    ·simp [h6] at hz)] at hw
   rw [← hw];clear hw;refine gW ?_
   ((apply AOpl.callP);(focus rfl);(focus (first | rfl | (simp [*];done)));(focus simp [*,-Option.some.injEq];rfl);kernel_rfl)
   ·exact need_no 12 _
   rfl
 | true =>
 rw [if_neg (by
  rintro⟨h6,hn⟩;simp [h6] at hz;rw [hz] at hz2;simp at hz2;omega)] at hw
 refine gW ?_
 ((apply Xr);(focus rfl);(focus (first | rfl | (simp [*];done)));(focus simp [*,-Option.some.injEq];rfl);kernel_rfl)
 ·exact need_ok 12 _
 have hkr:1≤k∧k≤10:=by simp at hz1;exact hz1
 clear hz hz1 hz2;rw [cvE_mk] at hkd;have hkd':FRes Tryz.prog tkG 103 [.agg [.int .i64 k,.int .i64 n,.str o,.str m,.lst (ks.map cvE)]] (tkU (needT (kidsT k ks.length) 1)):=hkd;clear hkd;cases hkk:kidsT k ks.length with
 | false =>
   rw [if_pos hkk] at hw;rw [hkk] at hkd';have hkd:FRes Tryz.prog tkG 103 [.agg [.int .i64 k,.int .i64 n,.str o,.str m,.lst (ks.map cvE)]] (.pan (fltV 1)):=hkd';rw [← hw];clear hw hkk hkd';refine gW ?_
   ((apply AOpl.callP);(focus rfl);(focus (first | rfl | (simp [*];done)));(focus simp [*,-Option.some.injEq];rfl);kernel_rfl)
   ·exact hkd _
   rfl
 | true =>
 rw [if_neg (by rw [hkk];simp)] at hw;rw [hkk] at hkd';have hkd:FRes Tryz.prog tkG 103 [.agg [.int .i64 k,.int .i64 n,.str o,.str m,.lst (ks.map cvE)]] (.ret (.tup [])):=hkd';clear hkd';refine gW ?_
 ((apply Xr);(focus rfl);(focus (first | rfl | (simp [*];done)));(focus simp [*,-Option.some.injEq];rfl);kernel_rfl)
 ·exact hkd _
 clear hkd;obtain h1 | h2 | h3 | h4 | h5 | h6 | h7 | h8 | h9 | h10:k=1∨k=2∨k=3∨k=4∨k=5∨k=6∨k=7∨k=8∨k=9∨k=10:=by omega
 all_goals (subst k;clear hkr;simp (decide:=true) only [if_true,if_false] at hw)
 ·rw [← hw];clear hw;refine gW ?_
  (refine⟨_,(by simp [*];rfl),?_⟩;(try simp only [packA]))
  all_goals rfl
 ·rw [← hw];clear hw;refine gW ?_
  (refine⟨_,(by simp [*];rfl),?_⟩;(try simp only [packA]))
  all_goals rfl
 ·have hva:=tk_variable h cls res sc at' hs m;cases hv:varF sc m with
  | none =>
    rw [hv] at hw hva;have hva':FCall1 Tryz.prog tkG 71 [ckV h cls res sc at',.str m] (.tup [.str [],.bool false]):=hva;simp only at hw;rw [← hw];clear hw hv hva;refine gW ?_
    ((apply Xr);(focus rfl);(focus (first | rfl | (simp [ckV, *];done)));(focus simp [ckV, *,-Option.some.injEq];rfl);kernel_rfl)
    ·exact hva' _
    refine gW ?_
    ((apply AOpl.callP);(focus rfl);(focus (first | rfl | (simp [*];done)));(focus simp [*,-Option.some.injEq];rfl);kernel_rfl)
    ·exact need_no 6 _
    rfl
  | some t =>
    rw [hv] at hw hva;have hva':FCall1 Tryz.prog tkG 71 [ckV h cls res sc at',.str m] (.tup [.str t,.bool true]):=hva;simp only at hw;rw [← hw];clear hw hv hva;refine gW ?_
    ((apply Xr);(focus rfl);(focus (first | rfl | (simp [ckV, *];done)));(focus simp [ckV, *,-Option.some.injEq];rfl);kernel_rfl)
    ·exact hva' _
    refine gW ?_
    ((apply Xr);(focus rfl);(focus (first | rfl | (simp [*];done)));(focus simp [*,-Option.some.injEq];rfl);kernel_rfl)
    ·exact need_ok 6 _
    refine gW ?_
    (refine⟨_,(by simp [*];rfl),?_⟩;(try simp only [packA]))
    all_goals rfl
 ·by_cases hcl:cls=[]
  ·rw [if_pos hcl] at hw;rw [← hw];clear hw;refine gWf ckV.eq_1 ?_
   ((apply AOpl.callP);(focus rfl);(focus (first | rfl | (simp [*];done)));(focus simp [*,-Option.some.injEq];rfl);kernel_rfl)
   ·exact need_no 6 _
   rfl
  ·rw [if_neg hcl] at hw;rw [← hw];clear hw;refine gWf ckV.eq_1 ?_
   ((apply Xr);(focus rfl);(focus (first | rfl | (simp [*];done)));(focus simp [*,-Option.some.injEq];rfl);kernel_rfl)
   ·exact need_ok 6 _
   refine gWf ckV.eq_1 ?_
   (refine⟨_,(by simp [*];rfl),?_⟩;(try simp only [packA]))
   all_goals rfl
 ·rw [← hw];clear hw;refine gW ?_
  (refine⟨_,(by simp [*];rfl),?_⟩;(try simp only [packA]))
  all_goals rfl
 ·obtain⟨a,b,rfl⟩:∃ a b,ks=[a,b]:=by
   match ks,hkk with
   | [a,b],_=>exact⟨a,b,rfl⟩
  have hb:=tk_binary h cls res sc at' hc 6 n o m a b (ih a (by simp)) (ih b (by simp));rw [hw] at hb;clear hw hkk ih;rw [cvE_mk] at hb;cases w with
  | error x =>
    have hb':FRes Tryz.prog tkG 104 [ckV h cls res sc at',.agg [.int .i64 6,.int .i64 n,.str o,.str m,.lst ([a,b].map cvE)]] (.pan (fltV x)):=hb;clear hb
    repeat (first | (first | (apply Xf;rfl) | apply Xj);focus simp [-List.map_cons, *,-Option.some.injEq];rfl | (first | (apply Xa;rfl) | apply Xb);(focus simp [-List.map_cons, *];done);focus simp [-List.map_cons, *,-Option.some.injEq];rfl | (first | (apply Xg;rfl) | apply Xk);(focus simp [-List.map_cons, *];done) | (first | refine Xl ?_ | refine Xi ?_ | refine Xh ?_ | refine Xo ?_ | refine Xq ?_);try simp only [Xx,Xy,reduceIte,Nat.reduceEqDiff] | refine Xn ?_ | refine Xp rfl ?_ | refine Xc ?_ | apply Xd;focus simp [-List.map_cons, *];done | apply Xe;focus simp [-List.map_cons, *];done | refine Yb rfl rfl ?_)
    ((apply AOpl.callP);(focus rfl);(focus (first | rfl | (simp [ckV,-List.map_cons, *];done)));(focus simp [ckV,-List.map_cons, *,-Option.some.injEq];rfl);kernel_rfl)
    ·exact hb' _
    rfl
  | ok t =>
    have hb':FRes Tryz.prog tkG 104 [ckV h cls res sc at',.agg [.int .i64 6,.int .i64 n,.str o,.str m,.lst ([a,b].map cvE)]] (.ret (.str t)):=hb;clear hb
    repeat (first | (first | (apply Xf;rfl) | apply Xj);focus simp [-List.map_cons, *,-Option.some.injEq];rfl | (first | (apply Xa;rfl) | apply Xb);(focus simp [-List.map_cons, *];done);focus simp [-List.map_cons, *,-Option.some.injEq];rfl | (first | (apply Xg;rfl) | apply Xk);(focus simp [-List.map_cons, *];done) | (first | refine Xl ?_ | refine Xi ?_ | refine Xh ?_ | refine Xo ?_ | refine Xq ?_);try simp only [Xx,Xy,reduceIte,Nat.reduceEqDiff] | refine Xn ?_ | refine Xp rfl ?_ | refine Xc ?_ | apply Xd;focus simp [-List.map_cons, *];done | apply Xe;focus simp [-List.map_cons, *];done | refine Yb rfl rfl ?_)
    ((apply Xr);(focus rfl);(focus (first | rfl | (simp [ckV,-List.map_cons, *];done)));(focus simp [ckV,-List.map_cons, *,-Option.some.injEq];rfl);kernel_rfl)
    ·exact hb' _
    refine gW ?_
    (refine⟨_,(by simp [*];rfl),?_⟩;(try simp only [packA]))
    all_goals rfl
 ·have hcl:=tk_isClass h hc.le m;unfold needC at hw;cases hv:clsB h m with
  | false =>
    rw [hv] at hw hcl;rw [if_neg (by simp)] at hw;rw [← hw];clear hw hv;refine gWr ?_
    (refine AWp.regDT (by kernel_rfl) (by kernel_rfl) rfl ?_;intro nxq hnq)
    repeat (first | apply Xu;(focus simp [ckV, *,-Option.some.injEq];rfl) | apply Xt;(focus simp [ckV, *];done);(focus simp [ckV, *,-Option.some.injEq];rfl) | apply Xv;(focus simp [ckV, *];done) | refine Xw ?_;try simp only [Xx,Xy,reduceIte,Nat.reduceEqDiff])
    ((apply AQq.callG);(focus (first | rfl | (simp [ckV, *];done)));(focus simp [ckV, *,-Option.some.injEq];rfl);kernel_rfl)
    ·exact hcl _
    repeat (first | apply Xu;(focus simp [*,-Option.some.injEq];rfl) | apply Xt;(focus simp [*];done);(focus simp [*,-Option.some.injEq];rfl) | apply Xv;(focus simp [*];done) | refine Xw ?_;try simp only [Xx,Xy,reduceIte,Nat.reduceEqDiff])
    ((apply AQq.pan);(focus (first | rfl | (simp [*];done)));(focus simp [*,-Option.some.injEq];rfl);kernel_rfl)
    ·exact need_no 6 _
    ·repeat (first | exact AQt.nil | (apply AQt.look;(focus simp [*,-Option.some.injEq];rfl)) | (apply AQt.lookG;(focus simp [*];done);(focus simp [*,-Option.some.injEq];rfl)) | (apply AQt.pass;(focus simp [*];done)) | refine AQt.dead (by kernel_rfl) ?_)
    intro e2;rfl
  | true =>
    rw [hv] at hw hcl;rw [if_pos rfl] at hw;rw [← hw];clear hw hv;refine gWr ?_
    (refine AWp.regDT (by kernel_rfl) (by kernel_rfl) rfl ?_;intro nxq hnq)
    repeat (first | apply Xu;(focus simp [ckV, *,-Option.some.injEq];rfl) | apply Xt;(focus simp [ckV, *];done);(focus simp [ckV, *,-Option.some.injEq];rfl) | apply Xv;(focus simp [ckV, *];done) | refine Xw ?_;try simp only [Xx,Xy,reduceIte,Nat.reduceEqDiff])
    ((apply AQq.callG);(focus (first | rfl | (simp [ckV, *];done)));(focus simp [ckV, *,-Option.some.injEq];rfl);kernel_rfl)
    ·exact hcl _
    repeat (first | apply Xu;(focus simp [*,-Option.some.injEq];rfl) | apply Xt;(focus simp [*];done);(focus simp [*,-Option.some.injEq];rfl) | apply Xv;(focus simp [*];done) | refine Xw ?_;try simp only [Xx,Xy,reduceIte,Nat.reduceEqDiff])
    ((apply AQq.callG);(focus (first | rfl | (simp [*];done)));(focus simp [*,-Option.some.injEq];rfl);kernel_rfl)
    ·exact need_ok 6 _
    repeat (first | apply Xu;(focus simp [*,-Option.some.injEq];rfl) | apply Xt;(focus simp [*];done);(focus simp [*,-Option.some.injEq];rfl) | apply Xv;(focus simp [*];done) | refine Xw ?_;try simp only [Xx,Xy,reduceIte,Nat.reduceEqDiff])
    refine gW ?_
    (refine⟨_,(by simp [*];rfl),?_⟩;(try simp only [packA]))
    all_goals rfl
 ·obtain⟨a,rfl⟩:∃ a,ks=[a]:=by
   match ks,hkk with
   | [a],_=>exact⟨a,rfl⟩
  have hb:=tk_fld h cls res sc at' hc a m (ih a (by simp));have hwe:fldT1 h (exT9 h cls sc a) m=w:=by
   rw [← hw,tysT,tysT];unfold fldT1 fldOf;cases exT9 h cls sc a <;> rfl
  rw [hwe] at hb;clear hw hkk ih hwe;rw [Xz] at hb;cases w with
  | error x =>
    have hb':FRes Tryz.prog tkG 94 [ckV h cls res sc at',.agg [.int .i64 a.kind,.int .i64 a.n,.str a.of,.str a.name,.lst (a.kids.map cvE)],.str m] (.pan (fltV x)):=hb;clear hb;refine gWr ?_
    (refine AWp.regDT (by kernel_rfl) (by kernel_rfl) rfl ?_;intro nxq hnq)
    repeat (first | apply Xu;(focus simp [Xz a, *,-Option.some.injEq];rfl) | apply Xt;(focus simp [Xz a, *];done);(focus simp [Xz a, *,-Option.some.injEq];rfl) | apply Xv;(focus simp [Xz a, *];done) | refine Xw ?_;try simp only [Xx,Xy,reduceIte,Nat.reduceEqDiff])
    ((apply AQq.pan);(focus (first | rfl | (simp [ckV,Xz a, *];done)));(focus simp [ckV,Xz a, *,-Option.some.injEq];rfl);kernel_rfl)
    ·exact hb' _
    ·repeat (first | exact AQt.nil | (apply AQt.look;(focus simp [*,-Option.some.injEq];rfl)) | (apply AQt.lookG;(focus simp [*];done);(focus simp [*,-Option.some.injEq];rfl)) | (apply AQt.pass;(focus simp [*];done)) | refine AQt.dead (by kernel_rfl) ?_)
    intro e2;rfl
  | ok t =>
    have hb':FRes Tryz.prog tkG 94 [ckV h cls res sc at',.agg [.int .i64 a.kind,.int .i64 a.n,.str a.of,.str a.name,.lst (a.kids.map cvE)],.str m] (.ret (.str t)):=hb;clear hb;refine gWr ?_
    (refine AWp.regDT (by kernel_rfl) (by kernel_rfl) rfl ?_;intro nxq hnq)
    repeat (first | apply Xu;(focus simp [Xz a, *,-Option.some.injEq];rfl) | apply Xt;(focus simp [Xz a, *];done);(focus simp [Xz a, *,-Option.some.injEq];rfl) | apply Xv;(focus simp [Xz a, *];done) | refine Xw ?_;try simp only [Xx,Xy,reduceIte,Nat.reduceEqDiff])
    ((apply AQq.callG);(focus (first | rfl | (simp [ckV,Xz a, *];done)));(focus simp [ckV,Xz a, *,-Option.some.injEq];rfl);kernel_rfl)
    ·exact hb' _
    repeat (first | apply Xu;(focus simp [*,-Option.some.injEq];rfl) | apply Xt;(focus simp [*];done);(focus simp [*,-Option.some.injEq];rfl) | apply Xv;(focus simp [*];done) | refine Xw ?_;try simp only [Xx,Xy,reduceIte,Nat.reduceEqDiff])
    refine gW ?_
    (refine⟨_,(by simp [*];rfl),?_⟩;(try simp only [packA]))
    all_goals rfl
 ·obtain⟨a,l,rfl⟩:∃ a l,ks=a::l:=by
   match ks,hkk with
   | a::l,_=>exact⟨a,l,rfl⟩
  have hia:=ih a (by simp);have hcal:=fun c=>tk_call h cls res sc at' hc c m false l (by simp at hkl;omega) (fun e he=>ih e (by simp [he]))
  have hsl:∀ H:Heap,sliA Tryz.prog H 61 (.lst ([.int .i64 a.kind,.int .i64 a.n,.str a.of,.str a.name,.lst (a.kids.map cvE)]::l.map cvE)) (some (.int .i64 1)) none=some (.lst (l.map cvE)):=fun H=>sli_tailE a l
  unfold ExOk at hia;rw [Xz] at hia;rw [Lx.calT] at hw;clear ih hkk;cases hxa:exT9 h cls sc a with
  | error x =>
    rw [hxa] at hia hw;have hia':FRes Tryz.prog tkG 95 [ckV h cls res sc at',.agg [.int .i64 a.kind,.int .i64 a.n,.str a.of,.str a.name,.lst (a.kids.map cvE)]] (.pan (fltV x)):=hia;simp only at hw;rw [← hw];clear hia hw hxa;refine gWf (Xz a) ?_
    ((apply AOpl.callP);(focus rfl);(focus (first | rfl | (simp [ckV,Xz a, *];done)));(focus simp [ckV,Xz a, *,-Option.some.injEq];rfl);kernel_rfl)
    ·exact hia' _
    rfl
  | ok c =>
    rw [hxa] at hia hw;have hia':FRes Tryz.prog tkG 95 [ckV h cls res sc at',.agg [.int .i64 a.kind,.int .i64 a.n,.str a.of,.str a.name,.lst (a.kids.map cvE)]] (.ret (.str c)):=hia;simp only at hw;have hcl:=tk_isClass h hc.le c;have hcc:=hcal c;clear hia hxa hcal;cases hv:clsB h c with
    | false =>
      rw [if_pos hv] at hw;rw [hv] at hcl;rw [← hw];clear hw hv;refine gWf (Xz a) ?_
      ((apply Xr);(focus rfl);(focus (first | rfl | (simp [ckV,Xz a, *];done)));(focus simp [ckV,Xz a, *,-Option.some.injEq];rfl);kernel_rfl)
      ·exact hia' _
      refine gWf ckV.eq_1 ?_
      ((apply Xr);(focus rfl);(focus (first | rfl | (simp [*];done)));(focus simp [*,-Option.some.injEq];rfl);kernel_rfl)
      ·exact hcl _
      refine gW ?_
      ((apply AOpl.callP);(focus rfl);(focus (first | rfl | (simp [*];done)));(focus simp [*,-Option.some.injEq];rfl);kernel_rfl)
      ·exact need_no 8 _
      rfl
    | true =>
      rw [if_neg (by rw [hv];simp)] at hw;rw [hv] at hcl;have hwe:calT1 h cls sc c m false l=w:=hw;rw [hwe] at hcc;clear hw hv hwe;cases w with
      | error x =>
        have hcc':FRes Tryz.prog tkG 105 [ckV h cls res sc at',.str c,.str m,.bool false,.lst (l.map cvE)] (.pan (fltV x)):=hcc;clear hcc;refine gWf (Xz a) ?_
        ((apply Xr);(focus rfl);(focus (first | rfl | (simp [ckV,Xz a, *];done)));(focus simp [ckV,Xz a, *,-Option.some.injEq];rfl);kernel_rfl)
        ·exact hia' _
        refine gWf ckV.eq_1 ?_
        ((apply Xr);(focus rfl);(focus (first | rfl | (simp [*];done)));(focus simp [*,-Option.some.injEq];rfl);kernel_rfl)
        ·exact hcl _
        refine gW ?_
        ((apply Xr);(focus rfl);(focus (first | rfl | (simp [*];done)));(focus simp [*,-Option.some.injEq];rfl);kernel_rfl)
        ·exact need_ok 8 _
        refine gWr ?_
        (refine AWp.regDT (by kernel_rfl) (by kernel_rfl) rfl ?_;intro nxq hnq)
        repeat (first | apply Xu;(focus simp [Xz a, *,-Option.some.injEq];rfl) | apply Xt;(focus simp [Xz a, *];done);(focus simp [Xz a, *,-Option.some.injEq];rfl) | apply Xv;(focus simp [Xz a, *];done) | refine Xw ?_;try simp only [Xx,Xy,reduceIte,Nat.reduceEqDiff])
        ((apply AQq.pan);(focus (first | rfl | (simp [ckV, *];done)));(focus simp [ckV, *,-Option.some.injEq];rfl);kernel_rfl)
        ·exact hcc' _
        ·repeat (first | exact AQt.nil | (apply AQt.look;(focus simp [*,-Option.some.injEq];rfl)) | (apply AQt.lookG;(focus simp [*];done);(focus simp [*,-Option.some.injEq];rfl)) | (apply AQt.pass;(focus simp [*];done)) | refine AQt.dead (by kernel_rfl) ?_)
        intro e2;rfl
      | ok t =>
        have hcc':FRes Tryz.prog tkG 105 [ckV h cls res sc at',.str c,.str m,.bool false,.lst (l.map cvE)] (.ret (.str t)):=hcc;clear hcc;refine gWf (Xz a) ?_
        ((apply Xr);(focus rfl);(focus (first | rfl | (simp [ckV,Xz a, *];done)));(focus simp [ckV,Xz a, *,-Option.some.injEq];rfl);kernel_rfl)
        ·exact hia' _
        refine gWf ckV.eq_1 ?_
        ((apply Xr);(focus rfl);(focus (first | rfl | (simp [*];done)));(focus simp [*,-Option.some.injEq];rfl);kernel_rfl)
        ·exact hcl _
        refine gW ?_
        ((apply Xr);(focus rfl);(focus (first | rfl | (simp [*];done)));(focus simp [*,-Option.some.injEq];rfl);kernel_rfl)
        ·exact need_ok 8 _
        refine gWr ?_
        (refine AWp.regDT (by kernel_rfl) (by kernel_rfl) rfl ?_;intro nxq hnq)
        repeat (first | apply Xu;(focus simp [Xz a, *,-Option.some.injEq];rfl) | apply Xt;(focus simp [Xz a, *];done);(focus simp [Xz a, *,-Option.some.injEq];rfl) | apply Xv;(focus simp [Xz a, *];done) | refine Xw ?_;try simp only [Xx,Xy,reduceIte,Nat.reduceEqDiff])
        ((apply AQq.callG);(focus (first | rfl | (simp [ckV, *];done)));(focus simp [ckV, *,-Option.some.injEq];rfl);kernel_rfl)
        ·exact hcc' _
        repeat (first | apply Xu;(focus simp [*,-Option.some.injEq];rfl) | apply Xt;(focus simp [*];done);(focus simp [*,-Option.some.injEq];rfl) | apply Xv;(focus simp [*];done) | refine Xw ?_;try simp only [Xx,Xy,reduceIte,Nat.reduceEqDiff])
        refine gW ?_
        (refine⟨_,(by simp [*];rfl),?_⟩;(try simp only [packA]))
        all_goals rfl
 ·have hcl:=tk_isClass h hc.le o;have hcc:=tk_call h cls res sc at' hc o m true ks hkl ih;unfold needC at hw;clear ih hkk;cases hv:clsB h o with
  | false =>
    rw [hv] at hw hcl;rw [if_neg (by simp)] at hw;simp only at hw;rw [← hw];clear hw hv;refine gWr ?_
    (refine AWp.regDT (by kernel_rfl) (by kernel_rfl) rfl ?_;intro nxq hnq)
    repeat (first | apply Xu;(focus simp [ckV, *,-Option.some.injEq];rfl) | apply Xt;(focus simp [ckV, *];done);(focus simp [ckV, *,-Option.some.injEq];rfl) | apply Xv;(focus simp [ckV, *];done) | refine Xw ?_;try simp only [Xx,Xy,reduceIte,Nat.reduceEqDiff])
    ((apply AQq.callG);(focus (first | rfl | (simp [ckV, *];done)));(focus simp [ckV, *,-Option.some.injEq];rfl);kernel_rfl)
    ·exact hcl _
    repeat (first | apply Xu;(focus simp [*,-Option.some.injEq];rfl) | apply Xt;(focus simp [*];done);(focus simp [*,-Option.some.injEq];rfl) | apply Xv;(focus simp [*];done) | refine Xw ?_;try simp only [Xx,Xy,reduceIte,Nat.reduceEqDiff])
    ((apply AQq.pan);(focus (first | rfl | (simp [*];done)));(focus simp [*,-Option.some.injEq];rfl);kernel_rfl)
    ·exact need_no 6 _
    ·repeat (first | exact AQt.nil | (apply AQt.look;(focus simp [*,-Option.some.injEq];rfl)) | (apply AQt.lookG;(focus simp [*];done);(focus simp [*,-Option.some.injEq];rfl)) | (apply AQt.pass;(focus simp [*];done)) | refine AQt.dead (by kernel_rfl) ?_)
    intro e2;rfl
  | true =>
    rw [hv] at hw hcl;rw [if_pos rfl] at hw;simp only at hw;have hwe:calT1 h cls sc o m true ks=w:=hw;rw [hwe] at hcc;clear hw hv hwe;cases w with
    | error x =>
      have hcc':FRes Tryz.prog tkG 105 [ckV h cls res sc at',.str o,.str m,.bool true,.lst (ks.map cvE)] (.pan (fltV x)):=hcc;clear hcc;refine gWr ?_
      (refine AWp.regDT (by kernel_rfl) (by kernel_rfl) rfl ?_;intro nxq hnq)
      repeat (first | apply Xu;(focus simp [ckV, *,-Option.some.injEq];rfl) | apply Xt;(focus simp [ckV, *];done);(focus simp [ckV, *,-Option.some.injEq];rfl) | apply Xv;(focus simp [ckV, *];done) | refine Xw ?_;try simp only [Xx,Xy,reduceIte,Nat.reduceEqDiff])
      ((apply AQq.callG);(focus (first | rfl | (simp [ckV, *];done)));(focus simp [ckV, *,-Option.some.injEq];rfl);kernel_rfl)
      ·exact hcl _
      repeat (first | apply Xu;(focus simp [*,-Option.some.injEq];rfl) | apply Xt;(focus simp [*];done);(focus simp [*,-Option.some.injEq];rfl) | apply Xv;(focus simp [*];done) | refine Xw ?_;try simp only [Xx,Xy,reduceIte,Nat.reduceEqDiff])
      ((apply AQq.callG);(focus (first | rfl | (simp [*];done)));(focus simp [*,-Option.some.injEq];rfl);kernel_rfl)
      ·exact need_ok 6 _
      repeat (first | apply Xu;(focus simp [*,-Option.some.injEq];rfl) | apply Xt;(focus simp [*];done);(focus simp [*,-Option.some.injEq];rfl) | apply Xv;(focus simp [*];done) | refine Xw ?_;try simp only [Xx,Xy,reduceIte,Nat.reduceEqDiff])
      refine gW ?_
      ((apply AOpl.callP);(focus rfl);(focus (first | rfl | (simp [ckV, *];done)));(focus simp [ckV, *,-Option.some.injEq];rfl);kernel_rfl)
      ·exact hcc' _
      rfl
    | ok t =>
      have hcc':FRes Tryz.prog tkG 105 [ckV h cls res sc at',.str o,.str m,.bool true,.lst (ks.map cvE)] (.ret (.str t)):=hcc;clear hcc;refine gWr ?_
      (refine AWp.regDT (by kernel_rfl) (by kernel_rfl) rfl ?_;intro nxq hnq)
      repeat (first | apply Xu;(focus simp [ckV, *,-Option.some.injEq];rfl) | apply Xt;(focus simp [ckV, *];done);(focus simp [ckV, *,-Option.some.injEq];rfl) | apply Xv;(focus simp [ckV, *];done) | refine Xw ?_;try simp only [Xx,Xy,reduceIte,Nat.reduceEqDiff])
      ((apply AQq.callG);(focus (first | rfl | (simp [ckV, *];done)));(focus simp [ckV, *,-Option.some.injEq];rfl);kernel_rfl)
      ·exact hcl _
      repeat (first | apply Xu;(focus simp [*,-Option.some.injEq];rfl) | apply Xt;(focus simp [*];done);(focus simp [*,-Option.some.injEq];rfl) | apply Xv;(focus simp [*];done) | refine Xw ?_;try simp only [Xx,Xy,reduceIte,Nat.reduceEqDiff])
      ((apply AQq.callG);(focus (first | rfl | (simp [*];done)));(focus simp [*,-Option.some.injEq];rfl);kernel_rfl)
      ·exact need_ok 6 _
      repeat (first | apply Xu;(focus simp [*,-Option.some.injEq];rfl) | apply Xt;(focus simp [*];done);(focus simp [*,-Option.some.injEq];rfl) | apply Xv;(focus simp [*];done) | refine Xw ?_;try simp only [Xx,Xy,reduceIte,Nat.reduceEqDiff])
      refine gW ?_
      ((apply Xr);(focus rfl);(focus (first | rfl | (simp [ckV, *];done)));(focus simp [ckV, *,-Option.some.injEq];rfl);kernel_rfl)
      ·exact hcc' _
      refine gW ?_
      (refine⟨_,(by simp [*];rfl),?_⟩;(try simp only [packA]))
      all_goals rfl
theorem tk_expr (hc:HC h)(hs:sc.length≤lim):∀ (N:Nat) (e:Ex),exSz e≤N→exSz e≤lim→ExOk h cls res sc at' e
 | 0,e,h0,_=>absurd (exSz_pos e) (by omega)
 | N+1,.mk k n o m ks,hN,hl=>by
   rw [exSz_mk] at hN hl;have:=exsSz_len ks;refine tk_expr1 h cls res sc at' hc hs k n o m ks (by omega) fun e he=>?_
   have:=exsSz_mem he;exact tk_expr hc hs N e (by omega) (by omega)
end
end
section
open Lx
namespace Lx
def meSz (m:Me):Nat:=stsSz m.body+m.params.length+1
def mesSz:List Me→Nat
 | []=>0
 | m::l=>meSz m+mesSz l
def clSz (c:Cl):Nat:=mesSz c.methods+c.fields.length+1
def clsSz:List Cl→Nat
 | []=>0
 | c::l=>clSz c+clsSz l
theorem mesSz_mem {l:List Me}{m:Me}(h:m∈l):meSz m≤mesSz l:=by
 induction l with
 | nil=>cases h
 | cons x l ih =>
   rw [mesSz];rcases List.mem_cons.1 h with rfl | h
   ·omega
   ·have:=ih h;omega
theorem clsSz_mem {l:List Cl}{m:Cl}(h:m∈l):clSz m≤clsSz l:=by
 induction l with
 | nil=>cases h
 | cons x l ih =>
   rw [clsSz];rcases List.mem_cons.1 h with rfl | h
   ·omega
   ·have:=ih h;omega
theorem mesSz_len:∀ l:List Me,l.length≤mesSz l
 | []=>by simp [mesSz]
 | m::l=>by have:=mesSz_len l;rw [mesSz];simp [meSz];omega
theorem clsSz_len:∀ l:List Cl,l.length≤clsSz l
 | []=>by simp [clsSz]
 | m::l=>by have:=clsSz_len l;rw [clsSz];simp [clSz];omega
end Lx
end
end Go.Proofs.YtoookjadbhdfhaaGreatDoor
