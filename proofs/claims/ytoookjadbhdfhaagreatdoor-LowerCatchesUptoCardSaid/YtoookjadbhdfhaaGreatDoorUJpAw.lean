/-
  The hierarchy of a source; walked.
-/
import Derived.Test.YtoookjadbhdfhaaGreatDoorUJpAv
import Derived.Test.YtoookjadbhdfhaaGreatDoorUJpAp
set_option linter.unusedSectionVars false
set_option linter.unusedSimpArgs false
set_option linter.unnecessarySimpa false
set_option linter.unusedVariables false
set_option linter.unusedSimpArgs false
set_option linter.unusedVariables false
namespace Go.Proofs.YtoookjadbhdfhaaGreatDoor
section
open Lx Ax Go.RowKit
attribute [local simp] stepS Ax.stepT Dl.on qstep astep estep rd putE over argE ofV ofS loadA pickCells isAggD faddA fieldA partA iaddA idxA sliA bnd binA intA strA unA convA bltA lenA mapOf findK keyD scalD storeA appA srcA srcD upd drp Dl.hp Dl.nx CV.cs CV.one buildA placesA fillA zrep tasA ifaceD eqA eqFs eqIs range2 copyA nbeq nble nblt decEq beqI bneI beqS bneS isED Int.ofNat_inj List.getElem?_map List.getElem?_eq_getElem Option.map_some ti_int ti_bool ti_str ti_i64 ti_Strs ti_Cds ti_Cd ti_Flds ti_Fld ti_Sgs ti_Sg ti_Hi ti_So ti_Cls ti_Cl ti_Mes ti_Me gd gdB callA resA op1
attribute [local simp] nu1 nu2 nu3 nu4 nu5 nu6 nu7 nu8 nu9 nu10 nu11 nu12 nu13 upd_upd
/-- The lists of a program fit. -/
structure LB (l:List Cl):Prop where
 len:l.length≤lim
 fl:∀ c∈l,c.fields.length≤lim
 ml:∀ c∈l,c.methods.length≤lim
 pl:∀ c∈l,∀ m∈c.methods,m.params.length≤lim
def cvSo (l:List Cl):CV:=.agg [.lst (l.map cvC)]
theorem puSo (l:List Cl):puV (cvSo l)=true:=by simp [cvSo,puL,puV,puRm puC]
set_option maxRecDepth 10000 in
set_option maxHeartbeats 8000000 in
theorem tk_Of (l:List Cl)(hB:LB l):FCall1 Tryz.prog tkG 13 [cvSo l] (cvH (hiOf l)):=by
 refine FCall.one tkG_pu (by simp [puL,puSo]) (puH _) ?_;refine FCall.ofBody Tryz.func13 rfl rfl fun nx=>?_
 have hl:=hB.len;refine gWf cvSo.eq_1 ?_;refine AWp.countO l.length [5,6,8,9,11,15,30,44] 16 (fun i e H1 nx1=>e 15=.int .i64 i∧H1 (nx+1)=some (.cells [.nils])∧∃ c,H1 (nx+1+1)=some (.cells [c])∧OwnG cvD 4 (nx+1+1+1) H1 nx1 c ((l.take i).map cdOf)) ⟨(by first | (simp (disch:=omega) [putE,over,ofV,ofS, *];done) | (simp (disch:=omega) [putE,over,ofV,ofS, *];rfl)),by simp [upd],.nils,by simp [upd],OwnG.nil⟩ ?_;rintro i v H1 nx1 hi hn1 ⟨h15,h2,c,h3,ho⟩;have q2:=far (show nx+1<nx1 by omega);have q3:=far (show nx+1+1<nx1 by omega);refine gW ?_
 (((apply AWp.cond');(focus (simp [*,-Ax.CV.bool.injEq];rfl))) <;> (intro hb) <;> (try simp only [decide_eq_true_eq,decide_eq_false_iff_not,Bool.not_eq_true',Bool.not_eq_false',Bool.not_eq_true,Bool.not_eq_false] at hb))
 ·have hlt:i<l.length:=hb;have hwi:=lim_wrap hlt hl;have hfl:=hB.fl _ (List.getElem_mem hlt);have hml:=hB.ml _ (List.getElem_mem hlt);have hpl:=hB.pl _ (List.getElem_mem hlt);have hcl:=clone_F l[i].fields hfl;clear hb;refine gWf cvC.eq_1 ?_
  (first | (first | (apply AOpl.callN;rfl) | apply ASl.call);(focus simp [*,-Option.some.injEq];rfl);kernel_rfl | (first | (apply AOpl.callNG;rfl) | apply ASl.callg);(focus simp [*];done);(focus simp [*,-Option.some.injEq];rfl);kernel_rfl)
  ·exact hcl
  clear hcl;refine gW ?_;refine AWp.countO l[i].methods.length [8,9,11,30,44] 31 (fun j e H2 nx2=>e 30=.int .i64 j∧(∀ b,b<nx1→H2 b=H1 b)∧∃ c2,H2 (nx1+1+8)=some (.cells [.str l[i].name,.str l[i].super,.lst (l[i].fields.map cvF),c2])∧OwnG cvG 4 (nx1+1+10) H2 nx2 c2 ((l[i].methods.take j).map sgOf)) ⟨(by first | (simp (disch:=omega) [putE,over,ofV,ofS, *];done) | (simp (disch:=omega) [putE,over,ofV,ofS, *];rfl)),by intro b hb;have:=far hb;simp [upd, *],.nils,by simp [upd],OwnG.nil⟩ ?_;rintro j v2 H2 nx2 hj hn2 ⟨h30,hF2,c2,h6,ho2⟩;have q6:=far (show nx1+1+8<nx2 by omega);refine gW ?_
  (((apply AWp.cond');(focus (simp [*,-Ax.CV.bool.injEq];rfl))) <;> (intro hb) <;> (try simp only [decide_eq_true_eq,decide_eq_false_iff_not,Bool.not_eq_true',Bool.not_eq_false',Bool.not_eq_true,Bool.not_eq_false] at hb))
  ·have hlj:j<l[i].methods.length:=hb;have hwj:=lim_wrap hlj hml;have hpj:=hpl _ (List.getElem_mem hlj);clear hb;generalize hm:l[i].methods[j]=m at *;refine gWf cvM.eq_1 ?_;refine AWp.countO m.params.length [11,44] 45 (fun q e H3 nx3=>e 44=.int .i64 q∧(∀ b,b<nx2→H3 b=H2 b)∧∃ c3,H3 (nx2+1)=some (.cells [.str m.name,.bool m.static,c3,.str m.result])∧OwnG cvN 1 (nx2+1+1) H3 nx3 c3 ((m.params.take q).map (·.typ))) ⟨(by first | (simp (disch:=omega) [putE,over,ofV,ofS, *];done) | (simp (disch:=omega) [putE,over,ofV,ofS, *];rfl)),by intro b hb;have:=far hb;simp [upd, *],.nils,by simp [upd],OwnG.nil⟩ ?_;rintro q v3 H3 nx3 hq hn3 ⟨h44,hF3,c3,h9,ho3⟩;have q9:=far (show nx2+1<nx3 by omega);have q9':¬ nx2=nx3:=by omega
   refine gW ?_
   (((apply AWp.cond');(focus (simp [*,-Ax.CV.bool.injEq];rfl))) <;> (intro hb) <;> (try simp only [decide_eq_true_eq,decide_eq_false_iff_not,Bool.not_eq_true',Bool.not_eq_false',Bool.not_eq_true,Bool.not_eq_false] at hb))
   ·have hlq:q<m.params.length:=hb;have hwq:=lim_wrap hlq hpj;clear hb;refine gWf cvF.eq_1 ?_;refine AOpl.appG cvN_len cvN_one ti_Strs ti_str m.params[q].typ ((ho3.updN (x:=nx3) (Nat.le_refl _)).up (Nat.le_succ _) |>.updN (x:=nx3+1) (by omega) |>.up (nx':=nx3+2) (by omega)) (by omega) (by rw [List.length_map,List.length_take];simp only [lim] at hpj;omega) ?_ (hxb:=by simp [upd,cvN]);intro H4 hN hfr;have h9':H4 (nx2+1)=some (.cells [.str m.name,.bool m.static,c3,.str m.result]):=by rw [hfr _ (by omega)];simp [upd, *]
    have e:(m.params.take (q+1)).map (·.typ)=(m.params.take q).map (·.typ)++[m.params[q].typ]:=by rw [take_snoc hlq,List.map_append];rfl
    rw [← e] at hN;refine gW ?_;refine⟨by ((repeat (first | exact Keeps.base _ _ _ _ | (with_reducible exact Keeps.refl _ _ _) | (refine Keeps.put rfl ?_) | (refine Keeps.over' rfl rfl ?_)))),hlq,(by first | (simp (disch:=omega) [putE,over,ofV,ofS, *];done) | (simp (disch:=omega) [putE,over,ofV,ofS, *];rfl)),?_,_,by simp [upd];exact rfl,?_⟩
    ·intro b hb;rw [upd_miss _ _ _ _ (by omega),hfr b (by omega)];have:=far (show b<nx3 by omega);simp [upd, *]
    ·refine OwnG.updL ?_ (by omega);exact OwnG.isN hN (by omega) (by omega) _ (by simp;omega)
   ·have hq':q=m.params.length:=by omega
    subst hq';rw [List.take_length] at ho3;refine Xh ?_;simp only [Xx,Xy,reduceIte,Nat.reduceEqDiff];refine AWp.own2lstG cvN_len [.str m.name,.bool m.static] [.str m.result] ho3 h9 (by omega) ?_;intro H4 h9' hfr;have hg:sgOf m=⟨m.name,m.static,m.params.map (·.typ),m.result⟩:=rfl;have hF4:∀ b,b<nx2→H4 b=H2 b:=fun b hb=>by rw [hfr b (by omega) (by omega),hF3 b hb]
    have h6':H4 (nx1+1+8)=some (.cells [.str l[i].name,.str l[i].super,.lst (l[i].fields.map cvF),c2]):=by rw [hF4 _ (by omega)];exact h6
    have ho2':OwnG cvG 4 (nx1+1+10) H4 nx2 c2 ((l[i].methods.take j).map sgOf):=ho2.keep (Nat.le_refl _) fun b _ hb=>hF4 b hb
    have q6:=far (show nx1+1+8<nx3 by omega);have q9:=far (show nx2+1<nx3 by omega);generalize m.params.map (·.typ)=ps at *;clear h9 ho3 hq hb ho2 h6;refine gW ?_;refine AOpl.appG cvG_len cvG_one ti_Sgs ti_Sg (sgOf m) ((ho2'.up (nx':=nx3) (by omega)).updN (x:=nx3) (Nat.le_refl _) |>.up (nx':=nx3+1) (by omega)) (by omega) (by rw [List.length_map,List.length_take];simp only [lim] at hml;omega) ?_ (hxb:=by rw [hg];simp [upd,cvG]);intro H5 hN hfr5;have h6'':H5 (nx1+1+8)=some (.cells [.str l[i].name,.str l[i].super,.lst (l[i].fields.map cvF),c2]):=by rw [hfr5 _ (by omega)];simp [upd, *]
    have e:(l[i].methods.take (j+1)).map sgOf=(l[i].methods.take j).map sgOf++[sgOf m]:=by rw [take_snoc hlj,List.map_append,hm];rfl
    rw [← e] at hN;refine gW ?_;refine⟨by ((repeat (first | exact Keeps.base _ _ _ _ | (with_reducible exact Keeps.refl _ _ _) | (refine Keeps.put rfl ?_) | (refine Keeps.over' rfl rfl ?_)))),hlj,(by first | (simp (disch:=omega) [putE,over,ofV,ofS, *];done) | (simp (disch:=omega) [putE,over,ofV,ofS, *];rfl)),?_,_,by simp [upd];exact rfl,?_⟩
    ·intro b hb;rw [upd_miss _ _ _ _ (by omega),hfr5 b (by omega),upd_miss _ _ _ _ (by omega),hF4 b (by omega),hF2 b hb]
    ·refine OwnG.updL ?_ (by omega);exact OwnG.isN hN (by omega) (by omega) _ (by simp;omega)
  ·have hj':j=l[i].methods.length:=by omega
   subst hj';rw [List.take_length] at ho2;refine Xh ?_;simp only [Xx,Xy,reduceIte,Nat.reduceEqDiff];refine AWp.own2lstG cvG_len [.str l[i].name,.str l[i].super,.lst (l[i].fields.map cvF)] [] ho2 h6 (by omega) ?_;intro H4 h6' hfr;have hg:cdOf l[i]=⟨l[i].name,l[i].super,l[i].fields,l[i].methods.map sgOf⟩:=rfl;have hF4:∀ b,b<nx1→H4 b=H1 b:=fun b hb=>by rw [hfr b (by omega) (by omega),hF2 b hb]
   have h3':H4 (nx+1+1)=some (.cells [c]):=by rw [hF4 _ (by omega)];exact h3
   have h2':H4 (nx+1)=some (.cells [.nils]):=by rw [hF4 _ (by omega)];exact h2
   have ho':OwnG cvD 4 (nx+1+1+1) H4 nx1 c ((l.take i).map cdOf):=ho.keep (Nat.le_refl _) fun b _ hb=>hF4 b hb
   have q3:=far (show nx+1+1<nx2 by omega);have q3':¬ nx+1=nx2:=by omega
   have q6:=far (show nx1+1+8<nx2 by omega);generalize l[i].methods.map sgOf=ms at *;clear h6 ho2 hj hb ho h3 h2;refine gW ?_;refine AOpl.appG cvD_len cvD_one ti_Cds ti_Cd (cdOf l[i]) ((ho'.up (nx':=nx2) (by omega)).updN (x:=nx2) (Nat.le_refl _) |>.up (nx':=nx2+1) (by omega)) (by omega) (by rw [List.length_map,List.length_take];simp only [lim] at hl;omega) ?_ (hxb:=by rw [hg];simp [upd,cvD]);intro H5 hN hfr5;have h3'':H5 (nx+1+1)=some (.cells [c]):=by rw [hfr5 _ (by omega)];simp [upd, *]
   have h2'':H5 (nx+1)=some (.cells [.nils]):=by
    rw [hfr5 _ (by omega)];have:=far (show nx+1<nx2 by omega);simp [upd, *]
   have e:(l.take (i+1)).map cdOf=(l.take i).map cdOf++[cdOf l[i]]:=by rw [take_snoc hlt,List.map_append];rfl
   rw [← e] at hN;refine gW ?_;refine⟨by ((repeat (first | exact Keeps.base _ _ _ _ | (with_reducible exact Keeps.refl _ _ _) | (refine Keeps.put rfl ?_) | (refine Keeps.over' rfl rfl ?_)))),hlt,(by first | (simp (disch:=omega) [putE,over,ofV,ofS, *];done) | (simp (disch:=omega) [putE,over,ofV,ofS, *];rfl)),by simp [upd, *],_,by simp [upd];exact rfl,?_⟩;refine OwnG.updL ?_ (by omega);exact OwnG.isN hN (by omega) (by omega) _ (by simp;omega)
 ·have hi':i=l.length:=by omega
  subst hi';rw [List.take_length] at ho;refine Xh ?_;simp only [Xx,Xy,reduceIte,Nat.reduceEqDiff];refine AWp.own2lstG cvD_len [] [] ho h3 (by omega) ?_;intro H4 h3' hfr;have h2':H4 (nx+1)=some (.cells [.nils]):=by rw [hfr _ (by omega) (by omega)];exact h2
  have hd:l.map cdOf=hiOf l:=rfl;rw [hd] at h3';clear h3 h2 ho hb hi hfr hd;refine gW ?_
  (refine⟨_,(by simp [*];rfl),?_⟩;(try simp only [packA]))
  all_goals rfl
end
section
open Lx Ax Go.RowKit
attribute [local simp] stepS Ax.stepT Dl.on qstep astep estep rd putE over argE ofV ofS loadA pickCells isAggD faddA fieldA partA iaddA idxA sliA bnd binA intA strA unA convA bltA lenA mapOf findK keyD scalD storeA appA srcA srcD upd drp Dl.hp Dl.nx CV.cs CV.one buildA placesA fillA zrep tasA ifaceD eqA eqFs eqIs range2 copyA nbeq nble nblt decEq beqI bneI beqS bneS isED Int.ofNat_inj List.getElem?_map List.getElem?_eq_getElem Option.map_some ti_int ti_bool ti_str ti_i64 ti_Strs ti_Cds ti_Cd ti_Flds ti_Fld ti_Sgs ti_Sg ti_Hi ti_Exs ti_Ex ti_Chk ti_Flt ti_Errno gd gdB callA resA op1
attribute [local simp] nu1 nu2 nu3 nu4 nu5 nu6 nu7 nu8 nu9 nu10 nu11 nu12 nu13 upd_upd
/-- The fault that leaves the checker. -/
def fltV (e:Nat):CV:=.iface 126 (.agg [.int .i64 (e:Int)])
def tkR {α:Type}(v:α→CV):Tk α→Res
 | .ok a=>.ret (v a)
 | .error e=>.pan (fltV e)
abbrev tkB:Tk Bytes→Res:=tkR fun s=>.str s
abbrev tkU:Tk Unit→Res:=tkR fun _=>.tup []
theorem tkB_pu (t:Tk Bytes):(tkB t).pu=true:=by cases t <;> rfl
theorem tkU_pu (t:Tk Unit):(tkU t).pu=true:=by cases t <;> rfl
set_option maxRecDepth 10000 in
set_option maxHeartbeats 4000000 in
theorem need_ok (e:Int):FCall1 Tryz.prog tkG 91 [.bool true,.int .i64 e] (.tup []):=by
 refine FCall.one tkG_pu rfl rfl ?_;refine FCall.ofBody Tryz.func91 rfl rfl fun nx=>?_
 refine gW ?_
 (refine⟨_,(by simp [*];rfl),?_⟩;(try simp only [packA]))
set_option maxRecDepth 10000 in
set_option maxHeartbeats 4000000 in
theorem need_no (e:Nat):FRes Tryz.prog tkG 91 [.bool false,.int .i64 (e:Int)] (.pan (fltV e)):=by
 refine FRes.ofBody tkG_pu rfl rfl Tryz.func91 rfl rfl fun nx=>?_
 refine gW ?_;refine AOpl.panic (by simp;exact⟨rfl,rfl⟩) ?_;rfl
/-- The checker, frozen. -/
def ckV (h:List Cd)(cls res:Bytes)(sc:List Fld)(at':Int):CV:=.rop [.lst (h.map cvD),.str cls,.str res,.lst (sc.map cvF),.int .i64 at']
theorem ckV_pu (h:List Cd)(cls res:Bytes)(sc:List Fld)(at':Int):puV (ckV h cls res sc at')=true:=by simp [ckV,puL,puV,puRm puD,puRm puF]
def varV:Option Bytes→CV
 | some t=>.tup [.str t,.bool true]
 | none=>.tup [.str [],.bool false]
theorem varF_idx (sc:List Fld)(s:Bytes):match sc.findIdx? (fun c=>c.name == s) with
  | some k=>∃ hk:k<sc.length,varF sc s=some sc[k].typ
  | none=>varF sc s=none:=by
 unfold varF
 induction sc with
 | nil=>rfl
 | cons a l ih =>
   simp only [List.findIdx?_cons,List.find?_cons];cases h:(a.name == s) with
   | true=>exact⟨by simp,rfl⟩
   | false =>
     simp only [Bool.false_eq_true,if_false];revert ih;cases l.findIdx? (fun c=>c.name == s) with
     | none=>intro ih;simpa using ih
     | some k=>intro ⟨hk,ih⟩;exact⟨by simpa using hk,by simpa using ih⟩
section
variable (h:List Cd) (cls res:Bytes) (sc:List Fld) (at':Int)
set_option maxRecDepth 10000 in
set_option maxHeartbeats 4000000 in
theorem tk_variable (hs:sc.length≤lim)(s:Bytes):FCall1 Tryz.prog tkG 71 [ckV h cls res sc at',.str s] (varV (varF sc s)):=by
 refine FCall.one tkG_pu (by simp [puL,ckV_pu];rfl) (by cases varF sc s <;> rfl) ?_;refine FCall.ofBody Tryz.func71 rfl rfl fun nx=>?_
 have hx:=ix_V s sc hs;have hv:=varF_idx sc s;cases hi:sc.findIdx? (fun c=>c.name == s) with
 | none =>
   rw [hi] at hx hv;simp only at hv;rw [hv];have hx':FCall1 Tryz.prog tkG 88 [.lst (sc.map cvF),.fn (.func 89) [] [.rop [.str s]]] (.int .i64 (-1)):=hx;clear hi hv hx;refine gWf ckV.eq_1 ?_
   ((apply Xr);(focus rfl);(focus (first | rfl | (simp [*];done)));(focus simp [*,-Option.some.injEq];rfl);kernel_rfl)
   ·exact FCall1.lend tkG_pu hx' (by simp [puL,puV,puRm puF])
   refine gW ?_
   (refine⟨_,(by simp [*];rfl),?_⟩;(try simp only [packA]))
   all_goals rfl
 | some k =>
   rw [hi] at hx hv;obtain⟨hk,hv⟩:=hv;rw [hv];have hx':FCall1 Tryz.prog tkG 88 [.lst (sc.map cvF),.fn (.func 89) [] [.rop [.str s]]] (.int .i64 (k:Int)):=hx;clear hi hv hx;refine gWf ckV.eq_1 ?_
   ((apply Xr);(focus rfl);(focus (first | rfl | (simp [*];done)));(focus simp [*,-Option.some.injEq];rfl);kernel_rfl)
   ·exact FCall1.lend tkG_pu hx' (by simp [puL,puV,puRm puF])
   refine gWf cvF.eq_1 ?_
   (refine⟨_,(by simp [*];rfl),?_⟩;(try simp only [packA]))
   all_goals rfl
set_option maxRecDepth 10000 in
set_option maxHeartbeats 4000000 in
theorem tk_has (hs:sc.length≤lim)(s:Bytes):FCall1 Tryz.prog tkG 44 [ckV h cls res sc at',.str s] (.bool (varF sc s).isSome):=by
 refine FCall.one tkG_pu (by simp [puL,ckV_pu];rfl) rfl ?_;refine FCall.ofBody Tryz.func44 rfl rfl fun nx=>?_
 have hx:=tk_variable h cls res sc at' hs s;have hp:=ckV_pu h cls res sc at';generalize ckV h cls res sc at'=ck at *;cases hv:varF sc s with
 | none =>
   rw [hv] at hx;have hx':FCall1 Tryz.prog tkG 71 [ck,.str s] (.tup [.str [],.bool false]):=hx;clear hx hv;refine gW ?_
   ((apply Xr);(focus rfl);(focus (first | rfl | (simp [*];done)));(focus simp [*,-Option.some.injEq];rfl);kernel_rfl)
   ·exact hx' _
   refine gW ?_
   (refine⟨_,(by simp [*];rfl),?_⟩;(try simp only [packA]))
   all_goals rfl
 | some t =>
   rw [hv] at hx;have hx':FCall1 Tryz.prog tkG 71 [ck,.str s] (.tup [.str t,.bool true]):=hx;clear hx hv;refine gW ?_
   ((apply Xr);(focus rfl);(focus (first | rfl | (simp [*];done)));(focus simp [*,-Option.some.injEq];rfl);kernel_rfl)
   ·exact hx' _
   refine gW ?_
   (refine⟨_,(by simp [*];rfl),?_⟩;(try simp only [packA]))
   all_goals rfl
end
end
section
open Lx Ax Go.RowKit
attribute [local simp] stepS Ax.stepT Dl.on qstep astep estep rd putE over argE ofV ofS loadA pickCells isAggD faddA fieldA partA iaddA idxA sliA bnd binA intA strA unA convA bltA lenA mapOf findK keyD scalD storeA appA srcA srcD upd drp Dl.hp Dl.nx CV.cs CV.one buildA placesA fillA zrep tasA ifaceD eqA eqFs eqIs range2 copyA nbeq nble nblt decEq beqI bneI beqS bneS isED Int.ofNat_inj List.getElem?_map List.getElem?_eq_getElem Option.map_some ti_int ti_bool ti_str ti_i64 ti_Strs ti_Cds ti_Cd ti_Flds ti_Fld ti_Sgs ti_Sg ti_Hi ti_Exs ti_Ex ti_Chk ti_Flt ti_Errno gd gdB callA resA op1
attribute [local simp] nu1 nu2 nu3 nu4 nu5 nu6 nu7 nu8 nu9 nu10 nu11 nu12 nu13 upd_upd
set_option maxRecDepth 10000 in
set_option maxHeartbeats 8000000 in
theorem tk_kids (e:Ex):FRes Tryz.prog tkG 103 [.agg (cvE e)] (tkU (needT (kidsT e.kind e.kids.length) 1)):=by
 refine FRes.ofBody tkG_pu (by simp [puL,puV,puE]) (tkU_pu _) Tryz.func103 rfl rfl fun nx=>?_
 obtain⟨k,n,o,m,ks⟩:=e;have hk0:(Ex.mk k n o m ks).kind=k:=rfl;have hks:(Ex.mk k n o m ks).kids=ks:=rfl;rw [hk0,hks];clear hk0 hks;obtain⟨w,hw⟩:∃ w,needT (kidsT k ks.length) 1=w:=⟨_,rfl⟩;rw [hw];unfold kidsT at hw
 by_cases h6:k=6
 ·rw [if_pos h6] at hw;subst h6
  by_cases hn:(ks.length:Int)=2
  ·have hb:(ks.length == 2)=true:=by rw [beq_iff_eq];omega
   rw [hb] at hw;rw [← hw];clear hw hb;refine gWf cvE_mk ?_
   ((apply Xr);(focus rfl);(focus (first | rfl | (simp [*];done)));(focus simp [*,-Option.some.injEq];rfl);kernel_rfl)
   ·exact need_ok 1 _
   refine gW ?_
   (refine⟨_,(by simp [*];rfl),?_⟩;(try simp only [packA]))
   all_goals rfl
  ·have hb:(ks.length == 2)=false:=by rw [beq_eq_false_iff_ne];omega
   rw [hb] at hw;rw [← hw];clear hw hb;refine gWf cvE_mk ?_
   ((apply AOpl.callP);(focus rfl);(focus (first | rfl | (simp [*];done)));(focus simp [*,-Option.some.injEq];rfl);kernel_rfl)
   ·exact need_no 1 _
   rfl
 rw [if_neg h6] at hw
 by_cases h8:k=8
 ·rw [if_pos h8] at hw;subst h8
  by_cases hn:(ks.length:Int)=1
  ·have hb:(ks.length == 1)=true:=by rw [beq_iff_eq];omega
   rw [hb] at hw;rw [← hw];clear hw hb;refine gWf cvE_mk ?_
   ((apply Xr);(focus rfl);(focus (first | rfl | (simp [*];done)));(focus simp [*,-Option.some.injEq];rfl);kernel_rfl)
   ·exact need_ok 1 _
   refine gW ?_
   (refine⟨_,(by simp [*];rfl),?_⟩;(try simp only [packA]))
   all_goals rfl
  ·have hb:(ks.length == 1)=false:=by rw [beq_eq_false_iff_ne];omega
   rw [hb] at hw;rw [← hw];clear hw hb;refine gWf cvE_mk ?_
   ((apply AOpl.callP);(focus rfl);(focus (first | rfl | (simp [*];done)));(focus simp [*,-Option.some.injEq];rfl);kernel_rfl)
   ·exact need_no 1 _
   rfl
 rw [if_neg h8] at hw
 by_cases h9:k=9
 ·rw [if_pos h9] at hw;subst h9
  by_cases hn:(1:Int)≤ks.length
  ·have hb:decide (1≤ks.length)=true:=decide_eq_true (by omega);rw [hb] at hw;rw [← hw];clear hw hb;refine gWf cvE_mk ?_
   ((apply Xr);(focus rfl);(focus (first | rfl | (simp [*];done)));(focus simp [*,-Option.some.injEq];rfl);kernel_rfl)
   ·exact need_ok 1 _
   refine gW ?_
   (refine⟨_,(by simp [*];rfl),?_⟩;(try simp only [packA]))
   all_goals rfl
  ·have hb:decide (1≤ks.length)=false:=decide_eq_false (by omega);rw [hb] at hw;rw [← hw];clear hw hb;refine gWf cvE_mk ?_
   ((apply AOpl.callP);(focus rfl);(focus (first | rfl | (simp [*];done)));(focus simp [*,-Option.some.injEq];rfl);kernel_rfl)
   ·exact need_no 1 _
   rfl
 rw [if_neg h9] at hw
 by_cases h10:k=10
 ·rw [if_pos h10] at hw;subst h10;rw [← hw];clear hw;refine gWf cvE_mk ?_
  (refine⟨_,(by simp [*];rfl),?_⟩;(try simp only [packA]))
  all_goals rfl
 rw [if_neg h10] at hw
 by_cases hn:ks.length=0
 ·have hb:(ks.length == 0)=true:=by simpa using hn
  have hnil:ks=[]:=List.length_eq_zero_iff.mp hn;clear hn;subst hnil;rw [hb] at hw;rw [← hw];clear hw hb;refine gWf cvE_mk ?_
  ((apply Xr);(focus rfl);(focus (first | rfl | (simp [*];done)));(focus simp [*,-Option.some.injEq];rfl);kernel_rfl)
  ·exact need_ok 1 _
  refine gW ?_
  (refine⟨_,(by simp [*];rfl),?_⟩;(try simp only [packA]))
  all_goals rfl
 ·have hb:(ks.length == 0)=false:=by simpa using hn
  have hnil:¬ ks=[]:=fun e=>hn (by rw [e];rfl)
  rw [hb] at hw;rw [← hw];clear hw hb;refine gWf cvE_mk ?_
  ((apply AOpl.callP);(focus rfl);(focus (first | rfl | (simp [*];done)));(focus simp [*,-Option.some.injEq];rfl);kernel_rfl)
  ·exact need_no 1 _
  rfl
end
section
open Lx Ax Go.RowKit
attribute [local simp] stepS Ax.stepT Dl.on qstep astep estep rd putE over argE ofV ofS loadA pickCells isAggD faddA fieldA partA iaddA idxA sliA bnd binA intA strA unA convA bltA lenA mapOf findK keyD scalD storeA appA srcA srcD upd drp Dl.hp Dl.nx CV.cs CV.one buildA placesA fillA zrep tasA ifaceD eqA eqFs eqIs range2 copyA nbeq nble nblt decEq beqI bneI beqS bneS isED Int.ofNat_inj List.getElem?_map List.getElem?_eq_getElem Option.map_some ti_int ti_bool ti_str ti_i64 ti_Strs ti_Cds ti_Cd ti_Flds ti_Fld ti_Sgs ti_Sg ti_Hi ti_Exs ti_Ex ti_Chk ti_Flt ti_Errno gd gdB callA resA op1
attribute [local simp] nu1 nu2 nu3 nu4 nu5 nu6 nu7 nu8 nu9 nu10 nu11 nu12 nu13 upd_upd
/-- A hierarchy of which the checker knows that it is in order. -/
structure HC (h:List Cd):Prop where
 hb:HB h
 len:h.length+1≤lim
theorem HC.le {h:List Cd}(hc:HC h):h.length≤lim:=by have:=hc.len;omega
section
variable (h:List Cd) (cls res:Bytes) (sc:List Fld) (at':Int)
/-- What expr does with an expression. -/
def ExOk (e:Ex):Prop:=FRes Tryz.prog tkG 95 [ckV h cls res sc at',.agg (cvE e)] (tkB (exT9 h cls sc e))
set_option maxRecDepth 10000 in
set_option maxHeartbeats 8000000 in
theorem tk_assign (hc:HC h)(e:Ex)(to:Bytes)(ih:ExOk h cls res sc at' e):FRes Tryz.prog tkG 93 [ckV h cls res sc at',.agg (cvE e),.str to] (tkU (asgT h (exT9 h cls sc e) to)):=by
 refine FRes.ofBody tkG_pu (by simp [puL,puV,puE,ckV_pu]) (tkU_pu _) Tryz.func93 rfl rfl fun nx=>?_
 unfold ExOk at ih;cases hx:exT9 h cls sc e with
 | error x =>
   rw [hx] at ih;have ih':FRes Tryz.prog tkG 95 [ckV h cls res sc at',.agg (cvE e)] (.pan (fltV x)):=ih;clear ih hx;rw [Xz] at *;refine gWrf ckV.eq_1 ?_
   (refine AWp.regDT (by kernel_rfl) (by kernel_rfl) rfl ?_;intro nxq hnq)
   repeat (first | apply Xu;(focus simp [*,-Option.some.injEq];rfl) | apply Xt;(focus simp [*];done);(focus simp [*,-Option.some.injEq];rfl) | apply Xv;(focus simp [*];done) | refine Xw ?_;try simp only [Xx,Xy,reduceIte,Nat.reduceEqDiff])
   ((apply AQq.pan);(focus (first | rfl | (simp [*];done)));(focus simp [*,-Option.some.injEq];rfl);kernel_rfl)
   ·exact ih' _
   ·repeat (first | exact AQt.nil | (apply AQt.look;(focus simp [*,-Option.some.injEq];rfl)) | (apply AQt.lookG;(focus simp [*];done);(focus simp [*,-Option.some.injEq];rfl)) | (apply AQt.pass;(focus simp [*];done)) | refine AQt.dead (by kernel_rfl) ?_)
   rintro e2;rfl
 | ok a =>
   rw [hx] at ih;have ih':FRes Tryz.prog tkG 95 [ckV h cls res sc at',.agg (cvE e)] (.ret (.str a)):=ih;have hasg:=tk_Assignable h hc.len a to;clear ih hx;rw [Xz] at *;have hw:asgT h (.ok a) to=needT (asgB h a to) 8:=rfl;rw [hw];clear hw;generalize asgB h a to=z at *;refine gWrf ckV.eq_1 ?_
   (refine AWp.regDT (by kernel_rfl) (by kernel_rfl) rfl ?_;intro nxq hnq)
   repeat (first | apply Xu;(focus simp [*,-Option.some.injEq];rfl) | apply Xt;(focus simp [*];done);(focus simp [*,-Option.some.injEq];rfl) | apply Xv;(focus simp [*];done) | refine Xw ?_;try simp only [Xx,Xy,reduceIte,Nat.reduceEqDiff])
   ((apply AQq.callG);(focus (first | rfl | (simp [*];done)));(focus simp [*,-Option.some.injEq];rfl);kernel_rfl)
   ·exact ih' _
   repeat (first | apply Xu;(focus simp [*,-Option.some.injEq];rfl) | apply Xt;(focus simp [*];done);(focus simp [*,-Option.some.injEq];rfl) | apply Xv;(focus simp [*];done) | refine Xw ?_;try simp only [Xx,Xy,reduceIte,Nat.reduceEqDiff])
   ((apply AQq.callG);(focus (first | rfl | (simp [*];done)));(focus simp [*,-Option.some.injEq];rfl);kernel_rfl)
   ·exact hasg _
   repeat (first | apply Xu;(focus simp [*,-Option.some.injEq];rfl) | apply Xt;(focus simp [*];done);(focus simp [*,-Option.some.injEq];rfl) | apply Xv;(focus simp [*];done) | refine Xw ?_;try simp only [Xx,Xy,reduceIte,Nat.reduceEqDiff])
   cases z with
   | true =>
     ((apply AQq.callG);(focus (first | rfl | (simp [*];done)));(focus simp [*,-Option.some.injEq];rfl);kernel_rfl)
     ·exact need_ok 8 _
     repeat (first | apply Xu;(focus simp [*,-Option.some.injEq];rfl) | apply Xt;(focus simp [*];done);(focus simp [*,-Option.some.injEq];rfl) | apply Xv;(focus simp [*];done) | refine Xw ?_;try simp only [Xx,Xy,reduceIte,Nat.reduceEqDiff])
     refine gW ?_
     (refine⟨_,(by simp [*];rfl),?_⟩;(try simp only [packA]))
     all_goals rfl
   | false =>
     ((apply AQq.pan);(focus (first | rfl | (simp [*];done)));(focus simp [*,-Option.some.injEq];rfl);kernel_rfl)
     ·exact need_no 8 _
     ·repeat (first | exact AQt.nil | (apply AQt.look;(focus simp [*,-Option.some.injEq];rfl)) | (apply AQt.lookG;(focus simp [*];done);(focus simp [*,-Option.some.injEq];rfl)) | (apply AQt.pass;(focus simp [*];done)) | refine AQt.dead (by kernel_rfl) ?_)
     rintro e2;rfl
end
end
section
open Lx Ax Go.RowKit
attribute [local simp] stepS Ax.stepT Dl.on qstep astep estep rd putE over argE ofV ofS loadA pickCells isAggD faddA fieldA partA iaddA idxA sliA bnd binA intA strA unA convA bltA lenA mapOf findK keyD scalD storeA appA srcA srcD upd drp Dl.hp Dl.nx CV.cs CV.one buildA placesA fillA zrep tasA ifaceD eqA eqFs eqIs range2 copyA nbeq nble nblt decEq beqI bneI beqS bneS isED Int.ofNat_inj List.getElem?_map List.getElem?_eq_getElem Option.map_some ti_int ti_bool ti_str ti_i64 ti_Strs ti_Cds ti_Cd ti_Flds ti_Fld ti_Sgs ti_Sg ti_Hi ti_Exs ti_Ex ti_Chk ti_Flt ti_Errno gd gdB callA resA op1
attribute [local simp] nu1 nu2 nu3 nu4 nu5 nu6 nu7 nu8 nu9 nu10 nu11 nu12 nu13 upd_upd
section
variable (h:List Cd) (cls res:Bytes) (sc:List Fld) (at':Int)
/-- What field gives for an object of which the type is known. -/
def fldT1 (t:Tk Bytes)(f:Bytes):Tk Bytes:=match t with
 | .error e=>.error e
 | .ok c=>fldT h c f
set_option maxRecDepth 10000 in
set_option maxHeartbeats 8000000 in
theorem tk_fld (hc:HC h)(e:Ex)(f:Bytes)(ih:ExOk h cls res sc at' e):FRes Tryz.prog tkG 94 [ckV h cls res sc at',.agg (cvE e),.str f] (tkB (fldT1 h (exT9 h cls sc e) f)):=by
 refine FRes.ofBody tkG_pu (by simp [puL,puV,puE,ckV_pu]) (tkB_pu _) Tryz.func94 rfl rfl fun nx=>?_
 unfold ExOk at ih;cases hx:exT9 h cls sc e with
 | error x =>
   rw [hx] at ih;have ih':FRes Tryz.prog tkG 95 [ckV h cls res sc at',.agg (cvE e)] (.pan (fltV x)):=ih;clear ih hx;rw [Xz] at *;refine gWf ckV.eq_1 ?_
   ((apply AOpl.callP);(focus rfl);(focus (first | rfl | (simp [*];done)));(focus simp [*,-Option.some.injEq];rfl);kernel_rfl)
   ·exact ih' _
   rfl
 | ok c =>
   rw [hx] at ih;have ih':FRes Tryz.prog tkG 95 [ckV h cls res sc at',.agg (cvE e)] (.ret (.str c)):=ih;have hcl:=tk_isClass h hc.le c;have hfi:=tk_Field h hc.hb c f;clear ih hx;rw [Xz] at *;obtain⟨w,hw⟩:∃ w,fldT1 h (.ok c) f=w:=⟨_,rfl⟩;rw [hw];simp only [fldT1,fldT] at hw;refine gWf ckV.eq_1 ?_
   ((apply Xr);(focus rfl);(focus (first | rfl | (simp [*];done)));(focus simp [*,-Option.some.injEq];rfl);kernel_rfl)
   ·exact ih' _
   refine gW ?_
   ((apply Xr);(focus rfl);(focus (first | rfl | (simp [*];done)));(focus simp [*,-Option.some.injEq];rfl);kernel_rfl)
   ·exact hcl _
   cases h1:clsB h c with
   | false =>
     rw [if_pos h1] at hw;rw [← hw];clear hw h1;refine gW ?_
     ((apply AOpl.callP);(focus rfl);(focus (first | rfl | (simp [*];done)));(focus simp [*,-Option.some.injEq];rfl);kernel_rfl)
     ·exact need_no 8 _
     rfl
   | true =>
     rw [if_neg (by rw [h1];simp)] at hw;clear h1 hcl;refine gW ?_
     ((apply Xr);(focus rfl);(focus (first | rfl | (simp [*];done)));(focus simp [*,-Option.some.injEq];rfl);kernel_rfl)
     ·exact need_ok 8 _
     cases h2:fieldF h c f with
     | none =>
       rw [h2] at hw hfi;have hfi':FCall1 Tryz.prog tkG 51 [.agg [.lst (h.map cvD)],.str c,.str f] (.tup [.str [],.str [],.bool false]):=hfi;simp only at hw;rw [← hw];clear hw h2 hfi;refine gW ?_
       ((apply Xr);(focus rfl);(focus (first | rfl | (simp [*];done)));(focus simp [*,-Option.some.injEq];rfl);kernel_rfl)
       ·exact hfi' _
       refine gW ?_
       ((apply AOpl.callP);(focus rfl);(focus (first | rfl | (simp [*];done)));(focus simp [*,-Option.some.injEq];rfl);kernel_rfl)
       ·exact need_no 6 _
       rfl
     | some p =>
       obtain⟨c1,t⟩:=p;rw [h2] at hw hfi;have hfi':FCall1 Tryz.prog tkG 51 [.agg [.lst (h.map cvD)],.str c,.str f] (.tup [.str c1,.str t,.bool true]):=hfi;simp only at hw;rw [← hw];clear hw h2 hfi;refine gW ?_
       ((apply Xr);(focus rfl);(focus (first | rfl | (simp [*];done)));(focus simp [*,-Option.some.injEq];rfl);kernel_rfl)
       ·exact hfi' _
       refine gW ?_
       ((apply Xr);(focus rfl);(focus (first | rfl | (simp [*];done)));(focus simp [*,-Option.some.injEq];rfl);kernel_rfl)
       ·exact need_ok 6 _
       refine gW ?_
       (refine⟨_,(by simp [*];rfl),?_⟩;(try simp only [packA]))
       all_goals rfl
set_option maxRecDepth 10000 in
set_option maxHeartbeats 8000000 in
theorem tk_binary (hc:HC h)(k n:Int)(o m:Bytes)(a b:Ex)(iha:ExOk h cls res sc at' a)(ihb:ExOk h cls res sc at' b):FRes Tryz.prog tkG 104 [ckV h cls res sc at',.agg (cvE (.mk k n o m [a,b]))] (tkB (binOf h n (tysT h cls sc [a,b]))):=by
 refine FRes.ofBody tkG_pu (by simp [puL,puV,puE,ckV_pu]) (tkB_pu _) Tryz.func104 rfl rfl fun nx=>?_
 unfold ExOk at iha ihb;obtain⟨w,hw⟩:∃ w,binOf h n (tysT h cls sc [a,b])=w:=⟨_,rfl⟩;rw [hw];rw [tysT,tysT,tysT] at hw;cases hxa:exT9 h cls sc a with
 | error x =>
   rw [hxa] at iha hw;have iha':FRes Tryz.prog tkG 95 [ckV h cls res sc at',.agg (cvE a)] (.pan (fltV x)):=iha;simp only [binOf] at hw;rw [← hw];clear iha ihb hxa hw;rw [Xz a] at *;refine gWf (And.intro ckV.eq_1 (And.intro cvE_mk (Xz a))) ?_
   ((apply AOpl.callP);(focus rfl);(focus (first | rfl | (simp [*];done)));(focus simp [*,-Option.some.injEq];rfl);kernel_rfl)
   ·exact iha' _
   rfl
 | ok ta =>
   rw [hxa] at iha hw;have iha':FRes Tryz.prog tkG 95 [ckV h cls res sc at',.agg (cvE a)] (.ret (.str ta)):=iha;clear iha hxa;cases hxb:exT9 h cls sc b with
   | error x =>
     rw [hxb] at ihb hw;have ihb':FRes Tryz.prog tkG 95 [ckV h cls res sc at',.agg (cvE b)] (.pan (fltV x)):=ihb;simp only [binOf] at hw;rw [← hw];clear ihb hxb hw;rw [Xz a,] at iha';rw [Xz b] at ihb';refine gWf (And.intro ckV.eq_1 (And.intro cvE_mk (And.intro (Xz a) (Xz b)))) ?_
     ((apply Xr);(focus rfl);(focus (first | rfl | (simp [*];done)));(focus simp [*,-Option.some.injEq];rfl);kernel_rfl)
     ·exact iha' _
     refine gWf (And.intro ckV.eq_1 (And.intro cvE_mk (And.intro (Xz a) (Xz b)))) ?_
     ((apply AOpl.callP);(focus rfl);(focus (first | rfl | (simp [*];done)));(focus simp [*,-Option.some.injEq];rfl);kernel_rfl)
     ·exact ihb' _
     rfl
   | ok tb =>
     rw [hxb] at ihb hw;have ihb':FRes Tryz.prog tkG 95 [ckV h cls res sc at',.agg (cvE b)] (.ret (.str tb)):=ihb;clear ihb hxb;have hab:=tk_Assignable h hc.len ta tb;have hba:=tk_Assignable h hc.len tb ta;simp only [binOf] at hw;rw [Xz a] at iha';rw [Xz b] at ihb';refine gWf (And.intro ckV.eq_1 (And.intro cvE_mk (And.intro (Xz a) (Xz b)))) ?_
     ((apply Xr);(focus rfl);(focus (first | rfl | (simp [*];done)));(focus simp [*,-Option.some.injEq];rfl);kernel_rfl)
     ·exact iha' _
     refine gWf (And.intro ckV.eq_1 (And.intro cvE_mk (And.intro (Xz a) (Xz b)))) ?_
     ((apply Xr);(focus rfl);(focus (first | rfl | (simp [*];done)));(focus simp [*,-Option.some.injEq];rfl);kernel_rfl)
     ·exact ihb' _
     clear iha' ihb'
     by_cases h5:n=5
     case neg =>
      have hbt:binT h n ta tb=(ta == intB && tb == intB):=by unfold binT;rw [if_neg (fun h=>h5 h.1)]
      rw [hbt] at hw;simp only [beqS,intB] at hw;clear hbt
      repeat (first | (first | (apply Xf;rfl) | apply Xj);focus simp [ckV, *,-Option.some.injEq];rfl | (first | (apply Xa;rfl) | apply Xb);(focus simp [ckV, *];done);focus simp [ckV, *,-Option.some.injEq];rfl | (first | (apply Xg;rfl) | apply Xk);(focus simp [ckV, *];done) | (first | refine Xl ?_ | refine Xi ?_ | refine Xh ?_ | refine Xo ?_ | refine Xq ?_);try simp only [Xx,Xy,reduceIte,Nat.reduceEqDiff] | refine Xn ?_ | refine Xp rfl ?_ | refine Xc ?_ | apply Xd;focus simp [ckV, *];done | apply Xe;focus simp [ckV, *];done | refine Yb rfl rfl ?_ | (first | (apply AOpl.pickOrZ;rfl) | (apply AOpl.pickAndZ;rfl));(focus (simp [ckV, *,-Ax.CV.bool.injEq];rfl));(focus (intro hq;(try simp only [Bool.not_eq_true',Bool.not_eq_false',decide_eq_true_eq,decide_eq_false_iff_not,Bool.and_eq_true,Bool.or_eq_false_iff] at hq);simp [ckV, *,-Ax.CV.bool.injEq];rfl));intro z hz | (first | (apply AOpl.pickOrGZ;rfl) | (apply AOpl.pickAndGZ;rfl));(focus simp [ckV, *];done);(focus (simp [ckV, *,-Ax.CV.bool.injEq];rfl));(focus (intro hq;(try simp only [Bool.not_eq_true',Bool.not_eq_false',decide_eq_true_eq,decide_eq_false_iff_not,Bool.and_eq_true,Bool.or_eq_false_iff] at hq);simp [ckV, *,-Ax.CV.bool.injEq];rfl));intro z hz | (first | (apply AOpl.pickOrCZ;rfl) | (apply AOpl.pickAndCZ;rfl));(focus (simp [ckV, *,-Ax.CV.bool.injEq,-Option.some.injEq];rfl));(focus (intro hq;(try simp only [Bool.not_eq_true',Bool.not_eq_false',decide_eq_true_eq,decide_eq_false_iff_not,Bool.and_eq_true,Bool.or_eq_false_iff] at hq);simp [ckV, *,-Ax.CV.bool.injEq];rfl));(focus (intro hp hq;(try simp only [Bool.not_eq_true',Bool.not_eq_false',decide_eq_true_eq,decide_eq_false_iff_not,Bool.and_eq_true,Bool.or_eq_false_iff] at hp hq);simp [ckV, *,-Ax.CV.bool.injEq];rfl));intro z hz | (apply AOpl.passC;rfl);focus simp [ckV, *,-Ax.CV.bool.injEq];done | (apply AOpl.lookC;rfl);(focus (simp [ckV, *,-Ax.CV.bool.injEq,-Option.some.injEq];rfl));focus intro _;simp [ckV, *,-Option.some.injEq];rfl)
      cases z with
      | true =>
        rw [hz,if_pos rfl] at hw;rw [← hw];clear hw;refine gW ?_
        ((apply Xr);(focus rfl);(focus (first | rfl | (simp [*];done)));(focus simp [*,-Option.some.injEq];rfl);kernel_rfl)
        ·exact need_ok 8 _
        refine gW ?_
        (refine⟨_,(by simp [*];rfl),?_⟩;(try simp only [packA]))
        all_goals rfl
      | false =>
        rw [hz,if_neg (by simp)] at hw;rw [← hw];clear hw;refine gW ?_
        ((apply AOpl.callP);(focus rfl);(focus (first | rfl | (simp [*];done)));(focus simp [*,-Option.some.injEq];rfl);kernel_rfl)
        ·exact need_no 8 _
        rfl
     subst h5
     by_cases hai:ta=intB
     ·by_cases hbi:tb=intB
      ·have hbt:binT h 5 ta tb=true:=by unfold binT;rw [if_neg (fun h=>h.2.1 hai),hai,hbi];rfl
       rw [hbt,if_pos rfl] at hw;rw [← hw];simp only [intB] at hai hbi;subst hai hbi;clear hw hbt;refine gWf ckV.eq_1 ?_
       ((apply Xr);(focus rfl);(focus (first | rfl | (simp [*];done)));(focus simp [*,-Option.some.injEq];rfl);kernel_rfl)
       ·exact need_ok 8 _
       refine gW ?_
       (refine⟨_,(by simp [*];rfl),?_⟩;(try simp only [packA]))
       all_goals rfl
      ·have hbt:binT h 5 ta tb=false:=by
        unfold binT;rw [if_neg (fun h=>h.2.1 hai)];have:(tb == intB)=false:=by simpa using hbi
        rw [this,Bool.and_false]
       rw [hbt,if_neg (by simp)] at hw;rw [← hw];simp only [intB] at hai hbi;subst hai;clear hw hbt;refine gWf ckV.eq_1 ?_
       ((apply AOpl.callP);(focus rfl);(focus (first | rfl | (simp [*];done)));(focus simp [*,-Option.some.injEq];rfl);kernel_rfl)
       ·exact need_no 8 _
       rfl
     by_cases hbi:tb=intB
     ·have hbt:binT h 5 ta tb=false:=by
       unfold binT;rw [if_neg (fun h=>h.2.2 hbi),hbi,beqS,beqS];simp [hai]
      rw [hbt,if_neg (by simp)] at hw;rw [← hw];simp only [intB] at hai hbi;subst hbi;clear hbt hw;refine gWf ckV.eq_1 ?_
      ((apply AOpl.callP);(focus rfl);(focus (first | rfl | (simp [*];done)));(focus simp [*,-Option.some.injEq];rfl);kernel_rfl)
      ·exact need_no 8 _
      rfl
     have hbt:binT h 5 ta tb=((decide (ta=nullB) && decide (tb=nullB)) || asgB h ta tb || asgB h tb ta):=by
      unfold binT;rw [if_pos ⟨rfl,hai,hbi⟩,beqS,beqS]
     simp only [intB,nullB] at hai hbi hbt;generalize asgB h ta tb=y1 at *;generalize asgB h tb ta=y2 at *
     repeat (first | (first | (apply Xf;rfl) | apply Xj);focus simp [ckV, *,-Option.some.injEq];rfl | (first | (apply Xa;rfl) | apply Xb);(focus simp [ckV, *];done);focus simp [ckV, *,-Option.some.injEq];rfl | (first | (apply Xg;rfl) | apply Xk);(focus simp [ckV, *];done) | (first | refine Xl ?_ | refine Xi ?_ | refine Xh ?_ | refine Xo ?_ | refine Xq ?_);try simp only [Xx,Xy,reduceIte,Nat.reduceEqDiff] | refine Xn ?_ | refine Xp rfl ?_ | refine Xc ?_ | apply Xd;focus simp [ckV, *];done | apply Xe;focus simp [ckV, *];done | refine Yb rfl rfl ?_ | (first | (apply AOpl.pickOrZ;rfl) | (apply AOpl.pickAndZ;rfl));(focus (simp [ckV, *,-Ax.CV.bool.injEq];rfl));(focus (intro hq;(try simp only [Bool.not_eq_true',Bool.not_eq_false',decide_eq_true_eq,decide_eq_false_iff_not,Bool.and_eq_true,Bool.or_eq_false_iff] at hq);simp [ckV, *,-Ax.CV.bool.injEq];rfl));intro z hz | (first | (apply AOpl.pickOrGZ;rfl) | (apply AOpl.pickAndGZ;rfl));(focus simp [ckV, *];done);(focus (simp [ckV, *,-Ax.CV.bool.injEq];rfl));(focus (intro hq;(try simp only [Bool.not_eq_true',Bool.not_eq_false',decide_eq_true_eq,decide_eq_false_iff_not,Bool.and_eq_true,Bool.or_eq_false_iff] at hq);simp [ckV, *,-Ax.CV.bool.injEq];rfl));intro z hz | (first | (apply AOpl.pickOrCZ;rfl) | (apply AOpl.pickAndCZ;rfl));(focus (simp [ckV, *,-Ax.CV.bool.injEq,-Option.some.injEq];rfl));(focus (intro hq;(try simp only [Bool.not_eq_true',Bool.not_eq_false',decide_eq_true_eq,decide_eq_false_iff_not,Bool.and_eq_true,Bool.or_eq_false_iff] at hq);simp [ckV, *,-Ax.CV.bool.injEq];rfl));(focus (intro hp hq;(try simp only [Bool.not_eq_true',Bool.not_eq_false',decide_eq_true_eq,decide_eq_false_iff_not,Bool.and_eq_true,Bool.or_eq_false_iff] at hp hq);simp [ckV, *,-Ax.CV.bool.injEq];rfl));intro z hz | (apply AOpl.passC;rfl);focus simp [ckV, *,-Ax.CV.bool.injEq];done | (apply AOpl.lookC;rfl);(focus (simp [ckV, *,-Ax.CV.bool.injEq,-Option.some.injEq];rfl));focus intro _;simp [ckV, *,-Option.some.injEq];rfl)
     ((apply AOpl.callC);(focus rfl);(focus (simp [*,-Ax.CV.bool.injEq,-Option.some.injEq];rfl));(focus (intro _;simp [*,-Option.some.injEq];rfl));(focus (kernel_rfl)))
     ·intro _;exact hab.f
     intro nx3 hn3
     repeat (first | (first | (apply Xf;rfl) | apply Xj);focus simp [*,-Option.some.injEq];rfl | (first | (apply Xa;rfl) | apply Xb);(focus simp [*];done);focus simp [*,-Option.some.injEq];rfl | (first | (apply Xg;rfl) | apply Xk);(focus simp [*];done) | (first | refine Xl ?_ | refine Xi ?_ | refine Xh ?_ | refine Xo ?_ | refine Xq ?_);try simp only [Xx,Xy,reduceIte,Nat.reduceEqDiff] | refine Xn ?_ | refine Xp rfl ?_ | refine Xc ?_ | apply Xd;focus simp [*];done | apply Xe;focus simp [*];done | refine Yb rfl rfl ?_ | (first | (apply AOpl.pickOrZ;rfl) | (apply AOpl.pickAndZ;rfl));(focus (simp [*,-Ax.CV.bool.injEq];rfl));(focus (intro hq;(try simp only [Bool.not_eq_true',Bool.not_eq_false',decide_eq_true_eq,decide_eq_false_iff_not,Bool.and_eq_true,Bool.or_eq_false_iff] at hq);simp [*,-Ax.CV.bool.injEq];rfl));intro z hz | (first | (apply AOpl.pickOrGZ;rfl) | (apply AOpl.pickAndGZ;rfl));(focus simp [*];done);(focus (simp [*,-Ax.CV.bool.injEq];rfl));(focus (intro hq;(try simp only [Bool.not_eq_true',Bool.not_eq_false',decide_eq_true_eq,decide_eq_false_iff_not,Bool.and_eq_true,Bool.or_eq_false_iff] at hq);simp [*,-Ax.CV.bool.injEq];rfl));intro z hz | (first | (apply AOpl.pickOrCZ;rfl) | (apply AOpl.pickAndCZ;rfl));(focus (simp [*,-Ax.CV.bool.injEq,-Option.some.injEq];rfl));(focus (intro hq;(try simp only [Bool.not_eq_true',Bool.not_eq_false',decide_eq_true_eq,decide_eq_false_iff_not,Bool.and_eq_true,Bool.or_eq_false_iff] at hq);simp [*,-Ax.CV.bool.injEq];rfl));(focus (intro hp hq;(try simp only [Bool.not_eq_true',Bool.not_eq_false',decide_eq_true_eq,decide_eq_false_iff_not,Bool.and_eq_true,Bool.or_eq_false_iff] at hp hq);simp [*,-Ax.CV.bool.injEq];rfl));intro z hz | (apply AOpl.passC;rfl);focus simp [*,-Ax.CV.bool.injEq];done | (apply AOpl.lookC;rfl);(focus (simp [*,-Ax.CV.bool.injEq,-Option.some.injEq];rfl));focus intro _;simp [*,-Option.some.injEq];rfl)
     ((apply AOpl.callC);(focus rfl);(focus (simp [*,-Ax.CV.bool.injEq,-Option.some.injEq];rfl));(focus (intro _;simp [*,-Option.some.injEq];rfl));(focus (kernel_rfl)))
     ·intro _;exact hba.f
     intro nx4 hn4
     repeat (first | (first | (apply Xf;rfl) | apply Xj);focus simp [*,-Option.some.injEq];rfl | (first | (apply Xa;rfl) | apply Xb);(focus simp [*];done);focus simp [*,-Option.some.injEq];rfl | (first | (apply Xg;rfl) | apply Xk);(focus simp [*];done) | (first | refine Xl ?_ | refine Xi ?_ | refine Xh ?_ | refine Xo ?_ | refine Xq ?_);try simp only [Xx,Xy,reduceIte,Nat.reduceEqDiff] | refine Xn ?_ | refine Xp rfl ?_ | refine Xc ?_ | apply Xd;focus simp [*];done | apply Xe;focus simp [*];done | refine Yb rfl rfl ?_ | (first | (apply AOpl.pickOrZ;rfl) | (apply AOpl.pickAndZ;rfl));(focus (simp [*,-Ax.CV.bool.injEq];rfl));(focus (intro hq;(try simp only [Bool.not_eq_true',Bool.not_eq_false',decide_eq_true_eq,decide_eq_false_iff_not,Bool.and_eq_true,Bool.or_eq_false_iff] at hq);simp [*,-Ax.CV.bool.injEq];rfl));intro z hz | (first | (apply AOpl.pickOrGZ;rfl) | (apply AOpl.pickAndGZ;rfl));(focus simp [*];done);(focus (simp [*,-Ax.CV.bool.injEq];rfl));(focus (intro hq;(try simp only [Bool.not_eq_true',Bool.not_eq_false',decide_eq_true_eq,decide_eq_false_iff_not,Bool.and_eq_true,Bool.or_eq_false_iff] at hq);simp [*,-Ax.CV.bool.injEq];rfl));intro z hz | (first | (apply AOpl.pickOrCZ;rfl) | (apply AOpl.pickAndCZ;rfl));(focus (simp [*,-Ax.CV.bool.injEq,-Option.some.injEq];rfl));(focus (intro hq;(try simp only [Bool.not_eq_true',Bool.not_eq_false',decide_eq_true_eq,decide_eq_false_iff_not,Bool.and_eq_true,Bool.or_eq_false_iff] at hq);simp [*,-Ax.CV.bool.injEq];rfl));(focus (intro hp hq;(try simp only [Bool.not_eq_true',Bool.not_eq_false',decide_eq_true_eq,decide_eq_false_iff_not,Bool.and_eq_true,Bool.or_eq_false_iff] at hp hq);simp [*,-Ax.CV.bool.injEq];rfl));intro z hz | (apply AOpl.passC;rfl);focus simp [*,-Ax.CV.bool.injEq];done | (apply AOpl.lookC;rfl);(focus (simp [*,-Ax.CV.bool.injEq,-Option.some.injEq];rfl));focus intro _;simp [*,-Option.some.injEq];rfl)
     rename_i z1 hz1 z2 hz2;have hbz:binT h 5 ta tb=z:=by
      rw [hbt,← hz,← hz2,← hz1]
      by_cases p:ta=[110,117,108,108] <;> by_cases q:tb=[110,117,108,108] <;> simp [p,q]
     rw [hbz] at hw;clear hz1 hz2 hz hbz hbt;cases z with
     | true =>
       rw [if_pos rfl] at hw;rw [← hw];clear hw;refine gW ?_
       ((apply Xr);(focus rfl);(focus (first | rfl | (simp [*];done)));(focus simp [*,-Option.some.injEq];rfl);kernel_rfl)
       ·exact need_ok 8 _
       refine gW ?_
       (refine⟨_,(by simp [*];rfl),?_⟩;(try simp only [packA]))
       all_goals rfl
     | false =>
       rw [if_neg (by simp)] at hw;rw [← hw];clear hw;refine gW ?_
       ((apply AOpl.callP);(focus rfl);(focus (first | rfl | (simp [*];done)));(focus simp [*,-Option.some.injEq];rfl);kernel_rfl)
       ·exact need_no 8 _
       rfl
/-- What call gives, once the types of the arguments are known. -/
def calT1 (c m:Bytes)(st:Bool)(args:List Ex):Tk Bytes:=match sigT h c m st args.length with
 | .error e=>.error e
 | .ok g=>match argT h cls sc g.params args with
   | .error e=>.error e
   | .ok _=>.ok g.result
set_option maxRecDepth 10000 in
set_option maxHeartbeats 8000000 in
theorem tk_call (hc:HC h)(c m:Bytes)(st:Bool)(args:List Ex)(hal:args.length≤lim)(ih:∀ e∈args,ExOk h cls res sc at' e):FRes Tryz.prog tkG 105 [ckV h cls res sc at',.str c,.str m,.bool st,.lst (args.map cvE)] (tkB (calT1 h cls sc c m st args)):=by
 refine FRes.ofBody tkG_pu (by simp [puL,puV,puEs,ckV_pu]) (tkB_pu _) Tryz.func105 rfl rfl fun nx=>?_
 have hlk:=tk_Lookup h hc.hb c m;obtain⟨w,hw⟩:∃ w,calT1 h cls sc c m st args=w:=⟨_,rfl⟩;rw [hw];unfold calT1 sigT at hw;cases h1:lookF h c m with
 | none =>
   rw [h1] at hw hlk;have hlk':FCall1 Tryz.prog tkG 52 [cvH h,.str c,.str m] (.tup [.str [],.agg [.str [],.bool false,.nils,.str []],.bool false]):=hlk;simp only at hw;rw [← hw];clear hw h1 hlk;refine gWf ckV.eq_1 ?_
   ((apply Xr);(focus rfl);(focus (first | rfl | (simp [*];done)));(focus simp [*,-Option.some.injEq];rfl);kernel_rfl)
   ·exact hlk' _
   refine gW ?_
   ((apply AOpl.callP);(focus rfl);(focus (first | rfl | (simp [*];done)));(focus simp [*,-Option.some.injEq];rfl);kernel_rfl)
   ·exact need_no 6 _
   rfl
 | some p =>
 obtain⟨c1,g⟩:=p;rw [h1] at hw hlk;have hlk':FCall1 Tryz.prog tkG 52 [cvH h,.str c,.str m] (.tup [.str c1,.agg [.str g.name,.bool g.static,.lst (g.params.map cvN),.str g.result],.bool true]):=hlk;simp only at hw;clear h1 hlk
 by_cases h2:g.static=st
 case neg =>
  rw [if_neg h2] at hw;rw [← hw];clear hw;have h2':(g.static == st)=false:=by simpa using h2
  refine gWf ckV.eq_1 ?_
  ((apply Xr);(focus rfl);(focus (first | rfl | (simp [*];done)));(focus simp [*,-Option.some.injEq];rfl);kernel_rfl)
  ·exact hlk' _
  refine gW ?_
  ((apply AOpl.callP);(focus rfl);(focus (first | rfl | (simp [*];done)));(focus simp [*,-Option.some.injEq];rfl);kernel_rfl)
  ·exact need_no 6 _
  rfl
 rw [if_pos h2] at hw;subst h2
 by_cases h3:args.length=g.params.length
 case neg =>
  rw [if_neg h3] at hw;rw [← hw];clear hw;have h3':¬ (args.length:Int)=g.params.length:=by omega
  refine gWf ckV.eq_1 ?_
  ((apply Xr);(focus rfl);(focus (first | rfl | (simp [*];done)));(focus simp [*,-Option.some.injEq];rfl);kernel_rfl)
  ·exact hlk' _
  refine gW ?_
  ((apply Xr);(focus rfl);(focus (first | rfl | (simp [*];done)));(focus simp [*,-Option.some.injEq];rfl);kernel_rfl)
  ·exact need_ok 6 _
  refine gW ?_
  ((apply AOpl.callP);(focus rfl);(focus (first | rfl | (simp [*];done)));(focus simp [*,-Option.some.injEq];rfl);kernel_rfl)
  ·exact need_no 9 _
  rfl
 rw [if_pos h3] at hw;simp only at hw;refine gWf ckV.eq_1 ?_
 ((apply Xr);(focus rfl);(focus (first | rfl | (simp [*];done)));(focus simp [*,-Option.some.injEq];rfl);kernel_rfl)
 ·exact hlk' _
 refine gW ?_
 ((apply Xr);(focus rfl);(focus (first | rfl | (simp [*];done)));(focus simp [*,-Option.some.injEq];rfl);kernel_rfl)
 ·exact need_ok 6 _
 refine gW ?_
 ((apply Xr);(focus rfl);(focus (first | rfl | (simp [*];done)));(focus simp [*,-Option.some.injEq];rfl);kernel_rfl)
 ·exact need_ok 9 _
 refine gW ?_;clear hlk';have hgl:g.params.length≤lim:=by omega
 obtain⟨W,hW⟩:∃ W,argT h cls sc g.params args=W:=⟨_,rfl⟩;rw [hW] at hw;refine AWp.countO g.params.length [14,15,44] 45 (fun i e H1 nx1=>e 44=.int .i64 i∧H1 nx=some (.cells [.str g.name,.bool g.static,.lst (g.params.map cvN),.str g.result])∧argT h cls sc (g.params.drop i) (args.drop i)=W) ⟨(by first | (simp (disch:=omega) [putE,over,ofV,ofS, *];done) | (simp (disch:=omega) [putE,over,ofV,ofS, *];rfl)),by simp [upd],hW⟩ ?_;clear hW;rintro i v H1 nx1 hi hn1 ⟨h44,hS,hf⟩;have q1:=far (show nx<nx1 by omega);refine gWr ?_
 (((apply AWp.cond');(focus (simp [*,-Ax.CV.bool.injEq];rfl))) <;> (intro hb) <;> (try simp only [decide_eq_true_eq,decide_eq_false_iff_not,Bool.not_eq_true',Bool.not_eq_false',Bool.not_eq_true,Bool.not_eq_false] at hb))
 ·have hlt:i<g.params.length:=hb;have hlt':i<args.length:=by omega
  have hwi:=lim_wrap hlt hgl;clear hb;rw [List.drop_eq_getElem_cons hlt,List.drop_eq_getElem_cons hlt',Lx.argT] at hf;have has:=tk_assign h cls res sc at' hc args[i] g.params[i] (ih _ (List.getElem_mem hlt'));cases hx:asgT h (exT9 h cls sc args[i]) g.params[i] with
  | error x =>
    rw [hx] at hf has;have has':FRes Tryz.prog tkG 93 [ckV h cls res sc at',.agg (cvE args[i]),.str g.params[i]] (.pan (fltV x)):=has;simp only at hf;rw [← hf] at hw;simp only at hw;rw [← hw];clear hf hw hx has ih;rw [Xz args[i]] at has';refine gWrf (And.intro (Xz args[i]) (And.intro cvN.eq_1 ckV.eq_1)) ?_
    (refine AWp.regDT (by kernel_rfl) (by kernel_rfl) rfl ?_;intro nxq hnq)
    repeat (first | apply Xu;(focus simp [cvN, *,-Option.some.injEq];rfl) | apply Xt;(focus simp [cvN, *];done);(focus simp [cvN, *,-Option.some.injEq];rfl) | apply Xv;(focus simp [cvN, *];done) | refine Xw ?_;try simp only [Xx,Xy,reduceIte,Nat.reduceEqDiff])
    ((apply AQq.pan);(focus (first | rfl | (simp [ckV, *];done)));(focus simp [ckV, *,-Option.some.injEq];rfl);kernel_rfl)
    ·exact has' _
    ·repeat (first | exact AQt.nil | (apply AQt.look;(focus simp [*,-Option.some.injEq];rfl)) | (apply AQt.lookG;(focus simp [*];done);(focus simp [*,-Option.some.injEq];rfl)) | (apply AQt.pass;(focus simp [*];done)) | refine AQt.dead (by kernel_rfl) ?_)
    intro e2;rfl
  | ok u =>
    rw [hx] at hf has;have has':FRes Tryz.prog tkG 93 [ckV h cls res sc at',.agg (cvE args[i]),.str g.params[i]] (.ret (.tup [])):=has;simp only at hf;clear hw hx has ih;rw [Xz args[i]] at has';refine gWrf (And.intro (Xz args[i]) (And.intro cvN.eq_1 ckV.eq_1)) ?_
    (refine AWp.regDT (by kernel_rfl) (by kernel_rfl) rfl ?_;intro nxq hnq)
    repeat (first | apply Xu;(focus simp [cvN, *,-Option.some.injEq];rfl) | apply Xt;(focus simp [cvN, *];done);(focus simp [cvN, *,-Option.some.injEq];rfl) | apply Xv;(focus simp [cvN, *];done) | refine Xw ?_;try simp only [Xx,Xy,reduceIte,Nat.reduceEqDiff])
    ((apply AQq.callG);(focus (first | rfl | (simp [ckV, *];done)));(focus simp [ckV, *,-Option.some.injEq];rfl);kernel_rfl)
    ·exact has' _
    repeat (first | apply Xu;(focus simp [*,-Option.some.injEq];rfl) | apply Xt;(focus simp [*];done);(focus simp [*,-Option.some.injEq];rfl) | apply Xv;(focus simp [*];done) | refine Xw ?_;try simp only [Xx,Xy,reduceIte,Nat.reduceEqDiff])
    refine gW ?_;exact⟨by ((repeat (first | exact Keeps.base _ _ _ _ | (with_reducible exact Keeps.refl _ _ _) | (refine Keeps.put rfl ?_) | (refine Keeps.over' rfl rfl ?_)))),hlt,(by first | (simp (disch:=omega) [putE,over,ofV,ofS, *];done) | (simp (disch:=omega) [putE,over,ofV,ofS, *];rfl)),by simp [upd, *],hf⟩
 ·have hi':g.params.length≤i:=by omega
  rw [List.drop_eq_nil_of_le hi',List.drop_eq_nil_of_le (by omega),Lx.argT] at hf
  ·rw [← hf] at hw;simp only at hw;rw [← hw];clear hf hw ih;refine gW ?_
   (refine⟨_,(by simp [*];rfl),?_⟩;(try simp only [packA]))
   all_goals rfl
  ·intro _ _ _ _ e _;cases e
end
end
end Go.Proofs.YtoookjadbhdfhaaGreatDoor
