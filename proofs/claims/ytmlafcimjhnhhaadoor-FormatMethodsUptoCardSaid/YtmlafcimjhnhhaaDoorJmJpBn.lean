/-
  ref09's methodText and classText walked.
-/
import Derived.Test.YtmlafcimjhnhhaaDoorJmJpBm
import Derived.Test.YtmlafcimjhnhhaaDoorJmJpBl
import Derived.Test.YtmlafcimjhnhhaaDoorJmJpBf
import Derived.Test.YtmlafcimjhnhhaaDoorJmJpBk
import Derived.Test.YtmlafcimjhnhhaaDoorJmJpBj
set_option linter.unusedSectionVars false
set_option linter.unusedSimpArgs false
set_option linter.unnecessarySimpa false
set_option linter.unusedVariables false
set_option linter.unusedSimpArgs false
set_option linter.unusedVariables false
namespace Go.Proofs.YtmlafcimjhnhhaaDoor
section
open Lx Ax Go.RowKit
attribute [local simp] stepS Ax.stepT Dl.on qstep astep estep rd putE over argE ofV ofS loadA pickCells isAggD faddA fieldA partA iaddA idxA bnd binA intA strA unA convA lenA mapOf lookA findK keyD scalD storeA mupA srcA srcD upd drp Dl.hp Dl.nx CV.cs CV.one buildA placesA fillA zrep tasA ifaceD eqA eqFs eqIs range2 copyA nbeq nble nblt decEq beqI bneI beqS bneS isED Int.ofNat_inj List.getElem?_map List.getElem?_eq_getElem Option.map_some ti_int ti_i64 ti_str ti_bool ti_Exs ti_Ex ti_St ti_Sts ti_Fld ti_Flds ti_Me ti_Mes ti_Cl ti_Cls ti_So gd gdB callA resA op1
attribute [local simp] one1 cvE_eq cvS_eq exk exn exo exm exks drR drp nu1 nu2 nu3 nu4 nu5 nu6 nu7 nu8 nu9 nu10 nu11 nu12 nu13 bl_len cvC cvM cvF
attribute [local simp] rw1
def parR (l:List Fld)(i:Nat):Bytes:=if i=0 then parText l else (l.drop i).flatMap fun f=>[44,32]++fldText f
theorem parT_eq:∀ (e:Fld) (l:List Fld),parText (e::l)=fldText e++l.flatMap fun f=>[44,32]++fldText f
 | e,[]=>by simp [parText]
 | e,f::l=>by rw [parText,parT_eq f l];simp;simp
theorem parR_step {l:List Fld}{i:Nat}(h:i<l.length):parR l i=(if i=0 then [] else [44,32])++fldText l[i]++parR l (i+1):=by
 unfold parR;rw [if_neg (by omega:¬ i+1=0)];split
 ·rename_i h0;subst h0;cases l with
  | nil=>simp at h
  | cons e l=>rw [parT_eq];simp
 ·rw [dropAt h,List.flatMap_cons]
  try simp
theorem parR_end {l:List Fld}{i:Nat}(h:¬ i<l.length):parR l i=[]:=by
 unfold parR;split
 ·rename_i h0;subst h0;cases l with
  | nil=>rfl
  | cons e l=>simp at h
 ·rw [List.drop_eq_nil_of_le (by omega)];rfl
set_option maxRecDepth 10000 in
set_option maxHeartbeats 32000000 in
theorem rt_method (m:Me)(n:Nat)(hn:n+1+meSz m≤2097152)(hb:stsSz m.body≤2000000)(hw:WfM m):FCall1 Tryd.prog paG 30 [.agg (cvM m),.int .i64 (n:Nat)] (.str (meText n m)):=by
 refine FCall.one paG_pu (by simp only [puL,puV,puM];rfl) rfl ?_;refine FCall.ofBody Tryd.func30 rfl rfl fun nx=>?_
 have hT:=meText_len hn hw;obtain⟨nm,st,ps,r,b⟩:=m;unfold meSz at hn hT;simp only at hn hb;have ht:=rt_tabs n (by omega);have hst:=(rt_line (stsSz b) hb).2 b (n+1) (Nat.le_refl _) (by omega) hw.body;rw [show ((n+1:Nat):Int)=(n:Int)+1 by omega] at hst;have hw1:IntKind.i64.wrap ((n:Int)+1)=(n:Int)+1:=by rw [IntKind.wrap_i64];omega
 have lb:=blText_len (n:=n+1) (l:=b) (by omega) hw.body;have lp:=parText_len hw.params;have lt0:=tabs_len n;have g1:=ident_len hw.name;have g2:r.length≤32:=by rcases hw.result with h | h;(simp only at h;rw [h];simp);exact typ_len h
 have wfP:=hw.params;simp only at g1 wfP lp;obtain⟨TB,hTB⟩:∃ TB,TB=tabsOf n:=⟨_,rfl⟩;obtain⟨R3,hR3⟩:∃ R3,R3=TB++(if st then [115,116,97,116,105,99,32] else [])++[100,101,102,32]++nm++[40]++parText ps:=⟨_,rfl⟩;have hpm:meText n ⟨nm,st,ps,r,b⟩=R3++[41]++(if r=[] then [] else [58,32]++r)++[32,123,10]++stsText (n+1) b++TB++[125,10]:=by rw [hR3,hTB];simp [meText]
 have hl3:R3.length≤200000000:=by rw [hR3];rw [← hTB] at lt0;cases st <;> simp <;> omega
 rw [hpm];rw [← hTB] at ht lt0;obtain⟨SB,hSB⟩:∃ SB,SB=stsText (n+1) b:=⟨_,rfl⟩;rw [← hSB] at hst lb ⊢;clear hpm hT hTB hSB hw lp;have ha:(r == [])=true∨(r == [])=false:=by cases (r == []) <;> simp
 have hps:ps.length≤2097152:=by omega
 cases st
 all_goals
  refine gV ?_
  (first | refine AOpl.call1 rfl (by first | rfl | (simp [*];done)) (by simp [*]) (by kernel_rfl) (ht) ?_ | refine ASl.callg (by first | rfl | (simp [*];done)) (by simp [*]) (by kernel_rfl) (ht) ?_)
  refine gV ?_;refine AWp.countO ps.length [5,6] 7 (fun j v3 H3 nx3=>∃ out3:Bytes,v3 5=.str out3∧v3 6=.int .i64 j∧H3 nx=some (.cells (cvM ⟨nm,_,ps,r,b⟩))∧R3=out3++parR ps j) ⟨_,by first | rfl | (simp [putE,over];rfl),by simp [putE,over],by simp [upd];rfl,by rw [hR3];simp [parR]⟩ ?_;clear hR3;rintro j v3 H3 nx3 hj hn3 ⟨out3,h3,h7,hH3,hR3⟩;have hol30:out3.length≤R3.length:=by rw [hR3];simp
  have hol3:out3.length≤200000000:=by omega
  by_cases hb4:j<ps.length
  ·have hwj:=up1 hb4 (by omega);rw [parR_step hb4] at hR3;have g3:=ident_len (wfP _ (List.getElem_mem hb4)).1;have g4:=typ_len (wfP _ (List.getElem_mem hb4)).2;have hb5:(j:Int)<(ps.length:Int):=by omega
   clear hn3 hst ht wfP
   by_cases h0:j=0
   ·subst h0;rw [if_pos rfl] at hR3;refine gV ?_;exact⟨by ((repeat (first | exact Keeps.base _ _ _ _ | (with_reducible exact Keeps.refl _ _ _) | (refine Keeps.put rfl ?_) | (refine Keeps.over' rfl rfl ?_)))),hb4,out3++fldText ps[0],by simp [putE,over,fldText],by simp [putE,over],hH3,by rw [hR3];simp⟩
   ·rw [if_neg h0] at hR3;have h0':(0:Int)<(j:Int):=by omega
    have h0'':0<j:=by omega
    refine gV ?_;exact⟨by ((repeat (first | exact Keeps.base _ _ _ _ | (with_reducible exact Keeps.refl _ _ _) | (refine Keeps.put rfl ?_) | (refine Keeps.over' rfl rfl ?_)))),hb4,out3++[44,32]++fldText ps[j],by simp [putE,over,fldText],by simp [putE,over],hH3,by rw [hR3];simp⟩
  ·rw [parR_end hb4,List.append_nil] at hR3;obtain rfl:R3=out3:=hR3;clear hn3 wfP;rcases ha with hr | hr
   ·have hr2:r=[]:=by simpa using hr
    rw [if_pos hr2];refine gV ?_
    (first | refine AOpl.call1 rfl (by first | rfl | (simp [*];done)) (by simp [*]) (by kernel_rfl) (hst) ?_ | refine ASl.callg (by first | rfl | (simp [*];done)) (by simp [*]) (by kernel_rfl) (hst) ?_)
    refine gV ?_
    (first | refine AOpl.call1 rfl (by first | rfl | (simp [*];done)) (by simp [*]) (by kernel_rfl) (ht) ?_ | refine ASl.callg (by first | rfl | (simp [*];done)) (by simp [*]) (by kernel_rfl) (ht) ?_)
    refine gV ?_
    (refine⟨_,(by simp [*];rfl),?_⟩;(try simp only [packA]))
    simp
   ·have hr2:¬ r=[]:=by simpa using hr
    rw [if_neg hr2];refine gV ?_
    (first | refine AOpl.call1 rfl (by first | rfl | (simp [*];done)) (by simp [*]) (by kernel_rfl) (hst) ?_ | refine ASl.callg (by first | rfl | (simp [*];done)) (by simp [*]) (by kernel_rfl) (hst) ?_)
    refine gV ?_
    (first | refine AOpl.call1 rfl (by first | rfl | (simp [*];done)) (by simp [*]) (by kernel_rfl) (ht) ?_ | refine ASl.callg (by first | rfl | (simp [*];done)) (by simp [*]) (by kernel_rfl) (ht) ?_)
    refine gV ?_
    (refine⟨_,(by simp [*];rfl),?_⟩;(try simp only [packA]))
    simp
end
section
open Lx Ax Go.RowKit
attribute [local simp] stepS Ax.stepT Dl.on qstep astep estep rd putE over argE ofV ofS loadA pickCells isAggD faddA fieldA partA iaddA idxA bnd binA intA strA unA convA lenA mapOf lookA findK keyD scalD storeA mupA srcA srcD upd drp Dl.hp Dl.nx CV.cs CV.one buildA placesA fillA zrep tasA ifaceD eqA eqFs eqIs range2 copyA nbeq nble nblt decEq beqI bneI beqS bneS isED Int.ofNat_inj List.getElem?_map List.getElem?_eq_getElem Option.map_some ti_int ti_i64 ti_str ti_bool ti_Exs ti_Ex ti_St ti_Sts ti_Fld ti_Flds ti_Me ti_Mes ti_Cl ti_Cls ti_So gd gdB callA resA op1
attribute [local simp] one1 cvC_eq cvM_eq drR drp nu1 nu2 nu3 nu4 nu5 nu6 nu7 nu8 nu9 nu10 nu11 nu12 nu13 bl_len
namespace Lx
/-- What ref09 makes of a method. -/
def methT (m:Me):Bytes×Nat:=if meLim m≠0 then ([],meLim m) else if meFault m≠0 then ([],meFault m) else fitT (meText 0 m)
end Lx
set_option maxRecDepth 10000 in
set_option maxHeartbeats 16000000 in
theorem rt_Method (d:Nat)(m:Me)(hl:LenM d m)(hB:MethB d m)(hs:meSz m≤2000000):FCall1 Tryd.prog paG 13 [.agg (cvM m)] (.tup [.str (methT m).1,.int .i64 ((methT m).2:Nat)]):=by
 refine FCall.one paG_pu (by simp only [puL,puV,puM];rfl) rfl ?_;refine FCall.ofBody Tryd.func13 rfl rfl fun nx=>?_
 have hlim:=rs_meLim d m hl;have hfl:=rs_method d m hl hB;rw [cvM_eq] at hlim hfl;obtain⟨R,hR⟩:∃ R,R=methT m:=⟨_,rfl⟩;rw [← hR];unfold methT at hR
 by_cases h0:meLim m=0
 ·rw [if_neg (by simpa using h0)] at hR;rw [h0] at hlim
  by_cases h1:meFault m=0
  ·rw [if_neg (by simpa using h1)] at hR;rw [h1] at hfl;have hwf:WfM m:=wfM_of (fun s hs=>numS_of (hB.2.2.2 s hs)) h1;have hc:=rt_method m 0 (by omega) (by unfold meSz at hs;omega) hwf;have hlen:=meText_len (n:=0) (by omega) hwf;have hfit:=rt_fit (meText 0 m);rw [← hR] at hfit;obtain⟨T,hT⟩:∃ T,T=meText 0 m:=⟨_,rfl⟩;rw [← hT] at hc hlen hfit;rw [cvM_eq] at hc;clear hR h0 h1 hl hB hwf hT;refine gV ?_
   (first | refine AOpl.call1 rfl (by first | rfl | (simp [*];done)) (by simp [*]) (by kernel_rfl) (hlim) ?_ | refine ASl.callg (by first | rfl | (simp [*];done)) (by simp [*]) (by kernel_rfl) (hlim) ?_)
   refine gV ?_
   (first | refine AOpl.call1 rfl (by first | rfl | (simp [*];done)) (by simp [*]) (by kernel_rfl) (hfl) ?_ | refine ASl.callg (by first | rfl | (simp [*];done)) (by simp [*]) (by kernel_rfl) (hfl) ?_)
   refine gV ?_
   (first | refine AOpl.call1 rfl (by first | rfl | (simp [*];done)) (by simp [*]) (by kernel_rfl) (hc) ?_ | refine ASl.callg (by first | rfl | (simp [*];done)) (by simp [*]) (by kernel_rfl) (hc) ?_)
   refine gV ?_
   (first | refine AOpl.call1 rfl (by first | rfl | (simp [*];done)) (by simp [*]) (by kernel_rfl) (hfit) ?_ | refine ASl.callg (by first | rfl | (simp [*];done)) (by simp [*]) (by kernel_rfl) (hfit) ?_)
   refine gV ?_
   (refine⟨_,(by simp [*];rfl),?_⟩;(try simp only [packA]))
  ·rw [if_pos (by simpa using h1)] at hR;have h2:¬ ((meFault m:Nat):Int)=0:=by omega
   generalize meFault m=k at hfl h1 h2 hR;subst hR;clear hl hB h0;refine gV ?_
   (first | refine AOpl.call1 rfl (by first | rfl | (simp [*];done)) (by simp [*]) (by kernel_rfl) (hlim) ?_ | refine ASl.callg (by first | rfl | (simp [*];done)) (by simp [*]) (by kernel_rfl) (hlim) ?_)
   refine gV ?_
   (first | refine AOpl.call1 rfl (by first | rfl | (simp [*];done)) (by simp [*]) (by kernel_rfl) (hfl) ?_ | refine ASl.callg (by first | rfl | (simp [*];done)) (by simp [*]) (by kernel_rfl) (hfl) ?_)
   refine gV ?_
   (refine⟨_,(by simp [*];rfl),?_⟩;(try simp only [packA]))
 ·rw [if_pos (by simpa using h0)] at hR;have h1:¬ ((meLim m:Nat):Int)=0:=by omega
  generalize meLim m=k at hlim h0 h1 hR;subst hR;clear hl hB hfl;refine gV ?_
  (first | refine AOpl.call1 rfl (by first | rfl | (simp [*];done)) (by simp [*]) (by kernel_rfl) (hlim) ?_ | refine ASl.callg (by first | rfl | (simp [*];done)) (by simp [*]) (by kernel_rfl) (hlim) ?_)
  refine gV ?_
  (refine⟨_,(by simp [*];rfl),?_⟩;(try simp only [packA]))
end
section
open Lx Ax
namespace Lx
mutual
theorem stNest_sz:∀ s:St,stNest s≤stSz s
 | .mk _ _ _ es b el=>by
   have h1:=stsNest_sz b;have h2:=stsNest_sz el;rw [stNest,stSz];omega
theorem stsNest_sz:∀ l:List St,stsNest l≤stsSz l
 | []=>by simp [stsNest]
 | s::l=>by
   have h1:=stNest_sz s;have h2:=stsNest_sz l;rw [stsNest,stsSz];omega
end
end Lx
end
section
open Lx Ax
namespace Lx
theorem methF_eq {m:Me}(hs:meSz m≤2000000):methF m=methT m:=by
 unfold methF methT
 by_cases h0:meLim m≠0
 ·rw [if_pos h0,if_pos h0]
 ·rw [if_neg h0,if_neg h0]
  by_cases h1:meFault m≠0
  ·rw [if_pos h1,if_pos h1]
  ·rw [if_neg h1,if_neg h1];have ht:=meP_text 0 m (by have e:=stsNest_sz m.body;unfold meSz at hs;omega);unfold fitT;rw [show ((0:Nat):Int)=0 from rfl] at ht;rw [ht]
end Lx
end
end Go.Proofs.YtmlafcimjhnhhaaDoor
