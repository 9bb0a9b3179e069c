/-
  ref09's methodText and classText walked.
-/
import Derived.Test.YtmlafcimjhnhhaaDoorJtJpBm
import Derived.Test.YtmlafcimjhnhhaaDoorJtJpBl
import Derived.Test.YtmlafcimjhnhhaaDoorJtJpBf
import Derived.Test.YtmlafcimjhnhhaaDoorJtJpBj
set_option linter.unusedSectionVars false
set_option linter.unusedSimpArgs false
set_option linter.unnecessarySimpa false
set_option linter.unusedVariables false
set_option linter.unusedSimpArgs false
set_option linter.unusedVariables false
namespace Go.Proofs.YtmlafcimjhnhhaaDoor
section
open Lx Ax Go.RowKit
attribute [local simp] stepS Ax.stepT Dl.on qstep astep estep rd putE over argE ofV ofS loadA pickCells isAggD faddA fieldA partA iaddA idxA bnd binA intA strA unA convA lenA mapOf lookA findK keyD scalD storeA mupA srcA srcD upd drp Dl.hp Dl.nx CV.cs CV.one buildA placesA fillA zrep tasA ifaceD eqA eqFs eqIs range2 copyA nbeq nble nblt decEq beqI bneI beqS bneS isED Int.ofNat_inj List.getElem?_map List.getElem?_eq_getElem Option.map_some ti_int ti_i64 ti_str ti_bool ti_Exs ti_Ex ti_St ti_Sts ti_Fld ti_Flds ti_Me ti_Mes ti_Cl ti_Cls ti_So gd gdB callA resA op1
attribute [local simp] one1 cvE_eq cvS_eq exk exn exo exm exks drR drp nu1 nu2 nu3 nu4 nu5 nu6 nu7 nu8 nu9 nu10 nu11 nu12 nu13 bl_len cvC cvM cvF
attribute [local simp] rw1
def parR (l:List Fld)(i:Nat):Bytes:=if i=0 then parText l else (l.drop i).flatMap fun f=>[44,32]++fldText f
theorem parT_eq:∀ (e:Fld) (l:List Fld),parText (e::l)=fldText e++l.flatMap fun f=>[44,32]++fldText f
 | e,[]=>by simp [parText]
 | e,f::l=>by rw [parText,parT_eq f l];simp;simp
theorem parR_step {l:List Fld}{i:Nat}(h:i<l.length):parR l i=(if i=0 then [] else [44,32])++fldText l[i]++parR l (i+1):=by
 unfold parR;rw [if_neg (by omega:¬ i+1=0)];split
 ·rename_i h0;subst h0;cases l with
  | nil=>simp at h
  | cons e l=>rw [parT_eq];simp
 ·rw [dropAt h,List.flatMap_cons]
  try simp
theorem parR_end {l:List Fld}{i:Nat}(h:¬ i<l.length):parR l i=[]:=by
 unfold parR;split
 ·rename_i h0;subst h0;cases l with
  | nil=>rfl
  | cons e l=>simp at h
 ·rw [List.drop_eq_nil_of_le (by omega)];rfl
set_option maxRecDepth 10000 in
set_option maxHeartbeats 32000000 in
theorem rt_method (m:Me)(n:Nat)(hn:n+1+meSz m≤2097152)(hb:stsSz m.body≤2000000)(hw:WfM m):FCall1 Tryd.prog paG 30 [.agg (cvM m),.int .i64 (n:Nat)] (.str (meText n m)):=by
 refine FCall.one paG_pu (by simp only [puL,puV,puM];rfl) rfl ?_;refine FCall.ofBody Tryd.func30 rfl rfl fun nx=>?_
 have hT:=meText_len hn hw;obtain⟨nm,st,ps,r,b⟩:=m;unfold meSz at hn hT;simp only at hn hb;have ht:=rt_tabs n (by omega);have hst:=(rt_line (stsSz b) hb).2 b (n+1) (Nat.le_refl _) (by omega) hw.body;rw [show ((n+1:Nat):Int)=(n:Int)+1 by omega] at hst;have hw1:IntKind.i64.wrap ((n:Int)+1)=(n:Int)+1:=by rw [IntKind.wrap_i64];omega
 have lb:=blText_len (n:=n+1) (l:=b) (by omega) hw.body;have lp:=parText_len hw.params;have lt0:=tabs_len n;have g1:=ident_len hw.name;have g2:r.length≤32:=by rcases hw.result with h | h;(simp only at h;rw [h];simp);exact typ_len h
 have wfP:=hw.params;simp only at g1 wfP lp;obtain⟨TB,hTB⟩:∃ TB,TB=tabsOf n:=⟨_,rfl⟩;obtain⟨R3,hR3⟩:∃ R3,R3=TB++(if st then [115,116,97,116,105,99,32] else [])++[100,101,102,32]++nm++[40]++parText ps:=⟨_,rfl⟩;have hpm:meText n ⟨nm,st,ps,r,b⟩=R3++[41]++(if r=[] then [] else [58,32]++r)++[32,123,10]++stsText (n+1) b++TB++[125,10]:=by rw [hR3,hTB];simp [meText]
 have hl3:R3.length≤200000000:=by rw [hR3];rw [← hTB] at lt0;cases st <;> simp <;> omega
 rw [hpm];rw [← hTB] at ht lt0;obtain⟨SB,hSB⟩:∃ SB,SB=stsText (n+1) b:=⟨_,rfl⟩;rw [← hSB] at hst lb ⊢;clear hpm hT hTB hSB hw lp;have ha:(r == [])=true∨(r == [])=false:=by cases (r == []) <;> simp
 have hps:ps.length≤2097152:=by omega
 cases st
 all_goals
  refine gV ?_
  (first | refine AOpl.call1 rfl (by first | rfl | (simp [*];done)) (by simp [*]) (by kernel_rfl) (ht) ?_ | refine ASl.callg (by first | rfl | (simp [*];done)) (by simp [*]) (by kernel_rfl) (ht) ?_)
  refine gV ?_;refine AWp.countO ps.length [5,6] 7 (fun j v3 H3 nx3=>∃ out3:Bytes,v3 5=.str out3∧v3 6=.int .i64 j∧H3 nx=some (.cells (cvM ⟨nm,_,ps,r,b⟩))∧R3=out3++parR ps j) ⟨_,by first | rfl | (simp [putE,over];rfl),by simp [putE,over],by simp [upd];rfl,by rw [hR3];simp [parR]⟩ ?_;clear hR3;rintro j v3 H3 nx3 hj hn3 ⟨out3,h3,h7,hH3,hR3⟩;have hol30:out3.length≤R3.length:=by rw [hR3];simp
  have hol3:out3.length≤200000000:=by omega
  by_cases hb4:j<ps.length
  ·have hwj:=up1 hb4 (by omega);rw [parR_step hb4] at hR3;have g3:=ident_len (wfP _ (List.getElem_mem hb4)).1;have g4:=typ_len (wfP _ (List.getElem_mem hb4)).2;have hb5:(j:Int)<(ps.length:Int):=by omega
   clear hn3 hst ht wfP
   by_cases h0:j=0
   ·subst h0;rw [if_pos rfl] at hR3;refine gV ?_;exact⟨by ((repeat (first | exact Keeps.base _ _ _ _ | (with_reducible exact Keeps.refl _ _ _) | (refine Keeps.put rfl ?_) | (refine Keeps.over' rfl rfl ?_)))),hb4,out3++fldText ps[0],by simp [putE,over,fldText],by simp [putE,over],hH3,by rw [hR3];simp⟩
   ·rw [if_neg h0] at hR3;have h0':(0:Int)<(j:Int):=by omega
    have h0'':0<j:=by omega
    refine gV ?_;exact⟨by ((repeat (first | exact Keeps.base _ _ _ _ | (with_reducible exact Keeps.refl _ _ _) | (refine Keeps.put rfl ?_) | (refine Keeps.over' rfl rfl ?_)))),hb4,out3++[44,32]++fldText ps[j],by simp [putE,over,fldText],by simp [putE,over],hH3,by rw [hR3];simp⟩
  ·rw [parR_end hb4,List.append_nil] at hR3;obtain rfl:R3=out3:=hR3;clear hn3 wfP;rcases ha with hr | hr
   ·have hr2:r=[]:=by simpa using hr
    rw [if_pos hr2];refine gV ?_
    (first | refine AOpl.call1 rfl (by first | rfl | (simp [*];done)) (by simp [*]) (by kernel_rfl) (hst) ?_ | refine ASl.callg (by first | rfl | (simp [*];done)) (by simp [*]) (by kernel_rfl) (hst) ?_)
    refine gV ?_
    (first | refine AOpl.call1 rfl (by first | rfl | (simp [*];done)) (by simp [*]) (by kernel_rfl) (ht) ?_ | refine ASl.callg (by first | rfl | (simp [*];done)) (by simp [*]) (by kernel_rfl) (ht) ?_)
    refine gV ?_
    (refine⟨_,(by simp [*];rfl),?_⟩;(try simp only [packA]))
    simp
   ·have hr2:¬ r=[]:=by simpa using hr
    rw [if_neg hr2];refine gV ?_
    (first | refine AOpl.call1 rfl (by first | rfl | (simp [*];done)) (by simp [*]) (by kernel_rfl) (hst) ?_ | refine ASl.callg (by first | rfl | (simp [*];done)) (by simp [*]) (by kernel_rfl) (hst) ?_)
    refine gV ?_
    (first | refine AOpl.call1 rfl (by first | rfl | (simp [*];done)) (by simp [*]) (by kernel_rfl) (ht) ?_ | refine ASl.callg (by first | rfl | (simp [*];done)) (by simp [*]) (by kernel_rfl) (ht) ?_)
    refine gV ?_
    (refine⟨_,(by simp [*];rfl),?_⟩;(try simp only [packA]))
    simp
def fldL (f:Fld):Bytes:=[9,118,97,114,32]++fldText f++[59,10]
set_option maxRecDepth 10000 in
set_option maxHeartbeats 32000000 in
theorem rt_class (c:Cl)(hc:clSz c≤2000000)(hw:WfC c):FCall1 Tryd.prog paG 20 [.agg (cvC c)] (.str (clText c)):=by
 refine FCall.one paG_pu (by simp only [puL,puV,puC];rfl) rfl ?_;refine FCall.ofBody Tryd.func20 rfl rfl fun nx=>?_
 have hT:=clText_len hc hw;have n1:=ident_len hw.name;have n2:c.super.length≤32:=by rcases hw.super with h | h;rw [h];simp;exact ident_len h
 have hT9:(clText c).length≤20000000000000:=by omega
 obtain⟨T,hTT⟩:∃ T,T=clText c:=⟨_,rfl⟩;rw [← hTT] at hT9 ⊢;obtain⟨A,hA⟩:∃ A,A=[99,108,97,115,115,32]++c.name++(if c.super=[] then [] else [32,101,120,116,101,110,100,115,32]++c.super)++[32,123,10]:=⟨_,rfl⟩;obtain⟨R1,hR1⟩:∃ R1,R1=A++c.fields.flatMap fldL:=⟨_,rfl⟩;obtain⟨R2,hR2⟩:∃ R2,R2=R1++c.methods.flatMap (meText 1):=⟨_,rfl⟩;have hT2:T=R2++[125,10]:=by rw [hTT,hR2,hR1,hA];rfl
 have hl2:R2.length≤20000000000000:=by rw [hT2] at hT9;simp at hT9;omega
 have hl10:R1.length≤R2.length:=by rw [hR2];simp
 have hl1:R1.length≤20000000000000:=by omega
 rw [hT2];have a1:(c.super == [])=true→A=[99,108,97,115,115,32]++c.name++[32,123,10]:=fun h=>by rw [hA,if_pos (by simpa using h)];simp
 have a2:(c.super == [])=false→A=[99,108,97,115,115,32]++c.name++([32,101,120,116,101,110,100,115,32]++c.super)++[32,123,10]:=fun h=>by rw [hA,if_neg (by simpa using h)]
 have hb:(c.super == [])=true∨(c.super == [])=false:=by cases (c.super == []) <;> simp
 have wfF:=hw.fields;have wfM:=hw.methods;have nf:c.fields.length≤2000000:=by unfold clSz at hc;omega
 have nm:c.methods.length≤2000000:=by have:=mesSz_len c.methods;unfold clSz at hc;omega
 have szM:∀ m∈c.methods,meSz m≤2000000:=fun m hm=>by have:=mesSz_mem hm;unfold clSz at hc;omega
 clear hT hTT hT2 hA hc hT9 hw;rcases hb with hs | hs
 all_goals
  first | have hA:=a1 hs | have hA:=a2 hs
  clear a1 a2;refine gV ?_;refine AWp.countO c.fields.length [3,4] 6 (fun i v H nx1=>∃ out:Bytes,v 3=.str out∧v 4=.int .i64 i∧H nx=some (.cells (cvC c))∧R1=out++(c.fields.drop i).flatMap fldL) ⟨A,by rw [hA];simp [putE,over],by simp [putE,over],by simp [upd],hR1⟩ ?_;clear hR1 hA hs;rintro i v H nx1 hi hn1 ⟨out,h3,h4,hH,hR⟩;have hol0:out.length≤R1.length:=by rw [hR];simp
  have hol:out.length≤20000000000000:=by omega
  by_cases hb2:i<c.fields.length
  ·have hwi:=up1 hb2 (by omega);rw [dropAt hb2,List.flatMap_cons] at hR;have g1:=ident_len (wfF _ (List.getElem_mem hb2)).1;have g2:=typ_len (wfF _ (List.getElem_mem hb2)).2;clear hn1 wfF wfM szM;refine gV ?_;exact⟨by ((repeat (first | exact Keeps.base _ _ _ _ | (with_reducible exact Keeps.refl _ _ _) | (refine Keeps.put rfl ?_) | (refine Keeps.over' rfl rfl ?_)))),hb2,out++fldL c.fields[i],by simp [putE,over,fldL,fldText],by simp [putE,over],hH,by rw [hR];simp⟩
  ·rw [dropEnd hi hb2,List.flatMap_nil,List.append_nil] at hR;obtain rfl:R1=out:=hR;clear wfF;refine gV ?_;refine AWp.countO c.methods.length [3,5] 6 (fun i v H nx1=>∃ out:Bytes,v 3=.str out∧v 5=.int .i64 i∧H nx=some (.cells (cvC c))∧R2=out++(c.methods.drop i).flatMap (meText 1)) ⟨R1,by simp [putE,over,h3],by simp [putE,over],hH,hR2⟩ ?_;clear hR2 h3 h4 hH;rintro k v2 H2 nx2 hk hn2 ⟨out2,h3,h5,hH2,hR⟩;have hol20:out2.length≤R2.length:=by rw [hR];simp
   have hol2:out2.length≤20000000000000:=by omega
   by_cases hb3:k<c.methods.length
   ·have hwk:=up1 hb3 (by omega);rw [dropAt hb3,List.flatMap_cons] at hR;have hwm:=wfM _ (List.getElem_mem hb3);have hsb:=szM _ (List.getElem_mem hb3);have hcm:=rt_method _ 1 (by omega) (by unfold meSz at hsb;omega) hwm;have hlm:=meText_len (n:=1) (by omega) hwm;have hlm2:(meText 1 c.methods[k]).length≤20000000000000:=by omega
    rw [cvM_eq] at hcm;clear wfM szM hn1 hn2 hwm hsb hlm;refine gV ?_
    (first | refine AOpl.call1 rfl (by first | rfl | (simp [*];done)) (by simp [*]) (by kernel_rfl) (hcm) ?_ | refine ASl.callg (by first | rfl | (simp [*];done)) (by simp [*]) (by kernel_rfl) (hcm) ?_)
    refine gV ?_;exact⟨by ((repeat (first | exact Keeps.base _ _ _ _ | (with_reducible exact Keeps.refl _ _ _) | (refine Keeps.put rfl ?_) | (refine Keeps.over' rfl rfl ?_)))),hb3,out2++meText 1 c.methods[k],by simp [putE,over],by simp [putE,over],hH2,by rw [hR];simp⟩
   ·rw [dropEnd hk hb3,List.flatMap_nil,List.append_nil] at hR;obtain rfl:R2=out2:=hR;clear wfM szM hn1 hn2;refine gV ?_
    (refine⟨_,(by simp [*];rfl),?_⟩;(try simp only [packA]))
end
section
open Lx Ax Go.RowKit
attribute [local simp] stepS Ax.stepT Dl.on qstep astep estep rd putE over argE ofV ofS loadA pickCells isAggD faddA fieldA partA iaddA idxA bnd binA intA strA unA convA lenA mapOf lookA findK keyD scalD storeA mupA srcA srcD upd drp Dl.hp Dl.nx CV.cs CV.one buildA placesA fillA zrep tasA ifaceD eqA eqFs eqIs range2 copyA nbeq nble nblt decEq beqI bneI beqS bneS isED Int.ofNat_inj List.getElem?_map List.getElem?_eq_getElem Option.map_some ti_int ti_i64 ti_str ti_bool ti_Exs ti_Ex ti_St ti_Sts ti_Fld ti_Flds ti_Me ti_Mes ti_Cl ti_Cls ti_So gd gdB callA resA op1
attribute [local simp] one1 cvC_eq cvM_eq drR drp nu1 nu2 nu3 nu4 nu5 nu6 nu7 nu8 nu9 nu10 nu11 nu12 nu13 bl_len
namespace Lx
/-- What ref09 makes of a source. -/
def progT (l:List Cl):Bytes×Nat:=if soLim l≠0 then ([],soLim l) else if firstLim clFault l≠0 then ([],firstLim clFault l) else fitT (soText l)
end Lx
set_option maxRecDepth 10000 in
set_option maxHeartbeats 16000000 in
theorem rt_Program (d:Nat)(l:List Cl)(hm:l.length≤9223372036854775807)(hl:∀ c∈l,LenC d c)(hB:∀ c∈l,ClB d c)(hs:clsSz l≤2000000):FCall1 Tryd.prog paG 7 [.agg [.lst (l.map cvC)]] (.tup [.str (progT l).1,.int .i64 ((progT l).2:Nat)]):=by
 refine FCall.one paG_pu (by simp only [puL,puV,puR,puRm puC];rfl) rfl ?_;refine FCall.ofBody Tryd.func7 rfl rfl fun nx=>?_
 have hlim:=rs_limit d l hm hl;obtain⟨R,hR⟩:∃ R,R=progT l:=⟨_,rfl⟩;rw [← hR];unfold progT at hR
 by_cases h0:soLim l=0
 ·rw [if_neg (by simpa using h0)] at hR;rw [h0] at hlim;clear h0;have hln:=clsSz_len l;refine gV ?_
  (first | refine AOpl.call1 rfl (by first | rfl | (simp [*];done)) (by simp [*]) (by kernel_rfl) (hlim) ?_ | refine ASl.callg (by first | rfl | (simp [*];done)) (by simp [*]) (by kernel_rfl) (hlim) ?_)
  refine gV ?_;refine AWp.countO l.length [4,5] 8 (fun i v H nx1=>∃ k:Nat,v 4=.int .i64 (k:Int)∧v 5=.int .i64 i∧H nx=some (.cells [.lst (l.map cvC)])∧firstLim clFault (l.take i)=k) ⟨0,by simp [putE,over],by simp [putE,over],by simp [upd],by simp [firstLim]⟩ ?_;rintro i v H nx1 hi hn1 ⟨k,h4,h5,hH,hk⟩
  by_cases hk0:k=0
  ·subst hk0
   by_cases hb:i<l.length
   ·have hwi:=up1 hb (by omega);have hc:=rs_class d l[i] (hl _ (List.getElem_mem hb)) (hB _ (List.getElem_mem hb));have hk2:=firstLim_succ clFault hb;rw [hk,if_neg (by simp)] at hk2;rw [cvC_eq] at hc;have hb':(i:Int)<(l.length:Int):=by omega
    obtain⟨q,hq⟩:∃ q,q=clFault l[i]:=⟨_,rfl⟩;rw [← hq] at hc hk2;clear hn1 hl hB hR hlim hq hk hs;refine gV ?_
    (first | refine AOpl.call1 rfl (by first | rfl | (simp [*];done)) (by simp [*]) (by kernel_rfl) (hc) ?_ | refine ASl.callg (by first | rfl | (simp [*];done)) (by simp [*]) (by kernel_rfl) (hc) ?_)
    refine gV ?_;exact⟨by ((repeat (first | exact Keeps.base _ _ _ _ | (with_reducible exact Keeps.refl _ _ _) | (refine Keeps.put rfl ?_) | (refine Keeps.over' rfl rfl ?_)))),hb,q,by simp [putE,over],by simp [putE,over],hH,hk2⟩
   ·obtain rfl:i=l.length:=by omega
    rw [List.take_length] at hk;rw [if_neg (by simpa using hk)] at hR;have hwf:∀ c∈l,WfC c:=fun c hc=>wfC_of (fun m hm s hs=>numS_of (((hB _ hc).2.2.2 m hm).2.2.2 s hs)) (first0 hk c hc)
    have hlen:=soText_len hs hwf;have hfit:=rt_fit (soText l);rw [← hR] at hfit;obtain⟨T,hT⟩:∃ T,T=soText l:=⟨_,rfl⟩;rw [← hT] at hlen hfit;have hlen2:T.length≤20000000000000:=by omega
    have szC:∀ c∈l,clSz c≤2000000:=fun c hc=>by have:=clsSz_mem hc;omega
    clear hlen hR hn1 hl hB hlim hk hs hi;refine gV ?_;refine AWp.countO l.length [6,7] 8 (fun i v H nx1=>∃ out:Bytes,v 6=.str out∧v 7=.int .i64 i∧H nx=some (.cells [.lst (l.map cvC)])∧T=out++(l.drop i).flatMap clText) ⟨[],by simp [putE,over],by simp [putE,over],hH,by rw [hT];simp [soText]⟩ ?_;clear hT hH h4 h5;rintro i v2 H2 nx2 hi hn1 ⟨out,h6,h7,hH,hT⟩;have hol0:out.length≤T.length:=by rw [hT];simp
    have hol:out.length≤20000000000000:=by omega
    by_cases hb:i<l.length
    ·have hwi:=up1 hb (by omega);rw [dropAt hb,List.flatMap_cons] at hT;have hc:=rt_class l[i] (szC _ (List.getElem_mem hb)) (hwf _ (List.getElem_mem hb));have hcl:(clText l[i]).length≤20000000000000:=by
      have:(clText l[i]).length≤T.length:=by rw [hT];simp;omega
      omega
     rw [cvC_eq] at hc;have hb':(i:Int)<(l.length:Int):=by omega
     clear hn1 szC hwf hfit;refine gV ?_
     (first | refine AOpl.call1 rfl (by first | rfl | (simp [*];done)) (by simp [*]) (by kernel_rfl) (hc) ?_ | refine ASl.callg (by first | rfl | (simp [*];done)) (by simp [*]) (by kernel_rfl) (hc) ?_)
     refine gV ?_;exact⟨by ((repeat (first | exact Keeps.base _ _ _ _ | (with_reducible exact Keeps.refl _ _ _) | (refine Keeps.put rfl ?_) | (refine Keeps.over' rfl rfl ?_)))),hb,out++clText l[i],by simp [putE,over],by simp [putE,over],hH,by rw [hT];simp⟩
    ·rw [dropEnd hi hb,List.flatMap_nil,List.append_nil] at hT;obtain rfl:T=out:=hT;have hb':¬ (i:Int)<(l.length:Int):=by omega
     clear hn1 szC hwf;refine gV ?_
     (first | refine AOpl.call1 rfl (by first | rfl | (simp [*];done)) (by simp [*]) (by kernel_rfl) (hfit) ?_ | refine ASl.callg (by first | rfl | (simp [*];done)) (by simp [*]) (by kernel_rfl) (hfit) ?_)
     refine gV ?_
     (refine⟨_,(by simp [*];rfl),?_⟩;(try simp only [packA]))
  ·have hk1:¬ (k:Int)=0:=by omega
   have hst:=firstLim_stop clFault (l:=l) (i:=i) (by rw [hk];exact hk0);rw [hk] at hst;rw [hst,if_pos hk0] at hR;clear hn1 hl hB hlim hs hst hk;subst hR
   by_cases hb:i<l.length
   ·have hb':(i:Int)<(l.length:Int):=by omega
    refine gV ?_
    (refine⟨_,(by simp [*];rfl),?_⟩;(try simp only [packA]))
   ·have hb':¬ (i:Int)<(l.length:Int):=by omega
    refine gV ?_
    (refine⟨_,(by simp [*];rfl),?_⟩;(try simp only [packA]))
 ·rw [if_pos (by simpa using h0)] at hR;have h1:¬ ((soLim l:Nat):Int)=0:=by omega
  generalize soLim l=k at hlim h0 h1 hR;subst hR;clear hl hB hs;refine gV ?_
  (first | refine AOpl.call1 rfl (by first | rfl | (simp [*];done)) (by simp [*]) (by kernel_rfl) (hlim) ?_ | refine ASl.callg (by first | rfl | (simp [*];done)) (by simp [*]) (by kernel_rfl) (hlim) ?_)
  refine gV ?_;refine AWp.countO 0 [4,5] 8 (fun i v H nx1=>v 4=.int .i64 (k:Int)∧v 5=.int .i64 i∧H nx=some (.cells [.lst (l.map cvC)])) ⟨by simp [putE,over],by simp [putE,over],by simp [upd]⟩ ?_;rintro i v H nx1 hi hn1 ⟨h4,h5,hH⟩;obtain rfl:i=0:=by omega
  clear hn1 hi
  by_cases hb:0<l.length
  ·have hb':(0:Int)<(l.length:Int):=by omega
   refine gV ?_
   (refine⟨_,(by simp [*];rfl),?_⟩;(try simp only [packA]))
  ·have hb':¬ (0:Int)<(l.length:Int):=by omega
   refine gV ?_
   (refine⟨_,(by simp [*];rfl),?_⟩;(try simp only [packA]))
end
section
open Lx Ax
namespace Lx
mutual
theorem stNest_sz:∀ s:St,stNest s≤stSz s
 | .mk _ _ _ es b el=>by
   have h1:=stsNest_sz b;have h2:=stsNest_sz el;rw [stNest,stSz];omega
theorem stsNest_sz:∀ l:List St,stsNest l≤stsSz l
 | []=>by simp [stsNest]
 | s::l=>by
   have h1:=stNest_sz s;have h2:=stsNest_sz l;rw [stsNest,stsSz];omega
end
theorem progR_eq {d:Nat}{l:List Cl}(hB:∀ c∈l,ClB d c)(hs:clsSz l≤2000000):progR l=progT l:=by
 unfold progR progT
 by_cases h0:soLim l≠0
 ·rw [if_pos h0,if_pos h0]
 ·rw [if_neg h0,if_neg h0]
  by_cases h1:firstLim clFault l≠0
  ·rw [if_pos h1,if_pos h1]
  ·rw [if_neg h1,if_neg h1];have ht:=soP_text l fun c hc m hm=>by
    have a:=clsSz_mem hc;have b:=mesSz_mem hm;have e:=stsNest_sz m.body;unfold clSz at a;unfold meSz at b;omega
   unfold fitT;rw [ht]
end Lx
end
end Go.Proofs.YtmlafcimjhnhhaaDoor
