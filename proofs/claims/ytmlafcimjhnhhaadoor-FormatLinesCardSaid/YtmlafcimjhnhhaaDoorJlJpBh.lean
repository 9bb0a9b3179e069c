/-
  What format's limits and faults say of trees, as contracts of abstract values.
-/
import Derived.Test.YtmlafcimjhnhhaaDoorJlJpAy
import Derived.Test.YtmlafcimjhnhhaaDoorJlJpBc
import Derived.Test.YtmlafcimjhnhhaaDoorJlJpBg
import Derived.Test.YtmlafcimjhnhhaaDoorJlJpBd
import Derived.Test.YtmlafcimjhnhhaaDoorJlJpAt
import Derived.Test.YtmlafcimjhnhhaaDoorJlLaid
set_option linter.unusedSectionVars false
set_option linter.unusedSimpArgs false
set_option linter.unnecessarySimpa false
set_option linter.unusedVariables false
set_option linter.unusedVariables false
namespace Go.Proofs.YtmlafcimjhnhhaaDoor
section
open Lx Go.RowKit Ax
/-- A frozen list lies in memory as a list. -/
theorem rv_isList {α:Type}{M:Mp}{w:World}{k:Nat}{P:α→List Value→Prop}{cv:α→List CV}{l:List α}{v:Value}(hz:∀ g o,M.fz g=some o→w.heap[g]?=some o)(hk:0<k)(hcv:∀ x,(cv x).length=k)(hm:l.length≤maxLen)
  (h:RV M (.lst (l.map cv)) v) (hP:∀ x∈l,∀ cs,RVs M (cv x) cs→P x cs):IsList Any w k P l v:=by
 refine⟨hm,?_⟩;generalize hr:l.map cv=rows at h;cases h with
 | lst0 a c=>exact .inl ⟨List.map_eq_nil_iff.1 hr,a,c,rfl⟩
 | lst _ g o n k' c arr T fr hg hn hc hk' hl hrv =>
   subst hr;rw [List.length_map] at hn;subst hn
   by_cases h0:l.length=0
   ·exact .inl ⟨List.length_eq_zero_iff.1 h0,_,_,by rw [h0]⟩
   ·have e:k'=k:=by
     have:=hk' (cv (l[0]'(by omega))) (List.mem_map.2 ⟨_,List.getElem_mem _,rfl⟩);rw [← this,hcv]
    subst e;refine .inr ⟨g,o,c,rfl,⟨trivial,hc⟩,fun i hi=>?_⟩;have hs:i*k'+k'≤l.length*k':=mul_step k' hi;have hlen:((arr.toList.drop (o+i*k')).take k').length=k':=by rw [List.length_take,List.length_drop,Array.length_toList];omega
    refine⟨(arr.toList.drop (o+i*k')).take k',hlen,fun j hj=>?_,hP _ (List.getElem_mem hi) _ ⟨by rw [hlen,hcv],fun j a b=>?_⟩⟩
    ·rw [List.getElem?_take_of_lt hj,List.getElem?_drop,Array.getElem?_toList];simp [World.cell?,hz _ _ hg,Nat.add_assoc]
    ·have hj:j<k':=by rw [hcv] at a;exact a
     have hd:o+i*k'+j<arr.size:=by omega
     have:=hrv i (by simpa using hi) j (by simpa using a) hd;simp only [List.getElem_map] at this;rw [List.getElem_take,List.getElem_drop,Array.getElem_toList];exact this
theorem str_strOf {M:Mp}{l:Bytes}{v:Value}(h:RV M (.str l) v):v=.string (strOf l):=by
 cases h with
 | str _ s hs=>rw [show s=strOf l from by apply bytes_ext;rw [hs];simp [strOf]]
theorem int_of {M:Mp}{k:IntKind}{n:Int}{v:Value}(h:RV M (.int k n) v):v=.int k n:=by cases h;rfl
theorem bool_of {M:Mp}{b:Bool}{v:Value}(h:RV M (.bool b) v):v=.bool b:=by cases h;rfl
theorem agg_of {M:Mp}{cs:List CV}{v:Value}(h:RV M (.agg cs) v):∃ vs,v=.agg vs.toArray∧RVs M cs vs:=by
 cases h with
 | agg _ vs hl hr=>exact⟨vs,rfl,hl,hr⟩
theorem IsList.form {α:Type}{A:Nat→Prop}{w:World}{k:Nat}{P:α→List Value→Prop}{l:List α}{v:Value}(h:IsList A w k P l v):∃ a n c,v=.slice a n c:=by
 obtain⟨_,⟨_,a,c,rfl⟩ | ⟨g,off,c,rfl,_⟩⟩:=h
 ·exact⟨_,_,_,rfl⟩
 ·exact⟨_,_,_,rfl⟩
section
variable {M:Mp} {w:World} (hz:∀ g o,M.fz g=some o→w.heap[g]?=some o)
include hz
theorem rv_isEx:∀ (d:Nat) (e:Ex) (cs:List Value),LenE d e→RVs M (cvE e) cs→IsEx Any w d e cs:=by
 intro d
 induction d with
 | zero=>intro e cs h;exact h.elim
 | succ d ih =>
   intro e cs hl h;obtain⟨k,n,o,m,ks⟩:=e;rw [cvE_mk] at h;obtain⟨v0,_,rfl,h0,h⟩:=h.cons_inv;obtain⟨v1,_,rfl,h1,h⟩:=h.cons_inv;obtain⟨v2,_,rfl,h2,h⟩:=h.cons_inv;obtain⟨v3,_,rfl,h3,h⟩:=h.cons_inv;obtain⟨v4,_,rfl,h4,h⟩:=h.cons_inv;cases h.nil_inv;rw [int_of h0,int_of h1,str_strOf h2,str_strOf h3];exact⟨v4,rfl,rv_isList hz (by decide) cvE_len hl.1 h4 fun x hx cs=>ih x cs (hl.2 x hx)⟩
theorem rv_isSt:∀ (d:Nat) (e:St) (cs:List Value),LenS d e→RVs M (cvS e) cs→IsSt Any w d e cs:=by
 intro d
 induction d with
 | zero=>intro e cs h;exact h.elim
 | succ d ih =>
   intro e cs hl h;obtain⟨k,nm,ty,es,b,el⟩:=e;rw [cvS_mk] at h;obtain⟨v0,_,rfl,h0,h⟩:=h.cons_inv;obtain⟨v1,_,rfl,h1,h⟩:=h.cons_inv;obtain⟨v2,_,rfl,h2,h⟩:=h.cons_inv;obtain⟨v3,_,rfl,h3,h⟩:=h.cons_inv;obtain⟨v4,_,rfl,h4,h⟩:=h.cons_inv;obtain⟨v5,_,rfl,h5,h⟩:=h.cons_inv;cases h.nil_inv;rw [int_of h0,str_strOf h1,str_strOf h2];obtain⟨l0,l1,l2,l3,l4,l5⟩:=hl;exact⟨v3,v4,v5,rfl,rv_isList hz (by decide) cvE_len l0 h3 fun x hx cs=>rv_isEx hz d x cs (l3 x hx),rv_isList hz (by decide) cvS_len l1 h4 fun x hx cs=>ih x cs (l4 x hx),rv_isList hz (by decide) cvS_len l2 h5 fun x hx cs=>ih x cs (l5 x hx)⟩
omit hz in
theorem rv_isFld (f:Fld)(cs:List Value)(h:RVs M (cvF f) cs):IsFld f cs:=by
 obtain⟨v0,_,rfl,h0,h⟩:=h.cons_inv;obtain⟨v1,_,rfl,h1,h⟩:=h.cons_inv;cases h.nil_inv;rw [str_strOf h0,str_strOf h1];rfl
theorem rv_isMe (d:Nat)(m:Me)(cs:List Value)(hl:LenM d m)(h:RVs M (cvM m) cs):IsMe Any w d m cs:=by
 obtain⟨v0,_,rfl,h0,h⟩:=h.cons_inv;obtain⟨v1,_,rfl,h1,h⟩:=h.cons_inv;obtain⟨v2,_,rfl,h2,h⟩:=h.cons_inv;obtain⟨v3,_,rfl,h3,h⟩:=h.cons_inv;obtain⟨v4,_,rfl,h4,h⟩:=h.cons_inv;cases h.nil_inv;rw [str_strOf h0,bool_of h1,str_strOf h3];exact⟨v2,v4,rfl,rv_isList hz (by decide) cvF_len hl.1 h2 fun x _ cs=>rv_isFld x cs,rv_isList hz (by decide) cvS_len hl.2.1 h4 fun x hx cs=>rv_isSt hz d x cs (hl.2.2 x hx)⟩
theorem rv_isCl (d:Nat)(c:Cl)(cs:List Value)(hl:LenC d c)(h:RVs M (cvC c) cs):IsCl Any w d c cs:=by
 obtain⟨v0,_,rfl,h0,h⟩:=h.cons_inv;obtain⟨v1,_,rfl,h1,h⟩:=h.cons_inv;obtain⟨v2,_,rfl,h2,h⟩:=h.cons_inv;obtain⟨v3,_,rfl,h3,h⟩:=h.cons_inv;cases h.nil_inv;rw [str_strOf h0,str_strOf h1];exact⟨v2,v3,rfl,rv_isList hz (by decide) cvF_len hl.1 h2 fun x _ cs=>rv_isFld x cs,rv_isList hz (by decide) cvM_len hl.2.1 h3 fun x hx cs=>rv_isMe hz d x cs (hl.2.2 x hx)⟩
end
theorem fs_limits (d:Nat)(l:List Cl)(hm:l.length≤9223372036854775807)(hl:∀ c∈l,LenC d c):FCall1 Tryd.prog fmG 14 [.agg [.lst (l.map cvC)]] (.int .i64 (soLim l:Int)):=by
 refine FCall.one fmG_pu (by simp [puL,puV,puRm puC]) rfl (FCall.ofOld fun M w vs hg hz hv=>?_);obtain⟨v0,vs,rfl,hv0,hv⟩:=hv.cons_inv;cases hv.nil_inv;obtain⟨us,rfl,hu⟩:=agg_of hv0;obtain⟨u,_,rfl,h0,hu⟩:=hu.cons_inv;cases hu.nil_inv;have hi:=rv_isList (w:=w) hz (by decide) cvC_len hm h0 fun x hx cs=>rv_isCl hz d x cs (hl x hx)
 obtain⟨a,n,c,rfl⟩:=hi.form;refine (fmt_sourceLimits d l a n c w hi).mono ?_;rintro e w' ⟨rfl,hb⟩;exact⟨hb,_,rfl,.int _ _⟩
theorem fs_class (d:Nat)(c:Cl)(hl:LenC d c)(hB:ClB d c):FCall1 Tryd.prog fmG 15 [.agg (cvC c)] (.int .i64 (clFault c:Int)):=by
 refine FCall.one fmG_pu (by simp [puL,puV,puC]) rfl (FCall.ofOld fun M w vs hg hz hv=>?_);obtain⟨v0,vs,rfl,hv0,hv⟩:=hv.cons_inv;cases hv.nil_inv;obtain⟨us,rfl,hu⟩:=agg_of hv0;have hi:=rv_isCl (w:=w) hz d c us hl hu;obtain⟨v1,v2,rfl,h1,h2⟩:=id hi;obtain⟨a1,n1,c1,rfl⟩:=h1.form;obtain⟨a2,n2,c2,rfl⟩:=h2.form;refine (fmt_classFault d c _ _ a1 n1 c1 a2 n2 c2 w hi hB (kw_is hg hz)).mono ?_;rintro e w' ⟨rfl,hb⟩;exact⟨hb,_,rfl,.int _ _⟩
end
set_option linter.unusedSimpArgs false
section
open Lx Ax Go.RowKit
attribute [local simp] stepS Ax.stepT Dl.on qstep astep estep rd putE over argE ofV ofS loadA pickCells isAggD faddA fieldA partA iaddA idxA bnd binA intA strA unA convA lenA mapOf lookA findK keyD scalD storeA mupA srcA srcD upd drp Dl.hp Dl.nx CV.cs CV.one buildA placesA fillA zrep tasA ifaceD eqA eqFs eqIs range2 copyA nbeq nble nblt decEq beqI bneI beqS bneS isED Int.ofNat_inj List.getElem?_map List.getElem?_eq_getElem Option.map_some ti_int ti_i64 ti_str ti_bool ti_u8 ti_Strs ti_Bld ti_Prn ti_Bys gd gdB callA resA op1
attribute [local simp] one1 drR drp nu1 nu2 nu3 nu4 nu5 nu6 nu7 nu8 nu9 nu10 nu11 nu12 nu13 bl_len
theorem bytesOf_Y:∀ T:Bytes,bytesOf (T.flatMap cvY)=some T
 | []=>rfl
 | c::T=>by
   have ih:=bytesOf_Y T;rw [List.flatMap_cons];simp [cvY,bytesOf,ih]
theorem lenY (T:Bytes):(T.flatMap cvY).length=T.length:=by
 induction T with
 | nil=>rfl
 | cons c T ih=>rw [List.flatMap_cons,List.length_append,ih];simp [cvY];omega
theorem takeY (T:Bytes):(T.flatMap cvY).take T.length=T.flatMap cvY:=List.take_of_length_le (by rw [lenY];omega)
set_option maxRecDepth 10000 in
set_option maxHeartbeats 4000000 in
theorem fm_result {b nx:Nat}{c:CV}{H:Heap}{T:Bytes}(hp:PrAt b c H nx T):ACall Tryd.prog fmG 17 [.ptr b 0] H nx fun r H' nx'=>r=(if 65536<T.length then .ret (.tup [.str [],.int .i64 3]) else .ret (.tup [.str T,.int .i64 0]))∧H'=H∧nx'=nx:=by
 refine ACall.of_body Tryd.func17 rfl ?_;have ho:=fm_over hp;have hc:=hp.cell
 by_cases h65:65536<T.length
 ·rw [decide_eq_true h65] at ho;rw [if_pos h65];refine gV ?_;refine AOpl.callG rfl rfl (by simp [*]) (by kernel_rfl) (ho.mono ?_);rintro _ H2 nx2 ⟨rfl,rfl,rfl⟩;dsimp only;refine gV ?_
  (refine⟨_,(by simp [*];rfl),?_⟩;(try simp only [packA]))
  simp
 ·rw [decide_eq_false h65] at ho;rw [if_neg h65];rcases hp.own with⟨rfl,rfl⟩ | ⟨_,x,rfl,hx,_⟩
  ·refine gV ?_;refine AOpl.callG rfl rfl (by simp [*]) (by kernel_rfl) (ho.mono ?_);rintro _ H2 nx2 ⟨rfl,rfl,rfl⟩;dsimp only;refine gV ?_
   (refine⟨_,(by simp [*];rfl),?_⟩;(try simp only [packA]))
   simp
  ·have hl:=lenY T;have ht:=takeY T;have hb:=bytesOf_Y T;generalize T.flatMap cvY=cs at hl ht hb hx;have hle:T.length≤cs.length:=by omega
   refine gV ?_;refine AOpl.callG rfl rfl (by simp [*]) (by kernel_rfl) (ho.mono ?_);rintro _ H2 nx2 ⟨rfl,rfl,rfl⟩;dsimp only;refine gV ?_
   (refine⟨_,(by simp [*];rfl),?_⟩;(try simp only [packA]))
   simp
end
section
open Lx Ax Go.RowKit
attribute [local simp] stepS Ax.stepT Dl.on qstep astep estep rd putE over argE ofV ofS loadA pickCells isAggD faddA fieldA partA iaddA idxA bnd binA intA strA unA convA lenA mapOf lookA findK keyD scalD storeA mupA srcA srcD upd drp Dl.hp Dl.nx CV.cs CV.one buildA placesA fillA zrep tasA ifaceD eqA eqFs eqIs range2 copyA nbeq nble nblt decEq beqI bneI beqS bneS isED Int.ofNat_inj List.getElem?_map List.getElem?_eq_getElem Option.map_some ti_int ti_i64 ti_str ti_bool ti_u8 ti_Strs ti_Bld ti_Prn ti_Bys ti_Cl ti_Cls ti_So gd gdB callA resA op1
attribute [local simp] one1 cvC_eq drR drp nu1 nu2 nu3 nu4 nu5 nu6 nu7 nu8 nu9 nu10 nu11 nu12 nu13 bl_len upd_upd wrp1
namespace Lx
/-- What format makes of a source. -/
def progR (l:List Cl):Bytes×Nat:=if soLim l≠0 then ([],soLim l) else if firstLim clFault l≠0 then ([],firstLim clFault l) else if 65536<(soP l).flatten.length then ([],3) else ((soP l).flatten,0)
end Lx
set_option maxRecDepth 10000 in
set_option maxHeartbeats 16000000 in
theorem fm_Program (d:Nat)(l:List Cl)(hm:l.length≤9223372036854775807)(hl:∀ c∈l,LenC d c)(hB:∀ c∈l,ClB d c):FCall1 Tryd.prog fmG 6 [.agg [.lst (l.map cvC)]] (.tup [.str (progR l).1,.int .i64 ((progR l).2:Nat)]):=by
 refine FCall.one fmG_pu (by simp only [puL,puV,puR,puRm puC];rfl) rfl ?_;refine FCall.ofBody Tryd.func6 rfl rfl fun nx=>?_
 have hlim:=fs_limits d l hm hl;obtain⟨R,hR⟩:∃ R,R=progR l:=⟨_,rfl⟩;rw [← hR];unfold progR at hR
 by_cases h0:soLim l=0
 ·rw [if_neg (by simpa using h0)] at hR;rw [h0] at hlim;clear h0;refine gV ?_
  (first | refine AOpl.call1 rfl (by first | rfl | (simp [*];done)) (by simp [*]) (by kernel_rfl) (hlim) ?_ | refine ASl.callg (by first | rfl | (simp [*];done)) (by simp [*]) (by kernel_rfl) (hlim) ?_)
  refine gV ?_;refine AWp.countO l.length [6,7,19] 20 (fun i v H nx1=>v 19=.int .i64 i∧H nx=some (.cells [.lst (l.map cvC)])∧nx<nx1∧∀ j (hj:j<l.length),j<i→clFault l[j]=0) ⟨by simp [putE,over],by simp [upd],by omega,fun j hj h=>by omega⟩ ?_;rintro i v H nx1 hi hn1 ⟨h19,hH,hnx,hz⟩
  by_cases hb:i<l.length
  ·have hwi:=up1 hb (by omega);have hc:=fs_class d l[i] (hl _ (List.getElem_mem hb)) (hB _ (List.getElem_mem hb));have ht:=firstLim_take clFault l i hb fun j hj=>hz j (by omega) hj
   rw [cvC_eq] at hc;have hb':(i:Int)<(l.length:Int):=by omega
   by_cases hf:clFault l[i]=0
   ·rw [hf] at hc;clear hn1 hl hB ht hR hlim;refine gV ?_
    (first | refine AOpl.call1 rfl (by first | rfl | (simp [*];done)) (by simp [*]) (by kernel_rfl) (hc) ?_ | refine ASl.callg (by first | rfl | (simp [*];done)) (by simp [*]) (by kernel_rfl) (hc) ?_)
    refine gV ?_;refine⟨by ((repeat (first | exact Keeps.base _ _ _ _ | (with_reducible exact Keeps.refl _ _ _) | (refine Keeps.put rfl ?_) | (refine Keeps.over' rfl rfl ?_)))),hb,by simp [putE,over],by simp [upd,hH];omega,by omega,fun j hj h=>?_⟩
    by_cases e:j=i
    ·subst e;exact hf
    ·exact hz j hj (by omega)
   ·have hf2:¬ ((clFault l[i]:Nat):Int)=0:=by omega
    rw [if_pos hf] at ht;rw [ht,if_pos hf] at hR;clear hn1 hl hB ht hlim hz;generalize clFault l[i]=k at hc hf hf2 hR;subst hR;refine gV ?_
    (first | refine AOpl.call1 rfl (by first | rfl | (simp [*];done)) (by simp [*]) (by kernel_rfl) (hc) ?_ | refine ASl.callg (by first | rfl | (simp [*];done)) (by simp [*]) (by kernel_rfl) (hc) ?_)
    refine gV ?_
    (refine⟨_,(by simp [*];rfl),?_⟩;(try simp only [packA]))
  ·obtain rfl:i=l.length:=by omega
   have hwf:∀ c∈l,WfC c:=fun c hc=>by
    obtain⟨j,hj,rfl⟩:=List.getElem_of_mem hc;exact wfC_of (fun m hm s hs=>numS_of (((hB _ hc).2.2.2 m hm).2.2.2 s hs)) (hz j hj hj)
   rw [if_neg (by simp [firstLim_zero clFault l fun j hj=>hz j hj hj])] at hR;have hsh:=short_soP hwf;clear hn1 hB hlim hz;refine gV ?_;have p0:PrAt nx1 .nils (upd H nx1 (.cells [.nils])) (nx1+1) []:=⟨upd_hit _ _ _,.inl ⟨rfl,rfl⟩,by omega,(fun _ _ _ e=>by cases e),by simp⟩;have o0:OwnB nx1 nx .nils (upd H nx1 (.cells [.nils])) (nx1+1) (.cells [.lst (l.map cvC)]):=⟨by rw [upd_miss _ _ _ _ (by omega)];exact hH,by omega,by omega,(fun _ _ _ e=>by cases e)⟩;have hne:¬ nx=nx1:=by omega
   refine gV ?_;refine AWp.countO l.length [10,32] 33 (fun i v H1 n1=>v 32=.int .i64 i∧∃ c',PrAt nx1 c' H1 n1 (put [] (soP (l.take i)))∧OwnB nx1 nx c' H1 n1 (.cells [.lst (l.map cvC)])) ⟨by simp [putE,over],.nils,by simpa [soP,put] using p0,o0⟩ ?_;clear p0 o0 hH h19 hi hb hnx;rintro i v2 HL nxL hi hn1 ⟨h32,cL,pL,oL⟩
   by_cases hb:i<l.length
   ·have hwi:=up1 hb (by omega);have hc:=fm_class d l[i] (hwf _ (List.getElem_mem hb)) (hl _ (List.getElem_mem hb));have tL:=put_len (T:=[]) (by simp) (strs:=soP (l.take i)) fun s hs=>hsh s (by unfold soP at hs ⊢;rw [← List.take_append_drop i l,List.flatMap_append];exact List.mem_append.2 (.inl hs))
    have hsu:=soP_take hb;have hb':(i:Int)<(l.length:Int):=by omega
    rw [cvC_eq] at hc;obtain⟨B,hB9⟩:∃ B,B=CB.cells (cvC l[i]):=⟨_,rfl⟩;have q0:=pL.at (n':=nxL+1) B (Nat.le_refl _) (by omega);have oN:=oL.at2 B (Nat.le_refl _) (show nxL<nxL+1 by omega);rw [cvC_eq] at hB9;subst hB9;clear hn1 hl hwf hsh pL oL hR;refine gV ?_;refine AOpl.callP (hc nx1 cL _ _ _ tL q0) ?_;intro cX HX nX pX gX1;have oX:=oN.call gX1;refine gV ?_;exact⟨by ((repeat (first | exact Keeps.base _ _ _ _ | (with_reducible exact Keeps.refl _ _ _) | (refine Keeps.put rfl ?_) | (refine Keeps.over' rfl rfl ?_)))),hb,by simp [putE,over],cX,by rw [hsu,put_app];exact pX,oX⟩
   ·obtain rfl:i=l.length:=by omega
    rw [List.take_length] at pL;have hr:=fm_result pL;have ha:=put_all (soP l) [];rw [List.nil_append] at ha;clear hn1 hl hwf hsh;refine gV ?_;refine AOpl.callG rfl rfl (by simp [*]) (by kernel_rfl) (hr.mono ?_);rintro _ H2 nx2 ⟨rfl,rfl,rfl⟩;rcases ha with⟨h1,h2⟩ | ⟨h1,h2⟩
    ·rw [if_pos h1] at hR;subst hR;dsimp only;rw [if_pos h2];refine gV ?_
     (refine⟨_,(by simp [*];rfl),?_⟩;(try simp only [packA]))
     rfl
    ·rw [if_neg (by omega)] at hR;subst hR;dsimp only;rw [h2,if_neg (by omega)];refine gV ?_
     (refine⟨_,(by simp [*];rfl),?_⟩;(try simp only [packA]))
     rfl
 ·rw [if_pos (by simpa using h0)] at hR;have h1:¬ ((soLim l:Nat):Int)=0:=by omega
  generalize soLim l=k at hlim h0 h1 hR;subst hR;refine gV ?_
  (first | refine AOpl.call1 rfl (by first | rfl | (simp [*];done)) (by simp [*]) (by kernel_rfl) (hlim) ?_ | refine ASl.callg (by first | rfl | (simp [*];done)) (by simp [*]) (by kernel_rfl) (hlim) ?_)
  refine gV ?_
  (refine⟨_,(by simp [*];rfl),?_⟩;(try simp only [packA]))
end
section
open Lx Ax Go.RowKit
def opCells:Array Value:=#[.string ⟨#[43]⟩,.string ⟨#[45]⟩,.string ⟨#[42]⟩,.string ⟨#[60]⟩,.string ⟨#[61,61]⟩]
def powCells:Array Value:=(Lib.pow10Tab.map (Value.int .u64)).toArray
structure FLaid (w:World):Prop where
 kw:KwIs w
 ops:∃ t fr,w.heap[0]?=some (.cells opCells t fr)
 pow:∃ t fr,w.heap[2]?=some (.cells powCells t fr)
theorem FLaid.below {w w':World}{B:Nat}(h:FLaid w)(hb:Below B w w')(hB:w.heap.size≤B):FLaid w':=by
 obtain⟨h1,⟨t2,f2,h2⟩,⟨t3,f3,h3⟩⟩:=h;exact⟨h1.below hb hB,⟨t2,f2,by rw [hb.block _ (Nat.lt_of_lt_of_le (lt_of_heap h2) hB)];exact h2⟩,⟨t3,f3,by rw [hb.block _ (Nat.lt_of_lt_of_le (lt_of_heap h3) hB)];exact h3⟩⟩
theorem FLaid.alloc {w:World}(h:FLaid w)(o:Obj):FLaid (w.alloc o):=h.below ((Below.refl _ _).alloc (Nat.le_refl _) o) (Nat.le_refl _)
theorem rop_cells {w:World}{g:Nat}{cs:List CV}{arr:Array Value}{t:TypeId}{fr:Nat×Nat}(h:w.heap[g]?=some (.cells arr t fr))(hr:RVs (snap w) cs arr.toList):RV (snap w) (.rop cs) (.pointer (some ⟨g,0,none⟩))∧Szd (snap w) g (.rop cs):=by
 have hl:arr.size=cs.length:=by have:=hr.1;simpa using this
 refine⟨.rop _ _ 0 arr t fr h (by omega) (fun j a b=>?_),_,_,_,h,hl⟩;have:=hr.2 j a (by simpa using (by omega:j<arr.size));simpa using this
theorem rvs_strs (M:Mp):∀ l:List Bytes,RVs M (l.map .str) (l.map fun s=>Value.string ⟨s.toArray⟩)
 | []=>.nil
 | s::l=>.cons (.str _ _ rfl) (rvs_strs M l)
theorem rvs_nums (M:Mp)(k:IntKind):∀ l:List Int,RVs M (l.map (.int k)) (l.map (Value.int k))
 | []=>.nil
 | s::l=>.cons (.int _ _) (rvs_nums M k l)
theorem FLaid.rg {w:World}(h:FLaid w):RG fmG (snap w):=by
 obtain⟨⟨t1,f1,h1⟩,⟨t2,f2,h2⟩,⟨t3,f3,h3⟩⟩:=h;intro g;unfold fmG;split
 ·rename_i hb;have hg:=beq_eq hb;subst hg;exact rop_cells h1 (rvs_strs _ kwList)
 ·split
  ·rename_i hb;have hg:=beq_eq hb;subst hg;exact rop_cells h2 (rvs_strs _ [[43],[45],[42],[60],[61,61]])
  ·split
   ·rename_i hb;have hg:=beq_eq hb;subst hg;exact rop_cells h3 (rvs_nums _ .u64 Lib.pow10Tab)
   ·exact⟨.any _,trivial⟩
theorem law09_awake (w:World)(hL:FLaid w):Calls Tryd.prog 9 #[] w fun e w'=>e=.returned (.bool true)∧Below w.heap.size w w':=by
 refine (fm_awake.f Heap.no 0 (snap w) w [] hL.rg (Rep.snap w) .nil).mono ?_;rintro e w' ⟨M',r,H',nx',h1,h2,h3,_,rfl⟩;refine⟨?_,h3.below⟩;cases e <;> simp only [EndR] at h1;rw [bool_of h1]
/-! bounds of trees that lie in memory -/
theorem lenE_of {A:Nat→Prop}{w:World}:∀ (d:Nat) (e:Ex) (cs:List Value),IsEx A w d e cs→LenE d e:=by
 intro d
 induction d with
 | zero=>intro e cs h;exact h.elim
 | succ d ih =>
   intro e cs h;obtain⟨k,n,o,m,ks⟩:=e;obtain⟨v,rfl,hl⟩:=h;exact⟨hl.1,fun x hx=>by obtain⟨c,hc⟩:=hl.each x hx;exact ih x c hc⟩
theorem lenS_of {A:Nat→Prop}{w:World}:∀ (d:Nat) (s:St) (cs:List Value),IsSt A w d s cs→LenS d s:=by
 intro d
 induction d with
 | zero=>intro e cs h;exact h.elim
 | succ d ih =>
   intro e cs h;obtain⟨k,nm,ty,es,b,el⟩:=e;obtain⟨v1,v2,v3,rfl,h1,h2,h3⟩:=h;exact⟨h1.1,h2.1,h3.1,fun x hx=>by obtain⟨c,hc⟩:=h1.each x hx;exact lenE_of d x c hc,fun x hx=>by obtain⟨c,hc⟩:=h2.each x hx;exact ih x c hc,fun x hx=>by obtain⟨c,hc⟩:=h3.each x hx;exact ih x c hc⟩
theorem lenM_of {A:Nat→Prop}{w:World}{d:Nat}{m:Me}{cs:List Value}(h:IsMe A w d m cs):LenM d m:=by
 obtain⟨v1,v2,rfl,h1,h2⟩:=h;exact⟨h1.1,h2.1,fun x hx=>by obtain⟨c,hc⟩:=h2.each x hx;exact lenS_of d x c hc⟩
theorem lenC_of {A:Nat→Prop}{w:World}{d:Nat}{m:Cl}{cs:List Value}(h:IsCl A w d m cs):LenC d m:=by
 obtain⟨v1,v2,rfl,h1,h2⟩:=h;exact⟨h1.1,h2.1,fun x hx=>by obtain⟨c,hc⟩:=h2.each x hx;exact lenM_of hc⟩
theorem tup_of {M:Mp}{cs:List CV}{v:Value}(h:RV M (.tup cs) v):∃ vs,v=.tuple vs.toArray∧RVs M cs vs:=by
 cases h with
 | tup _ vs hl hr=>exact⟨vs,rfl,hl,hr⟩
theorem fmt_Program (d:Nat)(x:List Cl)(a:Option Addr)(n c:Nat)(w:World)(h:IsList Any w 4 (IsCl Any w d) x (.slice a n c))(hB:∀ c∈x,ClB d c)(hL:FLaid w) :
  Calls Tryd.prog 6 #[.agg #[.slice a n c]] w fun e w'=>e=.returned (.tuple #[.string (strOf (progR x).1),.int .i64 ((progR x).2:Nat)])∧Below w.heap.size w w':=by
 have hM:∀ g o,Any g→w.heap[g]?=some o→(snap w).fz g=some o:=fun g o _ h=>h
 have hv:RV (snap w) (.lst (x.map cvC)) (.slice a n c):=rv_list (by decide) hM h cvC_len fun y _ cs hy=>rv_cl hM hy
 have hr:RV (snap w) (.agg [.lst (x.map cvC)]) (.agg #[.slice a n c]):=.agg _ [.slice a n c] rfl (RVs.one hv).2;refine ((fm_Program d x h.1 (fun c hc=>by obtain⟨cs,h⟩:=h.each c hc;exact lenC_of h) hB).f Heap.no 0 (snap w) w [.agg #[.slice a n c]] hL.rg (Rep.snap w) (.one hr)).mono ?_;rintro e w' ⟨M',r,H',nx',h1,h2,h3,_,rfl⟩;refine⟨?_,h3.below⟩;cases e <;> simp only [EndR] at h1;obtain⟨us,rfl,hs⟩:=tup_of h1;obtain⟨u0,_,rfl,r0,hs⟩:=hs.cons_inv;obtain⟨u1,_,rfl,r1,hs⟩:=hs.cons_inv;cases hs.nil_inv;rw [str_strOf r0,int_of r1]
end
section
open Lx Go.RowKit
open Go.ChangeShapes Go.WideShapes Go.ChangeAt
theorem nums_of_array {P:Program}{W:World}{t e:TypeId}{k:IntKind}{n fuel:Nat}{cs:List Value}{ss:List Int}{p:List MemPlace}(ht:P.underlying t=some (.array n e))(he:P.underlying e=some (.int k))(hce:P.cellsOf e=1)(hct:P.cellsOf t=n)
  (h:DataW.trod (fun _=>()) P W 0 (fun _=>true) false fuel t cs=some (.agg (ss.map fun l=>.lit (.int k l)),p)):cs=ss.map (Value.int k):=by
 obtain⟨xs,m,_,hx,hl,hxl,hf⟩:=DataW.trod_array ht h;simp only [Prod.mk.injEq,DataW.agg.injEq] at hx;have hss:ss.length=n:=by have:=congrArg List.length hx.1;simpa [hxl] using this
 apply List.ext_getElem?;intro i
 by_cases hi:i<n
 ·have h1:=hf i hi;have hxi:xs[i]?=some (xs[i]'(by omega)):=List.getElem?_eq_getElem (by omega);rw [hxi,hce,Nat.mul_one] at h1;obtain⟨s,hs1,hs2,_⟩:=DataW.trod_int he h1;have hc:cs[i]?=some (.int k s):=by
   have:(cs.drop i)[0]?=((cs.drop i).take 1)[0]?:=by simp
   rw [hs1] at this;simpa using this
  have he2:=congrArg (fun l=>l[i]?) hx.1;have hs3:(xs[i]'(by omega)).1=.lit (.int k s):=by rw [hs2]
  simp only [List.getElem?_map,hxi,Option.map_some,hs3] at he2;rw [List.getElem?_eq_getElem (show i<ss.length by omega)] at he2;simp only [Option.map_some,Option.some.injEq,DataW.lit.injEq,Lit.int.injEq] at he2;rw [hc,List.getElem?_map,List.getElem?_eq_getElem (show i<ss.length by omega),Option.map_some,← he2.2]
 ·rw [List.getElem?_eq_none (by omega),List.getElem?_eq_none (by simp;omega)]
theorem gOp:Tryd.prog.globalNamed "dataflow/format.operators"=some 0:=by kernel_rfl
theorem gPw:Tryd.prog.globalNamed "internal/strconv.uint64pow10"=some 2:=by kernel_rfl
theorem tOp:(Tryd.prog.globals[0]?).map (·.type)=some 93:=by kernel_rfl
theorem tPw:(Tryd.prog.globals[2]?).map (·.type)=some 112:=by kernel_rfl
theorem cOp:Tryd.prog.cellsOf 93=5:=by kernel_rfl
theorem cPw:Tryd.prog.cellsOf 112=20:=by kernel_rfl
theorem cU64:Tryd.prog.cellsOf 103=1:=by kernel_rfl
theorem FLaid.of_met {W:World}{l:List (String×DataW Unit)}(h:laidMet Tryd.prog l W)(hk:KwIs W)(h1:("dataflow/format.operators",Rows.laid_dataflow_format_operators)∈l)(h2:("internal/strconv.uint64pow10",Rows.laid_internal_strconv_uint64pow10)∈l):FLaid W:=by
 obtain⟨ps,hv,_,_⟩:=h;refine⟨hk,?_,?_⟩
 ·obtain⟨g0,t0,cs0,f0,p0,hg0,ht0,hv0,hd0⟩:=laid_entry hv h1;obtain rfl:=Option.some.inj (gOp.symm.trans hg0);obtain rfl:=Option.some.inj (tOp.symm.trans ht0);obtain⟨t,fr,hh⟩:=heap_of_var hg0 hv0;have hcs:=strings_of_array (ss:=[[43],[45],[42],[60],[61,61]]) Tryd.underlying93 Tryd.underlying9 cStr cOp hd0;refine⟨t,fr,?_⟩;rw [hh];obtain⟨l0⟩:=cs0;simp only at hcs;rw [hcs];rfl
 ·obtain⟨g0,t0,cs0,f0,p0,hg0,ht0,hv0,hd0⟩:=laid_entry hv h2;obtain rfl:=Option.some.inj (gPw.symm.trans hg0);obtain rfl:=Option.some.inj (tPw.symm.trans ht0);obtain⟨t,fr,hh⟩:=heap_of_var hg0 hv0;have hcs:=nums_of_array (ss:=Lib.pow10Tab) Tryd.underlying112 Tryd.underlying103 cU64 cPw hd0;refine⟨t,fr,?_⟩;rw [hh];obtain⟨l0⟩:=cs0;simp only at hcs;rw [hcs];rfl
end
section
open Lx
namespace Lx
theorem ident_pos {x:Bytes}(h:isIdent x=true):1≤x.length:=by
 cases x with
 | nil=>exact absurd h (by decide)
 | cons a l=>simp
theorem digits_pos (f n:Nat):1≤(digitsOf (f+1) n).length:=by
 rw [digitsOf];split <;> simp
theorem num_pos (n:Int):1≤(numText n).length:=by
 unfold numText;have:=digits_pos 19 n.natAbs;split <;> simp <;> omega
theorem wth_le (e:Ex)(r:Int):(exP e).flatten.length≤(wthP e r).flatten.length:=by
 unfold wthP;split <;> simp <;> omega
theorem sepTail_le:∀ {l:List Ex},(∀ e∈l,exDepth e≤(exP e).flatten.length)→exsDepth l≤(l.flatMap fun f=>[[44,32]]++exP f).flatten.length
 | [],_=>by simp [exsDepth]
 | f::l,h=>by
   rw [exsDepth,List.flatMap_cons,List.flatten_append,List.flatten_append,List.length_append,List.length_append];have h3:=h f List.mem_cons_self;have h4:=sepTail_le fun x hx=>h x (List.mem_cons_of_mem _ hx)
   omega
theorem sep_le {es:List Ex}(h:∀ e∈es,exDepth e≤(exP e).flatten.length):exsDepth es≤(sepP es).flatten.length:=by
 cases es with
 | nil=>simp [exsDepth]
 | cons e l =>
   rw [sepP_eq,exsDepth,List.flatten_append,List.length_append];have h1:=h e List.mem_cons_self;have h2:=sepTail_le fun x hx=>h x (List.mem_cons_of_mem _ hx)
   omega
theorem arg_le {es:List Ex}(h:∀ e∈es,exDepth e≤(exP e).flatten.length):exsDepth es+2≤(argP es 0).flatten.length:=by
 have:=sep_le h;rw [argP];simp only [List.flatten_append,List.length_append,List.flatten_cons,List.flatten_nil,List.length_cons,List.length_nil];omega
theorem exDepth_len {e:Ex}(h:WfE e):exDepth e≤(exP e).flatten.length:=by
 induction h with
 | int n h1 h2=>rw [exP];simp [exDepth,exsDepth];exact num_pos n
 | null | this | input=>rw [exP];simp [exDepth,exsDepth]
 | var x hx=>rw [exP];simp [exDepth,exsDepth];exact ident_pos hx
 | new x hx=>rw [exP];simp [exDepth,exsDepth]
 | @bin op h a b ha hb h1 h2 =>
   rw [exP_bin];have e1:=wth_le a (max (levelOf 6 op) 2);have e2:=wth_le b (levelOf 6 op+1);simp only [exDepth,exsDepth,List.flatten_append,List.length_append,List.flatten_cons,List.flatten_nil,List.length_cons,List.length_nil];omega
 | @field m hm k hk h1 =>
   rw [exP_field];have e1:=wth_le k 4;simp only [exDepth,exsDepth,List.flatten_append,List.length_append,List.flatten_cons,List.flatten_nil,List.length_cons,List.length_nil];omega
 | @call m hm k es hk he h1 h2 =>
   rw [exP_call];have e1:=wth_le k 4;have e2:=arg_le h2;simp only [exDepth,exsDepth,List.flatten_append,List.length_append,List.flatten_cons,List.flatten_nil,List.length_cons,List.length_nil];omega
 | @static o m ho hm es he h2 =>
   rw [exP_static];have e2:=arg_le h2;simp only [exDepth,exsDepth,List.flatten_append,List.length_append,List.flatten_cons,List.flatten_nil,List.length_cons,List.length_nil];omega
theorem sts_len {n:Int}:∀ {l:List St},(∀ s∈l,stDepth s≤(stP n s).flatten.length∧stCount s+1≤(stP n s).flatten.length)→stsDepth l≤(stsP n l).flatten.length∧stsCount l≤(stsP n l).flatten.length
 | [],_=>by simp [stsDepth,stsCount]
 | s::l,h=>by
   have h1:=h s List.mem_cons_self;have h2:=sts_len fun x hx=>h x (List.mem_cons_of_mem _ hx)
   rw [stsDepth,stsCount,stsP,List.flatten_append,List.length_append];omega
theorem st_len {s:St}(h:WfS s):∀ n,stDepth s≤(stP n s).flatten.length∧stCount s+1≤(stP n s).flatten.length:=by
 induction h with
 | var0 | return0=>intro n;simp only [stDepth,stCount,stsDepth,stsCount,exsDepth,stP_var0,stP_ret0,List.flatten_append,List.flatten_cons,List.length_append,List.length_cons];omega
 | var1 x t hx ht he | assign x hx he | throw he | return1 he | call he hk =>
   intro n;have:=exDepth_len he;simp only [stDepth,stCount,stsDepth,stsCount,exsDepth,stP_var1,stP_assign,stP_throw,stP_ret1,stP_call,List.flatten_append,List.flatten_cons,List.length_append,List.length_cons];omega
 | @store m hm k e hk he =>
   intro n;have:=exDepth_len he;have e1:=exDepth_len hk;have e2:=wth_le k 4;simp only [stDepth,stCount,stsDepth,stsCount,exsDepth,stP_store,List.flatten_append,List.flatten_cons,List.length_append,List.length_cons];omega
 | @«if» e he b c hb hc h1 h2 =>
   intro n;have e0:=exDepth_len he;have e1:=sts_len (n:=IntKind.i64.wrap (n+1)) fun s hs=>h1 s hs _
   have e2:=sts_len (n:=IntKind.i64.wrap (n+1)) fun s hs=>h2 s hs _
   cases c with
   | nil=>simp only [stDepth,stCount,stsDepth,stsCount,exsDepth,stP_if0,List.flatten_append,List.flatten_cons,List.length_append,List.length_cons] at *;omega
   | cons s l=>simp only [stDepth,stCount,exsDepth,stP_if1,List.flatten_append,List.flatten_cons,List.length_append,List.length_cons] at *;omega
 | «while» he hb h1 =>
   intro n;have e0:=exDepth_len he;have e1:=sts_len (n:=IntKind.i64.wrap (n+1)) fun s hs=>h1 s hs _
   simp only [stDepth,stCount,stsDepth,stsCount,exsDepth,stP_while,List.flatten_append,List.flatten_cons,List.length_append,List.length_cons] at *;omega
 | «try» x t hx ht hb hc h1 h2 =>
   intro n;have e1:=sts_len (n:=IntKind.i64.wrap (n+1)) fun s hs=>h1 s hs _
   have e2:=sts_len (n:=IntKind.i64.wrap (n+1)) fun s hs=>h2 s hs _
   simp only [stDepth,stCount,exsDepth,stP_try,List.flatten_append,List.flatten_cons,List.length_append,List.length_cons] at *;omega
theorem me_len {n:Int}{m:Me}(h:WfM m):stsDepth m.body≤(meP n m).flatten.length∧stsCount m.body≤(meP n m).flatten.length:=by
 have:=sts_len (n:=IntKind.i64.wrap (n+1)) fun s hs=>st_len (h.body s hs) _
 unfold meP;simp only [List.flatten_append,List.length_append];omega
theorem so_len {l:List Cl}(hw:∀ c∈l,WfC c){c:Cl}(hc:c∈l){m:Me}(hm:m∈c.methods):stsDepth m.body≤(soP l).flatten.length∧stsCount m.body≤(soP l).flatten.length:=by
 have h1:=me_len (n:=1) ((hw c hc).methods m hm);have h2:(meP 1 m).flatten.length≤(msP c.methods).flatten.length:=flat_le hm;have h3:(clP c).flatten.length≤(soP l).flatten.length:=flat_le hc;have h4:(msP c.methods).flatten.length≤(clP c).flatten.length:=by unfold clP;simp only [List.flatten_append,List.length_append];omega
 omega
/-- Within the limits as ints and of a length that fits: within the limits. -/
theorem soLim_nat {l:List Cl}(hw:∀ c∈l,WfC c)(h:(soP l).flatten.length≤65536)(h0:soLim l=0):sourceLim l=0:=by
 unfold soLim at h0;unfold sourceLim;split at h0;· cases h0
 rename_i h1;rw [if_neg h1];refine firstLim_all fun c hc=>?_
 have h2:=first0 h0 c hc;unfold clLim at h2;unfold classLim;split at h2;· cases h2
 rename_i h3;rw [if_neg h3];refine firstLim_all fun m hm=>?_
 have h4:=first0 h2 m hm;have h5:=so_len hw hc hm;rw [← meLim_nat (by omega) (by omega)];exact h4
end Lx
end
section
open Lx Ax Go.RowKit
/-- What format makes of a source: an error and no text, or the text of a well-formed source within the limits. -/
theorem progR_cases {d:Nat}{l:List Cl}(hB:∀ c∈l,ClB d c):(∃ k:Nat,k≠0∧progR l=([],k))∨(progR l=(soText l,0)∧(∀ c∈l,WfC c)∧sourceLim l=0∧(soText l).length≤65536):=by
 by_cases h0:soLim l=0
 ·by_cases h1:firstLim clFault l=0
  ·have hw:∀ c∈l,WfC c:=fun c hc=>wfC_of (fun m hm s hs=>numS_of (((hB _ hc).2.2.2 m hm).2.2.2 s hs)) (first0 h1 c hc)
   by_cases h2:65536<(soP l).flatten.length
   ·exact .inl ⟨3,by decide,by unfold progR;rw [if_neg (by simpa using h0),if_neg (by simpa using h1),if_pos h2]⟩
   ·have h3:=soP_fits hw (Nat.le_of_not_lt h2);exact .inr ⟨by unfold progR;rw [if_neg (by simpa using h0),if_neg (by simpa using h1),if_neg h2,h3],hw,soLim_nat hw (Nat.le_of_not_lt h2) h0,by rw [← h3];exact Nat.le_of_not_lt h2⟩
  ·exact .inl ⟨firstLim clFault l,h1,by unfold progR;rw [if_neg (by simpa using h0),if_pos h1]⟩
 ·exact .inl ⟨soLim l,h0,by unfold progR;rw [if_pos h0]⟩
theorem IsList.laterC {w w':World}{d:Nat}{l:List Cl}{v:Value}(h:IsList Any w 4 (IsCl Any w d) l v)(hb:Below w.heap.size w w'):IsList Any w' 4 (IsCl Any w' d) l v:=h.kept (kept_any hb) (by omega) fun _ _ _=>IsCl.kept (kept_any hb)
end
end Go.Proofs.YtmlafcimjhnhhaaDoor
