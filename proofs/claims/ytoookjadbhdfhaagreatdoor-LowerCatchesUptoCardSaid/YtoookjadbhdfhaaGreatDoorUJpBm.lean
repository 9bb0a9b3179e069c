/-
  LowerCatches, walked over frozen data.
-/
import Derived.Test.YtoookjadbhdfhaaGreatDoorUJpBl
import Derived.Test.YtoookjadbhdfhaaGreatDoorUJpAx
import Derived.Test.YtoookjadbhdfhaaGreatDoorUOldAx
import Derived.Test.YtoookjadbhdfhaaGreatDoorUJpAq
import Derived.Test.YtoookjadbhdfhaaGreatDoorUJpBb
set_option linter.unusedSectionVars false
set_option linter.unusedSimpArgs false
set_option linter.unnecessarySimpa false
set_option linter.unusedVariables false
set_option linter.unusedSimpArgs false
set_option linter.unusedVariables false
namespace Go.Proofs.YtoookjadbhdfhaaGreatDoor
section
open Lx Ax Go.RowKit
attribute [local simp] stepS Ax.stepT Dl.on qstep astep estep rd putE over argE ofV ofS loadA pickCells isAggD faddA fieldA partA iaddA idxA sliA bnd binA intA strA unA convA bltA mapOf findK keyD scalD storeA srcA srcD upd drp Dl.hp Dl.nx CV.cs CV.one buildA placesA fillA zrep tasA ifaceD eqA eqFs eqIs range2 copyA nbeq nble nblt decEq beqI bneI beqS bneS isED Int.ofNat_inj List.getElem?_map List.getElem?_eq_getElem Option.map_some ti_int ti_bool ti_str ti_i64 ti_Strs ti_Flds ti_Fld ti_Fn ti_Fns ti_Un ti_Hi ti_Ins ti_In ti_Errno gd gdB callA resA op1
attribute [local simp] nu1 nu2 nu3 nu4 nu5 nu6 nu7 nu8 nu9 nu10 nu11 nu12 nu13 upd_upd
theorem c9_fs {h:List Cd}{s:Bytes}(hc:C9 h s):¬ findS s 0 h<0:=by
 intro hn;rw [findS_lt] at hn;have h0:findN h s=none:=by
  unfold findN;rw [List.findIdx?_eq_none_iff];intro d hd;simpa using hn d hd
 unfold C9 findI at hc;rw [h0] at hc;exact absurd hc (by simp)
theorem len_In3 {H:Heap}(l:List In):lenA Tryz.prog H 44 (.lst (l.map cvJ))=some (.int .i64 l.length):=by
 unfold lenA;simp [ti_Ins]
set_option maxRecDepth 10000 in
set_option maxHeartbeats 32000000 in
theorem la_Catches (l:List Cl)(hL:LM l):FCall Tryz.prog tkG 4 [cvSo l] fun r=>r=.ret (.bool true):=by
 refine FCall.ofBody Tryz.func4 rfl rfl fun nx=>?_
 have hpr:=lw_Program l hL;simp only [cvSo] at hpr ⊢;refine gW ?_
 ((apply AOpl.callG);(focus rfl);(focus (first | rfl | (simp [*];done)));(focus simp [*,-Option.some.injEq];rfl);kernel_rfl)
 refine acall_le (hpr _ _) ?_;rintro r H' nx' hle ⟨rfl,hr⟩;clear hpr;have q0:=far (show nx<nx' by omega);rcases hr with⟨k,hk,rfl⟩ | ⟨h0,hFl,hFo,mn,rfl⟩
 ·have hk':¬ (k:Int)=0:=by omega
  simp only;refine gW ?_
  ((apply AOpl.callG);(focus rfl);(focus (first | rfl | (simp [*];done)));(focus simp [*,-Option.some.injEq];rfl);kernel_rfl)
  refine acall_le (lw_awake _ _) ?_;rintro r H' nx' hle ⟨rfl,rfl⟩;simp only;refine gW ?_
  (refine⟨_,(by simp [*];rfl),?_⟩;(try simp only [packA]))
 simp only;have hll:=hL.ln.lb.len;have hlF:∀ H',lenA Tryz.prog H' 28 (.lst ((unitF l).map cvFu))=some (.int .i64 (unitF l).length):=fun H'=>len_Fn3 _
 have hlaw:=law_catches h0;have hhl:(hiOf l).length≤lim:=by simpa [hiOf] using hll
 clear h0;generalize hiOf l=hh at *;generalize unitF l=F at *;refine gW ?_;refine AWp.countO F.length [5,6,7,8,9] 18 (fun i e H1 n1=>e 5=.int .i64 i∧H1 nx'=some (.cells [.lst (hh.map cvD),.lst (F.map cvFu),.int .i64 mn])) ⟨(by first | (simp (disch:=omega) [putE,over,ofV,ofS, *];done) | (simp (disch:=omega) [putE,over,ofV,ofS, *];rfl)),by simp [upd]⟩ ?_;rintro i v H1 n1 hi hn1 ⟨h5,hU⟩;refine gW ?_
 (((apply AWp.cond');(focus (simp [*,-Ax.CV.bool.injEq];rfl))) <;> (intro hb) <;> (try simp only [decide_eq_true_eq,decide_eq_false_iff_not,Bool.not_eq_true',Bool.not_eq_false',Bool.not_eq_true,Bool.not_eq_false] at hb))
 ·have hlt:i<F.length:=hb;have hwi:=lim_wrap hlt (show F.length≤lim by simp only [lim];omega);clear hb;have hof:=hFo _ (List.getElem_mem hlt);obtain⟨hc,hc10⟩:=hlaw _ (List.getElem_mem hlt);generalize hfe:F[i]=f at *;have hlJ:∀ H',lenA Tryz.prog H' 44 (.lst (f.code.map cvJ))=some (.int .i64 f.code.length):=fun H'=>len_In3 _
  have hfl:f.code.length≤lim:=by have:=hof.2;simp only [lim];omega
  clear hof hlaw hFo;have q1:=far (show nx'<n1 by omega);refine gWf cvFu.eq_1 ?_;refine AWp.countO f.code.length [7,8,9] 30 (fun j e H2 n2=>e 7=.int .i64 j∧H2 nx'=some (.cells [.lst (hh.map cvD),.lst (F.map cvFu),.int .i64 mn])∧H2 n1=some (.cells [.str f.cls,.str f.name,.bool f.static,.int .i64 f.params,.lst (f.vars.map cvF),.str f.result,.lst (f.code.map cvJ)])) ⟨(by first | (simp (disch:=omega) [putE,over,ofV,ofS, *];done) | (simp (disch:=omega) [putE,over,ofV,ofS, *];rfl)),by simp [upd, *],by simp [upd, *]⟩ ?_;clear hU;rintro j v2 H2 n2 hj hn2 ⟨h7,hU,hB⟩;refine gW ?_
  (((apply AWp.cond');(focus (simp [*,-Ax.CV.bool.injEq];rfl))) <;> (intro hb) <;> (try simp only [decide_eq_true_eq,decide_eq_false_iff_not,Bool.not_eq_true',Bool.not_eq_false',Bool.not_eq_true,Bool.not_eq_false] at hb))
  ·have hlj:j<f.code.length:=hb;have hwj:=lim_wrap hlj hfl;clear hb;have q2:=far (show nx'<n2 by omega);have q3:=far (show n1<n2 by omega);have hge:=List.getElem?_eq_getElem hlj;have hha:=hc.han j _ hge;have hct:=hc.cat j _ hge;have hcl:=hc.cal j _ hge;have h10:=hc10 j _ hge;clear hge hc hc10;generalize hje:f.code[j]=x at *;have hs9:x.op=9→FCall1 Tryz.prog tkG 10 [.agg [.lst (hh.map cvD)],.str x.cls] (.int .i64 (findS x.cls 0 hh))∧¬ findS x.cls 0 hh<0:=fun e=>⟨la_Find10 hh hhl x.cls,c9_fs (hcl.1 e)⟩
   have hs10:x.op=10→FCall1 Tryz.prog tkG 11 [.agg [.lst (hh.map cvD),.lst (F.map cvFu),.int .i64 mn],.str x.cls,.str x.name] (.int .i64 (findU x.cls x.name 0 F))∧¬ findU x.cls x.name 0 F<0:=fun e=>⟨la_Find12 hh F (by simp only [lim];omega) mn x.cls x.name,fun hn=>by
    obtain⟨g,hg,e1,e2⟩:=h10 e;exact (findU_lt F 0).1 hn g hg ⟨e1,e2⟩⟩
   have hjb:j≤100000000:=by simp only [lim] at hfl;omega
   clear hcl h10 hhl hFl hfl;have ho1:=avV_one x.args;simp only [CV.one] at ho1;have hc1:=avV_cs' x.args;simp only [CV.cs] at hc1;generalize findS x.cls 0 hh=V9 at *;generalize findU x.cls x.name 0 F=V10 at *;rcases hha with hha | ⟨c,y,hha,hcj,hcy,hy15⟩
   ·by_cases o15:x.op=15
    ·obtain⟨k,u,hk,hku,hu12,hgt⟩:=hct o15;obtain⟨hkf,hke⟩:=List.getElem?_eq_some_iff.1 hku;have hj0:¬ j=0:=by omega
     have hj1:¬ (j:Int)=0:=by omega
     have hgt1:¬ u.goto≤(j:Int):=by omega
     have hwk:IntKind.i64.wrap ((j:Int)-1)=(k:Int):=by rw [wrap_ok (by omega)];omega
     clear hku hk hgt hct hs9 hs10 hjb;refine gWf cvJ.eq_1 ?_;exact⟨by ((repeat (first | exact Keeps.base _ _ _ _ | (with_reducible exact Keeps.refl _ _ _) | (refine Keeps.put rfl ?_) | (refine Keeps.over' rfl rfl ?_)))),hlj,(by first | (simp (disch:=omega) [putE,over,ofV,ofS, *];done) | (simp (disch:=omega) [putE,over,ofV,ofS, *];rfl)),by simp [upd, *],by simp [upd, *]⟩
    ·clear hct hjb
     by_cases o9:x.op=9
     ·obtain⟨hfn,hfv⟩:=hs9 o9;clear hs9 hs10 o15;refine gWf cvJ.eq_1 ?_
      ((apply Xr);(focus rfl);(focus (first | rfl | (simp [cvJ, *];done)));(focus simp [cvJ, *,-Option.some.injEq];rfl);kernel_rfl)
      ·exact hfn _
      refine gWf cvJ.eq_1 ?_;exact⟨by ((repeat (first | exact Keeps.base _ _ _ _ | (with_reducible exact Keeps.refl _ _ _) | (refine Keeps.put rfl ?_) | (refine Keeps.over' rfl rfl ?_)))),hlj,(by first | (simp (disch:=omega) [putE,over,ofV,ofS, *];done) | (simp (disch:=omega) [putE,over,ofV,ofS, *];rfl)),by simp [upd, *],by simp [upd, *]⟩
     ·clear hs9
      by_cases o10:x.op=10
      ·obtain⟨hfn,hfv⟩:=hs10 o10;clear hs10 o15 o9;refine gWf cvJ.eq_1 ?_
       ((apply Xr);(focus rfl);(focus (first | rfl | (simp [cvJ, *];done)));(focus simp [cvJ, *,-Option.some.injEq];rfl);kernel_rfl)
       ·exact hfn _
       refine gWf cvJ.eq_1 ?_;exact⟨by ((repeat (first | exact Keeps.base _ _ _ _ | (with_reducible exact Keeps.refl _ _ _) | (refine Keeps.put rfl ?_) | (refine Keeps.over' rfl rfl ?_)))),hlj,(by first | (simp (disch:=omega) [putE,over,ofV,ofS, *];done) | (simp (disch:=omega) [putE,over,ofV,ofS, *];rfl)),by simp [upd, *],by simp [upd, *]⟩
      ·clear hs10;refine gWf cvJ.eq_1 ?_;exact⟨by ((repeat (first | exact Keeps.base _ _ _ _ | (with_reducible exact Keeps.refl _ _ _) | (refine Keeps.put rfl ?_) | (refine Keeps.over' rfl rfl ?_)))),hlj,(by first | (simp (disch:=omega) [putE,over,ofV,ofS, *];done) | (simp (disch:=omega) [putE,over,ofV,ofS, *];rfl)),by simp [upd, *],by simp [upd, *]⟩
   ·obtain⟨hcf,hce⟩:=List.getElem?_eq_some_iff.1 hcy;have hcn:¬ (c:Int)=-1:=by omega
    have hcj1:¬ (c:Int)≤(j:Int):=by omega
    have hcj2:¬ c≤j:=by omega
    have hcf1:¬ (f.code.length:Int)≤(c:Int):=by omega
    have hcf2:¬ f.code.length≤c:=by omega
    clear hcy hcj
    by_cases o15:x.op=15
    ·obtain⟨k,u,hk,hku,hu12,hgt⟩:=hct o15;obtain⟨hkf,hke⟩:=List.getElem?_eq_some_iff.1 hku;have hj0:¬ j=0:=by omega
     have hj1:¬ (j:Int)=0:=by omega
     have hgt1:¬ u.goto≤(j:Int):=by omega
     have hwk:IntKind.i64.wrap ((j:Int)-1)=(k:Int):=by rw [wrap_ok (by omega)];omega
     clear hku hk hgt hct hs9 hs10 hjb;refine gWf cvJ.eq_1 ?_;exact⟨by ((repeat (first | exact Keeps.base _ _ _ _ | (with_reducible exact Keeps.refl _ _ _) | (refine Keeps.put rfl ?_) | (refine Keeps.over' rfl rfl ?_)))),hlj,(by first | (simp (disch:=omega) [putE,over,ofV,ofS, *];done) | (simp (disch:=omega) [putE,over,ofV,ofS, *];rfl)),by simp [upd, *],by simp [upd, *]⟩
    ·clear hct hjb
     by_cases o9:x.op=9
     ·obtain⟨hfn,hfv⟩:=hs9 o9;clear hs9 hs10 o15;refine gWf cvJ.eq_1 ?_
      ((apply Xr);(focus rfl);(focus (first | rfl | (simp [cvJ, *];done)));(focus simp [cvJ, *,-Option.some.injEq];rfl);kernel_rfl)
      ·exact hfn _
      refine gWf cvJ.eq_1 ?_;exact⟨by ((repeat (first | exact Keeps.base _ _ _ _ | (with_reducible exact Keeps.refl _ _ _) | (refine Keeps.put rfl ?_) | (refine Keeps.over' rfl rfl ?_)))),hlj,(by first | (simp (disch:=omega) [putE,over,ofV,ofS, *];done) | (simp (disch:=omega) [putE,over,ofV,ofS, *];rfl)),by simp [upd, *],by simp [upd, *]⟩
     ·clear hs9
      by_cases o10:x.op=10
      ·obtain⟨hfn,hfv⟩:=hs10 o10;clear hs10 o15 o9;refine gWf cvJ.eq_1 ?_
       ((apply Xr);(focus rfl);(focus (first | rfl | (simp [cvJ, *];done)));(focus simp [cvJ, *,-Option.some.injEq];rfl);kernel_rfl)
       ·exact hfn _
       refine gWf cvJ.eq_1 ?_;exact⟨by ((repeat (first | exact Keeps.base _ _ _ _ | (with_reducible exact Keeps.refl _ _ _) | (refine Keeps.put rfl ?_) | (refine Keeps.over' rfl rfl ?_)))),hlj,(by first | (simp (disch:=omega) [putE,over,ofV,ofS, *];done) | (simp (disch:=omega) [putE,over,ofV,ofS, *];rfl)),by simp [upd, *],by simp [upd, *]⟩
      ·clear hs10;refine gWf cvJ.eq_1 ?_;exact⟨by ((repeat (first | exact Keeps.base _ _ _ _ | (with_reducible exact Keeps.refl _ _ _) | (refine Keeps.put rfl ?_) | (refine Keeps.over' rfl rfl ?_)))),hlj,(by first | (simp (disch:=omega) [putE,over,ofV,ofS, *];done) | (simp (disch:=omega) [putE,over,ofV,ofS, *];rfl)),by simp [upd, *],by simp [upd, *]⟩
  ·clear hb;obtain⟨p,z,hpz,hz13,hzh⟩:=hc.last;have hpl:f.code.length=p.length+1:=by rw [hpz];simp
   obtain⟨k,hk⟩:∃ k,p.length=k:=⟨_,rfl⟩;have hkl:k<f.code.length:=by omega
   have hke:f.code[k]=z:=by
    apply Option.some.inj;rw [← List.getElem?_eq_getElem hkl,hpz,← hk];simp
   have hl0:¬ f.code.length=0:=by omega
   have hl1:¬ (f.code.length:Int)=0:=by omega
   have hwk:IntKind.i64.wrap ((f.code.length:Int)-1)=(k:Int):=by rw [wrap_ok (by simp only [lim] at hfl;omega)];omega
   clear hpz hpl hk hc hc10;refine gWf cvJ.eq_1 ?_;exact⟨by ((repeat (first | exact Keeps.base _ _ _ _ | (with_reducible exact Keeps.refl _ _ _) | (refine Keeps.put rfl ?_) | (refine Keeps.over' rfl rfl ?_)))),hlt,(by first | (simp (disch:=omega) [putE,over,ofV,ofS, *];done) | (simp (disch:=omega) [putE,over,ofV,ofS, *];rfl)),hU⟩
 clear hb hlaw hFo;refine gW ?_
 ((apply AOpl.callG);(focus rfl);(focus (first | rfl | (simp [*];done)));(focus simp [*,-Option.some.injEq];rfl);kernel_rfl)
 refine acall_le (lw_awake _ _) ?_;rintro r H' nx' hle ⟨rfl,rfl⟩;simp only;refine gW ?_
 (refine⟨_,(by simp [*];rfl),?_⟩;(try simp only [packA]))
end
section
open Lx Ax Go.RowKit
theorem ll_nms:∀ (d:Nat) (l:List St),(∀ s∈l,StB d s)→NmSs l
 | 0,[],_=>trivial
 | 0,s::l,h=>(h s (by simp)).elim
 | d+1,[],_=>trivial
 | d+1,s::l,h=>by
   have h1:=h s (by simp);have h2:=ll_nms (d+1) l fun x hx=>h x (by simp [hx])
   obtain⟨k,nm,ty,es,b,el⟩:=s;rw [NmSs,NmS];exact⟨⟨h1.2.1,ll_nms d b h1.2.2.2.2.1,ll_nms d el h1.2.2.2.2.2⟩,h2⟩
theorem LM.of {d:Nat}{l:List Cl}(hB:∀ c∈l,ClB d c)(hs:clsSz l≤2000000):LM l:=by
 have hc:∀ c∈l,c.fields.length≤2000000∧mesSz c.methods≤2000000:=fun c hc=>by
  have:=clsSz_mem hc;rw [clSz] at this;omega
 have hm:∀ c∈l,∀ m∈c.methods,m.params.length+stsSz m.body≤2000000:=fun c hc1 m hm=>by
  have:=mesSz_mem hm;have:=(hc c hc1).2;rw [meSz] at *;omega
 have h0:LN l:=⟨⟨by have:=clsSz_len l;simp only [lim];omega,fun c h=>by have:=(hc c h).1;simp only [lim];omega,fun c h=>by have:=mesSz_len c.methods;have:=(hc c h).2;simp only [lim];omega,fun c h m h2=>by have:=hm c h m h2;simp only [lim];omega⟩,fun c h=>(hB c h).1,fun c h f hf=>((hB c h).2.2.1 f hf).1,fun c h m h2=>((hB c h).2.2.2 m h2).1,fun c h m h2 f hf=>(((hB c h).2.2.2 m h2).2.2.1 f hf).1,fun c h m h2=>ll_nms d _ ((hB c h).2.2.2 m h2).2.2.2,fun c h m h2=>by have:=hm c h m h2;simp only [lim];omega⟩;exact⟨h0,fun c h m h2=>by have:=hm c h m h2;simp only [lim];omega⟩
def ll_pow:Array Value:=(Lib.pow10Tab.map (Value.int .u64)).toArray
structure LLaid (w:World):Prop where
 kw:KwIs w
 pow:∃ t fr,w.heap[1]?=some (.cells ll_pow t fr)
theorem ll_rop {w:World}{g:Nat}{cs:List CV}{arr:Array Value}{t:TypeId}{fr:Nat×Nat}(h:w.heap[g]?=some (.cells arr t fr))(hr:RVs (snap w) cs arr.toList):RV (snap w) (.rop cs) (.pointer (some ⟨g,0,none⟩))∧Szd (snap w) g (.rop cs):=by
 have hl:arr.size=cs.length:=by have:=hr.1;simpa using this
 refine⟨.rop _ _ 0 arr t fr h (by omega) (fun j a b=>?_),_,_,_,h,hl⟩;have:=hr.2 j a (by simpa using (by omega:j<arr.size));simpa using this
theorem ll_strs (M:Mp):∀ l:List Bytes,RVs M (l.map .str) (l.map fun s=>Value.string ⟨s.toArray⟩)
 | []=>.nil
 | s::l=>.cons (.str _ _ rfl) (ll_strs M l)
theorem ll_nums (M:Mp)(k:IntKind):∀ l:List Int,RVs M (l.map (.int k)) (l.map (Value.int k))
 | []=>.nil
 | s::l=>.cons (.int _ _) (ll_nums M k l)
theorem ll_bool {M:Mp}{b:Bool}{v:Value}(h:RV M (.bool b) v):v=.bool b:=by cases h;rfl
theorem LLaid.rg {w:World}(h:LLaid w):RG tkG (snap w):=by
 obtain⟨⟨t1,f1,h1⟩,⟨t3,f3,h3⟩⟩:=h;intro g;unfold tkG;split
 ·rename_i hb;have hg:=beq_eq hb;subst hg;exact ll_rop h1 (ll_strs _ kwList)
 ·split
  ·rename_i hb;have hg:=beq_eq hb;subst hg;exact ll_rop h3 (ll_nums _ .u64 Lib.pow10Tab)
  ·exact⟨.any _,trivial⟩
theorem ll_law {f:FuncId}(hw:∀ l:List Cl,LM l→FCall Tryz.prog tkG f [cvSo l] fun r=>r=.ret (.bool true))(d:Nat)(x:List Cl)(a:Option Addr)(n c:Nat)(w:World)(h:IsList Any w 4 (IsCl Any w d) x (.slice a n c))(hB:∀ c∈x,ClB d c)(hs:clsSz x≤2000000)(hK:LLaid w) :
  Calls Tryz.prog f #[.agg #[.slice a n c]] w fun e w'=>e=.returned (.bool true)∧Below w.heap.size w w':=by
 have hM:∀ g o,Any g→w.heap[g]?=some o→(snap w).fz g=some o:=fun g o _ h=>h
 have hv:RV (snap w) (.lst (x.map cvC)) (.slice a n c):=rv_list (by decide) hM h cvC_len fun y _ cs hy=>rv_cl hM hy
 have hr:RV (snap w) (.agg [.lst (x.map cvC)]) (.agg #[.slice a n c]):=.agg _ [.slice a n c] rfl (RVs.one hv).2;refine ((hw x (LM.of hB hs)) Heap.no 0 (snap w) w [.agg #[.slice a n c]] hK.rg (Rep.snap w) (.one hr)).mono ?_;rintro e w' ⟨M',r,H',nx',h1,h2,h3,_,rfl⟩;refine⟨?_,h3.below⟩;cases e <;> simp only [EndR] at h1;rw [ll_bool h1]
end
end Go.Proofs.YtoookjadbhdfhaaGreatDoor
