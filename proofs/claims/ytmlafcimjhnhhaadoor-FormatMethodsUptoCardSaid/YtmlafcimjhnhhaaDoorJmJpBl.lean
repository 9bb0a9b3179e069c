/-
  Plain Lean: what format prints is written by the grammar; a program printed is read back.
-/
import Derived.Test.YtmlafcimjhnhhaaDoorJmJpBk
import Derived.Test.YtmlafcimjhnhhaaDoorJmJpBf
import Derived.Test.YtmlafcimjhnhhaaDoorJmJpAx
import Derived.Test.YtmlafcimjhnhhaaDoorJmJpAr
import Derived.Test.YtmlafcimjhnhhaaDoorJmJpBj
import Derived.Test.YtmlafcimjhnhhaaDoorJmJpBe
set_option linter.unusedSectionVars false
set_option linter.unusedSimpArgs false
set_option linter.unnecessarySimpa false
set_option linter.unusedVariables false
set_option linter.unusedSimpArgs false
set_option linter.unusedVariables false
namespace Go.Proofs.YtmlafcimjhnhhaaDoor
section
open Lx
namespace Lx
/-- What is to be shown of an expression's text, by its level. -/
structure FmE (e:Ex) (us:List TT):Prop where
 pr:Pr (exText e) us
 l4:levelOf e.kind e.n=4→∃ s,GrP e us s∧((e.kind=9∨e.kind=10)→s=3)
 l3:3≤levelOf e.kind e.n→GrX e us
 l2:2≤levelOf e.kind e.n→GrS e us
 l1:GrE e us
/-- A post serves everywhere. -/
theorem FmE.post {e:Ex}{us:List TT}{s:Nat}(g:GrP e us s)(p:Pr (exText e) us)(h:(e.kind=9∨e.kind=10)→s=3):FmE e us :=
 ⟨p,fun _=>⟨s,g,h⟩,fun _=>.post g,fun _=>.prod (.post g),g.expr⟩
theorem within0 (e:Ex)(l:List Ex)(r:Int):withinAt (e::l) 0 r=if levelOf e.kind e.n<r then [40]++exText e++[41] else exText e:=by rw [withinAt]
theorem within1 (e f:Ex)(l:List Ex)(r:Int):withinAt (e::f::l) 1 r=if levelOf f.kind f.n<r then [40]++exText f++[41] else exText f:=by rw [withinAt,withinAt]
theorem argsFrom1 (k:Ex)(es:List Ex):argsFrom (k::es) 1=argsFrom es 0:=by simp only [argsFrom]
/-- The text of an expression is not empty. -/
theorem GrE.ne {e:Ex}{us:List TT}(h:GrE e us):us≠[]:=by obtain⟨u,vs,rfl,_⟩:=h.fst;simp
theorem nl:isSep 10=true:=by decide
end Lx
end
section
open Lx
namespace Lx
theorem numT_len (n:Int):(numText n).length≤21:=by
 unfold numText;have:=digits_len 20 n.natAbs;split <;> simp <;> omega
theorem sepText_len:∀ {es:List Ex},(∀ e∈es,(exText e).length+10≤110*exSz e)→(sepText es).length≤110*exsSz es
 | [],_=>by simp [sepText]
 | [e],h=>by
   have:=h e List.mem_cons_self;rw [sepText,exsSz,exsSz];omega
 | e::f::es,h=>by
   have h1:=h e List.mem_cons_self;have h2:=sepText_len (es:=f::es) fun x hx=>h x (List.mem_cons_of_mem _ hx)
   rw [sepText,exsSz]
   ·simp only [List.length_append,List.length_cons,List.length_nil];omega
   ·exact fun h=>by simp at h
theorem oper_len (e:Ex)(r:Int):(if levelOf e.kind e.n<r then [40]++exText e++[41] else exText e).length≤(exText e).length+2:=by
 split
 ·simp
 ·omega
theorem exText_len1:∀ (d:Nat) (e:Ex),exSz e≤d→WfE e→(exText e).length+10≤110*exSz e:=by
 intro d
 induction d with
 | zero=>intro e h;have:=exSz_pos e;omega
 | succ d ih =>
   intro e hd hw;cases hw with
   | int n h1 h2=>rw [exText,if_pos rfl,exSz,exsSz];have:=numT_len n;omega
   | null=>rw [exText,exSz,exsSz];simp
   | var x hx=>rw [exText,exSz,exsSz];have:=ident_len hx;simp;omega
   | this=>rw [exText,exSz,exsSz];simp
   | input=>rw [exText,exSz,exsSz];simp
   | @bin op h a b ha hb =>
     simp only [exSz,exsSz] at hd ⊢;have h1:=ih a (by omega) ha;have h2:=ih b (by omega) hb;have h3:=opText_len op;have hp:exText (.mk 6 op [] [] [a,b])=withinAt [a,b] 0 (max (levelOf 6 op) 2)++([32]++(opText op++([32]++withinAt [a,b] 1 (levelOf 6 op+1)))):=by rw [exText];simp
     rw [within0,within1] at hp;have o1:=oper_len a (max (levelOf 6 op) 2);have o2:=oper_len b (levelOf 6 op+1);rw [hp];simp only [List.length_append,List.length_cons,List.length_nil] at o1 o2 ⊢;omega
   | new x hx=>simp only [exSz,exsSz];have:=ident_len hx;simp [exText];omega
   | @field m hm k hk =>
     simp only [exSz,exsSz] at hd ⊢;have h1:=ih k (by omega) hk;have:=ident_len hm;have hp:exText (.mk 8 0 [] m [k])=withinAt [k] 0 4++[46]++m:=by rw [exText];simp
     have o1:=oper_len k 4;rw [hp,within0];simp only [List.length_append,List.length_cons,List.length_nil] at o1 ⊢;omega
   | @call m hm k es hk he =>
     simp only [exSz,exsSz] at hd ⊢;have h1:=ih k (by omega) hk;have h2:=sepText_len fun x hx=>ih x (by have:=exsSz_mem hx;omega) (he x hx)
     have:=ident_len hm;have hp:exText (.mk 9 0 [] m (k::es))=withinAt (k::es) 0 4++[46]++m++argsFrom es 0:=by rw [exText];simp [argsFrom1]
     have o1:=oper_len k 4;rw [hp,within0,argsFrom];simp only [List.length_append,List.length_cons,List.length_nil] at o1 ⊢;omega
   | @static o m ho hm es he =>
     simp only [exSz] at hd ⊢;have h2:=sepText_len fun x hx=>ih x (by have:=exsSz_mem hx;omega) (he x hx)
     have:=ident_len hm;have:=ident_len ho;have hp:exText (.mk 10 0 o m es)=o++[58,58]++m++argsFrom es 0:=by rw [exText];simp
     rw [hp,argsFrom];simp only [List.length_append,List.length_cons,List.length_nil];omega
theorem exText_len {e:Ex}(h:WfE e):(exText e).length+10≤110*exSz e:=exText_len1 _ e (Nat.le_refl _) h
theorem tabs_len (n:Nat):(tabsOf n).length=n:=by simp [tabsOf]
theorem stsText_len {n:Nat}:∀ {l:List St},(∀ s∈l,(stText n s).length≤7000000*stSz s)→(stsText n l).length≤7000000*stsSz l
 | [],_=>by simp [stsText]
 | s::l,h=>by
   have h1:=h s List.mem_cons_self;have h2:=stsText_len fun x hx=>h x (List.mem_cons_of_mem _ hx)
   rw [stsText,stsSz,List.length_append];omega
theorem stText_len1:∀ (d:Nat) (s:St) (n:Nat),stSz s≤d→n+stSz s≤2097152→WfS s→(stText n s).length≤7000000*stSz s:=by
 intro d
 induction d with
 | zero=>intro s n h;have:=stSz_pos s;omega
 | succ d ih =>
   intro s n hd hn hw;have ht:=tabs_len n;cases hw with
   | var0 x t hx ht=>simp only [stSz,exsSz,stsSz] at hn ⊢;have:=ident_len hx;have:=typ_len ht;simp [stText];omega
   | @var1 x t hx ht e he=>simp only [stSz,exsSz,stsSz] at hn ⊢;have:=ident_len hx;have:=typ_len ht;have:=exText_len he;simp [stText,exT];omega
   | @assign x hx e he=>simp only [stSz,exsSz,stsSz] at hn ⊢;have:=ident_len hx;have:=exText_len he;simp [stText,exT];omega
   | @store m hm k e hk he =>
     simp only [stSz,exsSz,stsSz] at hn ⊢;have:=ident_len hm;have:=exText_len he;have:=exText_len hk;have o1:=oper_len k 4;have hp:stText n (.mk 3 m [] [k,e] [] [])=tabsOf n++withinAt [k,e] 0 4++[46]++m++[32,61,32]++exText e++[59,10]:=by rw [stText];simp [exT]
     rw [hp,within0];simp only [List.length_append,List.length_cons,List.length_nil] at o1 ⊢;omega
   | @«if» e he b c hb hc =>
     simp only [stSz,exsSz] at hd hn ⊢;have:=exText_len he;have:=stsText_len (n:=n+1) fun x hx=>ih x (n+1) (by have:=stsSz_mem hx;omega) (by have:=stsSz_mem hx;omega) (hb x hx)
     have:=stsText_len (n:=n+1) fun x hx=>ih x (n+1) (by have:=stsSz_mem hx;omega) (by have:=stsSz_mem hx;omega) (hc x hx)
     simp [stText,exT];split <;> simp <;> omega
   | @«while» e he b hb =>
     simp only [stSz,exsSz,stsSz] at hd hn ⊢;have:=exText_len he;have:=stsText_len (n:=n+1) fun x hx=>ih x (n+1) (by have:=stsSz_mem hx;omega) (by have:=stsSz_mem hx;omega) (hb x hx)
     simp [stText,exT];omega
   | @«try» x t hx ht b c hb hc =>
     simp only [stSz,exsSz] at hd hn ⊢;have:=ident_len hx;have:=typ_len ht;have:=stsText_len (n:=n+1) fun x hx=>ih x (n+1) (by have:=stsSz_mem hx;omega) (by have:=stsSz_mem hx;omega) (hb x hx)
     have:=stsText_len (n:=n+1) fun x hx=>ih x (n+1) (by have:=stsSz_mem hx;omega) (by have:=stsSz_mem hx;omega) (hc x hx)
     simp [stText];omega
   | @throw e he=>simp only [stSz,exsSz,stsSz] at hn ⊢;have:=exText_len he;simp [stText,exT];omega
   | return0=>simp only [stSz,exsSz,stsSz] at hn ⊢;simp [stText];omega
   | @return1 e he=>simp only [stSz,exsSz,stsSz] at hn ⊢;have:=exText_len he;simp [stText,exT];omega
   | @call e he hk=>simp only [stSz,exsSz,stsSz] at hn ⊢;have:=exText_len he;simp [stText,exT];omega
theorem stText_len {s:St}{n:Nat}(hn:n+stSz s≤2097152)(h:WfS s):(stText n s).length≤7000000*stSz s:=stText_len1 _ s n (Nat.le_refl _) hn h
theorem blText_len {l:List St}{n:Nat}(hn:n+stsSz l≤2097152)(h:∀ s∈l,WfS s):(stsText n l).length≤7000000*stsSz l:=stsText_len fun s hs=>stText_len (by have:=stsSz_mem hs;omega) (h s hs)
/-- Sizes of methods, classes, sources. -/
def meSz (m:Me):Nat:=stsSz m.body+m.params.length+1
theorem meText_len {m:Me}{n:Nat}(hn:n+1+meSz m≤2097152)(h:WfM m):(meText n m).length≤7000000*meSz m:=by
 have:=ident_len h.name;have:=parText_len h.params;unfold meSz at hn ⊢;have:=blText_len (n:=n+1) (by omega) h.body;have hr:m.result.length≤32:=by rcases h.result with h | h;rw [h];simp;exact typ_len h
 have ht:=tabs_len n;unfold meText;split <;> split <;> simp <;> omega
end Lx
end
section
open Lx Ax Go.RowKit
attribute [local simp] stepS Ax.stepT Dl.on qstep astep estep rd putE over argE ofV ofS loadA pickCells isAggD faddA fieldA partA iaddA idxA sliA bnd binA intA strA unA convA lenA mapOf lookA findK keyD scalD storeA mupA srcA srcD upd drp Dl.hp Dl.nx CV.cs CV.one buildA placesA fillA zrep tasA ifaceD eqA eqFs eqIs range2 copyA nbeq nble nblt decEq beqI bneI beqS bneS isED Int.ofNat_inj List.getElem?_map List.getElem?_eq_getElem Option.map_some ti_int ti_i64 ti_str ti_bool ti_u8 ti_Strs ti_Exs ti_Ex gd gdB callA resA op1
attribute [local simp] one1 cvE_eq cvS_eq exk exn exo exm exks drR drp nu1 nu2 nu3 nu4 nu5 nu6 nu7 nu8 nu9 nu10 nu11 nu12 nu13 bl_len bl_max cvM cvC
theorem rw1:IntKind.i64.wrap 1=1:=by decide
theorem rw2:IntKind.i64.wrap 2=2:=by decide
theorem rw3:IntKind.i64.wrap 3=3:=by decide
theorem rw4:IntKind.i64.wrap 4=4:=by decide
theorem rw5:IntKind.i64.wrap 5=5:=by decide
theorem rw6:IntKind.i64.wrap 6=6:=by decide
theorem rw7:IntKind.i64.wrap 7=7:=by decide
theorem rw8:IntKind.i64.wrap 8=8:=by decide
theorem rw9:IntKind.i64.wrap 9=9:=by decide
theorem rw10:IntKind.i64.wrap 10=10:=by decide
attribute [local simp] rw1 rw2 rw3 rw4 rw5 rw6 rw7 rw8 rw9 rw10
theorem ten {m:Nat}(h:m<10):m=0∨m=1∨m=2∨m=3∨m=4∨m=5∨m=6∨m=7∨m=8∨m=9:=by omega
set_option maxRecDepth 10000 in
set_option maxHeartbeats 16000000 in
theorem rt_numN:∀ (f m:Nat),m<10 ^ f→0<f→f<1000→m≤9223372036854775807→FCall1 Tryd.prog paG 85 [.int .i64 m] (.str (digitsOf f m)):=by
 intro f
 induction f with
 | zero=>intro m _ h;omega
 | succ f ih =>
   intro m hm _ hf hb;refine FCall.one paG_pu rfl rfl ?_;refine FCall.ofBody Tryd.func85 rfl rfl fun nx=>?_
   have hi0:¬ (m:Int)=-9223372036854775808:=by omega
   by_cases h10:m<10
   ·have hd:digitsOf (f+1) m=[dig m]:=by rw [digitsOf,if_pos h10]
    rw [hd];clear ih hm hd hi0;rcases ten h10 with rfl | rfl | rfl | rfl | rfl | rfl | rfl | rfl | rfl | rfl
    all_goals
     refine gV ?_
     (refine⟨_,(by simp [*];rfl),?_⟩;(try simp only [packA]))
     rfl
   ·have hd:digitsOf (f+1) m=digitsOf f (m / 10)++[dig (m % 10)]:=by rw [digitsOf,if_neg h10]
    have hf0:0<f:=by
     cases f with
     | zero=>simp at hm;omega
     | succ f=>omega
    have hc:=ih (m / 10) (by rw [Nat.div_lt_iff_lt_mul (by decide)];rw [Nat.pow_succ] at hm;exact hm) hf0 (by omega) (by omega);have hlen:=digits_len f (m / 10);have hq:(m:Int).tdiv 10=((m / 10:Nat):Int):=by rw [Int.tdiv_eq_ediv_of_nonneg (by omega)];omega
    have hq2:(m:Int) / 10=((m / 10:Nat):Int):=by omega
    have hr10:m % 10<10:=Nat.mod_lt _ (by decide);have hi1:¬ (m:Int)<0:=by omega
    have hi2:¬ (m:Int)<10:=by omega
    have hr:(m:Int).tmod 10=((m % 10:Nat):Int):=by rw [Int.tmod_eq_emod_of_nonneg (by omega)];omega
    rw [hd];obtain⟨D,hD⟩:∃ D,D=digitsOf f (m / 10):=⟨_,rfl⟩;obtain⟨q,hqq⟩:∃ q,q=m / 10:=⟨_,rfl⟩;obtain⟨r,hrr⟩:∃ r,r=m % 10:=⟨_,rfl⟩;rw [← hD] at hc hlen ⊢;rw [← hqq] at hc hq hq2;have hwq:IntKind.i64.wrap (q:Int)=(q:Int):=by rw [IntKind.wrap_i64];omega
    rw [← hrr] at hr hr10 ⊢;clear ih hm hd hD hqq hrr;rcases ten hr10 with rfl | rfl | rfl | rfl | rfl | rfl | rfl | rfl | rfl | rfl
    all_goals
     refine gV ?_
     (first | refine AOpl.call1 rfl (by first | rfl | (simp [*];done)) (by simp [*]) (by kernel_rfl) (hc) ?_ | refine ASl.callg (by first | rfl | (simp [*];done)) (by simp [*]) (by kernel_rfl) (hc) ?_)
     refine gV ?_
     (refine⟨_,(by simp [*];rfl),?_⟩;(try simp only [packA]))
     rfl
set_option maxRecDepth 10000 in
set_option maxHeartbeats 16000000 in
theorem rt_num (n:Int)(h1:-9223372036854775808<n)(h2:n<9223372036854775808):FCall1 Tryd.prog paG 85 [.int .i64 n] (.str (numText n)):=by
 by_cases hn:n<0
 ·have hc:=rt_numN 20 n.natAbs (by omega) (by decide) (by decide) (by omega);have hp:numText n=[45]++digitsOf 20 n.natAbs:=by unfold numText;rw [if_pos hn];rfl
  have hw:IntKind.i64.wrap (-n)=-n:=by rw [IntKind.wrap_i64];omega
  have hlen:=digits_len 20 n.natAbs;have hi0:¬ n=-9223372036854775808:=by omega
  rw [show ((n.natAbs:Nat):Int)=-n by omega] at hc;obtain⟨D,hD⟩:∃ D,D=digitsOf 20 n.natAbs:=⟨_,rfl⟩;rw [← hD] at hc hlen hp;rw [hp];clear hp hD;refine FCall.one paG_pu rfl rfl ?_;refine FCall.ofBody Tryd.func85 rfl rfl fun nx=>?_
  refine gV ?_
  (first | refine AOpl.call1 rfl (by first | rfl | (simp [*];done)) (by simp [*]) (by kernel_rfl) (hc) ?_ | refine ASl.callg (by first | rfl | (simp [*];done)) (by simp [*]) (by kernel_rfl) (hc) ?_)
  refine gV ?_
  (refine⟨_,(by simp [*];rfl),?_⟩;(try simp only [packA]))
  rfl
 ·have hc:=rt_numN 20 n.natAbs (by omega) (by decide) (by decide) (by omega);rw [show ((n.natAbs:Nat):Int)=n by omega] at hc;unfold numText;rw [if_neg hn];exact hc
end
section
open Lx Go.RowKit Ax
theorem rs_meLim (d:Nat)(m:Me)(hl:LenM d m):FCall1 Tryd.prog paG 28 [.agg (cvM m)] (.int .i64 (meLim m:Int)):=by
 refine FCall.one paG_pu (by simp [puL,puV,puM]) rfl (FCall.ofOld fun M w vs hg hz hv=>?_);obtain⟨v0,vs,rfl,hv0,hv⟩:=hv.cons_inv;cases hv.nil_inv;obtain⟨us,rfl,hu⟩:=agg_of hv0;have hi:=rv_isMe (w:=w) hz d m us hl hu;obtain⟨v1,v2,rfl,h1,h2⟩:=id hi;obtain⟨a1,n1,c1,rfl⟩:=h1.form;obtain⟨a2,n2,c2,rfl⟩:=h2.form;refine (ref_LimitMethod d m _ _ a1 n1 c1 _ a2 n2 c2 w hi).mono ?_;rintro e w' ⟨rfl,hb⟩;exact⟨hb,_,rfl,.int _ _⟩
theorem rs_method (d:Nat)(m:Me)(hl:LenM d m)(hB:MethB d m):FCall1 Tryd.prog paG 29 [.agg (cvM m)] (.int .i64 (meFault m:Int)):=by
 refine FCall.one paG_pu (by simp [puL,puV,puM]) rfl (FCall.ofOld fun M w vs hg hz hv=>?_);obtain⟨v0,vs,rfl,hv0,hv⟩:=hv.cons_inv;cases hv.nil_inv;obtain⟨us,rfl,hu⟩:=agg_of hv0;have hi:=rv_isMe (w:=w) hz d m us hl hu;obtain⟨v1,v2,rfl,h1,h2⟩:=id hi;obtain⟨a1,n1,c1,rfl⟩:=h1.form;obtain⟨a2,n2,c2,rfl⟩:=h2.form;refine (ref_method d m _ _ a1 n1 c1 _ a2 n2 c2 w hi hB).mono ?_;rintro e w' ⟨rfl,hb⟩;exact⟨hb,_,rfl,.int _ _⟩
end
end Go.Proofs.YtmlafcimjhnhhaaDoor
