/-
  Plain Lean: what format prints is written by the grammar; a program printed is read back.
-/
import Derived.Test.YtmlafcimjhnhhaaGreatDoorJeJpBr
import Derived.Test.YtmlafcimjhnhhaaGreatDoorJeJpBn
import Derived.Test.YtmlafcimjhnhhaaGreatDoorJeJpBg
import Derived.Test.YtmlafcimjhnhhaaGreatDoorJeJpAr
import Derived.Test.YtmlafcimjhnhhaaGreatDoorJeJpBq
import Derived.Test.YtmlafcimjhnhhaaGreatDoorJeJpBm
set_option linter.unusedSectionVars false
set_option linter.unusedSimpArgs false
set_option linter.unnecessarySimpa false
set_option linter.unusedVariables false
set_option linter.unusedSimpArgs false
set_option linter.unusedVariables false
namespace Go.Proofs.YtmlafcimjhnhhaaGreatDoor
section
open Lx
namespace Lx
/-- What is to be shown of an expression's text, by its level. -/
structure FmE (e:Ex) (us:List TT):Prop where
 pr:Pr (exText e) us
 l4:levelOf e.kind e.n=4→∃ s,GrP e us s∧((e.kind=9∨e.kind=10)→s=3)
 l3:3≤levelOf e.kind e.n→GrX e us
 l2:2≤levelOf e.kind e.n→GrS e us
 l1:GrE e us
/-- A post serves everywhere. -/
theorem FmE.post {e:Ex}{us:List TT}{s:Nat}(g:GrP e us s)(p:Pr (exText e) us)(h:(e.kind=9∨e.kind=10)→s=3):FmE e us :=
 ⟨p,fun _=>⟨s,g,h⟩,fun _=>.post g,fun _=>.prod (.post g),g.expr⟩
theorem within0 (e:Ex)(l:List Ex)(r:Int):withinAt (e::l) 0 r=if levelOf e.kind e.n<r then [40]++exText e++[41] else exText e:=by rw [withinAt]
theorem within1 (e f:Ex)(l:List Ex)(r:Int):withinAt (e::f::l) 1 r=if levelOf f.kind f.n<r then [40]++exText f++[41] else exText f:=by rw [withinAt,withinAt]
theorem paren_gr {e:Ex}{us:List TT}(h:FmE e us):Pa ([40]++exText e++[41]) (TT.mk [40]::(us++[TT.mk [41]])):=by
 have:=((Pa.mark (x:=[40]) (by decide)).appR h.pr).app (Brk.of (by decide)) (Pa.mark (x:=[41]) (by decide));simpa using this
/-- An operand at a place that requires a level. -/
theorem oper4 {e:Ex}{us:List TT}(h:FmE e us):∃ vs s,GrP e vs s∧Pr (if levelOf e.kind e.n<4 then [40]++exText e++[41] else exText e) vs:=by
 split
 ·exact⟨_,_,.paren h.l1,(paren_gr h).pr⟩
 ·rename_i hl;have h4:levelOf e.kind e.n≤4:=by unfold levelOf;split;omega;split;omega;split <;> omega
  obtain⟨s,g,_⟩:=h.l4 (by omega);exact⟨us,s,g,h.pr⟩
theorem oper3 {e:Ex}{us:List TT}(h:FmE e us):∃ vs,GrX e vs∧Pr (if levelOf e.kind e.n<3 then [40]++exText e++[41] else exText e) vs:=by
 split
 ·exact⟨_,.post (.paren h.l1),(paren_gr h).pr⟩
 ·rename_i hl;exact⟨us,h.l3 (by omega),h.pr⟩
theorem oper2 {e:Ex}{us:List TT}(h:FmE e us):∃ vs,GrS e vs∧Pr (if levelOf e.kind e.n<2 then [40]++exText e++[41] else exText e) vs:=by
 split
 ·exact⟨_,.prod (.post (.paren h.l1)),(paren_gr h).pr⟩
 ·rename_i hl;exact⟨us,h.l2 (by omega),h.pr⟩
def FmOk (e:Ex):Prop:=∃ us,FmE e us
theorem sepText_gr:∀ {es:List Ex},(∀ e∈es,FmOk e)→es≠[]→∃ us,GrL es us∧Pr (sepText es) us
 | [],_,h=>absurd rfl h
 | [e],h,_=>by
   obtain⟨us,f⟩:=h e List.mem_cons_self;exact⟨us,.one f.l1,by rw [sepText];exact f.pr⟩
 | e::e2::es,h,_=>by
   obtain⟨us,f⟩:=h e List.mem_cons_self;obtain⟨vs,g2,p2⟩:=sepText_gr (es:=e2::es) (fun x hx=>h x (List.mem_cons_of_mem _ hx)) (by simp);refine⟨us++(TT.mk [44]::vs),.cons f.l1 g2,?_⟩;rw [sepText,List.append_assoc]
   ·exact f.pr.appR ((Brk.of (by decide)).app _) (((Pa.mark (x:=[44]) (by decide)).app (Pa.sep (A:=[32]) (by decide))).appR p2)
   ·exact fun h=>by simp at h
theorem argText_gr {es:List Ex}(h:∀ e∈es,FmOk e):∃ us,GrA es us∧Pa (argsFrom es 0) us:=by
 rw [argsFrom];cases es with
 | nil=>exact⟨_,.nil,by rw [sepText];exact (Pa.mark (x:=[40]) (by decide)).app (Pa.mark (x:=[41]) (by decide))⟩
 | cons e es =>
   obtain⟨us,g,p⟩:=sepText_gr h (by simp);refine⟨_,.some g,?_⟩;rw [List.append_assoc];exact (Pa.mark (x:=[40]) (by decide)).app (p.app (Brk.of (by decide)) (Pa.mark (x:=[41]) (by decide)))
theorem argsFrom1 (k:Ex)(es:List Ex):argsFrom (k::es) 1=argsFrom es 0:=by simp only [argsFrom]
theorem brk_args (es:List Ex):Brk (argsFrom es 0):=by rw [argsFrom,List.append_assoc];exact .of (by decide)
theorem op_gr {op:Int}(h:1≤op∧op≤5):Pa ([32]++opText op++[32]) [TT.mk (opText op)]:=by
 have:=((Pa.sep (A:=[32]) (by decide)).app (Pa.mark (opText_mark h))).app (Pa.sep (A:=[32]) (by decide));simpa using this
theorem brk_op (op:Int):Brk ([32]++opText op++[32]):=by rw [List.append_assoc];exact .of (by decide)
theorem exText_gr:∀ (d:Nat) (e:Ex),exSz e≤d→WfE e→FmOk e:=by
 intro d
 induction d with
 | zero=>intro e h;have:=exSz_pos e;omega
 | succ d ih =>
   intro e hd hw;have kid:∀ x,x∈e.kids→WfE x→FmOk x:=fun x hx hw=>ih x (by
    obtain⟨k,n,o,m,ks⟩:=e;have:exSz x<exSz (.mk k n o m ks):=exSz_kid hx;omega) hw
   cases hw with
   | int n h1 h2 =>
     have hp:exText (.mk 1 n [] [] [])=numText n:=by rw [exText,if_pos rfl]
     by_cases hn:n<0
     ·refine⟨[TT.mk [45],TT.nu (digitsOf 20 n.natAbs) n.natAbs],.post (s:=0) ?_ ?_ fun h=>by simp [Ex.kind] at h⟩
      ·have:=GrP.neg (digitsOf 20 n.natAbs) n.natAbs (by omega);rwa [show (-(n.natAbs:Int))=n by omega] at this
      ·rw [hp,numText,if_pos hn];exact (Pa.mark (x:=[45]) (by decide)).appR (Pr.num (digits_num (by omega)))
     ·refine⟨[TT.nu (digitsOf 20 n.natAbs) n.natAbs],.post (s:=0) ?_ ?_ fun h=>by simp [Ex.kind] at h⟩
      ·have:=GrP.int (digitsOf 20 n.natAbs) n.natAbs;rwa [show ((n.natAbs:Nat):Int)=n by omega] at this
      ·rw [hp,numText,if_neg hn];exact Pr.num (digits_num (by omega))
   | null=>exact⟨_,.post .null (by rw [exText];exact .key (by decide)) fun h=>by simp [Ex.kind] at h⟩
   | var x hx=>exact⟨_,.post (.var x) (by rw [exText];exact .word hx) fun h=>by simp [Ex.kind] at h⟩
   | this=>exact⟨_,.post .this (by rw [exText];exact .key (by decide)) fun h=>by simp [Ex.kind] at h⟩
   | input =>
     refine⟨_,.post .input ?_ fun h=>by simp [Ex.kind] at h⟩;rw [exText];exact (Pr.app (A:=[105,110,112,117,116]) (.key (by decide)) (Brk.of (by decide)) ((Pa.mark (x:=[40]) (by decide)).app (Pa.mark (x:=[41]) (by decide)))).pr
   | @bin op h a b ha hb =>
     obtain⟨us,f1⟩:=kid a (by simp [Ex.kids]) ha;obtain⟨vs,f2⟩:=kid b (by simp [Ex.kids]) hb;have hp:exText (.mk 6 op [] [] [a,b])=withinAt [a,b] 0 (max (levelOf 6 op) 2)++([32]++opText op++[32])++withinAt [a,b] 1 (levelOf 6 op+1):=by rw [exText];simp
     rw [within0,within1] at hp;have hop:op=1∨op=2∨op=3∨op=4∨op=5:=by omega
     have fin:∀ {A B:Bytes} {us vs:List TT},Pr A us→Pr B vs→Pr (A++([32]++opText op++[32])++B) (us++(TT.mk (opText op)::vs)):=fun h1 h2=>by
      have:=(h1.app (brk_op op) (op_gr h)).appR h2;simpa using this
     have two:op=1∨op=2→FmOk (.mk 6 op [] [] [a,b]):=fun ho=>by
      have hl:levelOf 6 op=2:=by rcases ho with rfl | rfl <;> decide
      obtain⟨us1,g1,p1⟩:=oper2 f1;obtain⟨us2,g2,p2⟩:=oper3 f2;rw [hl] at hp;have g:GrS (.mk 6 op [] [] [a,b]) (us1++(TT.mk (opText op)::us2)):=by rcases ho with rfl | rfl;exact .add g1 g2;exact .sub g1 g2
      exact⟨_,by rw [hp];exact fin p1 p2,fun h4=>by have:levelOf 6 op=4:=h4;omega,fun h3=>by have:3≤levelOf 6 op:=h3;omega,fun _=>g,.sum g⟩
     have one:op=4∨op=5→FmOk (.mk 6 op [] [] [a,b]):=fun ho=>by
      have hl:levelOf 6 op=1:=by rcases ho with rfl | rfl <;> decide
      obtain⟨us1,g1,p1⟩:=oper2 f1;obtain⟨us2,g2,p2⟩:=oper2 f2;rw [hl] at hp;have g:GrE (.mk 6 op [] [] [a,b]) (us1++(TT.mk (opText op)::us2)):=by rcases ho with rfl | rfl;exact .less g1 g2;exact .equal g1 g2
      exact⟨_,by rw [hp];exact fin p1 p2,fun h4=>by have:levelOf 6 op=4:=h4;omega,fun h3=>by have:3≤levelOf 6 op:=h3;omega,fun h2=>by have:2≤levelOf 6 op:=h2;omega,g⟩
     rcases hop with ho | ho | ho | ho | ho
     ·exact two (.inl ho)
     ·exact two (.inr ho)
     ·have hl:levelOf 6 op=3:=by rw [ho];decide
      obtain⟨us1,g1,p1⟩:=oper3 f1;obtain⟨us2,s,g2,p2⟩:=oper4 f2;rw [hl] at hp;have g:GrX (.mk 6 op [] [] [a,b]) (us1++(TT.mk (opText op)::us2)):=by rw [ho];exact .mul g1 g2
      exact⟨_,by rw [hp];exact fin p1 p2,fun h4=>by have:levelOf 6 op=4:=h4;omega,fun _=>g,fun _=>.prod g,.sum (.prod g)⟩
     ·exact one (.inl ho)
     ·exact one (.inr ho)
   | new x hx =>
     refine⟨_,.post (.new x) ?_ fun h=>by simp [Ex.kind] at h⟩;rw [exText];have:=((Pr.app (A:=[110,101,119]) (.key (by decide)) (Brk.of (by decide)) (Pa.sep (A:=[32]) (by decide))).appR (Pr.word hx)).app (Brk.of (by decide)) ((Pa.mark (x:=[40]) (by decide)).app (Pa.mark (x:=[41]) (by decide)));simpa using this.pr
   | @field m hm k hk =>
     obtain⟨us,f⟩:=kid k (by simp [Ex.kids]) hk;obtain⟨vs,s,g1,p1⟩:=oper4 f;refine⟨_,.post (.field g1 m) ?_ fun h=>by simp [Ex.kind] at h⟩;have hp:exText (.mk 8 0 [] m [k])=withinAt [k] 0 4++[46]++m:=by rw [exText];simp
     rw [hp,within0];have:=(p1.app (Brk.of (by decide)) (Pa.mark (x:=[46]) (by decide))).appR (Pr.word hm);simpa using this
   | @call m hm k es hk he =>
     obtain⟨us,f⟩:=kid k (by simp [Ex.kids]) hk;obtain⟨us,s,g1,p1⟩:=oper4 f;obtain⟨vs,g2,p2⟩:=argText_gr fun x hx=>kid x (by simp [Ex.kids,hx]) (he x hx)
     refine⟨_,.post (.call g1 m g2) ?_ fun h=>rfl⟩;have hp:exText (.mk 9 0 [] m (k::es))=withinAt (k::es) 0 4++[46]++m++argsFrom es 0:=by rw [exText];simp [argsFrom1]
     rw [hp,within0];have:=((p1.app (Brk.of (by decide)) (Pa.mark (x:=[46]) (by decide))).appR (Pr.word hm)).app (brk_args es) p2;simpa using this.pr
   | @static o m ho hm es he =>
     obtain⟨vs,g2,p2⟩:=argText_gr fun x hx=>kid x (by simp [Ex.kids,hx]) (he x hx)
     refine⟨_,.post (.static o m g2) ?_ fun h=>rfl⟩;have hp:exText (.mk 10 0 o m es)=o++[58,58]++m++argsFrom es 0:=by rw [exText];simp
     rw [hp];have:=(((Pr.word ho).app (Brk.of (by decide)) (Pa.mark (x:=[58,58]) (by decide))).appR (Pr.word hm)).app (brk_args es) p2;simpa using this.pr
theorem fm_gr {e:Ex}(h:WfE e):FmOk e:=exText_gr _ e (Nat.le_refl _) h
/-- The text of an expression is not empty. -/
theorem GrE.ne {e:Ex}{us:List TT}(h:GrE e us):us≠[]:=by obtain⟨u,vs,rfl,_⟩:=h.fst;simp
theorem expr_text_back {e:Ex}(hw:WfE e)(h0:exDepth e≤32)(hl:(exText e).length≤65536):exprR (exText e)=.ok e:=by
 obtain⟨us,f⟩:=fm_gr hw;refine expr_back ?_ f.l1 hl h0;have:=f.pr [] [] rfl .nil;simpa using this
end Lx
end
section
open Lx
namespace Lx
theorem numT_len (n:Int):(numText n).length≤21:=by
 unfold numText;have:=digits_len 20 n.natAbs;split <;> simp <;> omega
theorem sepText_len:∀ {es:List Ex},(∀ e∈es,(exText e).length+10≤110*exSz e)→(sepText es).length≤110*exsSz es
 | [],_=>by simp [sepText]
 | [e],h=>by
   have:=h e List.mem_cons_self;rw [sepText,exsSz,exsSz];omega
 | e::f::es,h=>by
   have h1:=h e List.mem_cons_self;have h2:=sepText_len (es:=f::es) fun x hx=>h x (List.mem_cons_of_mem _ hx)
   rw [sepText,exsSz]
   ·simp only [List.length_append,List.length_cons,List.length_nil];omega
   ·exact fun h=>by simp at h
theorem oper_len (e:Ex)(r:Int):(if levelOf e.kind e.n<r then [40]++exText e++[41] else exText e).length≤(exText e).length+2:=by
 split
 ·simp
 ·omega
theorem exText_len1:∀ (d:Nat) (e:Ex),exSz e≤d→WfE e→(exText e).length+10≤110*exSz e:=by
 intro d
 induction d with
 | zero=>intro e h;have:=exSz_pos e;omega
 | succ d ih =>
   intro e hd hw;cases hw with
   | int n h1 h2=>rw [exText,if_pos rfl,exSz,exsSz];have:=numT_len n;omega
   | null=>rw [exText,exSz,exsSz];simp
   | var x hx=>rw [exText,exSz,exsSz];have:=ident_len hx;simp;omega
   | this=>rw [exText,exSz,exsSz];simp
   | input=>rw [exText,exSz,exsSz];simp
   | @bin op h a b ha hb =>
     simp only [exSz,exsSz] at hd ⊢;have h1:=ih a (by omega) ha;have h2:=ih b (by omega) hb;have h3:=opText_len op;have hp:exText (.mk 6 op [] [] [a,b])=withinAt [a,b] 0 (max (levelOf 6 op) 2)++([32]++(opText op++([32]++withinAt [a,b] 1 (levelOf 6 op+1)))):=by rw [exText];simp
     rw [within0,within1] at hp;have o1:=oper_len a (max (levelOf 6 op) 2);have o2:=oper_len b (levelOf 6 op+1);rw [hp];simp only [List.length_append,List.length_cons,List.length_nil] at o1 o2 ⊢;omega
   | new x hx=>simp only [exSz,exsSz];have:=ident_len hx;simp [exText];omega
   | @field m hm k hk =>
     simp only [exSz,exsSz] at hd ⊢;have h1:=ih k (by omega) hk;have:=ident_len hm;have hp:exText (.mk 8 0 [] m [k])=withinAt [k] 0 4++[46]++m:=by rw [exText];simp
     have o1:=oper_len k 4;rw [hp,within0];simp only [List.length_append,List.length_cons,List.length_nil] at o1 ⊢;omega
   | @call m hm k es hk he =>
     simp only [exSz,exsSz] at hd ⊢;have h1:=ih k (by omega) hk;have h2:=sepText_len fun x hx=>ih x (by have:=exsSz_mem hx;omega) (he x hx)
     have:=ident_len hm;have hp:exText (.mk 9 0 [] m (k::es))=withinAt (k::es) 0 4++[46]++m++argsFrom es 0:=by rw [exText];simp [argsFrom1]
     have o1:=oper_len k 4;rw [hp,within0,argsFrom];simp only [List.length_append,List.length_cons,List.length_nil] at o1 ⊢;omega
   | @static o m ho hm es he =>
     simp only [exSz] at hd ⊢;have h2:=sepText_len fun x hx=>ih x (by have:=exsSz_mem hx;omega) (he x hx)
     have:=ident_len hm;have:=ident_len ho;have hp:exText (.mk 10 0 o m es)=o++[58,58]++m++argsFrom es 0:=by rw [exText];simp
     rw [hp,argsFrom];simp only [List.length_append,List.length_cons,List.length_nil];omega
theorem exText_len {e:Ex}(h:WfE e):(exText e).length+10≤110*exSz e:=exText_len1 _ e (Nat.le_refl _) h
end Lx
end
section
open Lx Ax Go.RowKit
attribute [local simp] stepS Ax.stepT Dl.on qstep astep estep rd putE over argE ofV ofS loadA pickCells isAggD faddA fieldA partA iaddA idxA sliA bnd binA intA strA unA convA lenA mapOf lookA findK keyD scalD storeA mupA srcA srcD upd drp Dl.hp Dl.nx CV.cs CV.one buildA placesA fillA zrep tasA ifaceD eqA eqFs eqIs range2 copyA nbeq nble nblt decEq beqI bneI beqS bneS isED Int.ofNat_inj List.getElem?_map List.getElem?_eq_getElem Option.map_some ti_int ti_i64 ti_str ti_bool ti_u8 ti_Strs ti_Exs ti_Ex gd gdB callA resA op1
attribute [local simp] one1 cvE_eq cvS_eq exk exn exo exm exks drR drp nu1 nu2 nu3 nu4 nu5 nu6 nu7 nu8 nu9 nu10 nu11 nu12 nu13 bl_len bl_max cvM cvC
theorem rw1:IntKind.i64.wrap 1=1:=by decide
theorem rw2:IntKind.i64.wrap 2=2:=by decide
theorem rw3:IntKind.i64.wrap 3=3:=by decide
theorem rw4:IntKind.i64.wrap 4=4:=by decide
theorem rw5:IntKind.i64.wrap 5=5:=by decide
theorem rw6:IntKind.i64.wrap 6=6:=by decide
theorem rw7:IntKind.i64.wrap 7=7:=by decide
theorem rw8:IntKind.i64.wrap 8=8:=by decide
theorem rw9:IntKind.i64.wrap 9=9:=by decide
theorem rw10:IntKind.i64.wrap 10=10:=by decide
attribute [local simp] rw1 rw2 rw3 rw4 rw5 rw6 rw7 rw8 rw9 rw10
theorem ten {m:Nat}(h:m<10):m=0∨m=1∨m=2∨m=3∨m=4∨m=5∨m=6∨m=7∨m=8∨m=9:=by omega
set_option maxRecDepth 10000 in
set_option maxHeartbeats 16000000 in
theorem rt_numN:∀ (f m:Nat),m<10 ^ f→0<f→f<1000→m≤9223372036854775807→FCall1 Tryz.prog paG 44 [.int .i64 m] (.str (digitsOf f m)):=by
 intro f
 induction f with
 | zero=>intro m _ h;omega
 | succ f ih =>
   intro m hm _ hf hb;refine FCall.one paG_pu rfl rfl ?_;refine FCall.ofBody Tryz.func44 rfl rfl fun nx=>?_
   have hi0:¬ (m:Int)=-9223372036854775808:=by omega
   by_cases h10:m<10
   ·have hd:digitsOf (f+1) m=[dig m]:=by rw [digitsOf,if_pos h10]
    rw [hd];clear ih hm hd hi0;rcases ten h10 with rfl | rfl | rfl | rfl | rfl | rfl | rfl | rfl | rfl | rfl
    all_goals
     refine gV ?_
     (refine⟨_,(by simp [*];rfl),?_⟩;(try simp only [packA]))
     rfl
   ·have hd:digitsOf (f+1) m=digitsOf f (m / 10)++[dig (m % 10)]:=by rw [digitsOf,if_neg h10]
    have hf0:0<f:=by
     cases f with
     | zero=>simp at hm;omega
     | succ f=>omega
    have hc:=ih (m / 10) (by rw [Nat.div_lt_iff_lt_mul (by decide)];rw [Nat.pow_succ] at hm;exact hm) hf0 (by omega) (by omega);have hlen:=digits_len f (m / 10);have hq:(m:Int).tdiv 10=((m / 10:Nat):Int):=by rw [Int.tdiv_eq_ediv_of_nonneg (by omega)];omega
    have hq2:(m:Int) / 10=((m / 10:Nat):Int):=by omega
    have hr10:m % 10<10:=Nat.mod_lt _ (by decide);have hi1:¬ (m:Int)<0:=by omega
    have hi2:¬ (m:Int)<10:=by omega
    have hr:(m:Int).tmod 10=((m % 10:Nat):Int):=by rw [Int.tmod_eq_emod_of_nonneg (by omega)];omega
    rw [hd];obtain⟨D,hD⟩:∃ D,D=digitsOf f (m / 10):=⟨_,rfl⟩;obtain⟨q,hqq⟩:∃ q,q=m / 10:=⟨_,rfl⟩;obtain⟨r,hrr⟩:∃ r,r=m % 10:=⟨_,rfl⟩;rw [← hD] at hc hlen ⊢;rw [← hqq] at hc hq hq2;have hwq:IntKind.i64.wrap (q:Int)=(q:Int):=by rw [IntKind.wrap_i64];omega
    rw [← hrr] at hr hr10 ⊢;clear ih hm hd hD hqq hrr;rcases ten hr10 with rfl | rfl | rfl | rfl | rfl | rfl | rfl | rfl | rfl | rfl
    all_goals
     refine gV ?_
     (first | refine AOpl.call1 rfl (by first | rfl | (simp [*];done)) (by simp [*]) (by kernel_rfl) (hc) ?_ | refine ASl.callg (by first | rfl | (simp [*];done)) (by simp [*]) (by kernel_rfl) (hc) ?_)
     refine gV ?_
     (refine⟨_,(by simp [*];rfl),?_⟩;(try simp only [packA]))
     rfl
set_option maxRecDepth 10000 in
set_option maxHeartbeats 16000000 in
theorem rt_num (n:Int)(h1:-9223372036854775808<n)(h2:n<9223372036854775808):FCall1 Tryz.prog paG 44 [.int .i64 n] (.str (numText n)):=by
 by_cases hn:n<0
 ·have hc:=rt_numN 20 n.natAbs (by omega) (by decide) (by decide) (by omega);have hp:numText n=[45]++digitsOf 20 n.natAbs:=by unfold numText;rw [if_pos hn];rfl
  have hw:IntKind.i64.wrap (-n)=-n:=by rw [IntKind.wrap_i64];omega
  have hlen:=digits_len 20 n.natAbs;have hi0:¬ n=-9223372036854775808:=by omega
  rw [show ((n.natAbs:Nat):Int)=-n by omega] at hc;obtain⟨D,hD⟩:∃ D,D=digitsOf 20 n.natAbs:=⟨_,rfl⟩;rw [← hD] at hc hlen hp;rw [hp];clear hp hD;refine FCall.one paG_pu rfl rfl ?_;refine FCall.ofBody Tryz.func44 rfl rfl fun nx=>?_
  refine gV ?_
  (first | refine AOpl.call1 rfl (by first | rfl | (simp [*];done)) (by simp [*]) (by kernel_rfl) (hc) ?_ | refine ASl.callg (by first | rfl | (simp [*];done)) (by simp [*]) (by kernel_rfl) (hc) ?_)
  refine gV ?_
  (refine⟨_,(by simp [*];rfl),?_⟩;(try simp only [packA]))
  rfl
 ·have hc:=rt_numN 20 n.natAbs (by omega) (by decide) (by decide) (by omega);rw [show ((n.natAbs:Nat):Int)=n by omega] at hc;unfold numText;rw [if_neg hn];exact hc
end
section
open Lx Go.RowKit Ax
theorem rs_depth (d:Nat)(e:Ex)(hl:LenE d e):FCall1 Tryz.prog paG 18 [.agg (cvE e)] (.int .i64 (exDeep e)):=by
 refine FCall.one paG_pu (by simp [puL,puV,puE]) rfl (FCall.ofOld fun M w vs hg hz hv=>?_);obtain⟨v0,vs,rfl,hv0,hv⟩:=hv.cons_inv;cases hv.nil_inv;obtain⟨us,rfl,hu⟩:=agg_of hv0;have hi:=rv_isEx (w:=w) hz d e us hl hu;obtain⟨v1,hv1,h1⟩:∃ v1,us=[.int .i64 e.kind,.int .i64 e.n,.string (strOf e.of),.string (strOf e.name),v1]∧∃ a n c,v1=.slice a n c:=by
  cases d with
  | zero=>exact hl.elim
  | succ d=>obtain⟨k,n,o,m,ks⟩:=e;obtain⟨v1,rfl,h1⟩:=hi;exact⟨v1,rfl,h1.form⟩
 obtain⟨a1,n1,c1,rfl⟩:=h1;subst hv1;refine (ref_Depth d e _ _ _ _ a1 n1 c1 w hi).mono ?_;rintro e w' ⟨rfl,hb⟩;exact⟨hb,_,rfl,.int _ _⟩
theorem rs_faults (d:Nat)(l:List Ex)(hm:l.length≤9223372036854775807)(hl:∀ e∈l,LenE d e)(hB:∀ e∈l,ExB d e):FCall1 Tryz.prog paG 19 [.lst (l.map cvE)] (.int .i64 (exsFault l:Int)):=by
 refine FCall.one paG_pu (by simp [puL,puV,puEs]) rfl (FCall.ofOld fun M w vs hg hz hv=>?_);obtain⟨v0,vs,rfl,hv0,hv⟩:=hv.cons_inv;cases hv.nil_inv;have hi:=rv_isList (w:=w) hz (by decide) cvE_len hm hv0 fun x hx cs=>rv_isEx hz d x cs (hl x hx)
 obtain⟨a,n,c,rfl⟩:=hi.form;refine (ref_Faults d l a n c w hi hB).mono ?_;rintro e w' ⟨rfl,hb⟩;exact⟨hb,_,rfl,.int _ _⟩
end
end Go.Proofs.YtmlafcimjhnhhaaGreatDoor
