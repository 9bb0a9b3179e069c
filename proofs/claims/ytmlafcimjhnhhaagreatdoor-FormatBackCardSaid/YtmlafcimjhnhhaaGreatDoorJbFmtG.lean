/-
  Plain Lean: what format prints is written by the grammar; a program printed is read back.
-/
import Derived.Test.YtmlafcimjhnhhaaGreatDoorJbJpBr
set_option linter.unusedSectionVars false
set_option linter.unusedSimpArgs false
set_option linter.unnecessarySimpa false
set_option linter.unusedVariables false
set_option linter.unusedSimpArgs false
set_option linter.unusedVariables false
namespace Go.Proofs.YtmlafcimjhnhhaaGreatDoor
open Lx
namespace Lx
/-- What is to be shown of an expression's text, by its level. -/
structure FmE (e:Ex) (us:List TT):Prop where
 pr:Pr (exText e) us
 l4:levelOf e.kind e.n=4→∃ s,GrP e us s∧((e.kind=9∨e.kind=10)→s=3)
 l3:3≤levelOf e.kind e.n→GrX e us
 l2:2≤levelOf e.kind e.n→GrS e us
 l1:GrE e us
/-- A post serves everywhere. -/
theorem FmE.post {e:Ex}{us:List TT}{s:Nat}(g:GrP e us s)(p:Pr (exText e) us)(h:(e.kind=9∨e.kind=10)→s=3):FmE e us :=
 ⟨p,fun _=>⟨s,g,h⟩,fun _=>.post g,fun _=>.prod (.post g),g.expr⟩
theorem within0 (e:Ex)(l:List Ex)(r:Int):withinAt (e::l) 0 r=if levelOf e.kind e.n<r then [40]++exText e++[41] else exText e:=by rw [withinAt]
theorem within1 (e f:Ex)(l:List Ex)(r:Int):withinAt (e::f::l) 1 r=if levelOf f.kind f.n<r then [40]++exText f++[41] else exText f:=by rw [withinAt,withinAt]
theorem paren_gr {e:Ex}{us:List TT}(h:FmE e us):Pa ([40]++exText e++[41]) (TT.mk [40]::(us++[TT.mk [41]])):=by
 have:=((Pa.mark (x:=[40]) (by decide)).appR h.pr).app (Brk.of (by decide)) (Pa.mark (x:=[41]) (by decide));simpa using this
/-- An operand at a place that requires a level. -/
theorem oper4 {e:Ex}{us:List TT}(h:FmE e us):∃ vs s,GrP e vs s∧Pr (if levelOf e.kind e.n<4 then [40]++exText e++[41] else exText e) vs:=by
 split
 ·exact⟨_,_,.paren h.l1,(paren_gr h).pr⟩
 ·rename_i hl;have h4:levelOf e.kind e.n≤4:=by unfold levelOf;split;omega;split;omega;split <;> omega
  obtain⟨s,g,_⟩:=h.l4 (by omega);exact⟨us,s,g,h.pr⟩
theorem oper3 {e:Ex}{us:List TT}(h:FmE e us):∃ vs,GrX e vs∧Pr (if levelOf e.kind e.n<3 then [40]++exText e++[41] else exText e) vs:=by
 split
 ·exact⟨_,.post (.paren h.l1),(paren_gr h).pr⟩
 ·rename_i hl;exact⟨us,h.l3 (by omega),h.pr⟩
theorem oper2 {e:Ex}{us:List TT}(h:FmE e us):∃ vs,GrS e vs∧Pr (if levelOf e.kind e.n<2 then [40]++exText e++[41] else exText e) vs:=by
 split
 ·exact⟨_,.prod (.post (.paren h.l1)),(paren_gr h).pr⟩
 ·rename_i hl;exact⟨us,h.l2 (by omega),h.pr⟩
def FmOk (e:Ex):Prop:=∃ us,FmE e us
theorem sepText_gr:∀ {es:List Ex},(∀ e∈es,FmOk e)→es≠[]→∃ us,GrL es us∧Pr (sepText es) us
 | [],_,h=>absurd rfl h
 | [e],h,_=>by
   obtain⟨us,f⟩:=h e List.mem_cons_self;exact⟨us,.one f.l1,by rw [sepText];exact f.pr⟩
 | e::e2::es,h,_=>by
   obtain⟨us,f⟩:=h e List.mem_cons_self;obtain⟨vs,g2,p2⟩:=sepText_gr (es:=e2::es) (fun x hx=>h x (List.mem_cons_of_mem _ hx)) (by simp);refine⟨us++(TT.mk [44]::vs),.cons f.l1 g2,?_⟩;rw [sepText,List.append_assoc]
   ·exact f.pr.appR ((Brk.of (by decide)).app _) (((Pa.mark (x:=[44]) (by decide)).app (Pa.sep (A:=[32]) (by decide))).appR p2)
   ·exact fun h=>by simp at h
theorem argText_gr {es:List Ex}(h:∀ e∈es,FmOk e):∃ us,GrA es us∧Pa (argsFrom es 0) us:=by
 rw [argsFrom];cases es with
 | nil=>exact⟨_,.nil,by rw [sepText];exact (Pa.mark (x:=[40]) (by decide)).app (Pa.mark (x:=[41]) (by decide))⟩
 | cons e es =>
   obtain⟨us,g,p⟩:=sepText_gr h (by simp);refine⟨_,.some g,?_⟩;rw [List.append_assoc];exact (Pa.mark (x:=[40]) (by decide)).app (p.app (Brk.of (by decide)) (Pa.mark (x:=[41]) (by decide)))
theorem argsFrom1 (k:Ex)(es:List Ex):argsFrom (k::es) 1=argsFrom es 0:=by simp only [argsFrom]
theorem brk_args (es:List Ex):Brk (argsFrom es 0):=by rw [argsFrom,List.append_assoc];exact .of (by decide)
theorem op_gr {op:Int}(h:1≤op∧op≤5):Pa ([32]++opText op++[32]) [TT.mk (opText op)]:=by
 have:=((Pa.sep (A:=[32]) (by decide)).app (Pa.mark (opText_mark h))).app (Pa.sep (A:=[32]) (by decide));simpa using this
theorem brk_op (op:Int):Brk ([32]++opText op++[32]):=by rw [List.append_assoc];exact .of (by decide)
theorem exText_gr:∀ (d:Nat) (e:Ex),exSz e≤d→WfE e→FmOk e:=by
 intro d
 induction d with
 | zero=>intro e h;have:=exSz_pos e;omega
 | succ d ih =>
   intro e hd hw;have kid:∀ x,x∈e.kids→WfE x→FmOk x:=fun x hx hw=>ih x (by
    obtain⟨k,n,o,m,ks⟩:=e;have:exSz x<exSz (.mk k n o m ks):=exSz_kid hx;omega) hw
   cases hw with
   | int n h1 h2 =>
     have hp:exText (.mk 1 n [] [] [])=numText n:=by rw [exText,if_pos rfl]
     by_cases hn:n<0
     ·refine⟨[TT.mk [45],TT.nu (digitsOf 20 n.natAbs) n.natAbs],.post (s:=0) ?_ ?_ fun h=>by simp [Ex.kind] at h⟩
      ·have:=GrP.neg (digitsOf 20 n.natAbs) n.natAbs (by omega);rwa [show (-(n.natAbs:Int))=n by omega] at this
      ·rw [hp,numText,if_pos hn];exact (Pa.mark (x:=[45]) (by decide)).appR (Pr.num (digits_num (by omega)))
     ·refine⟨[TT.nu (digitsOf 20 n.natAbs) n.natAbs],.post (s:=0) ?_ ?_ fun h=>by simp [Ex.kind] at h⟩
      ·have:=GrP.int (digitsOf 20 n.natAbs) n.natAbs;rwa [show ((n.natAbs:Nat):Int)=n by omega] at this
      ·rw [hp,numText,if_neg hn];exact Pr.num (digits_num (by omega))
   | null=>exact⟨_,.post .null (by rw [exText];exact .key (by decide)) fun h=>by simp [Ex.kind] at h⟩
   | var x hx=>exact⟨_,.post (.var x) (by rw [exText];exact .word hx) fun h=>by simp [Ex.kind] at h⟩
   | this=>exact⟨_,.post .this (by rw [exText];exact .key (by decide)) fun h=>by simp [Ex.kind] at h⟩
   | input =>
     refine⟨_,.post .input ?_ fun h=>by simp [Ex.kind] at h⟩;rw [exText];exact (Pr.app (A:=[105,110,112,117,116]) (.key (by decide)) (Brk.of (by decide)) ((Pa.mark (x:=[40]) (by decide)).app (Pa.mark (x:=[41]) (by decide)))).pr
   | @bin op h a b ha hb =>
     obtain⟨us,f1⟩:=kid a (by simp [Ex.kids]) ha;obtain⟨vs,f2⟩:=kid b (by simp [Ex.kids]) hb;have hp:exText (.mk 6 op [] [] [a,b])=withinAt [a,b] 0 (max (levelOf 6 op) 2)++([32]++opText op++[32])++withinAt [a,b] 1 (levelOf 6 op+1):=by rw [exText];simp
     rw [within0,within1] at hp;have hop:op=1∨op=2∨op=3∨op=4∨op=5:=by omega
     have fin:∀ {A B:Bytes} {us vs:List TT},Pr A us→Pr B vs→Pr (A++([32]++opText op++[32])++B) (us++(TT.mk (opText op)::vs)):=fun h1 h2=>by
      have:=(h1.app (brk_op op) (op_gr h)).appR h2;simpa using this
     have two:op=1∨op=2→FmOk (.mk 6 op [] [] [a,b]):=fun ho=>by
      have hl:levelOf 6 op=2:=by rcases ho with rfl | rfl <;> decide
      obtain⟨us1,g1,p1⟩:=oper2 f1;obtain⟨us2,g2,p2⟩:=oper3 f2;rw [hl] at hp;have g:GrS (.mk 6 op [] [] [a,b]) (us1++(TT.mk (opText op)::us2)):=by rcases ho with rfl | rfl;exact .add g1 g2;exact .sub g1 g2
      exact⟨_,by rw [hp];exact fin p1 p2,fun h4=>by have:levelOf 6 op=4:=h4;omega,fun h3=>by have:3≤levelOf 6 op:=h3;omega,fun _=>g,.sum g⟩
     have one:op=4∨op=5→FmOk (.mk 6 op [] [] [a,b]):=fun ho=>by
      have hl:levelOf 6 op=1:=by rcases ho with rfl | rfl <;> decide
      obtain⟨us1,g1,p1⟩:=oper2 f1;obtain⟨us2,g2,p2⟩:=oper2 f2;rw [hl] at hp;have g:GrE (.mk 6 op [] [] [a,b]) (us1++(TT.mk (opText op)::us2)):=by rcases ho with rfl | rfl;exact .less g1 g2;exact .equal g1 g2
      exact⟨_,by rw [hp];exact fin p1 p2,fun h4=>by have:levelOf 6 op=4:=h4;omega,fun h3=>by have:3≤levelOf 6 op:=h3;omega,fun h2=>by have:2≤levelOf 6 op:=h2;omega,g⟩
     rcases hop with ho | ho | ho | ho | ho
     ·exact two (.inl ho)
     ·exact two (.inr ho)
     ·have hl:levelOf 6 op=3:=by rw [ho];decide
      obtain⟨us1,g1,p1⟩:=oper3 f1;obtain⟨us2,s,g2,p2⟩:=oper4 f2;rw [hl] at hp;have g:GrX (.mk 6 op [] [] [a,b]) (us1++(TT.mk (opText op)::us2)):=by rw [ho];exact .mul g1 g2
      exact⟨_,by rw [hp];exact fin p1 p2,fun h4=>by have:levelOf 6 op=4:=h4;omega,fun _=>g,fun _=>.prod g,.sum (.prod g)⟩
     ·exact one (.inl ho)
     ·exact one (.inr ho)
   | new x hx =>
     refine⟨_,.post (.new x) ?_ fun h=>by simp [Ex.kind] at h⟩;rw [exText];have:=((Pr.app (A:=[110,101,119]) (.key (by decide)) (Brk.of (by decide)) (Pa.sep (A:=[32]) (by decide))).appR (Pr.word hx)).app (Brk.of (by decide)) ((Pa.mark (x:=[40]) (by decide)).app (Pa.mark (x:=[41]) (by decide)));simpa using this.pr
   | @field m hm k hk =>
     obtain⟨us,f⟩:=kid k (by simp [Ex.kids]) hk;obtain⟨vs,s,g1,p1⟩:=oper4 f;refine⟨_,.post (.field g1 m) ?_ fun h=>by simp [Ex.kind] at h⟩;have hp:exText (.mk 8 0 [] m [k])=withinAt [k] 0 4++[46]++m:=by rw [exText];simp
     rw [hp,within0];have:=(p1.app (Brk.of (by decide)) (Pa.mark (x:=[46]) (by decide))).appR (Pr.word hm);simpa using this
   | @call m hm k es hk he =>
     obtain⟨us,f⟩:=kid k (by simp [Ex.kids]) hk;obtain⟨us,s,g1,p1⟩:=oper4 f;obtain⟨vs,g2,p2⟩:=argText_gr fun x hx=>kid x (by simp [Ex.kids,hx]) (he x hx)
     refine⟨_,.post (.call g1 m g2) ?_ fun h=>rfl⟩;have hp:exText (.mk 9 0 [] m (k::es))=withinAt (k::es) 0 4++[46]++m++argsFrom es 0:=by rw [exText];simp [argsFrom1]
     rw [hp,within0];have:=((p1.app (Brk.of (by decide)) (Pa.mark (x:=[46]) (by decide))).appR (Pr.word hm)).app (brk_args es) p2;simpa using this.pr
   | @static o m ho hm es he =>
     obtain⟨vs,g2,p2⟩:=argText_gr fun x hx=>kid x (by simp [Ex.kids,hx]) (he x hx)
     refine⟨_,.post (.static o m g2) ?_ fun h=>rfl⟩;have hp:exText (.mk 10 0 o m es)=o++[58,58]++m++argsFrom es 0:=by rw [exText];simp
     rw [hp];have:=(((Pr.word ho).app (Brk.of (by decide)) (Pa.mark (x:=[58,58]) (by decide))).appR (Pr.word hm)).app (brk_args es) p2;simpa using this.pr
theorem fm_gr {e:Ex}(h:WfE e):FmOk e:=exText_gr _ e (Nat.le_refl _) h
/-- The text of an expression is not empty. -/
theorem GrE.ne {e:Ex}{us:List TT}(h:GrE e us):us≠[]:=by obtain⟨u,vs,rfl,_⟩:=h.fst;simp
/-! statements -/
theorem tabs_gr (n:Nat):Pa (tabsOf n) []:=.sep (by unfold tabsOf;rw [List.all_eq_true];intro x hx;rw [List.eq_of_mem_replicate hx];decide)
theorem nl:isSep 10=true:=by decide
theorem semi_nl:Pa [59,10] [TT.mk [59]]:=by simpa using (Pa.mark (x:=[59]) (by decide)).app (sp 10 nl)
theorem open_nl:Pa [32,123,10] [TT.mk [123]]:=by simpa using ((sp 32 (by decide)).app (Pa.mark (x:=[123]) (by decide))).app (sp 10 nl)
theorem close_nl:Pa [125,10] [TT.mk [125]]:=by simpa using (Pa.mark (x:=[125]) (by decide)).app (sp 10 nl)
theorem popen_nl:Pa [41,32,123,10] [TT.mk [41],TT.mk [123]]:=by simpa using (Pa.mark (x:=[41]) (by decide)).app open_nl
theorem exT0 (e:Ex)(l:List Ex):exT (e::l) 0=exText e:=rfl
theorem exT1 (e f:Ex)(l:List Ex):exT (e::f::l) 1=exText f:=rfl
def FmS (n:Nat)(s:St):Prop:=∃ us,GrSt s us∧Pa (stText n s) us
theorem stsText_gr {n:Nat}:∀ {l:List St},(∀ s∈l,FmS n s)→∃ us,GrSs l us∧Pa (stsText n l) us
 | [],_=>⟨[],.nil,by rw [stsText];exact .nil⟩
 | s::l,h=>by
   obtain⟨us,g,p⟩:=h s List.mem_cons_self;obtain⟨vs,g2,p2⟩:=stsText_gr fun x hx=>h x (List.mem_cons_of_mem _ hx)
   exact⟨_,.cons g g2,by rw [stsText];exact p.app p2⟩
/-- A block, from its opening brace to its closing brace. -/
theorem fmBlock_gr {n:Nat}{l:List St}(h:∀ s∈l,FmS n s):∃ us,GrSs l us∧GrB l (TT.mk [123]::(us++[TT.mk [125]]))∧Pa (stsText n l) us:=by
 obtain⟨us,g,p⟩:=stsText_gr h;exact⟨us,g,.mk g,p⟩
theorem stText_gr:∀ (d:Nat) (s:St) (n:Nat),stSz s≤d→WfS s→FmS n s:=by
 intro d
 induction d with
 | zero=>intro s n h;have:=stSz_pos s;omega
 | succ d ih =>
   intro s n hd hw;cases hw with
   | var0 x t hx ht =>
     obtain⟨u,g,p⟩:=typ_gr ht;refine⟨_,.var0 x t g,?_⟩;have:=((tabs_gr n).app (kw1 (x:=[118,97,114]) (by decide))).appR (typed_gr hx p);have:=this.app (Brk.of (by decide)) semi_nl;rw [stText];simpa using this
   | @var1 x t hx ht e he =>
     obtain⟨u,g,p⟩:=typ_gr ht;obtain⟨us,f⟩:=fm_gr he;refine⟨_,.var1 x t g f.l1,?_⟩;have:=(((tabs_gr n).app (kw1 (x:=[118,97,114]) (by decide))).appR (typed_gr hx p)).app (Brk.of (by decide)) eq_gr;have:=(this.appR f.pr).app (Brk.of (by decide)) semi_nl;rw [stText];simpa [exT0] using this
   | @assign x hx e he =>
     obtain⟨us,f⟩:=fm_gr he;refine⟨_,.assign x f.l1,?_⟩;have:=((((tabs_gr n).appR (Pr.word hx)).app (Brk.of (by decide)) eq_gr).appR f.pr).app (Brk.of (by decide)) semi_nl;rw [stText];simpa [exT0] using this
   | @store m hm k e hk he =>
     obtain⟨us0,f0⟩:=fm_gr hk;obtain⟨us,s,ge,pe⟩:=oper4 f0;obtain⟨vs,f⟩:=fm_gr he;refine⟨_,.store ge m f.l1,?_⟩;have:=(((((((tabs_gr n).appR pe).app (Brk.of (by decide)) (Pa.mark (x:=[46]) (by decide))).appR (Pr.word hm)).app (Brk.of (by decide)) eq_gr).appR f.pr).app (Brk.of (by decide)) semi_nl);have hp:stText n (.mk 3 m [] [k,e] [] [])=tabsOf n++withinAt [k,e] 0 4++[46]++m++[32,61,32]++exText e++[59,10]:=by rw [stText];simp [exT1]
     rw [hp,within0];simpa using this
   | @«if» e he b c hb hc =>
     obtain⟨us,f⟩:=fm_gr he;obtain⟨vs,_,gb,pb⟩:=fmBlock_gr fun x hx=>ih x (n+1) (by have:=stSz_mem (k:=4) (n:=[]) (t:=[]) (es:=[e]) (b:=b) (c:=c) (.inl hx);omega) (hb x hx)
     have h1:=(((tabs_gr n).app (kwP (x:=[105,102]) (by decide))).appR f.pr).app (Brk.of (by decide)) popen_nl
     by_cases h0:c=[]
     ·subst h0;refine⟨_,.if0 f.l1 gb,?_⟩;have:=(h1.app pb).app ((tabs_gr n).app close_nl);rw [stText];simpa [exT0] using this
     ·obtain⟨ws,_,gc,pc⟩:=fmBlock_gr fun x hx=>ih x (n+1) (by have:=stSz_mem (k:=4) (n:=[]) (t:=[]) (es:=[e]) (b:=b) (c:=c) (.inr hx);omega) (hc x hx)
      refine⟨_,.if1 f.l1 gb gc,?_⟩;have h2:=((mk1 (x:=[125]) (by decide)).app (Pr.app (A:=[101,108,115,101]) (.key (by decide)) (Brk.of (by decide)) open_nl));have:=((h1.app pb).app (((tabs_gr n).app h2).app pc)).app ((tabs_gr n).app close_nl);have hp:stText n (.mk 4 [] [] [e] b c)=tabsOf n++[105,102,32,40]++exText e++[41,32,123,10]++stsText (n+1) b++(tabsOf n++[125,32,101,108,115,101,32,123,10]++stsText (n+1) c)++tabsOf n++[125,10]:=by rw [stText,if_neg (by decide),if_neg (by decide),if_neg (by decide),if_pos rfl,if_neg h0];rfl
      rw [hp];simpa using this
   | @«while» e he b hb =>
     obtain⟨us,f⟩:=fm_gr he;obtain⟨vs,_,gb,pb⟩:=fmBlock_gr fun x hx=>ih x (n+1) (by have:=stSz_mem (k:=5) (n:=[]) (t:=[]) (es:=[e]) (b:=b) (c:=[]) (.inl hx);omega) (hb x hx)
     refine⟨_,.while f.l1 gb,?_⟩;have h1:=(((tabs_gr n).app (kwP (x:=[119,104,105,108,101]) (by decide))).appR f.pr).app (Brk.of (by decide)) popen_nl;have:=(h1.app pb).app ((tabs_gr n).app close_nl);rw [stText];simpa [exT0] using this
   | @«try» x t hx ht b c hb hc =>
     obtain⟨u,g,p⟩:=typ_gr ht;obtain⟨vs,_,gb,pb⟩:=fmBlock_gr fun s hs=>ih s (n+1) (by have:=stSz_mem (k:=6) (n:=x) (t:=t) (es:=[]) (b:=b) (c:=c) (.inl hs);omega) (hb s hs)
     obtain⟨ws,_,gc,pc⟩:=fmBlock_gr fun s hs=>ih s (n+1) (by have:=stSz_mem (k:=6) (n:=x) (t:=t) (es:=[]) (b:=b) (c:=c) (.inr hs);omega) (hc s hs)
     refine⟨_,.try gb x t g gc,?_⟩;have h1:=(((tabs_gr n).app (Pr.app (A:=[116,114,121]) (.key (by decide)) (Brk.of (by decide)) open_nl)).app pb).app (tabs_gr n);have h2:=(h1.app ((mk1 (x:=[125]) (by decide)).app (kwP (x:=[99,97,116,99,104]) (by decide)))).appR (typed_gr hx p);have:=((h2.app (Brk.of (by decide)) popen_nl).app pc).app ((tabs_gr n).app close_nl);rw [stText];simpa using this
   | @throw e he =>
     obtain⟨us,f⟩:=fm_gr he;refine⟨_,.throw f.l1,?_⟩;have:=(((tabs_gr n).app (kw1 (x:=[116,104,114,111,119]) (by decide))).appR f.pr).app (Brk.of (by decide)) semi_nl;rw [stText];simpa [exT0] using this
   | return0 =>
     refine⟨_,.return0,?_⟩;have:=(tabs_gr n).app (Pr.app (A:=[114,101,116,117,114,110]) (.key (by decide)) (Brk.of (by decide)) semi_nl);rw [stText];simpa using this
   | @return1 e he =>
     obtain⟨us,f⟩:=fm_gr he;refine⟨_,.return1 f.l1,?_⟩;have:=(((tabs_gr n).app (kw1 (x:=[114,101,116,117,114,110]) (by decide))).appR f.pr).app (Brk.of (by decide)) semi_nl;rw [stText];simpa [exT0] using this
   | @call e he hk =>
     obtain⟨us,f⟩:=fm_gr he;obtain⟨s,g,hs⟩:=f.l4 (by unfold levelOf;rw [if_pos (by omega)]);obtain rfl:=hs hk;refine⟨_,.call g,?_⟩;have:=((tabs_gr n).appR f.pr).app (Brk.of (by decide)) semi_nl;rw [stText];simpa [exT0] using this
theorem body_gr {n:Nat}{l:List St}(h:∀ s∈l,WfS s):∃ us,GrB l (TT.mk [123]::(us++[TT.mk [125]]))∧Pa (stsText n l) us:=by
 obtain⟨us,_,g,p⟩:=fmBlock_gr (n:=n) fun s hs=>stText_gr _ s n (Nat.le_refl _) (h s hs)
 exact⟨us,g,p⟩
theorem meText_gr (n:Nat){m:Me}(h:WfM m):∃ us,GrMe m us∧Pa (meText n m) us:=by
 obtain⟨nm,st,ps,r,b⟩:=m;obtain⟨h1,h2,h3,h4⟩:=h;simp only at h1 h2 h3 h4;obtain⟨us,gp,pp⟩:=par_gr h2;obtain⟨ws,gb,pb⟩:=body_gr (n:=n+1) h4;have hr:∃ vs,GrR r vs∧Pa ((if r=[] then [] else [58,32]++r)++[32,123,10]) (vs++[TT.mk [123]]):=by
  by_cases h0:r=[]
  ·subst h0;exact⟨[],.none,by simpa using open_nl⟩
  ·obtain⟨u,g,p⟩:=typ_gr (h3.resolve_left h0);refine⟨_,.some r g,?_⟩;rw [if_neg h0];have:=((Pa.colon (x:=[58]) (c:=32) (.inl rfl) (by decide)).appR p).app (Brk.of (by decide)) open_nl;simpa using this
 obtain⟨vs,gr,pr⟩:=hr;have hd:GrD ⟨nm,false,ps,r,b⟩ (TT.kw [100,101,102]::TT.wd nm::TT.mk [40]::(us++(vs++(TT.mk [123]::(ws++[TT.mk [125]]))))):=.mk nm gp gr gb;have hp:Pa ([100,101,102,32]++nm++[40]++parText ps++[41]++(if r=[] then [] else [58,32]++r)++[32,123,10]++stsText (n+1) b++tabsOf n++[125,10]) (TT.kw [100,101,102]::TT.wd nm::TT.mk [40]::(us++(vs++(TT.mk [123]::(ws++[TT.mk [125]]))))):=by
  have:=(((kw1 (x:=[100,101,102]) (by decide)).appR (Pr.word h1)).app (Brk.of (by decide)) (Pa.mark (x:=[40]) (by decide))).app pp;have:=((this.app pr).app pb).app ((tabs_gr n).app close_nl);simpa using this
 cases st with
 | false=>exact⟨_,.plain hd,by simpa [meText] using (tabs_gr n).app hp⟩
 | true =>
   refine⟨_,.static hd,?_⟩;have:=((tabs_gr n).app (kw1 (x:=[115,116,97,116,105,99]) (by decide))).app hp;simpa [meText] using this
theorem fields_gr:∀ {l:List Fld},(∀ f∈l,WfF f)→∃ us,GrFs l us∧Pa (l.flatMap fun f=>[9,118,97,114,32]++fldText f++[59,10]) us
 | [],_=>⟨_,.nil,.nil⟩
 | f::l,h=>by
   obtain⟨u,g,p⟩:=fld_gr (h f List.mem_cons_self);obtain⟨us,g2,p2⟩:=fields_gr fun x hx=>h x (List.mem_cons_of_mem _ hx)
   refine⟨_,.cons f.name f.typ g g2,?_⟩;have:=((((sp 9 (by decide)).app (kw1 (x:=[118,97,114]) (by decide))).appR p).app (Brk.of (by decide)) semi_nl).app p2;simpa using this
theorem clText_gr {c:Cl}(h:WfC c):∃ us,GrC c us∧Pa (clText c) us:=by
 obtain⟨n,s,fs,ms⟩:=c;obtain⟨h1,h2,h3,h4⟩:=h;simp only at h1 h2 h3 h4;obtain⟨us,gs,ps⟩:=super_gr h2 32 (by decide);obtain⟨vs,gf,pf⟩:=fields_gr h3;obtain⟨ws,gm,pm⟩:=meths_gr (fun m hm=>meText_gr 1 hm) h4;refine⟨_,.mk n gs gf gm,?_⟩;have hb:Pa (32::([123,10]++((fs.flatMap fun f=>[9,118,97,114,32]++fldText f++[59,10])++(ms.flatMap (meText 1)++[125,10])))) (TT.mk [123]::(vs++(ws++[TT.mk [125]]))):=by
  have:=open_nl.app (pf.app (pm.app close_nl));simpa using this
 have:=(kw1 (x:=[99,108,97,115,115]) (by decide)).app (ps hb n h1);unfold clText;simpa using this
/-- The text of a program without faults and within the limits is read as the program. -/
theorem format_back {c:List Cl}(hw:∀ x∈c,WfC x)(h0:sourceLim c=0)(hl:(soText c).length≤65536):programR (soText c)=.ok c:=by
 obtain⟨us,g,p⟩:=prog_gr (fun c hc=>clText_gr hc) hw;exact program_back p.end g hl h0
end Lx
end Go.Proofs.YtmlafcimjhnhhaaGreatDoor
