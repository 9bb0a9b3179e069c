/-
  Plain Lean: what format prints is written by the grammar; a program printed is read back.
-/
import Derived.Test.YtmlafcimjhnhhaaDoorJlJpBi
set_option linter.unusedSectionVars false
set_option linter.unusedSimpArgs false
set_option linter.unnecessarySimpa false
set_option linter.unusedVariables false
set_option linter.unusedSimpArgs false
set_option linter.unusedVariables false
namespace Go.Proofs.YtmlafcimjhnhhaaDoor
section
open Lx
namespace Lx
/-- What is to be shown of an expression's text, by its level. -/
structure FmE (e:Ex) (us:List TT):Prop where
 pr:Pr (exText e) us
 l4:levelOf e.kind e.n=4→∃ s,GrP e us s∧((e.kind=9∨e.kind=10)→s=3)
 l3:3≤levelOf e.kind e.n→GrX e us
 l2:2≤levelOf e.kind e.n→GrS e us
 l1:GrE e us
/-- A post serves everywhere. -/
theorem FmE.post {e:Ex}{us:List TT}{s:Nat}(g:GrP e us s)(p:Pr (exText e) us)(h:(e.kind=9∨e.kind=10)→s=3):FmE e us :=
 ⟨p,fun _=>⟨s,g,h⟩,fun _=>.post g,fun _=>.prod (.post g),g.expr⟩
theorem within0 (e:Ex)(l:List Ex)(r:Int):withinAt (e::l) 0 r=if levelOf e.kind e.n<r then [40]++exText e++[41] else exText e:=by rw [withinAt]
theorem within1 (e f:Ex)(l:List Ex)(r:Int):withinAt (e::f::l) 1 r=if levelOf f.kind f.n<r then [40]++exText f++[41] else exText f:=by rw [withinAt,withinAt]
theorem paren_gr {e:Ex}{us:List TT}(h:FmE e us):Pa ([40]++exText e++[41]) (TT.mk [40]::(us++[TT.mk [41]])):=by
 have:=((Pa.mark (x:=[40]) (by decide)).appR h.pr).app (Brk.of (by decide)) (Pa.mark (x:=[41]) (by decide));simpa using this
/-- An operand at a place that requires a level. -/
theorem oper4 {e:Ex}{us:List TT}(h:FmE e us):∃ vs s,GrP e vs s∧Pr (if levelOf e.kind e.n<4 then [40]++exText e++[41] else exText e) vs:=by
 split
 ·exact⟨_,_,.paren h.l1,(paren_gr h).pr⟩
 ·rename_i hl;have h4:levelOf e.kind e.n≤4:=by unfold levelOf;split;omega;split;omega;split <;> omega
  obtain⟨s,g,_⟩:=h.l4 (by omega);exact⟨us,s,g,h.pr⟩
theorem oper3 {e:Ex}{us:List TT}(h:FmE e us):∃ vs,GrX e vs∧Pr (if levelOf e.kind e.n<3 then [40]++exText e++[41] else exText e) vs:=by
 split
 ·exact⟨_,.post (.paren h.l1),(paren_gr h).pr⟩
 ·rename_i hl;exact⟨us,h.l3 (by omega),h.pr⟩
theorem oper2 {e:Ex}{us:List TT}(h:FmE e us):∃ vs,GrS e vs∧Pr (if levelOf e.kind e.n<2 then [40]++exText e++[41] else exText e) vs:=by
 split
 ·exact⟨_,.prod (.post (.paren h.l1)),(paren_gr h).pr⟩
 ·rename_i hl;exact⟨us,h.l2 (by omega),h.pr⟩
def FmOk (e:Ex):Prop:=∃ us,FmE e us
theorem sepText_gr:∀ {es:List Ex},(∀ e∈es,FmOk e)→es≠[]→∃ us,GrL es us∧Pr (sepText es) us
 | [],_,h=>absurd rfl h
 | [e],h,_=>by
   obtain⟨us,f⟩:=h e List.mem_cons_self;exact⟨us,.one f.l1,by rw [sepText];exact f.pr⟩
 | e::e2::es,h,_=>by
   obtain⟨us,f⟩:=h e List.mem_cons_self;obtain⟨vs,g2,p2⟩:=sepText_gr (es:=e2::es) (fun x hx=>h x (List.mem_cons_of_mem _ hx)) (by simp);refine⟨us++(TT.mk [44]::vs),.cons f.l1 g2,?_⟩;rw [sepText,List.append_assoc]
   ·exact f.pr.appR ((Brk.of (by decide)).app _) (((Pa.mark (x:=[44]) (by decide)).app (Pa.sep (A:=[32]) (by decide))).appR p2)
   ·exact fun h=>by simp at h
theorem argText_gr {es:List Ex}(h:∀ e∈es,FmOk e):∃ us,GrA es us∧Pa (argsFrom es 0) us:=by
 rw [argsFrom];cases es with
 | nil=>exact⟨_,.nil,by rw [sepText];exact (Pa.mark (x:=[40]) (by decide)).app (Pa.mark (x:=[41]) (by decide))⟩
 | cons e es =>
   obtain⟨us,g,p⟩:=sepText_gr h (by simp);refine⟨_,.some g,?_⟩;rw [List.append_assoc];exact (Pa.mark (x:=[40]) (by decide)).app (p.app (Brk.of (by decide)) (Pa.mark (x:=[41]) (by decide)))
theorem argsFrom1 (k:Ex)(es:List Ex):argsFrom (k::es) 1=argsFrom es 0:=by simp only [argsFrom]
theorem brk_args (es:List Ex):Brk (argsFrom es 0):=by rw [argsFrom,List.append_assoc];exact .of (by decide)
theorem op_gr {op:Int}(h:1≤op∧op≤5):Pa ([32]++opText op++[32]) [TT.mk (opText op)]:=by
 have:=((Pa.sep (A:=[32]) (by decide)).app (Pa.mark (opText_mark h))).app (Pa.sep (A:=[32]) (by decide));simpa using this
theorem brk_op (op:Int):Brk ([32]++opText op++[32]):=by rw [List.append_assoc];exact .of (by decide)
theorem exText_gr:∀ (d:Nat) (e:Ex),exSz e≤d→WfE e→FmOk e:=by
 intro d
 induction d with
 | zero=>intro e h;have:=exSz_pos e;omega
 | succ d ih =>
   intro e hd hw;have kid:∀ x,x∈e.kids→WfE x→FmOk x:=fun x hx hw=>ih x (by
    obtain⟨k,n,o,m,ks⟩:=e;have:exSz x<exSz (.mk k n o m ks):=exSz_kid hx;omega) hw
   cases hw with
   | int n h1 h2 =>
     have hp:exText (.mk 1 n [] [] [])=numText n:=by rw [exText,if_pos rfl]
     by_cases hn:n<0
     ·refine⟨[TT.mk [45],TT.nu (digitsOf 20 n.natAbs) n.natAbs],.post (s:=0) ?_ ?_ fun h=>by simp [Ex.kind] at h⟩
      ·have:=GrP.neg (digitsOf 20 n.natAbs) n.natAbs (by omega);rwa [show (-(n.natAbs:Int))=n by omega] at this
      ·rw [hp,numText,if_pos hn];exact (Pa.mark (x:=[45]) (by decide)).appR (Pr.num (digits_num (by omega)))
     ·refine⟨[TT.nu (digitsOf 20 n.natAbs) n.natAbs],.post (s:=0) ?_ ?_ fun h=>by simp [Ex.kind] at h⟩
      ·have:=GrP.int (digitsOf 20 n.natAbs) n.natAbs;rwa [show ((n.natAbs:Nat):Int)=n by omega] at this
      ·rw [hp,numText,if_neg hn];exact Pr.num (digits_num (by omega))
   | null=>exact⟨_,.post .null (by rw [exText];exact .key (by decide)) fun h=>by simp [Ex.kind] at h⟩
   | var x hx=>exact⟨_,.post (.var x) (by rw [exText];exact .word hx) fun h=>by simp [Ex.kind] at h⟩
   | this=>exact⟨_,.post .this (by rw [exText];exact .key (by decide)) fun h=>by simp [Ex.kind] at h⟩
   | input =>
     refine⟨_,.post .input ?_ fun h=>by simp [Ex.kind] at h⟩;rw [exText];exact (Pr.app (A:=[105,110,112,117,116]) (.key (by decide)) (Brk.of (by decide)) ((Pa.mark (x:=[40]) (by decide)).app (Pa.mark (x:=[41]) (by decide)))).pr
   | @bin op h a b ha hb =>
     obtain⟨us,f1⟩:=kid a (by simp [Ex.kids]) ha;obtain⟨vs,f2⟩:=kid b (by simp [Ex.kids]) hb;have hp:exText (.mk 6 op [] [] [a,b])=withinAt [a,b] 0 (max (levelOf 6 op) 2)++([32]++opText op++[32])++withinAt [a,b] 1 (levelOf 6 op+1):=by rw [exText];simp
     rw [within0,within1] at hp;have hop:op=1∨op=2∨op=3∨op=4∨op=5:=by omega
     have fin:∀ {A B:Bytes} {us vs:List TT},Pr A us→Pr B vs→Pr (A++([32]++opText op++[32])++B) (us++(TT.mk (opText op)::vs)):=fun h1 h2=>by
      have:=(h1.app (brk_op op) (op_gr h)).appR h2;simpa using this
     have two:op=1∨op=2→FmOk (.mk 6 op [] [] [a,b]):=fun ho=>by
      have hl:levelOf 6 op=2:=by rcases ho with rfl | rfl <;> decide
      obtain⟨us1,g1,p1⟩:=oper2 f1;obtain⟨us2,g2,p2⟩:=oper3 f2;rw [hl] at hp;have g:GrS (.mk 6 op [] [] [a,b]) (us1++(TT.mk (opText op)::us2)):=by rcases ho with rfl | rfl;exact .add g1 g2;exact .sub g1 g2
      exact⟨_,by rw [hp];exact fin p1 p2,fun h4=>by have:levelOf 6 op=4:=h4;omega,fun h3=>by have:3≤levelOf 6 op:=h3;omega,fun _=>g,.sum g⟩
     have one:op=4∨op=5→FmOk (.mk 6 op [] [] [a,b]):=fun ho=>by
      have hl:levelOf 6 op=1:=by rcases ho with rfl | rfl <;> decide
      obtain⟨us1,g1,p1⟩:=oper2 f1;obtain⟨us2,g2,p2⟩:=oper2 f2;rw [hl] at hp;have g:GrE (.mk 6 op [] [] [a,b]) (us1++(TT.mk (opText op)::us2)):=by rcases ho with rfl | rfl;exact .less g1 g2;exact .equal g1 g2
      exact⟨_,by rw [hp];exact fin p1 p2,fun h4=>by have:levelOf 6 op=4:=h4;omega,fun h3=>by have:3≤levelOf 6 op:=h3;omega,fun h2=>by have:2≤levelOf 6 op:=h2;omega,g⟩
     rcases hop with ho | ho | ho | ho | ho
     ·exact two (.inl ho)
     ·exact two (.inr ho)
     ·have hl:levelOf 6 op=3:=by rw [ho];decide
      obtain⟨us1,g1,p1⟩:=oper3 f1;obtain⟨us2,s,g2,p2⟩:=oper4 f2;rw [hl] at hp;have g:GrX (.mk 6 op [] [] [a,b]) (us1++(TT.mk (opText op)::us2)):=by rw [ho];exact .mul g1 g2
      exact⟨_,by rw [hp];exact fin p1 p2,fun h4=>by have:levelOf 6 op=4:=h4;omega,fun _=>g,fun _=>.prod g,.sum (.prod g)⟩
     ·exact one (.inl ho)
     ·exact one (.inr ho)
   | new x hx =>
     refine⟨_,.post (.new x) ?_ fun h=>by simp [Ex.kind] at h⟩;rw [exText];have:=((Pr.app (A:=[110,101,119]) (.key (by decide)) (Brk.of (by decide)) (Pa.sep (A:=[32]) (by decide))).appR (Pr.word hx)).app (Brk.of (by decide)) ((Pa.mark (x:=[40]) (by decide)).app (Pa.mark (x:=[41]) (by decide)));simpa using this.pr
   | @field m hm k hk =>
     obtain⟨us,f⟩:=kid k (by simp [Ex.kids]) hk;obtain⟨vs,s,g1,p1⟩:=oper4 f;refine⟨_,.post (.field g1 m) ?_ fun h=>by simp [Ex.kind] at h⟩;have hp:exText (.mk 8 0 [] m [k])=withinAt [k] 0 4++[46]++m:=by rw [exText];simp
     rw [hp,within0];have:=(p1.app (Brk.of (by decide)) (Pa.mark (x:=[46]) (by decide))).appR (Pr.word hm);simpa using this
   | @call m hm k es hk he =>
     obtain⟨us,f⟩:=kid k (by simp [Ex.kids]) hk;obtain⟨us,s,g1,p1⟩:=oper4 f;obtain⟨vs,g2,p2⟩:=argText_gr fun x hx=>kid x (by simp [Ex.kids,hx]) (he x hx)
     refine⟨_,.post (.call g1 m g2) ?_ fun h=>rfl⟩;have hp:exText (.mk 9 0 [] m (k::es))=withinAt (k::es) 0 4++[46]++m++argsFrom es 0:=by rw [exText];simp [argsFrom1]
     rw [hp,within0];have:=((p1.app (Brk.of (by decide)) (Pa.mark (x:=[46]) (by decide))).appR (Pr.word hm)).app (brk_args es) p2;simpa using this.pr
   | @static o m ho hm es he =>
     obtain⟨vs,g2,p2⟩:=argText_gr fun x hx=>kid x (by simp [Ex.kids,hx]) (he x hx)
     refine⟨_,.post (.static o m g2) ?_ fun h=>rfl⟩;have hp:exText (.mk 10 0 o m es)=o++[58,58]++m++argsFrom es 0:=by rw [exText];simp
     rw [hp];have:=(((Pr.word ho).app (Brk.of (by decide)) (Pa.mark (x:=[58,58]) (by decide))).appR (Pr.word hm)).app (brk_args es) p2;simpa using this.pr
theorem fm_gr {e:Ex}(h:WfE e):FmOk e:=exText_gr _ e (Nat.le_refl _) h
/-- The text of an expression is not empty. -/
theorem GrE.ne {e:Ex}{us:List TT}(h:GrE e us):us≠[]:=by obtain⟨u,vs,rfl,_⟩:=h.fst;simp
/-! statements -/
theorem tabs_gr (n:Nat):Pa (tabsOf n) []:=.sep (by unfold tabsOf;rw [List.all_eq_true];intro x hx;rw [List.eq_of_mem_replicate hx];decide)
theorem nl:isSep 10=true:=by decide
theorem semi_nl:Pa [59,10] [TT.mk [59]]:=by simpa using (Pa.mark (x:=[59]) (by decide)).app (sp 10 nl)
theorem open_nl:Pa [32,123,10] [TT.mk [123]]:=by simpa using ((sp 32 (by decide)).app (Pa.mark (x:=[123]) (by decide))).app (sp 10 nl)
theorem close_nl:Pa [125,10] [TT.mk [125]]:=by simpa using (Pa.mark (x:=[125]) (by decide)).app (sp 10 nl)
theorem popen_nl:Pa [41,32,123,10] [TT.mk [41],TT.mk [123]]:=by simpa using (Pa.mark (x:=[41]) (by decide)).app open_nl
theorem exT0 (e:Ex)(l:List Ex):exT (e::l) 0=exText e:=rfl
theorem exT1 (e f:Ex)(l:List Ex):exT (e::f::l) 1=exText f:=rfl
def FmS (n:Nat)(s:St):Prop:=∃ us,GrSt s us∧Pa (stText n s) us
theorem stsText_gr {n:Nat}:∀ {l:List St},(∀ s∈l,FmS n s)→∃ us,GrSs l us∧Pa (stsText n l) us
 | [],_=>⟨[],.nil,by rw [stsText];exact .nil⟩
 | s::l,h=>by
   obtain⟨us,g,p⟩:=h s List.mem_cons_self;obtain⟨vs,g2,p2⟩:=stsText_gr fun x hx=>h x (List.mem_cons_of_mem _ hx)
   exact⟨_,.cons g g2,by rw [stsText];exact p.app p2⟩
/-- A block, from its opening brace to its closing brace. -/
theorem fmBlock_gr {n:Nat}{l:List St}(h:∀ s∈l,FmS n s):∃ us,GrSs l us∧GrB l (TT.mk [123]::(us++[TT.mk [125]]))∧Pa (stsText n l) us:=by
 obtain⟨us,g,p⟩:=stsText_gr h;exact⟨us,g,.mk g,p⟩
theorem stText_gr:∀ (d:Nat) (s:St) (n:Nat),stSz s≤d→WfS s→FmS n s:=by
 intro d
 induction d with
 | zero=>intro s n h;have:=stSz_pos s;omega
 | succ d ih =>
   intro s n hd hw;cases hw with
   | var0 x t hx ht =>
     obtain⟨u,g,p⟩:=typ_gr ht;refine⟨_,.var0 x t g,?_⟩;have:=((tabs_gr n).app (kw1 (x:=[118,97,114]) (by decide))).appR (typed_gr hx p);have:=this.app (Brk.of (by decide)) semi_nl;rw [stText];simpa using this
   | @var1 x t hx ht e he =>
     obtain⟨u,g,p⟩:=typ_gr ht;obtain⟨us,f⟩:=fm_gr he;refine⟨_,.var1 x t g f.l1,?_⟩;have:=(((tabs_gr n).app (kw1 (x:=[118,97,114]) (by decide))).appR (typed_gr hx p)).app (Brk.of (by decide)) eq_gr;have:=(this.appR f.pr).app (Brk.of (by decide)) semi_nl;rw [stText];simpa [exT0] using this
   | @assign x hx e he =>
     obtain⟨us,f⟩:=fm_gr he;refine⟨_,.assign x f.l1,?_⟩;have:=((((tabs_gr n).appR (Pr.word hx)).app (Brk.of (by decide)) eq_gr).appR f.pr).app (Brk.of (by decide)) semi_nl;rw [stText];simpa [exT0] using this
   | @store m hm k e hk he =>
     obtain⟨us0,f0⟩:=fm_gr hk;obtain⟨us,s,ge,pe⟩:=oper4 f0;obtain⟨vs,f⟩:=fm_gr he;refine⟨_,.store ge m f.l1,?_⟩;have:=(((((((tabs_gr n).appR pe).app (Brk.of (by decide)) (Pa.mark (x:=[46]) (by decide))).appR (Pr.word hm)).app (Brk.of (by decide)) eq_gr).appR f.pr).app (Brk.of (by decide)) semi_nl);have hp:stText n (.mk 3 m [] [k,e] [] [])=tabsOf n++withinAt [k,e] 0 4++[46]++m++[32,61,32]++exText e++[59,10]:=by rw [stText];simp [exT1]
     rw [hp,within0];simpa using this
   | @«if» e he b c hb hc =>
     obtain⟨us,f⟩:=fm_gr he;obtain⟨vs,_,gb,pb⟩:=fmBlock_gr fun x hx=>ih x (n+1) (by have:=stSz_mem (k:=4) (n:=[]) (t:=[]) (es:=[e]) (b:=b) (c:=c) (.inl hx);omega) (hb x hx)
     have h1:=(((tabs_gr n).app (kwP (x:=[105,102]) (by decide))).appR f.pr).app (Brk.of (by decide)) popen_nl
     by_cases h0:c=[]
     ·subst h0;refine⟨_,.if0 f.l1 gb,?_⟩;have:=(h1.app pb).app ((tabs_gr n).app close_nl);rw [stText];simpa [exT0] using this
     ·obtain⟨ws,_,gc,pc⟩:=fmBlock_gr fun x hx=>ih x (n+1) (by have:=stSz_mem (k:=4) (n:=[]) (t:=[]) (es:=[e]) (b:=b) (c:=c) (.inr hx);omega) (hc x hx)
      refine⟨_,.if1 f.l1 gb gc,?_⟩;have h2:=((mk1 (x:=[125]) (by decide)).app (Pr.app (A:=[101,108,115,101]) (.key (by decide)) (Brk.of (by decide)) open_nl));have:=((h1.app pb).app (((tabs_gr n).app h2).app pc)).app ((tabs_gr n).app close_nl);have hp:stText n (.mk 4 [] [] [e] b c)=tabsOf n++[105,102,32,40]++exText e++[41,32,123,10]++stsText (n+1) b++(tabsOf n++[125,32,101,108,115,101,32,123,10]++stsText (n+1) c)++tabsOf n++[125,10]:=by rw [stText,if_neg (by decide),if_neg (by decide),if_neg (by decide),if_pos rfl,if_neg h0];rfl
      rw [hp];simpa using this
   | @«while» e he b hb =>
     obtain⟨us,f⟩:=fm_gr he;obtain⟨vs,_,gb,pb⟩:=fmBlock_gr fun x hx=>ih x (n+1) (by have:=stSz_mem (k:=5) (n:=[]) (t:=[]) (es:=[e]) (b:=b) (c:=[]) (.inl hx);omega) (hb x hx)
     refine⟨_,.while f.l1 gb,?_⟩;have h1:=(((tabs_gr n).app (kwP (x:=[119,104,105,108,101]) (by decide))).appR f.pr).app (Brk.of (by decide)) popen_nl;have:=(h1.app pb).app ((tabs_gr n).app close_nl);rw [stText];simpa [exT0] using this
   | @«try» x t hx ht b c hb hc =>
     obtain⟨u,g,p⟩:=typ_gr ht;obtain⟨vs,_,gb,pb⟩:=fmBlock_gr fun s hs=>ih s (n+1) (by have:=stSz_mem (k:=6) (n:=x) (t:=t) (es:=[]) (b:=b) (c:=c) (.inl hs);omega) (hb s hs)
     obtain⟨ws,_,gc,pc⟩:=fmBlock_gr fun s hs=>ih s (n+1) (by have:=stSz_mem (k:=6) (n:=x) (t:=t) (es:=[]) (b:=b) (c:=c) (.inr hs);omega) (hc s hs)
     refine⟨_,.try gb x t g gc,?_⟩;have h1:=(((tabs_gr n).app (Pr.app (A:=[116,114,121]) (.key (by decide)) (Brk.of (by decide)) open_nl)).app pb).app (tabs_gr n);have h2:=(h1.app ((mk1 (x:=[125]) (by decide)).app (kwP (x:=[99,97,116,99,104]) (by decide)))).appR (typed_gr hx p);have:=((h2.app (Brk.of (by decide)) popen_nl).app pc).app ((tabs_gr n).app close_nl);rw [stText];simpa using this
   | @throw e he =>
     obtain⟨us,f⟩:=fm_gr he;refine⟨_,.throw f.l1,?_⟩;have:=(((tabs_gr n).app (kw1 (x:=[116,104,114,111,119]) (by decide))).appR f.pr).app (Brk.of (by decide)) semi_nl;rw [stText];simpa [exT0] using this
   | return0 =>
     refine⟨_,.return0,?_⟩;have:=(tabs_gr n).app (Pr.app (A:=[114,101,116,117,114,110]) (.key (by decide)) (Brk.of (by decide)) semi_nl);rw [stText];simpa using this
   | @return1 e he =>
     obtain⟨us,f⟩:=fm_gr he;refine⟨_,.return1 f.l1,?_⟩;have:=(((tabs_gr n).app (kw1 (x:=[114,101,116,117,114,110]) (by decide))).appR f.pr).app (Brk.of (by decide)) semi_nl;rw [stText];simpa [exT0] using this
   | @call e he hk =>
     obtain⟨us,f⟩:=fm_gr he;obtain⟨s,g,hs⟩:=f.l4 (by unfold levelOf;rw [if_pos (by omega)]);obtain rfl:=hs hk;refine⟨_,.call g,?_⟩;have:=((tabs_gr n).appR f.pr).app (Brk.of (by decide)) semi_nl;rw [stText];simpa [exT0] using this
theorem body_gr {n:Nat}{l:List St}(h:∀ s∈l,WfS s):∃ us,GrB l (TT.mk [123]::(us++[TT.mk [125]]))∧Pa (stsText n l) us:=by
 obtain⟨us,_,g,p⟩:=fmBlock_gr (n:=n) fun s hs=>stText_gr _ s n (Nat.le_refl _) (h s hs)
 exact⟨us,g,p⟩
theorem meText_gr (n:Nat){m:Me}(h:WfM m):∃ us,GrMe m us∧Pa (meText n m) us:=by
 obtain⟨nm,st,ps,r,b⟩:=m;obtain⟨h1,h2,h3,h4⟩:=h;simp only at h1 h2 h3 h4;obtain⟨us,gp,pp⟩:=par_gr h2;obtain⟨ws,gb,pb⟩:=body_gr (n:=n+1) h4;have hr:∃ vs,GrR r vs∧Pa ((if r=[] then [] else [58,32]++r)++[32,123,10]) (vs++[TT.mk [123]]):=by
  by_cases h0:r=[]
  ·subst h0;exact⟨[],.none,by simpa using open_nl⟩
  ·obtain⟨u,g,p⟩:=typ_gr (h3.resolve_left h0);refine⟨_,.some r g,?_⟩;rw [if_neg h0];have:=((Pa.colon (x:=[58]) (c:=32) (.inl rfl) (by decide)).appR p).app (Brk.of (by decide)) open_nl;simpa using this
 obtain⟨vs,gr,pr⟩:=hr;have hd:GrD ⟨nm,false,ps,r,b⟩ (TT.kw [100,101,102]::TT.wd nm::TT.mk [40]::(us++(vs++(TT.mk [123]::(ws++[TT.mk [125]]))))):=.mk nm gp gr gb;have hp:Pa ([100,101,102,32]++nm++[40]++parText ps++[41]++(if r=[] then [] else [58,32]++r)++[32,123,10]++stsText (n+1) b++tabsOf n++[125,10]) (TT.kw [100,101,102]::TT.wd nm::TT.mk [40]::(us++(vs++(TT.mk [123]::(ws++[TT.mk [125]]))))):=by
  have:=(((kw1 (x:=[100,101,102]) (by decide)).appR (Pr.word h1)).app (Brk.of (by decide)) (Pa.mark (x:=[40]) (by decide))).app pp;have:=((this.app pr).app pb).app ((tabs_gr n).app close_nl);simpa using this
 cases st with
 | false=>exact⟨_,.plain hd,by simpa [meText] using (tabs_gr n).app hp⟩
 | true =>
   refine⟨_,.static hd,?_⟩;have:=((tabs_gr n).app (kw1 (x:=[115,116,97,116,105,99]) (by decide))).app hp;simpa [meText] using this
theorem fields_gr:∀ {l:List Fld},(∀ f∈l,WfF f)→∃ us,GrFs l us∧Pa (l.flatMap fun f=>[9,118,97,114,32]++fldText f++[59,10]) us
 | [],_=>⟨_,.nil,.nil⟩
 | f::l,h=>by
   obtain⟨u,g,p⟩:=fld_gr (h f List.mem_cons_self);obtain⟨us,g2,p2⟩:=fields_gr fun x hx=>h x (List.mem_cons_of_mem _ hx)
   refine⟨_,.cons f.name f.typ g g2,?_⟩;have:=((((sp 9 (by decide)).app (kw1 (x:=[118,97,114]) (by decide))).appR p).app (Brk.of (by decide)) semi_nl).app p2;simpa using this
theorem clText_gr {c:Cl}(h:WfC c):∃ us,GrC c us∧Pa (clText c) us:=by
 obtain⟨n,s,fs,ms⟩:=c;obtain⟨h1,h2,h3,h4⟩:=h;simp only at h1 h2 h3 h4;obtain⟨us,gs,ps⟩:=super_gr h2 32 (by decide);obtain⟨vs,gf,pf⟩:=fields_gr h3;obtain⟨ws,gm,pm⟩:=meths_gr (fun m hm=>meText_gr 1 hm) h4;refine⟨_,.mk n gs gf gm,?_⟩;have hb:Pa (32::([123,10]++((fs.flatMap fun f=>[9,118,97,114,32]++fldText f++[59,10])++(ms.flatMap (meText 1)++[125,10])))) (TT.mk [123]::(vs++(ws++[TT.mk [125]]))):=by
  have:=open_nl.app (pf.app (pm.app close_nl));simpa using this
 have:=(kw1 (x:=[99,108,97,115,115]) (by decide)).app (ps hb n h1);unfold clText;simpa using this
end Lx
end
section
open Lx
namespace Lx
/-- Where a text stands, behind d open braces: k tabs into a line; behind a sign; behind a single blank. -/
inductive Sc
 | ln (d k:Nat)
 | on (d:Nat)
 | sp (d:Nat)
/-- Open braces behind a byte. -/
def brn (d:Nat)(c:UInt8):Option Nat:=if c=123 then some (d+1) else if c=125 then (if d=0 then none else some (d-1)) else some d
def stp:Sc→UInt8→Option Sc
 | .ln d k,c=>if c=9 then some (.ln d (k+1)) else if isSep c then none else if k=(if c=125 then d-1 else d) then (brn d c).map .on else none
 | .on d,c=>if c=10 then some (.ln d 0) else if c=32 then some (.sp d) else if isSep c then none else (brn d c).map .on
 | .sp d,c=>if isSep c then none else (brn d c).map .on
def run:Sc→Bytes→Option Sc
 | σ,[]=>some σ
 | σ,c::l=>(stp σ c).bind fun τ=>run τ l
theorem run_app (u v:Bytes):∀ σ,run σ (u++v)=(run σ u).bind fun τ=>run τ v:=by
 induction u with
 | nil=>intro σ;rfl
 | cons c u ih =>
   intro σ;rw [List.cons_append,run,run];cases stp σ c with
   | none=>rfl
   | some τ=>exact ih τ
/-- A sign may stand here, d braces being open. -/
def Rdy (σ:Sc)(d:Nat):Prop:=σ=.on d∨σ=.sp d∨σ=.ln d d
/-- A text without braces, tabs, line feeds and double blanks, with no blank at its ends. -/
def Gd (x:Bytes):Prop:=∀ σ d,Rdy σ d→run σ x=some (.on d)
def pgB (c:UInt8):Bool:=!isSep c && c != 123 && c != 125
theorem stp_pl {σ:Sc}{d:Nat}{c:UInt8}(h:Rdy σ d)(hc:pgB c=true):stp σ c=some (.on d):=by
 simp only [pgB,Bool.and_eq_true,Bool.not_eq_true',bne_iff_ne,ne_eq] at hc;obtain⟨⟨h1,h2⟩,h3⟩:=hc;have n9:c≠9:=by rintro rfl;revert h1;decide
 have n10:c≠10:=by rintro rfl;revert h1;decide
 have n32:c≠32:=by rintro rfl;revert h1;decide
 rcases h with rfl | rfl | rfl <;> simp [stp,brn,h1,h2,h3,n9,n10,n32]
theorem gd_plain:∀ {x:Bytes},x≠[]→x.all pgB=true→Gd x
 | [],h,_=>absurd rfl h
 | [c],_,h=>fun σ d hr=>by
   simp only [List.all_cons,List.all_nil,Bool.and_true] at h;rw [run,stp_pl hr h];rfl
 | c::e::x,_,h=>fun σ d hr=>by
   rw [List.all_cons,Bool.and_eq_true] at h;rw [run,stp_pl hr h.1];exact gd_plain (by simp) h.2 (.on d) d (.inl rfl)
theorem Gd.app {x y:Bytes}(h:Gd x)(h2:Gd y):Gd (x++y):=fun σ d hr=>by
 rw [run_app,h σ d hr];exact h2 _ d (.inl rfl)
theorem Gd.blank {x y:Bytes}(h:Gd x)(h2:Gd y):Gd (x++([32]++y)):=fun σ d hr=>by
 rw [run_app,h σ d hr]
 show run (.on d) (32::y)=_
 rw [run];exact h2 (.sp d) d (.inr (.inl rfl))
theorem part_pl {c:UInt8}(h:isPart c=true):pgB c=true:=by
 simp only [isPart,isLetter,isDigit,Bool.or_eq_true,decide_eq_true_eq] at h;simp only [pgB,isSep,Bool.and_eq_true,Bool.not_eq_true',decide_eq_false_iff_not,bne_iff_ne,ne_eq];refine⟨⟨by omega,?_⟩,?_⟩ <;> (rintro rfl;revert h;decide)
theorem all_mono {p q:UInt8→Bool}(h:∀ c,p c=true→q c=true){x:Bytes}(hx:x.all p=true):x.all q=true:=by
 rw [List.all_eq_true] at hx ⊢;exact fun c hc=>h c (hx c hc)
theorem gd_ident {x:Bytes}(h:isIdent x=true):Gd x:=by
 obtain⟨c,t,rfl,_,ha,_⟩:=isIdent_parts h;exact gd_plain (by simp) (all_mono (fun _=>part_pl) ha)
theorem gd_typ {t:Bytes}(h:WfT t):Gd t:=by
 rcases h with rfl | h
 ·exact gd_plain (by simp) (by decide)
 ·exact gd_ident h
theorem gd_num {n:Int}(h1:-9223372036854775808<n)(h2:n<9223372036854775808):Gd (numText n):=by
 have hd:Gd (digitsOf 20 n.natAbs):=by
  obtain⟨h0,h3,_⟩:=digits_num (n:=n.natAbs) (by omega);exact gd_plain h0 (all_mono (fun c hc=>part_pl (by simp [isPart,hc])) h3)
 unfold numText;split
 ·exact Gd.app (x:=[45]) (gd_plain (by simp) (by decide)) hd
 ·exact hd
theorem gd_paren {x:Bytes}(h:Gd x):Gd ([40]++x++[41]):=((gd_plain (by simp) (by decide)).app h).app (gd_plain (by simp) (by decide))
theorem gd_oper {e:Ex}(r:Int)(h:Gd (exText e)):Gd (if levelOf e.kind e.n<r then [40]++exText e++[41] else exText e):=by
 split
 ·exact gd_paren h
 ·exact h
theorem gd_sep:∀ {es:List Ex},(∀ e∈es,Gd (exText e))→es≠[]→Gd (sepText es)
 | [],_,h=>absurd rfl h
 | [e],h,_=>by rw [sepText];exact h e List.mem_cons_self
 | e::e2::es,h,_=>by
   have h2:=gd_sep (es:=e2::es) (fun x hx=>h x (List.mem_cons_of_mem _ hx)) (by simp);rw [sepText]
   ·have:=((h e List.mem_cons_self).app (gd_plain (x:=[44]) (by simp) (by decide))).blank h2;simpa using this
   ·exact fun h=>by simp at h
theorem gd_args {es:List Ex}(h:∀ e∈es,Gd (exText e)):Gd (argsFrom es 0):=by
 rw [argsFrom];cases es with
 | nil=>rw [sepText];exact gd_plain (by simp) (by decide)
 | cons e es=>exact gd_paren (gd_sep h (by simp))
theorem gd_op {op:Int}(h:1≤op∧op≤5):Gd (opText op):=by
 have hop:op=1∨op=2∨op=3∨op=4∨op=5:=by omega
 rcases hop with rfl | rfl | rfl | rfl | rfl <;> exact gd_plain (by decide) (by decide)
theorem ex_gd:∀ (d:Nat) (e:Ex),exSz e≤d→WfE e→Gd (exText e):=by
 intro d
 induction d with
 | zero=>intro e h;have:=exSz_pos e;omega
 | succ d ih =>
   intro e hd hw;have kid:∀ x,x∈e.kids→WfE x→Gd (exText x):=fun x hx hw=>ih x (by
    obtain⟨k,n,o,m,ks⟩:=e;have:exSz x<exSz (.mk k n o m ks):=exSz_kid hx;omega) hw
   cases hw with
   | int n h1 h2=>rw [exText,if_pos rfl];exact gd_num h1 h2
   | null=>rw [exText];exact gd_plain (by simp) (by decide)
   | var x hx=>rw [exText];exact gd_ident hx
   | this=>rw [exText];exact gd_plain (by simp) (by decide)
   | input=>rw [exText];exact gd_plain (by simp) (by decide)
   | @bin op h a b ha hb =>
     have h1:=gd_oper (max (levelOf 6 op) 2) (kid a (by simp [Ex.kids]) ha);have h2:=gd_oper (levelOf 6 op+1) (kid b (by simp [Ex.kids]) hb);have hp:exText (.mk 6 op [] [] [a,b])=withinAt [a,b] 0 (max (levelOf 6 op) 2)++([32]++(opText op++([32]++withinAt [a,b] 1 (levelOf 6 op+1)))):=by rw [exText];simp
     rw [within0,within1] at hp;rw [hp];exact h1.blank ((gd_op h).blank h2)
   | new x hx =>
     have:=((gd_plain (x:=[110,101,119]) (by simp) (by decide)).blank (gd_ident hx)).app (gd_plain (x:=[40,41]) (by simp) (by decide));rw [exText];simpa using this
   | @field m hm k hk =>
     have hp:exText (.mk 8 0 [] m [k])=withinAt [k] 0 4++[46]++m:=by rw [exText];simp
     rw [hp,within0];exact ((gd_oper 4 (kid k (by simp [Ex.kids]) hk)).app (gd_plain (by simp) (by decide))).app (gd_ident hm)
   | @call m hm k es hk he =>
     have hp:exText (.mk 9 0 [] m (k::es))=withinAt (k::es) 0 4++[46]++m++argsFrom es 0:=by rw [exText];simp [argsFrom1]
     rw [hp,within0];exact (((gd_oper 4 (kid k (by simp [Ex.kids]) hk)).app (gd_plain (by simp) (by decide))).app (gd_ident hm)).app (gd_args fun x hx=>kid x (by simp [Ex.kids,hx]) (he x hx))
   | @static o m ho hm es he =>
     have hp:exText (.mk 10 0 o m es)=o++[58,58]++m++argsFrom es 0:=by rw [exText];simp
     rw [hp];exact (((gd_ident ho).app (gd_plain (by simp) (by decide))).app (gd_ident hm)).app (gd_args fun x hx=>kid x (by simp [Ex.kids,hx]) (he x hx))
theorem gd_ex {e:Ex}(h:WfE e):Gd (exText e):=ex_gd _ e (Nat.le_refl _) h
/-! lines -/
/-- From one beginning of a line to another, with the same braces. -/
def Ls (d:Nat)(x:Bytes):Prop:=run (.ln d 0) x=some (.ln d 0)
theorem Ls.app {d:Nat}{x y:Bytes}(h:Ls d x)(h2:Ls d y):Ls d (x++y):=by unfold Ls at *;rw [run_app,h];exact h2
theorem Ls.nil (d:Nat):Ls d []:=rfl
theorem run_tabs (d:Nat):∀ k j,run (.ln d j) (List.replicate k 9)=some (.ln d (j+k)):=by
 intro k
 induction k with
 | zero=>intro j;rfl
 | succ k ih =>
   intro j;rw [List.replicate_succ,run,show stp (.ln d j) 9=some (.ln d (j+1)) by simp [stp]]
   show run (.ln d (j+1)) _=_
   rw [ih,show j+1+k=j+(k+1) by omega]
theorem tabs_run (d k:Nat):run (.ln d 0) (tabsOf k)=some (.ln d k):=by unfold tabsOf;rw [run_tabs,Nat.zero_add]
/-- A whole line. -/
theorem line_ls (d:Nat){x:Bytes}(h:Gd x):Ls d (tabsOf d++(x++[10])):=by
 unfold Ls;rw [run_app,tabs_run]
 show run (.ln d d) (x++[10])=_
 rw [run_app,h _ d (.inr (.inr rfl))];rfl
theorem on_open (d:Nat):run (.on d) [32,123,10]=some (.ln (d+1) 0):=by rfl
/-- A line that opens a block. -/
theorem open_run (d:Nat){x:Bytes}(h:Gd x):run (.ln d 0) (tabsOf d++(x++[32,123,10]))=some (.ln (d+1) 0):=by
 rw [run_app,tabs_run]
 show run (.ln d d) (x++[32,123,10])=_
 rw [run_app,h _ d (.inr (.inr rfl))];exact on_open d
theorem cl_stp (d:Nat):stp (.ln (d+1) d) 125=some (.on d):=by simp [stp,brn,isSep]
/-- The line that closes a block. -/
theorem close_run (d:Nat):run (.ln (d+1) 0) (tabsOf d++[125,10])=some (.ln d 0):=by
 rw [run_app,tabs_run]
 show run (.ln (d+1) d) [125,10]=_
 rw [run,cl_stp];rfl
/-- The line that closes a block and opens another. -/
theorem reopen_run (d:Nat){x:Bytes}(h:Gd x):run (.ln (d+1) 0) (tabsOf d++([125,32]++(x++[32,123,10])))=some (.ln (d+1) 0):=by
 rw [run_app,tabs_run]
 show run (.ln (d+1) d) (125::32::(x++[32,123,10]))=_
 rw [run,cl_stp]
 show run (.on d) (32::(x++[32,123,10]))=_
 rw [run]
 show run (.sp d) (x++[32,123,10])=_
 rw [run_app,h _ d (.inr (.inl rfl))];exact on_open d
/-- A block behind a head. -/
theorem block_ls (d:Nat){x b:Bytes}(h:Gd x)(hb:Ls (d+1) b):Ls d (tabsOf d++(x++[32,123,10])++b++(tabsOf d++[125,10])):=by
 unfold Ls at *;rw [run_app,run_app,open_run d h]
 show (run (.ln (d+1) 0) b).bind _=_
 rw [hb];exact close_run d
theorem block2_ls (d:Nat){x y b c:Bytes}(h:Gd x)(h2:Gd y)(hb:Ls (d+1) b)(hc:Ls (d+1) c):Ls d (tabsOf d++(x++[32,123,10])++b++(tabsOf d++([125,32]++(y++[32,123,10])))++c++(tabsOf d++[125,10])):=by
 unfold Ls at *;rw [run_app,run_app,run_app,run_app,open_run d h]
 show (((run (.ln (d+1) 0) b).bind _).bind _).bind _=_
 rw [hb]
 show ((run (.ln (d+1) 0) _).bind _).bind _=_
 rw [reopen_run d h2]
 show (run (.ln (d+1) 0) c).bind _=_
 rw [hc];exact close_run d
theorem sts_ls {d:Nat}:∀ {l:List St},(∀ s∈l,Ls d (stText d s))→Ls d (stsText d l)
 | [],_=>by rw [stsText];exact .nil d
 | s::l,h=>by rw [stsText];exact (h s List.mem_cons_self).app (sts_ls fun x hx=>h x (List.mem_cons_of_mem _ hx))
theorem gd_typed {x t:Bytes}(hx:isIdent x=true)(ht:WfT t):Gd (x++([58]++([32]++t))):=by
 have:=((gd_ident hx).app (gd_plain (x:=[58]) (by simp) (by decide))).blank (gd_typ ht);simpa using this
theorem gd_w (x:Bytes)(h:x≠[])(h2:x.all pgB=true):Gd x:=gd_plain h h2
theorem st_ls:∀ (f:Nat) (s:St) (n:Nat),stSz s≤f→WfS s→Ls n (stText n s):=by
 intro f
 induction f with
 | zero=>intro s n h;have:=stSz_pos s;omega
 | succ f ih =>
   intro s n hd hw;cases hw with
   | var0 x t hx ht =>
     have:=line_ls n (((gd_w [118,97,114] (by simp) (by decide)).blank (gd_typed hx ht)).app (gd_w [59] (by simp) (by decide)));rw [stText];simpa using this
   | @var1 x t hx ht e he =>
     have:=line_ls n ((((gd_w [118,97,114] (by simp) (by decide)).blank (gd_typed hx ht)).blank ((gd_w [61] (by simp) (by decide)).blank (gd_ex he))).app (gd_w [59] (by simp) (by decide)));rw [stText];simpa [exT0] using this
   | @assign x hx e he =>
     have:=line_ls n (((gd_ident hx).blank ((gd_w [61] (by simp) (by decide)).blank (gd_ex he))).app (gd_w [59] (by simp) (by decide)));rw [stText];simpa [exT0] using this
   | @store m hm k e hk he =>
     have:=line_ls n (((((gd_oper 4 (gd_ex hk)).app (gd_w [46] (by simp) (by decide))).app (gd_ident hm)).blank ((gd_w [61] (by simp) (by decide)).blank (gd_ex he))).app (gd_w [59] (by simp) (by decide)));have hp:stText n (.mk 3 m [] [k,e] [] [])=tabsOf n++withinAt [k,e] 0 4++[46]++m++[32,61,32]++exText e++[59,10]:=by rw [stText];simp [exT1]
     rw [hp,within0];simpa using this
   | @«if» e he b c hb hc =>
     have b1:=sts_ls (d:=n+1) fun x hx=>ih x (n+1) (by have:=stSz_mem (k:=4) (n:=[]) (t:=[]) (es:=[e]) (b:=b) (c:=c) (.inl hx);omega) (hb x hx)
     have hh:Gd ([105,102]++([32]++([40]++exText e++[41]))):=(gd_w [105,102] (by simp) (by decide)).blank (gd_paren (gd_ex he))
     by_cases h0:c=[]
     ·subst h0;have:=block_ls n hh b1;rw [stText];simpa [exT0] using this
     ·have c1:=sts_ls (d:=n+1) fun x hx=>ih x (n+1) (by have:=stSz_mem (k:=4) (n:=[]) (t:=[]) (es:=[e]) (b:=b) (c:=c) (.inr hx);omega) (hc x hx)
      have:=block2_ls n hh (gd_w [101,108,115,101] (by simp) (by decide)) b1 c1;have hp:stText n (.mk 4 [] [] [e] b c)=tabsOf n++[105,102,32,40]++exText e++[41,32,123,10]++stsText (n+1) b++(tabsOf n++[125,32,101,108,115,101,32,123,10]++stsText (n+1) c)++tabsOf n++[125,10]:=by rw [stText,if_neg (by decide),if_neg (by decide),if_neg (by decide),if_pos rfl,if_neg h0];rfl
      rw [hp];simpa using this
   | @«while» e he b hb =>
     have b1:=sts_ls (d:=n+1) fun x hx=>ih x (n+1) (by have:=stSz_mem (k:=5) (n:=[]) (t:=[]) (es:=[e]) (b:=b) (c:=[]) (.inl hx);omega) (hb x hx)
     have:=block_ls n ((gd_w [119,104,105,108,101] (by simp) (by decide)).blank (gd_paren (gd_ex he))) b1;rw [stText];simpa [exT0] using this
   | @«try» x t hx ht b c hb hc =>
     have b1:=sts_ls (d:=n+1) fun s hs=>ih s (n+1) (by have:=stSz_mem (k:=6) (n:=x) (t:=t) (es:=[]) (b:=b) (c:=c) (.inl hs);omega) (hb s hs)
     have c1:=sts_ls (d:=n+1) fun s hs=>ih s (n+1) (by have:=stSz_mem (k:=6) (n:=x) (t:=t) (es:=[]) (b:=b) (c:=c) (.inr hs);omega) (hc s hs)
     have:=block2_ls n (gd_w [116,114,121] (by simp) (by decide)) ((gd_w [99,97,116,99,104] (by simp) (by decide)).blank (gd_paren (gd_typed hx ht))) b1 c1;rw [stText];simpa using this
   | @throw e he =>
     have:=line_ls n (((gd_w [116,104,114,111,119] (by simp) (by decide)).blank (gd_ex he)).app (gd_w [59] (by simp) (by decide)));rw [stText];simpa [exT0] using this
   | return0 =>
     have:=line_ls n (gd_w [114,101,116,117,114,110,59] (by simp) (by decide));rw [stText];simpa using this
   | @return1 e he =>
     have:=line_ls n (((gd_w [114,101,116,117,114,110] (by simp) (by decide)).blank (gd_ex he)).app (gd_w [59] (by simp) (by decide)));rw [stText];simpa [exT0] using this
   | @call e he hk =>
     have:=line_ls n ((gd_ex he).app (gd_w [59] (by simp) (by decide)));rw [stText];simpa [exT0] using this
theorem gd_par:∀ {l:List Fld},(∀ f∈l,WfF f)→l≠[]→Gd (parText l)
 | [],_,h=>absurd rfl h
 | [f],h,_=>by
   have:=gd_typed (h f List.mem_cons_self).1 (h f List.mem_cons_self).2;rw [parText];unfold fldText;simpa using this
 | f::g::l,h,_=>by
   have h1:=gd_typed (h f List.mem_cons_self).1 (h f List.mem_cons_self).2;have h2:=gd_par (l:=g::l) (fun x hx=>h x (List.mem_cons_of_mem _ hx)) (by simp);have:=(h1.app (gd_w [44] (by simp) (by decide))).blank h2;rw [parText]
   ·unfold fldText;simpa using this
   ·exact fun h=>by simp at h
theorem me_ls (n:Nat){m:Me}(h:WfM m):Ls n (meText n m):=by
 obtain⟨nm,st,ps,r,b⟩:=m;obtain⟨h1,h2,h3,h4⟩:=h;simp only at h1 h2 h3 h4;have b1:=sts_ls (d:=n+1) fun s hs=>st_ls _ s (n+1) (Nat.le_refl _) (h4 s hs)
 have hp:Gd ([40]++parText ps++[41]):=by
  by_cases h0:ps=[]
  ·subst h0;exact gd_plain (by simp [parText]) (by decide)
  ·exact gd_paren (gd_par h2 h0)
 have hn:=(gd_w [100,101,102] (by simp) (by decide)).blank ((gd_ident h1).app hp);have hr:Gd ([100,101,102]++([32]++(nm++([40]++parText ps++[41])))++(if r=[] then [] else [58,32]++r)):=by
  by_cases h0:r=[]
  ·rw [if_pos h0,List.append_nil];exact hn
  ·rw [if_neg h0];have:=(hn.app (gd_w [58] (by simp) (by decide))).blank (gd_typ (h3.resolve_left h0));simpa using this
 cases st with
 | false =>
   have:=block_ls n hr b1;unfold meText;simpa using this
 | true =>
   have:=block_ls n ((gd_w [115,116,97,116,105,99] (by simp) (by decide)).blank hr) b1;unfold meText;simpa using this
theorem flds_ls:∀ {l:List Fld},(∀ f∈l,WfF f)→Ls 1 (l.flatMap fun f=>[9,118,97,114,32]++fldText f++[59,10])
 | [],_=>.nil 1
 | f::l,h=>by
   have h1:=line_ls 1 (((gd_w [118,97,114] (by simp) (by decide)).blank (gd_typed (h f List.mem_cons_self).1 (h f List.mem_cons_self).2)).app (gd_w [59] (by simp) (by decide)));have:=h1.app (flds_ls fun x hx=>h x (List.mem_cons_of_mem _ hx));simpa [tabsOf,fldText] using this
theorem mes_ls:∀ {l:List Me},(∀ m∈l,WfM m)→Ls 1 (l.flatMap (meText 1))
 | [],_=>.nil 1
 | m::l,h=>by
   have:=(me_ls 1 (h m List.mem_cons_self)).app (mes_ls fun x hx=>h x (List.mem_cons_of_mem _ hx));simpa using this
theorem cl_ls {c:Cl}(h:WfC c):Ls 0 (clText c):=by
 obtain⟨n,s,fs,ms⟩:=c;obtain⟨h1,h2,h3,h4⟩:=h;simp only at h1 h2 h3 h4;have hn:=(gd_w [99,108,97,115,115] (by simp) (by decide)).blank (gd_ident h1);have hs:Gd ([99,108,97,115,115]++([32]++n)++(if s=[] then [] else [32,101,120,116,101,110,100,115,32]++s)):=by
  by_cases h0:s=[]
  ·rw [if_pos h0,List.append_nil];exact hn
  ·rw [if_neg h0];have:=hn.blank ((gd_w [101,120,116,101,110,100,115] (by simp) (by decide)).blank (gd_ident (h2.resolve_left h0)));simpa using this
 have:=block_ls 0 hs ((flds_ls h3).app (mes_ls h4));unfold clText;simpa [tabsOf] using this
theorem so_ls:∀ {l:List Cl},(∀ c∈l,WfC c)→Ls 0 (soText l)
 | [],_=>.nil 0
 | c::l,h=>by
   have:=(cl_ls (h c List.mem_cons_self)).app (so_ls fun x hx=>h x (List.mem_cons_of_mem _ hx));unfold soText at *;simpa using this
end Lx
end
end Go.Proofs.YtmlafcimjhnhhaaDoor
