/-
  Plain Lean: the grammar of statements, methods and classes on tokens without places, and that the parser reads whatever the grammar writes.
-/
import Derived.Test.YtmlafcimjhnhhaaGreatDoorJbJpBg
import Derived.Test.YtmlafcimjhnhhaaGreatDoorJbJpAr
set_option linter.unusedSectionVars false
set_option linter.unusedSimpArgs false
set_option linter.unnecessarySimpa false
set_option linter.unusedVariables false
set_option linter.unusedSimpArgs false
set_option linter.unusedVariables false
namespace Go.Proofs.YtmlafcimjhnhhaaGreatDoor
section
open Lx
namespace Lx
/-- What a type is written as. -/
def GrT (t:Bytes)(u:TT):Prop:=(t=[105,110,116]∧u=TT.kw t)∨u=TT.wd t
mutual
inductive GrSt:St→List TT→Prop
 | var0 (x t:Bytes) {u:TT} (hu:GrT t u):GrSt (.mk 1 x t [] [] []) [TT.kw [118,97,114],TT.wd x,TT.mk [58],u,TT.mk [59]]
 | var1 (x t:Bytes) {u:TT} (hu:GrT t u) {e:Ex} {us:List TT} (h:GrE e us):GrSt (.mk 1 x t [e] [] []) (TT.kw [118,97,114]::TT.wd x::TT.mk [58]::u::TT.mk [61]::(us++[TT.mk [59]]))
 | assign (x:Bytes) {e:Ex} {us:List TT} (h:GrE e us):GrSt (.mk 2 x [] [e] [] []) (TT.wd x::TT.mk [61]::(us++[TT.mk [59]]))
 | store {k:Ex} {us:List TT} {s:Nat} (h:GrP k us s) (m:Bytes) {e:Ex} {vs:List TT} (h2:GrE e vs):GrSt (.mk 3 m [] [k,e] [] []) (us++(TT.mk [46]::TT.wd m::TT.mk [61]::(vs++[TT.mk [59]])))
 | if0 {e:Ex} {us:List TT} (h:GrE e us) {b:List St} {vs:List TT} (hb:GrB b vs):GrSt (.mk 4 [] [] [e] b []) (TT.kw [105,102]::TT.mk [40]::(us++(TT.mk [41]::vs)))
 | if1 {e:Ex} {us:List TT} (h:GrE e us) {b c:List St} {vs ws:List TT} (hb:GrB b vs) (hc:GrB c ws):GrSt (.mk 4 [] [] [e] b c) (TT.kw [105,102]::TT.mk [40]::(us++(TT.mk [41]::(vs++(TT.kw [101,108,115,101]::ws)))))
 | while {e:Ex} {us:List TT} (h:GrE e us) {b:List St} {vs:List TT} (hb:GrB b vs):GrSt (.mk 5 [] [] [e] b []) (TT.kw [119,104,105,108,101]::TT.mk [40]::(us++(TT.mk [41]::vs)))
 | try {b:List St} {us:List TT} (hb:GrB b us) (x t:Bytes) {u:TT} (hu:GrT t u) {c:List St} {vs:List TT} (hc:GrB c vs):GrSt (.mk 6 x t [] b c) (TT.kw [116,114,121]::(us++(TT.kw [99,97,116,99,104]::TT.mk [40]::TT.wd x::TT.mk [58]::u::TT.mk [41]::vs)))
 | throw {e:Ex} {us:List TT} (h:GrE e us):GrSt (.mk 7 [] [] [e] [] []) (TT.kw [116,104,114,111,119]::(us++[TT.mk [59]]))
 | return0:GrSt (.mk 8 [] [] [] [] []) [TT.kw [114,101,116,117,114,110],TT.mk [59]]
 | return1 {e:Ex} {us:List TT} (h:GrE e us):GrSt (.mk 8 [] [] [e] [] []) (TT.kw [114,101,116,117,114,110]::(us++[TT.mk [59]]))
 | call {e:Ex} {us:List TT} (h:GrP e us 3):GrSt (.mk 9 [] [] [e] [] []) (us++[TT.mk [59]])
inductive GrB:List St→List TT→Prop
 | mk {l:List St} {us:List TT} (h:GrSs l us):GrB l (TT.mk [123]::(us++[TT.mk [125]]))
inductive GrSs:List St→List TT→Prop
 | nil:GrSs [] []
 | cons {s:St} {us:List TT} {l:List St} {vs:List TT} (h:GrSt s us) (h2:GrSs l vs):GrSs (s::l) (us++vs)
end
theorem GrP.ne {e:Ex}{us:List TT}{s:Nat}(h:GrP e us s):us≠[]:=by obtain⟨u,vs,rfl,_⟩:=h.fst _ (Nat.le_refl _);simp
theorem GrSt.ne {s:St}{us:List TT}(h:GrSt s us):us≠[]:=by cases h <;> simp
/-- A statement does not begin with a closing brace. -/
theorem GrSt.nxt {ts:List Tok}(hT:TWR ts){s:St}{us:List TT}{i:Nat}(h:GrSt s us)(ha:AtT ts i us):isT ts i [125]=false:=by
 cases h with
 | assign x h=>exact (Nxt.word hT (L:=[[125]]) (.inl ha.1.2.1) (by decide)).get _ (by decide)
 | store h m h2=>exact (FstL.nxt hT ((h.fst _ (Nat.le_refl _)).app _) ha).get _ (by decide)
 | call h=>exact (FstL.nxt hT ((h.fst _ (Nat.le_refl _)).app _) ha).get _ (by decide)
 | _=>rw [isT_of ha.1.2.2.1];decide
section
variable {ts:List Tok} (hT:TWR ts)
include hT
theorem typP_at {t:Bytes}{u:TT}{i:Nat}(hu:GrT t u)(hk:(tk ts i).kind=u.kind)(ht:(tk ts i).text=u.text):typP ts i=.ok (t,i+1):=by
 unfold typP;rcases hu with⟨rfl,rfl⟩ | rfl
 ·rw [isT_of ht,if_pos (by decide)]
 ·rw [(Nxt.word hT (L:=[[105,110,116]]) (.inl hk) (by decide)).get _ (by decide),if_neg (by decide),nameP_at hk ht];rfl
omit hT in
theorem AtT.skip3 {x:Bytes}{u:TT}{i:Nat}{us:List TT}(ha:AtT ts i (TT.wd x::TT.mk [58]::u::us)):AtT ts (i+1+1+1) us:=(AtT.cons.1 ha.2.2).2
theorem typedP_at {x t:Bytes}{u:TT}{i:Nat}{us:List TT}(hu:GrT t u)(ha:AtT ts i (TT.wd x::TT.mk [58]::u::us)):typedP ts i=.ok (⟨x,t⟩,i+3):=by
 obtain⟨⟨_,k1,t1,_⟩,⟨_,_,t2,_⟩,ha⟩:=ha;obtain⟨⟨_,k3,t3,_⟩,_⟩:=AtT.cons.1 ha;unfold typedP;rw [nameP_at k1 t1,bindP_ok,expectP_at t2,bindP_ok,typP_at hT hu k3 t3,bindP_ok]
theorem condP_at {e:Ex}{us vs:List TT}{i:Nat}(h:GrE e us)(ha:AtT ts i (TT.mk [40]::(us++(TT.mk [41]::vs)))):condP ts i=.ok ([e],i+us.length+2):=by
 obtain⟨⟨_,_,t1,_⟩,ha⟩:=ha;obtain⟨h1,⟨_,_,t2,_⟩,_⟩:=ha.append;unfold condP;rw [expectP_at t1,bindP_ok,expr_at hT h h1 (.of t2 (by decide)),bindP_ok,expectP_at t2,bindP_ok]
 congr 2;omega
theorem semi_at {e:Ex}{us vs:List TT}{i:Nat}(h:GrE e us)(ha:AtT ts i (us++(TT.mk [59]::vs))):exprT ts i=.ok (e,i+us.length)∧expectP ts [59] (i+us.length)=.ok ((),i+us.length+1):=by
 obtain⟨h1,⟨_,_,t2,_⟩,_⟩:=ha.append;exact⟨expr_at hT h h1 (.of t2 (by decide)),expectP_at t2⟩
end
theorem fst_else {ts:List Tok}(hT:TWR ts){us:List TT}{i:Nat}(h:FstL us)(ha:AtT ts i us):isT ts i [101,108,115,101]=false:=by
 obtain⟨u,vs,rfl,h⟩:=h;obtain⟨⟨_,h1,h2,_⟩,_⟩:=AtT.cons.1 ha;rcases h with h | h | h
 ·exact (Nxt.word hT (L:=[[101,108,115,101]]) (.inl (h1.trans h)) (by decide)).get _ (by decide)
 ·exact (Nxt.word hT (L:=[[101,108,115,101]]) (.inr (h1.trans h)) (by decide)).get _ (by decide)
 ·rw [isT_of h2];have key:∀ t∈[[45],[110,117,108,108],[116,104,105,115],[105,110,112,117,116],[110,101,119],[40]],((t:Bytes) == [101,108,115,101])=false:=by decide
  exact key _ h
/-- B reads what is written with fewer than N tokens. -/
def GoodB (ts:List Tok)(N:Nat)(B:Nat→PR (List St)):Prop:=∀ l us i,us.length<N→GrB l us→AtT ts i us→B i=.ok (l,i+us.length)
/-- The words that begin a statement. -/
def stKw:List Bytes:=[[118,97,114],[105,102],[119,104,105,108,101],[116,114,121],[116,104,114,111,119],[114,101,116,117,114,110]]
theorem stmt_simple {ts:List Tok}{B:Nat→PR (List St)}{i:Nat}(h:Nxt ts i stKw):stmtW ts B i=simpleP ts i:=by
 unfold stmtW;rw [h.get _ (by decide),h.get _ (by decide),h.get _ (by decide),h.get _ (by decide),h.get _ (by decide),h.get _ (by decide)];rfl
section
variable {ts:List Tok} (hT:TWR ts) {N:Nat} {B:Nat→PR (List St)} (hB:GoodB ts N B)
include hT hB
theorem stmt_good {s:St}{us:List TT}{i:Nat}(hN:us.length≤N)(h:GrSt s us)(ha:AtT ts i us)(hx:isT ts (i+us.length) [101,108,115,101]=false):stmtW ts B i=.ok (s,i+us.length):=by
 cases h with
 | @var0 x t u hu =>
   obtain⟨⟨_,k0,t0,_⟩,ha⟩:=ha;have ht:=typedP_at hT hu ha;obtain⟨⟨_,_,t4,_⟩,_⟩:=ha.skip3;unfold stmtW;rw [isT_of t0,if_pos (by decide)];unfold varP;rw [ht,bindP_ok,show isT ts (i+1+3) [61]=false from by rw [isT_of t4];decide,if_neg (by decide),expectP_at (i:=i+1+3) t4,bindP_ok];rfl
 | @var1 x t u hu e us h =>
   obtain⟨⟨_,k0,t0,_⟩,ha⟩:=ha;have ht:=typedP_at hT hu ha;obtain⟨⟨_,_,t4,_⟩,ha⟩:=ha.skip3;obtain⟨e1,e2⟩:=semi_at hT h ha;unfold stmtW;rw [isT_of t0,if_pos (by decide)];unfold varP;rw [ht,bindP_ok,show isT ts (i+1+3) [61]=true from by rw [isT_of t4];decide,if_pos rfl,show exprT ts (i+1+3+1)=_ from e1,bindP_ok,e2,bindP_ok];simp only [List.length_cons,List.length_append,List.length_nil]
   congr 2;omega
 | @assign x e us h =>
   obtain⟨⟨hi,k0,t0,n0⟩,⟨hi1,k1,t1,n1⟩,ha⟩:=ha;obtain⟨e1,e2⟩:=semi_at hT h ha;rw [stmt_simple (.word hT (.inl k0) (by decide))];unfold simpleP;rw [post_at hT (GrP.var x) ⟨⟨hi,k0,t0,n0⟩,trivial⟩ (.of t1 (by decide)),bindP_ok];have e3:isT ts (i+[TT.wd x].length) [61]=true:=by rw [show [TT.wd x].length=1 from rfl,isT_of t1];decide
   rw [if_pos ⟨rfl,e3⟩,show exprT ts (i+[TT.wd x].length+1)=_ from e1,bindP_ok,e2,bindP_ok];simp only [List.length_cons,List.length_append,List.length_nil]
   show (Except.ok (St.mk 2 x [] [e] [] [],_):PR St)=_
   congr 2;omega
 | @store k us s h m e vs h2 =>
   have hf:=FstL.nxt hT ((h.fst _ (Nat.le_refl _)).app _) ha;rw [show us++(TT.mk [46]::TT.wd m::TT.mk [61]::(vs++[TT.mk [59]]))=(us++[TT.mk [46],TT.wd m])++(TT.mk [61]::(vs++[TT.mk [59]])) by simp] at ha;obtain⟨h1,⟨_,_,t1,_⟩,ha⟩:=ha.append;obtain⟨e1,e2⟩:=semi_at hT h2 ha;rw [stmt_simple (hf.sub (by decide))];unfold simpleP;rw [post_at hT (GrP.field h m) h1 (.of t1 (by decide)),bindP_ok,if_neg (fun h=>by cases h.1),isT_of t1,if_pos ⟨rfl,rfl⟩,e1,bindP_ok,e2,bindP_ok];simp only [List.length_cons,List.length_append,List.length_nil]
   show (Except.ok (St.mk 3 m [] [k,e] [] [],_):PR St)=_
   congr 2;omega
 | @if0 e us h b vs hb =>
   obtain⟨⟨_,k0,t0,_⟩,ha⟩:=ha;have hc:=condP_at hT h ha;obtain⟨_,_,ha⟩:=ha.2.append;simp only [List.length_cons,List.length_append] at hN hx;have hb':=hB _ _ _ (by omega) hb ha;unfold stmtW;rw [isT_of t0,if_neg (by decide),isT_of t0,if_pos (by decide)];unfold ifP;rw [hc,bindP_ok,show i+1+us.length+2=i+1+1+us.length+1 by omega,hb',bindP_ok,show i+1+1+us.length+1+vs.length=i+(us.length+(vs.length+1)+1+1) by omega,hx,if_neg (by decide)];simp only [List.length_cons,List.length_append]
 | @if1 e us h b c vs ws hb hc' =>
   obtain⟨⟨_,k0,t0,_⟩,ha⟩:=ha;have hc:=condP_at hT h ha;obtain⟨_,_,ha⟩:=ha.2.append;obtain⟨h1,⟨_,_,t2,_⟩,ha⟩:=ha.append;simp only [List.length_cons,List.length_append] at hN;have hb':=hB _ _ _ (by omega) hb h1;have hc2:=hB _ _ _ (by omega) hc' ha;unfold stmtW;rw [isT_of t0,if_neg (by decide),isT_of t0,if_pos (by decide)];unfold ifP;rw [hc,bindP_ok,show i+1+us.length+2=i+1+1+us.length+1 by omega,hb',bindP_ok,isT_of t2,if_pos (by decide),hc2,bindP_ok];simp only [List.length_cons,List.length_append]
   congr 2;omega
 | @«while» e us h b vs hb =>
   obtain⟨⟨_,k0,t0,_⟩,ha⟩:=ha;have hc:=condP_at hT h ha;obtain⟨_,_,ha⟩:=ha.2.append;simp only [List.length_cons,List.length_append] at hN;have hb':=hB _ _ _ (by omega) hb ha;unfold stmtW;rw [isT_of t0,if_neg (by decide),isT_of t0,if_neg (by decide),isT_of t0,if_pos (by decide)];unfold whileP;rw [hc,bindP_ok,show i+1+us.length+2=i+1+1+us.length+1 by omega,hb',bindP_ok];simp only [List.length_cons,List.length_append]
   congr 2;omega
 | @«try» b us hb x t u hu c vs hc =>
   obtain⟨⟨_,k0,t0,_⟩,ha⟩:=ha;obtain⟨h1,⟨_,_,t1,_⟩,⟨_,_,t2,_⟩,ha⟩:=ha.append;have ht:=typedP_at hT hu ha;obtain⟨⟨_,_,t3,_⟩,ha⟩:=ha.skip3;simp only [List.length_cons,List.length_append] at hN;have hb':=hB _ _ _ (by omega) hb h1;have hc':=hB _ _ _ (by omega) hc ha;unfold stmtW;rw [isT_of t0,if_neg (by decide),isT_of t0,if_neg (by decide),isT_of t0,if_neg (by decide),isT_of t0,if_pos (by decide)];unfold tryP;rw [hb',bindP_ok,expectP_at t1,bindP_ok,expectP_at t2,bindP_ok,ht,bindP_ok,expectP_at (i:=i+1+us.length+1+1+3) t3,bindP_ok,show i+1+us.length+1+1+3+1=i+1+us.length+1+1+1+1+1+1 by omega,hc',bindP_ok];simp only [List.length_cons,List.length_append]
   congr 2;omega
 | @throw e us h =>
   obtain⟨⟨_,k0,t0,_⟩,ha⟩:=ha;obtain⟨e1,e2⟩:=semi_at hT h ha;unfold stmtW;rw [isT_of t0,if_neg (by decide),isT_of t0,if_neg (by decide),isT_of t0,if_neg (by decide),isT_of t0,if_neg (by decide),isT_of t0,if_pos (by decide)];unfold throwP;rw [e1,bindP_ok,e2,bindP_ok];simp only [List.length_cons,List.length_append,List.length_nil]
   congr 2;omega
 | return0 =>
   obtain⟨⟨_,k0,t0,_⟩,⟨_,_,t1,_⟩,_⟩:=ha;unfold stmtW;rw [isT_of t0,if_neg (by decide),isT_of t0,if_neg (by decide),isT_of t0,if_neg (by decide),isT_of t0,if_neg (by decide),isT_of t0,if_neg (by decide),isT_of t0,if_pos (by decide)];unfold returnP;rw [isT_of t1,if_pos (by decide)];rfl
 | @return1 e us h =>
   obtain⟨⟨_,k0,t0,_⟩,ha⟩:=ha;have hf:=FstL.nxt hT (h.fst.app _) ha;obtain⟨e1,e2⟩:=semi_at hT h ha;unfold stmtW;rw [isT_of t0,if_neg (by decide),isT_of t0,if_neg (by decide),isT_of t0,if_neg (by decide),isT_of t0,if_neg (by decide),isT_of t0,if_neg (by decide),isT_of t0,if_pos (by decide)];unfold returnP;rw [hf.get _ (by decide),if_neg (by decide),e1,bindP_ok,e2,bindP_ok];simp only [List.length_cons,List.length_append,List.length_nil]
   congr 2;omega
 | @call e us h =>
   have hf:=FstL.nxt hT ((h.fst _ (Nat.le_refl _)).app _) ha;obtain⟨h1,⟨_,_,t1,_⟩,_⟩:=ha.append;rw [stmt_simple (hf.sub (by decide))];unfold simpleP;rw [post_at hT h h1 (.of t1 (by decide)),bindP_ok,if_neg (fun h=>by cases h.1),if_neg (fun h=>by cases h.1),if_pos rfl,expectP_at t1,bindP_ok];simp only [List.length_append,List.length_cons,List.length_nil]
   congr 2
theorem stmts_good:∀ {l:List St} {us:List TT} (acc:List St) (n i:Nat),us.length≤N→us.length<n→GrSs l us→AtT ts i (us++[TT.mk [125]])→blockLoop ts (stmtW ts B) n acc i=.ok (acc++l,i+us.length+1):=by
 intro l
 induction l with
 | nil =>
   intro us acc n i _ hn h ha;cases h;obtain⟨n,rfl⟩:∃ m,n=m+1:=⟨n-1,by omega⟩;rw [blockLoop,isT_of ha.1.2.2.1,if_pos (by decide)];simp
 | cons s l ih =>
   intro us acc n i hN hn h ha;obtain⟨n,rfl⟩:∃ m,n=m+1:=⟨n-1,by omega⟩;cases h with
   | @cons _ us _ vs h h2 =>
     rw [List.append_assoc] at ha;obtain⟨h1,ha⟩:=ha.append;simp only [List.length_append] at hN hn;have hl:0<us.length:=List.length_pos_iff.2 h.ne;have hx:isT ts (i+us.length) [101,108,115,101]=false:=by
      cases h2 with
      | nil=>rw [isT_of ha.1.2.2.1];decide
      | @cons _ ws _ xs h3 h4 =>
        rw [List.append_assoc] at ha;have ha:=ha.append.1;cases h3 with
        | assign x h=>exact (Nxt.word hT (L:=[[101,108,115,101]]) (.inl ha.1.2.1) (by decide)).get _ (by decide)
        | store h m h2=>exact fst_else hT ((h.fst _ (Nat.le_refl _)).app _) ha
        | call h=>exact fst_else hT ((h.fst _ (Nat.le_refl _)).app _) ha
        | _=>rw [isT_of ha.1.2.2.1];decide
     rw [blockLoop,h.nxt hT h1,if_neg (by decide),stmt_good hT hB (by omega) h h1 hx,bindP_ok,ih _ _ _ (by omega) (by omega) h2 ha];simp only [List.append_assoc,List.cons_append,List.nil_append,List.length_append]
     congr 2;omega
theorem blockW_good:GoodB ts (N+1) (blockW ts (stmtW ts B)):=by
 intro l us i hN h ha;cases h with
 | @mk _ us h =>
   have hle:=ha.len;obtain⟨⟨_,_,t1,_⟩,ha⟩:=ha;simp only [List.length_cons,List.length_append,List.length_nil] at hN hle;unfold blockW;rw [expectP_at t1,bindP_ok,stmts_good hT hB _ _ _ (by omega) (by omega) h ha];simp only [List.nil_append,List.length_cons,List.length_append,List.length_nil]
   congr 2;omega
end
section
variable {ts:List Tok} (hT:TWR ts)
include hT
theorem blockP_good:∀ f,GoodB ts f (blockP ts f):=by
 intro f
 induction f with
 | zero=>intro e us i h;omega
 | succ f ih=>exact blockW_good hT ih
theorem block_at {l:List St}{us:List TT}{i:Nat}(h:GrB l us)(ha:AtT ts i us):blockT ts i=.ok (l,i+us.length):=blockP_good hT _ _ _ _ (by have:=ha.len;omega) h ha
end
end Lx
end
section
open Lx
namespace Lx
inductive GrFs:List Fld→List TT→Prop
 | nil:GrFs [] []
 | cons (x t:Bytes) {u:TT} (hu:GrT t u) {l:List Fld} {us:List TT} (h:GrFs l us):GrFs (⟨x,t⟩::l) (TT.kw [118,97,114]::TT.wd x::TT.mk [58]::u::TT.mk [59]::us)
/-- Parameters behind the first one, with the closing parenthesis. -/
inductive GrPs:List Fld→List TT→Prop
 | nil:GrPs [] [TT.mk [41]]
 | cons (x t:Bytes) {u:TT} (hu:GrT t u) {l:List Fld} {us:List TT} (h:GrPs l us):GrPs (⟨x,t⟩::l) (TT.mk [44]::TT.wd x::TT.mk [58]::u::us)
inductive GrPar:List Fld→List TT→Prop
 | nil:GrPar [] [TT.mk [41]]
 | cons (x t:Bytes) {u:TT} (hu:GrT t u) {l:List Fld} {us:List TT} (h:GrPs l us):GrPar (⟨x,t⟩::l) (TT.wd x::TT.mk [58]::u::us)
inductive GrR:Bytes→List TT→Prop
 | none:GrR [] []
 | some (t:Bytes) {u:TT} (hu:GrT t u):GrR t [TT.mk [58],u]
inductive GrD:Me→List TT→Prop
 | mk (n:Bytes) {ps:List Fld} {us:List TT} (hp:GrPar ps us) {r:Bytes} {vs:List TT} (hr:GrR r vs) {b:List St} {ws:List TT} (hb:GrB b ws):GrD ⟨n,false,ps,r,b⟩ (TT.kw [100,101,102]::TT.wd n::TT.mk [40]::(us++(vs++ws)))
inductive GrMe:Me→List TT→Prop
 | plain {m:Me} {us:List TT} (h:GrD m us):GrMe m us
 | static {n:Bytes} {ps:List Fld} {r:Bytes} {b:List St} {us:List TT} (h:GrD ⟨n,false,ps,r,b⟩ us):GrMe ⟨n,true,ps,r,b⟩ (TT.kw [115,116,97,116,105,99]::us)
inductive GrMs:List Me→List TT→Prop
 | nil:GrMs [] []
 | cons {m:Me} {us:List TT} {l:List Me} {vs:List TT} (h:GrMe m us) (h2:GrMs l vs):GrMs (m::l) (us++vs)
inductive GrSup:Bytes→List TT→Prop
 | none:GrSup [] []
 | some (s:Bytes):GrSup s [TT.kw [101,120,116,101,110,100,115],TT.wd s]
inductive GrC:Cl→List TT→Prop
 | mk (n:Bytes) {s:Bytes} {us:List TT} (hs:GrSup s us) {fs:List Fld} {vs:List TT} (hf:GrFs fs vs) {ms:List Me} {ws:List TT} (hm:GrMs ms ws):GrC ⟨n,s,fs,ms⟩ (TT.kw [99,108,97,115,115]::TT.wd n::(us++(TT.mk [123]::(vs++(ws++[TT.mk [125]])))))
inductive GrPr:List Cl→List TT→Prop
 | nil:GrPr [] []
 | cons {c:Cl} {us:List TT} {l:List Cl} {vs:List TT} (h:GrC c us) (h2:GrPr l vs):GrPr (c::l) (us++vs)
theorem GrB.fst {ts:List Tok}{l:List St}{us:List TT}{i:Nat}(h:GrB l us)(ha:AtT ts i us):(tk ts i).text=[123]:=by cases h with | mk h=>exact ha.1.2.2.1
theorem GrD.fst {ts:List Tok}{m:Me}{us:List TT}{i:Nat}(h:GrD m us)(ha:AtT ts i us):(tk ts i).text=[100,101,102]:=by cases h with | mk n hp hr hb=>exact ha.1.2.2.1
theorem GrMe.fst {ts:List Tok}{m:Me}{us:List TT}{i:Nat}(h:GrMe m us)(ha:AtT ts i us):(tk ts i).text=[100,101,102]∨(tk ts i).text=[115,116,97,116,105,99]:=by
 cases h with
 | plain h=>exact .inl (h.fst ha)
 | static h=>exact .inr ha.1.2.2.1
theorem GrC.fst {ts:List Tok}{m:Cl}{us:List TT}{i:Nat}(h:GrC m us)(ha:AtT ts i us):(tk ts i).text=[99,108,97,115,115]:=by cases h with | mk=>exact ha.1.2.2.1
theorem GrMe.pos {m:Me}{us:List TT}(h:GrMe m us):0<us.length:=by
 cases h with
 | plain h=>cases h;simp
 | static h=>simp
section
variable {ts:List Tok} (hT:TWR ts)
include hT
theorem fields_good:∀ {l:List Fld} {us:List TT} (acc:List Fld) (n i:Nat),us.length<n→GrFs l us→AtT ts i us→isT ts (i+us.length) [118,97,114]=false→fieldsLoop ts n acc i=.ok (acc++l,i+us.length):=by
 intro l
 induction l with
 | nil =>
   intro us acc n i hn h ha hx;cases h;obtain⟨n,rfl⟩:∃ m,n=m+1:=⟨n-1,by omega⟩;rw [fieldsLoop,show isT ts i [118,97,114]=false from hx,if_neg (by decide)];simp
 | cons f l ih =>
   intro us acc n i hn h ha hx;obtain⟨n,rfl⟩:∃ m,n=m+1:=⟨n-1,by omega⟩;cases h with
   | @cons x t u hu _ us h =>
     obtain⟨⟨_,_,t0,_⟩,ha⟩:=ha;have ht:=typedP_at hT hu ha;obtain⟨⟨_,_,t3,_⟩,ha⟩:=ha.skip3;simp only [List.length_cons] at hn hx ⊢;have hf:fieldP ts i=.ok (⟨x,t⟩,i+5):=by
      unfold fieldP;rw [expectP_at t0,bindP_ok,ht,bindP_ok,expectP_at (i:=i+1+3) t3,bindP_ok]
     rw [fieldsLoop,isT_of t0,if_pos (by decide),hf,bindP_ok,ih _ _ (i+5) (by omega) h ha (by rw [show i+5+us.length=i+(us.length+1+1+1+1+1) by omega];exact hx)];simp only [List.append_assoc,List.cons_append,List.nil_append]
     congr 2;omega
theorem params_good:∀ {l:List Fld} {us:List TT} (acc:List Fld) (n i:Nat),us.length<n→GrPs l us→AtT ts i us→paramsLoop ts n acc i=.ok (acc++l,i+us.length):=by
 intro l
 induction l with
 | nil =>
   intro us acc n i hn h ha;cases h;obtain⟨n,rfl⟩:∃ m,n=m+1:=⟨n-1,by omega⟩;obtain⟨⟨_,_,t0,_⟩,_⟩:=ha;rw [paramsLoop,isT_of t0,if_neg (by decide),expectP_at t0,bindP_ok];simp
 | cons f l ih =>
   intro us acc n i hn h ha;obtain⟨n,rfl⟩:∃ m,n=m+1:=⟨n-1,by omega⟩;cases h with
   | @cons x t u hu _ us h =>
     obtain⟨⟨_,_,t0,_⟩,ha⟩:=ha;have ht:=typedP_at hT hu ha;have ha:=ha.skip3;simp only [List.length_cons] at hn ⊢;rw [paramsLoop,isT_of t0,if_pos (by decide),ht,bindP_ok,ih _ _ (i+1+3) (by omega) h ha];simp only [List.append_assoc,List.cons_append,List.nil_append]
     congr 2;omega
theorem par_at {l:List Fld}{us:List TT}{i:Nat}(h:GrPar l us)(ha:AtT ts i us):paramsP ts i=.ok (l,i+us.length):=by
 unfold paramsP;cases h with
 | nil =>
   obtain⟨⟨_,_,t0,_⟩,_⟩:=ha;rw [isT_of t0,if_pos (by decide)];rfl
 | @cons x t u hu l us h =>
   have hl:=ha.len;have ht:=typedP_at hT hu ha;rw [(Nxt.word hT (L:=[[41]]) (.inl ha.1.2.1) (by decide)).get _ (by decide),if_neg (by decide),ht,bindP_ok];simp only [List.length_cons] at hl ⊢;rw [params_good hT _ _ (i+3) (by omega) h ha.skip3];simp only [List.cons_append,List.nil_append]
   congr 2;omega
theorem result_at {r:Bytes}{us:List TT}{i:Nat}(h:GrR r us)(ha:AtT ts i us)(hx:isT ts (i+us.length) [58]=false):resultP ts i=.ok (r,i+us.length):=by
 unfold resultP;cases h with
 | none=>rw [show isT ts i [58]=false from hx,if_neg (by decide)];rfl
 | some t hu =>
   obtain⟨⟨_,_,t0,_⟩,ha⟩:=ha;obtain⟨⟨_,k1,t1,_⟩,_⟩:=AtT.cons.1 ha;rw [isT_of t0,if_pos (by decide),typP_at hT hu k1 t1];rfl
theorem def_at {m:Me}{us:List TT}{i:Nat}(h:GrD m us)(ha:AtT ts i us):(bindP (expectP ts [100,101,102] i) fun _ j=>bindP (nameP ts j) fun n j=>bindP (expectP ts [40] j) fun _ j=>bindP (paramsP ts j) fun ps j=>bindP (resultP ts j) fun r j=>bindP (blockT ts j) fun b j=>(.ok ((n,ps,r,b),j):PR (Bytes×List Fld×Bytes×List St)))=.ok ((m.name,m.params,m.result,m.body),i+us.length):=by
 cases h with
 | @mk n ps us hp r vs hr b ws hb =>
   obtain⟨⟨_,_,t0,_⟩,⟨_,k1,t1,_⟩,⟨_,_,t2,_⟩,ha⟩:=ha;obtain⟨h1,ha⟩:=ha.append;obtain⟨h2,h3⟩:=ha.append;have hx:=isT_of (hb.fst h3) [58];rw [expectP_at t0,bindP_ok,nameP_at k1 t1,bindP_ok,expectP_at t2,bindP_ok,par_at hT hp h1,bindP_ok,result_at hT hr h2 (by rw [hx];decide),bindP_ok,block_at hT hb h3,bindP_ok];simp only [List.length_cons,List.length_append]
   congr 2;omega
omit hT in
theorem bindP_map {α β γ:Type}{r:PR α}{k:α→Nat→PR β}{f:β→γ}:bindP (bindP r k) (fun b j=>(.ok (f b,j):PR γ))=bindP r fun a j=>bindP (k a j) fun b j=>.ok (f b,j):=by
 cases r with
 | error q=>rfl
 | ok x=>rfl
theorem method_at {m:Me}{us:List TT}{i:Nat}(h:GrMe m us)(ha:AtT ts i us):methodP ts i=.ok (m,i+us.length):=by
 unfold methodP;cases h with
 | plain h =>
   have t0:=h.fst ha;have hd:=def_at hT h ha;have e:=congrArg (fun r=>bindP r fun x j=>(.ok ((⟨x.1,false,x.2.1,x.2.2.1,x.2.2.2⟩:Me),j):PR Me)) hd;simp only [bindP_map,bindP_ok] at e;have hs:isT ts i [115,116,97,116,105,99]=false:=by rw [isT_of t0];decide
   simp only [hs];cases h;exact e
 | static h =>
   obtain⟨⟨_,_,t0,_⟩,ha⟩:=ha;have hd:=def_at hT h ha;have e:=congrArg (fun r=>bindP r fun x j=>(.ok ((⟨x.1,true,x.2.1,x.2.2.1,x.2.2.2⟩:Me),j):PR Me)) hd;simp only [bindP_map,bindP_ok] at e;have hs:isT ts i [115,116,97,116,105,99]=true:=by rw [isT_of t0];decide
   simp only [hs,if_true];rw [e];simp only [List.length_cons]
   congr 2;omega
theorem methods_good:∀ {l:List Me} {us:List TT} (acc:List Me) (n i:Nat),us.length<n→GrMs l us→AtT ts i us→isT ts (i+us.length) [115,116,97,116,105,99]=false→isT ts (i+us.length) [100,101,102]=false→methodsLoop ts n acc i=.ok (acc++l,i+us.length):=by
 intro l
 induction l with
 | nil =>
   intro us acc n i hn h ha hx hy;cases h;obtain⟨n,rfl⟩:∃ m,n=m+1:=⟨n-1,by omega⟩;rw [methodsLoop,show isT ts i [115,116,97,116,105,99]=false from hx,show isT ts i [100,101,102]=false from hy,if_neg (by decide)];simp
 | cons m l ih =>
   intro us acc n i hn h ha hx hy;obtain⟨n,rfl⟩:∃ m,n=m+1:=⟨n-1,by omega⟩;cases h with
   | @cons _ us _ vs h h2 =>
     obtain⟨h1,ha⟩:=ha.append;have hp:=h.pos;have hb:(isT ts i [115,116,97,116,105,99] || isT ts i [100,101,102])=true:=by
      rcases h.fst h1 with t | t <;> rw [isT_of t,isT_of t] <;> decide
     simp only [List.length_append] at hn hx hy ⊢;rw [← Nat.add_assoc] at hx hy;rw [methodsLoop,hb,if_pos rfl,method_at hT h h1,bindP_ok,ih _ _ _ (by omega) h2 ha hx hy];simp only [List.append_assoc,List.cons_append,List.nil_append,Nat.add_assoc]
theorem super_at {s:Bytes}{us:List TT}{i:Nat}(h:GrSup s us)(ha:AtT ts i us)(hx:isT ts (i+us.length) [101,120,116,101,110,100,115]=false):superP ts i=.ok (s,i+us.length):=by
 unfold superP;cases h with
 | none=>rw [show isT ts i [101,120,116,101,110,100,115]=false from hx,if_neg (by decide)];rfl
 | some s =>
   obtain⟨⟨_,_,t0,_⟩,⟨_,k1,t1,_⟩,_⟩:=ha;rw [isT_of t0,if_pos (by decide),nameP_at k1 t1];rfl
theorem class_at {c:Cl}{us:List TT}{i:Nat}(h:GrC c us)(ha:AtT ts i us):classP ts i=.ok (c,i+us.length):=by
 have hle:=ha.len;cases h with
 | @mk n s us hs fs vs hf ms ws hm =>
   obtain⟨⟨_,_,t0,_⟩,⟨_,k1,t1,_⟩,ha⟩:=ha;obtain⟨h1,⟨_,_,t2,_⟩,ha⟩:=ha.append;obtain⟨h2,ha⟩:=ha.append;obtain⟨h3,⟨_,_,t4,_⟩,_⟩:=ha.append;simp only [List.length_cons,List.length_append,List.length_nil] at hle;have hv:isT ts (i+1+1+us.length+1+vs.length) [118,97,114]=false:=by
    cases hm with
    | nil=>rw [isT_of (by exact t4:(tk ts (i+1+1+us.length+1+vs.length)).text=[125])];decide
    | cons h h'=>rcases h.fst h3.append.1 with t | t <;> rw [isT_of t] <;> decide
   unfold classP;rw [expectP_at t0,bindP_ok,nameP_at k1 t1,bindP_ok,super_at hT hs h1 (by rw [isT_of t2];decide),bindP_ok,expectP_at t2,bindP_ok,fields_good hT _ _ _ (by omega) hf h2 hv,bindP_ok,
    methods_good hT _ _ _ (by omega) hm h3 (by rw [isT_of t4];decide) (by rw [isT_of t4];decide),bindP_ok,expectP_at t4,bindP_ok]
   simp only [List.nil_append,List.length_cons,List.length_append,List.length_nil]
   congr 2;omega
theorem classes_good:∀ {l:List Cl} {us:List TT} (acc:List Cl) (n i:Nat),us.length<n→GrPr l us→AtT ts i us→isT ts (i+us.length) [99,108,97,115,115]=false→classesLoop ts n acc i=.ok (acc++l,i+us.length):=by
 intro l
 induction l with
 | nil =>
   intro us acc n i hn h ha hx;cases h;obtain⟨n,rfl⟩:∃ m,n=m+1:=⟨n-1,by omega⟩;rw [classesLoop,show isT ts i [99,108,97,115,115]=false from hx,if_neg (by decide)];simp
 | cons m l ih =>
   intro us acc n i hn h ha hx;obtain⟨n,rfl⟩:∃ m,n=m+1:=⟨n-1,by omega⟩;cases h with
   | @cons _ us _ vs h h2 =>
     obtain⟨h1,ha⟩:=ha.append;have hp:0<us.length:=by cases h;simp
     simp only [List.length_append] at hn hx ⊢;rw [← Nat.add_assoc] at hx;rw [classesLoop,isT_of (h.fst h1),if_pos (by decide),class_at hT h h1,bindP_ok,ih _ _ _ (by omega) h2 ha hx];simp only [List.append_assoc,List.cons_append,List.nil_append,Nat.add_assoc]
/-- A program that the grammar writes is read as itself. -/
theorem program_at {l:List Cl}{us:List TT}(h:GrPr l us)(ha:AtT ts 0 us)(hx:(tk ts us.length).text=[]):programP ts 0=.ok (l,us.length):=by
 have:=classes_good hT [] (ts.length+1) 0 (by have:=ha.len;omega) h ha (by rw [Nat.zero_add,isT_of hx];decide);simpa [programP] using this
end
end Lx
end
section
open Lx
namespace Lx
/-- Marks that no next byte lengthens. -/
def soloList:List Bytes:=[[58,58],[61,61],[123],[125],[40],[41],[59],[44],[46],[60],[43],[45],[42]]
/-- The text reads as these tokens. -/
inductive LxT:Bytes→List TT→Prop
 | nil:LxT [] []
 | sep {c:UInt8} {l:Bytes} {us:List TT} (hc:isSep c=true) (h:LxT l us):LxT (c::l) us
 | tok {u:TT} {c:UInt8} {t l:Bytes} {us:List TT} (ht:u.text=c::t) (hs:isSep c=false) (h47:c.toNat≠47) (ho:oneTok (u.text++l)=.ok u.kind u.text.length u.n) (h:LxT l us):LxT (u.text++l) (u::us)
theorem spanOf_app {p:UInt8→Bool}:∀ {x l:Bytes},x.all p=true→(∀ c t,l=c::t→p c=false)→spanOf p (x++l)=x.length
 | [],[],_,_=>rfl
 | [],c::t,_,h=>by simp [spanOf,h c t rfl]
 | c::x,l,hx,h=>by
   simp only [List.all_cons,Bool.and_eq_true] at hx;simp [spanOf,hx.1,spanOf_app hx.2 h]
theorem next_part {l:Bytes}(h:nextPart l=false):∀ c t,l=c::t→isPart c=false:=by rintro c t rfl;exact h
theorem letter_ne {c:UInt8}(h:isLetter c=true):isSep c=false∧c.toNat≠47:=by
 simp only [isLetter,decide_eq_true_eq] at h;simp only [isSep,decide_eq_false_iff_not];omega
theorem digit_ne {c:UInt8}(h:isDigit c=true):isSep c=false∧c.toNat≠47∧isLetter c=false:=by
 simp only [isDigit,decide_eq_true_eq] at h;simp only [isSep,isLetter,decide_eq_false_iff_not];omega
theorem wordTok_app {x l:Bytes}{c:UInt8}{t:Bytes}(hx:x=c::t)(hc:isLetter c=true)(ha:x.all isPart=true)(hl:t.length<32)(hn:nextPart l=false):oneTok (x++l)=.ok (if isKeyword x then 2 else 1) x.length 0:=by
 have hs:=spanOf_app ha (next_part hn);subst hx
 show (if isLetter c then wordTok (c::(t++l)) else _)=_
 rw [if_pos hc];unfold wordTok;rw [← List.cons_append,hs,if_neg (by simp;omega),List.take_left]
theorem isIdent_parts {x:Bytes}(h:isIdent x=true):∃ c t,x=c::t∧isLetter c=true∧x.all isPart=true∧t.length<32∧isKeyword x=false:=by
 cases x with
 | nil=>simp [isIdent] at h
 | cons c t =>
   simp only [isIdent,Bool.and_eq_true,decide_eq_true_eq,Bool.not_eq_true'] at h;exact⟨c,t,rfl,h.1.1.2,h.1.2,h.1.1.1,h.2⟩
theorem LxT.word {x l:Bytes}{us:List TT}(hx:isIdent x=true)(hn:nextPart l=false)(h:LxT l us):LxT (x++l) (TT.wd x::us):=by
 obtain⟨c,t,rfl,h1,h2,h3,h4⟩:=isIdent_parts hx;refine .tok (u:=.wd (c::t)) rfl (letter_ne h1).1 (letter_ne h1).2 ?_ h;have:=wordTok_app rfl h1 h2 h3 hn;rw [h4] at this;exact this
theorem LxT.key {x l:Bytes}{us:List TT}(hx:x∈kwList)(hn:nextPart l=false)(h:LxT l us):LxT (x++l) (TT.kw x::us):=by
 have key:∀ k∈kwList,∃ c t,k=c::t∧isLetter c=true∧k.all isPart=true∧t.length<32∧isKeyword k=true:=by
  intro k hk;simp only [kwList,List.mem_cons,List.not_mem_nil,or_false] at hk;rcases hk with rfl | rfl | rfl | rfl | rfl | rfl | rfl | rfl | rfl | rfl | rfl | rfl | rfl | rfl | rfl | rfl | rfl <;> exact⟨_,_,rfl,by decide,by decide,by decide,by decide⟩
 obtain⟨c,t,rfl,h1,h2,h3,h4⟩:=key x hx;refine .tok (u:=.kw (c::t)) rfl (letter_ne h1).1 (letter_ne h1).2 ?_ h;have:=wordTok_app rfl h1 h2 h3 hn;rw [h4] at this;exact this
/-- The text of a number. -/
def NumText (x:Bytes)(n:Nat):Prop:=x≠[]∧x.all isDigit=true∧(x.head?=some 48→x.length=1)∧numVal x=n∧n<9223372036854775808
theorem LxT.num {x l:Bytes}{n:Nat}{us:List TT}(hx:NumText x n)(hn:nextPart l=false)(h:LxT l us):LxT (x++l) (TT.nu x n::us):=by
 obtain⟨h0,h1,h2,h3,h4⟩:=hx;cases x with
 | nil=>exact absurd rfl h0
 | cons c t =>
   have hc:isDigit c=true:=by simp only [List.all_cons,Bool.and_eq_true] at h1;exact h1.1
   obtain⟨d1,d2,d3⟩:=digit_ne hc;have hs:spanOf isDigit ((c::t)++l)=(c::t).length:=spanOf_app h1 fun d r e=>by
    have:=next_part hn d r e;simp only [isPart,Bool.or_eq_false_iff] at this;exact this.1.2
   refine .tok (u:=.nu (c::t) n) rfl d1 d2 ?_ h
   show oneTok (c::(t++l))=.ok 3 (c::t).length n
   unfold oneTok;simp only [d3,hc,if_true,Bool.false_eq_true,if_false];rw [← List.cons_append];unfold numTok numBad;rw [hs,List.drop_left,List.take_left,hn,h3];have hb:(decide (((c::t)++l).head?=some 48) && decide (1<(c::t).length))=false:=by
    rw [Bool.and_eq_false_iff,decide_eq_false_iff_not,decide_eq_false_iff_not]
    by_cases e:c=48
    ·have:=h2 (by simp [e]);right;omega
    ·left;simp [e]
   rw [hb,if_neg (by decide),if_neg (by omega)]
theorem mark_len {x:Bytes}(hx:x∈soloList)(l:Bytes):∃ c t,x=c::t∧isSep c=false∧c.toNat≠47∧oneTok (x++l)=.ok 4 x.length 0:=by
 simp only [soloList,List.mem_cons,List.not_mem_nil,or_false] at hx;rcases hx with rfl | rfl | rfl | rfl | rfl | rfl | rfl | rfl | rfl | rfl | rfl | rfl | rfl <;>
  exact⟨_,_,rfl,by decide,by decide,by simp [oneTok,isLetter,isDigit,markTok,markLen,markList,List.find?,List.isPrefixOf]⟩
theorem LxT.mark {x l:Bytes}{us:List TT}(hx:x∈soloList)(h:LxT l us):LxT (x++l) (TT.mk x::us):=by
 obtain⟨c,t,h1,h2,h3,h4⟩:=mark_len hx l;exact .tok (u:=.mk x) h1 h2 h3 h4 h
/-- A colon or an equals sign, with a separator behind it. -/
theorem LxT.markSep {x l:Bytes}{c:UInt8}{us:List TT}(hx:x=[58]∨x=[61])(hc:isSep c=true)(h:LxT l us):LxT (x++(c::l)) (TT.mk x::us):=by
 have h1:c≠58:=by rintro rfl;revert hc;decide
 have h2:c≠61:=by rintro rfl;revert hc;decide
 have h3:(58 == c)=false:=by simp [Ne.symm h1]
 have h4:(61 == c)=false:=by simp [Ne.symm h2]
 rcases hx with rfl | rfl <;> refine .tok (u:=.mk _) rfl (by decide) (by decide) ?_ (.sep hc h)
 ·show oneTok (58::c::l)=.ok 4 1 0
  simp [oneTok,isLetter,isDigit,markTok,markLen,markList,List.find?,List.isPrefixOf,h3]
 ·show oneTok (61::c::l)=.ok 4 1 0
  simp [oneTok,isLetter,isDigit,markTok,markLen,markList,List.find?,List.isPrefixOf,h4]
theorem LxT.len {l:Bytes}{us:List TT}(h:LxT l us):us.length≤l.length:=by
 induction h with
 | nil=>simp
 | sep hc h ih=>simp;omega
 | tok ht hs h47 ho h ih=>rw [List.length_append,ht];simp;omega
/-- The lexer on such a text. -/
theorem LxT.lex {l:Bytes}{us:List TT}(h:LxT l us):∀ p,∃ ts q,lexAt false p l=.ok (ts++[⟨5,q,[],0⟩])∧ts.length=us.length∧∀ i (a:i<ts.length) (b:i<us.length),ts[i].kind=us[i].kind∧ts[i].text=us[i].text∧ts[i].n=us[i].n:=by
 induction h with
 | nil=>intro p;exact⟨[],p,lexAt_nil _ _,rfl,fun i a=>by simp at a⟩
 | sep hc h ih =>
   intro p;obtain⟨ts,q,h1,h2,h3⟩:=ih (p+1);exact⟨ts,q,by rw [lexAt_sep hc,h1],h2,h3⟩
 | @tok u c t l us ht hs h47 ho h ih =>
   intro p;obtain⟨ts,q,h1,h2,h3⟩:=ih (p+u.text.length);refine⟨⟨u.kind,p,u.text,u.n⟩::ts,q,?_,by simp [h2],fun i a b=>?_⟩
   ·have e:u.text++l=c::(t++l):=by rw [ht];rfl
    have hop:opens c (t++l)=false:=by simp [opens,h47]
    rw [e] at ho ⊢;rw [lexAt_ok hs hop ho];rw [← e,List.drop_left,List.take_left,h1];rfl
   ·cases i with
    | zero=>exact⟨rfl,rfl,rfl⟩
    | succ i=>exact h3 i (by simpa using a) (by simpa using b)
theorem atT_of {ts:List Tok}:∀ {us:List TT} {i:Nat},(∀ k (_:k<us.length),i+k<ts.length∧(tk ts (i+k)).kind=us[k].kind∧(tk ts (i+k)).text=us[k].text∧(tk ts (i+k)).n=us[k].n)→AtT ts i us
 | [],_,_=>trivial
 | u::us,i,h=>AtT.cons.2 ⟨h 0 (by simp),atT_of fun k hk=>by
   have:=h (k+1) (by simp;omega);rw [show i+(k+1)=i+1+k by omega] at this;exact this⟩
theorem LxT.toks {l:Bytes}{us:List TT}(h:LxT l us)(hl:l.length≤65536):∃ ts,tokensOf l=.ok ts∧AtT ts 0 us∧(tk ts us.length).kind=5∧(tk ts us.length).text=[]:=by
 obtain⟨ts,q,h1,h2,h3⟩:=h.lex 0;refine⟨ts++[⟨5,q,[],0⟩],by unfold tokensOf;rw [if_neg (by omega),h1],atT_of fun k hk=>?_,?_,?_⟩
 ·have hk2:k<ts.length:=by omega
  have e:tk (ts++[⟨5,q,[],0⟩]) (0+k)=ts[k]:=by
   unfold tk;rw [Nat.zero_add,List.getD_eq_getElem?_getD,List.getElem?_append_left hk2,List.getElem?_eq_getElem hk2];rfl
  exact⟨by simp;omega,by rw [e];exact (h3 k hk2 hk).1,by rw [e];exact (h3 k hk2 hk).2.1,by rw [e];exact (h3 k hk2 hk).2.2⟩
 ·rw [← h2];simp [tk]
 ·rw [← h2];simp [tk]
/-- A text that the grammar writes is read as the program. -/
theorem program_back {l:Bytes}{us:List TT}{c:List Cl}(h:LxT l us)(hg:GrPr c us)(hl:l.length≤65536)(h0:sourceLim c=0):programR l=.ok c:=by
 obtain⟨ts,h1,h2,h3,h4⟩:=h.toks hl;have:=program_at (twr_of h1) hg h2 h4;unfold programR readR;rw [h1];simp only;rw [this];simp only;rw [if_pos h3];simp only;rw [if_neg (by simp [h0])]
end Lx
end
section
open Ax
theorem ti_int:ti Tryz.prog 3=some ⟨.int .i64,1,.int .i64 0,8⟩:=by kernel_rfl
theorem ti_i64:ti Tryz.prog 2=some ⟨.int .i64,1,.int .i64 0,8⟩:=by kernel_rfl
theorem ti_str:ti Tryz.prog 9=some ⟨.string,1,.string ⟨#[]⟩,16⟩:=by kernel_rfl
theorem ti_bool:ti Tryz.prog 4=some ⟨.bool,1,.bool false,1⟩:=by kernel_rfl
theorem ti_u8:ti Tryz.prog 5=some ⟨.int .u8,1,.int .u8 0,1⟩:=by kernel_rfl
theorem ti_Bys:ti Tryz.prog 44=some ⟨.slice 5,1,.slice none 0 0,24⟩:=by kernel_rfl
theorem ti_Exs:ti Tryz.prog 22=some ⟨.slice 24,1,.slice none 0 0,24⟩:=by kernel_rfl
theorem ti_Ex:ti Tryz.prog 24=some ⟨.struct #[⟨ "Kind",3,0,false, "", "",0⟩,⟨ "N",2,1,false, "", "",8⟩,⟨ "Of",9,2,false, "", "",16⟩,⟨ "Name",9,3,false, "", "",32⟩,⟨ "Kids",22,4,false, "", "",48⟩],5,.agg #[.int .i64 0,.int .i64 0,.string ⟨#[]⟩,.string ⟨#[]⟩,.slice none 0 0],72⟩:=by kernel_rfl
theorem ti_Sts:ti Tryz.prog 92=some ⟨.slice 109,1,.slice none 0 0,24⟩:=by kernel_rfl
theorem ti_St:ti Tryz.prog 109=some ⟨.struct #[⟨ "Kind",3,0,false, "", "",0⟩,⟨ "Name",9,1,false, "", "",8⟩,⟨ "Type",9,2,false, "", "",24⟩,⟨ "Exprs",22,3,false, "", "",40⟩,⟨ "Body",92,4,false, "", "",64⟩,⟨ "Else",92,5,false, "", "",88⟩],6,.agg #[.int .i64 0,.string ⟨#[]⟩,.string ⟨#[]⟩,.slice none 0 0,.slice none 0 0,.slice none 0 0],112⟩:=by kernel_rfl
theorem ti_Flds:ti Tryz.prog 55=some ⟨.slice 98,1,.slice none 0 0,24⟩:=by kernel_rfl
theorem ti_Fld:ti Tryz.prog 98=some ⟨.struct #[⟨ "Name",9,0,false, "", "",0⟩,⟨ "Type",9,1,false, "", "",16⟩],2,.agg #[.string ⟨#[]⟩,.string ⟨#[]⟩],32⟩:=by kernel_rfl
theorem ti_Mes:ti Tryz.prog 56=some ⟨.slice 94,1,.slice none 0 0,24⟩:=by kernel_rfl
theorem ti_Me:ti Tryz.prog 94=some ⟨.struct #[⟨ "Name",9,0,false, "", "",0⟩,⟨ "Static",4,1,false, "", "",16⟩,⟨ "Params",55,2,false, "", "",24⟩,⟨ "Result",9,3,false, "", "",48⟩,⟨ "Body",92,4,false, "", "",64⟩],5,.agg #[.string ⟨#[]⟩,.bool false,.slice none 0 0,.string ⟨#[]⟩,.slice none 0 0],88⟩:=by kernel_rfl
theorem ti_Cls:ti Tryz.prog 33=some ⟨.slice 58,1,.slice none 0 0,24⟩:=by kernel_rfl
theorem ti_Cl:ti Tryz.prog 58=some ⟨.struct #[⟨ "Name",9,0,false, "", "",0⟩,⟨ "Super",9,1,false, "", "",16⟩,⟨ "Fields",55,2,false, "", "",32⟩,⟨ "Methods",56,3,false, "", "",56⟩],4,.agg #[.string ⟨#[]⟩,.string ⟨#[]⟩,.slice none 0 0,.slice none 0 0],80⟩:=by kernel_rfl
theorem ti_So:ti Tryz.prog 35=some ⟨.struct #[⟨ "Classes",33,0,false, "", "",0⟩],1,.agg #[.slice none 0 0],24⟩:=by kernel_rfl
theorem ti_Strs:ti Tryz.prog 79=some ⟨.slice 9,1,.slice none 0 0,24⟩:=by kernel_rfl
theorem ti_Bld:ti Tryz.prog 46=some ⟨.struct #[⟨ "text",44,0,false, "", "dataflow/format",0⟩],1,.agg #[.slice none 0 0],24⟩:=by kernel_rfl
theorem ti_Prn:ti Tryz.prog 48=some ⟨.struct #[⟨ "builder",46,0,true, "", "dataflow/format",0⟩],1,.agg #[.slice none 0 0],24⟩:=by kernel_rfl
theorem ti_OpA:ti Tryz.prog 73=some ⟨.array 5 9,5,.agg #[.string ⟨#[]⟩,.string ⟨#[]⟩,.string ⟨#[]⟩,.string ⟨#[]⟩,.string ⟨#[]⟩],80⟩:=by kernel_rfl
end
end Go.Proofs.YtmlafcimjhnhhaaGreatDoor
