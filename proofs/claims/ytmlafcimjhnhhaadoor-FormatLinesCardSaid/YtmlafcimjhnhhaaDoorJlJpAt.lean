/-
  Plain Lean: the reference's parser as steps of a state (an index, and whether a token did not fit), over the rules of ParSpec.
-/
import Derived.Test.YtmlafcimjhnhhaaDoorJlJpAo
import Derived.Test.YtmlafcimjhnhhaaDoorJlOldAx
import Derived.Test.YtmlafcimjhnhhaaDoorJlJpAn
import Derived.Lib.ItoaNum
import Derived.Test.YtmlafcimjhnhhaaDoorJlJpAj
import Derived.Test.YtmlafcimjhnhhaaDoorJlJpAr
import Derived.Test.YtmlafcimjhnhhaaDoorJlLaid
set_option linter.unusedSectionVars false
set_option linter.unusedSimpArgs false
set_option linter.unnecessarySimpa false
set_option linter.unusedVariables false
namespace Go.Proofs.YtmlafcimjhnhhaaDoor
section
namespace Lx
/-- The reference's parser: the index of the next token; whether one did not fit. -/
structure RS where
 i:Nat
 bad:Bool
/-- A rule takes the state σ to σ' with the value x (any value, if a token does not fit). -/
def Stp {α:Type}(spec:Nat→PR α)(σ:RS)(x:α)(σ':RS):Prop :=
 (σ.bad=true∧σ'=σ)∨(σ.bad=false∧match spec σ.i with
  | .ok (a,j)=>x=a∧σ'=⟨j,false⟩
  | .error q=>σ'=⟨q,true⟩)
section
variable {α β γ:Type} {σ σ1 σ2:RS} {ts:List Tok}
theorem Stp.pure (a:α)(σ:RS):Stp (fun i=>.ok (a,i)) σ a σ:=by
 obtain⟨i,b⟩:=σ;cases b
 ·exact .inr ⟨rfl,rfl,rfl⟩
 ·exact .inl ⟨rfl,rfl⟩
theorem Stp.bind {s:Nat→PR α}{k:α→Nat→PR β}{x:α}{y:β}(h1:Stp s σ x σ1)(h2:Stp (k x) σ1 y σ2):Stp (fun i=>bindP (s i) k) σ y σ2:=by
 rcases h1 with⟨hb,rfl⟩ | ⟨hb,h1⟩
 ·rcases h2 with⟨_,rfl⟩ | ⟨hb',_⟩
  ·exact .inl ⟨hb,rfl⟩
  ·rw [hb] at hb';cases hb'
 ·refine .inr ⟨hb,?_⟩
  show match bindP (s σ.i) k with
   | .ok (a,j)=>y=a∧σ2=⟨j,false⟩
   | .error q=>σ2=⟨q,true⟩
  cases hs:s σ.i with
  | error q =>
    rw [hs] at h1;subst h1;rcases h2 with⟨_,rfl⟩ | ⟨hb',_⟩
    ·rfl
    ·cases hb'
  | ok p =>
    obtain⟨a,j⟩:=p;rw [hs] at h1;obtain⟨rfl,rfl⟩:=h1;rcases h2 with⟨hb',_⟩ | ⟨_,h2⟩
    ·cases hb'
    ·exact h2
theorem Stp.map {s:Nat→PR α}{f:α→β}{x:α}(h:Stp s σ x σ1):Stp (fun i=>bindP (s i) fun a j=>.ok (f a,j)) σ (f x) σ1:=h.bind (Stp.pure _ _)
theorem Stp.cond {s t:Nat→PR α}{x:α}(h:Stp s σ x σ1)(he:σ.bad=false→t σ.i=s σ.i):Stp t σ x σ1:=by
 rcases h with h | ⟨hb,h⟩
 ·exact .inl h
 ·exact .inr ⟨hb,by rw [he hb];exact h⟩
end
/-! parentheses that close -/
def opB (ts:List Tok)(i:Nat):Bool:=isT ts i [40]
def clB (ts:List Tok)(i:Nat):Bool:=isT ts i [41]
/-- Whether, n parentheses being open, the last of them closes at the last of m tokens from i on. -/
def closeF (ts:List Tok):Nat→Nat→Nat→Bool
 | 0,_,_=>false
 | m+1,n,i=>if opB ts i then closeF ts m (n+1) (i+1) else if clB ts i then (if n≤1 then m == 0 else closeF ts m (n-1) (i+1)) else closeF ts m n (i+1)
def BalI (ts:List Tok)(i j:Nat):Prop:=i≤j∧∀ n m,0<n→closeF ts (j-i+m) n i=closeF ts m n j
section
variable {ts:List Tok}
theorem BalI.refl (i:Nat):BalI ts i i:=⟨Nat.le_refl _,fun n m _=>by rw [Nat.sub_self,Nat.zero_add]⟩
theorem BalI.trans {i j k:Nat}(h:BalI ts i j)(h':BalI ts j k):BalI ts i k:=⟨Nat.le_trans h.1 h'.1,fun n m hn=>by
 have h1:=h.1;have h2:=h'.1;rw [show k-i+m=j-i+(k-j+m) by omega,h.2 _ _ hn,h'.2 _ _ hn]⟩
theorem BalI.one {i:Nat}(h1:opB ts i=false)(h2:clB ts i=false):BalI ts i (i+1):=⟨by omega,fun n m hn=>by
 rw [show i+1-i+m=m+1 by omega,closeF,h1,h2];rfl⟩
theorem BalI.step {i j:Nat}(h1:opB ts i=false)(h2:clB ts i=false)(h:BalI ts (i+1) j):BalI ts i j:=(BalI.one h1 h2).trans h
theorem cl_op {i:Nat}(h:clB ts i=true):opB ts i=false:=by
 unfold clB isT at h;unfold opB isT;rw [eq_of_beq h];rfl
theorem BalI.paren {i j:Nat}(h1:opB ts i=true)(h:BalI ts (i+1) j)(h2:clB ts j=true):BalI ts i (j+1):=⟨by have:=h.1;omega,fun n m hn=>by
 have h0:=h.1;rw [show j+1-i+m=(j-(i+1)+(m+1))+1 by omega,closeF,h1,if_pos rfl,h.2 _ _ (by omega),closeF,cl_op h2,h2,if_neg (by simp),if_pos rfl,if_neg (by omega)];rfl⟩
/-- Words and numbers are no marks; keywords and marks have their kinds. -/
structure KT (ts:List Tok):Prop where
 word:∀ i,(tk ts i).kind=1∨(tk ts i).kind=3→opB ts i=false∧clB ts i=false
variable {E:Nat→PR Ex} (hK:KT ts) (hE:∀ i r j,E i=.ok (r,j)→BalI ts i j)
include hE
omit hE in
include hK in
include hK
end
end Lx
end
section
open Lx Ax Go.RowKit
mutual
theorem puE:∀ e:Ex,puL (cvE e)=true
 | .mk k n o m ks=>by rw [cvE_mk];simp [puL,puV,puEs ks]
theorem puEs:∀ l:List Ex,puR (l.map cvE)=true
 | []=>rfl
 | e::l=>by simp [puR,puE e,puEs l]
end
mutual
theorem puS:∀ s:St,puL (cvS s)=true
 | .mk k nm ty es b el=>by rw [cvS_mk];simp [puL,puV,puEs es,puSs b,puSs el]
theorem puSs:∀ l:List St,puR (l.map cvS)=true
 | []=>rfl
 | e::l=>by simp [puR,puS e,puSs l]
end
theorem puRm {α:Type}{cv:α→List CV}(h:∀ a,puL (cv a)=true)(l:List α):puR (l.map cv)=true:=by
 induction l with
 | nil=>rfl
 | cons a l ih=>simp [puR,h a,ih]
theorem puF (f:Fld):puL (cvF f)=true:=rfl
theorem puM (m:Me):puL (cvM m)=true:=by simp [cvM,puL,puV,puRm puF,puSs]
theorem puC (c:Cl):puL (cvC c)=true:=by simp [cvC,puL,puV,puRm puF,puRm puM]
theorem cvE_eq (e:Ex):cvE e=[.int .i64 e.kind,.int .i64 e.n,.str e.of,.str e.name,.lst (e.kids.map cvE)]:=by cases e;rw [cvE_mk];rfl
theorem exk (k n:Int)(o m:Bytes)(ks:List Ex):Ex.kind (.mk k n o m ks)=k:=rfl
theorem exn (k n:Int)(o m:Bytes)(ks:List Ex):Ex.n (.mk k n o m ks)=n:=rfl
theorem exo (k n:Int)(o m:Bytes)(ks:List Ex):Ex.of (.mk k n o m ks)=o:=rfl
theorem exm (k n:Int)(o m:Bytes)(ks:List Ex):Ex.name (.mk k n o m ks)=m:=rfl
theorem exks (k n:Int)(o m:Bytes)(ks:List Ex):Ex.kids (.mk k n o m ks)=ks:=rfl
theorem drR {α:Type}(f:Nat→α)(k:Nat):List.drop k (List.map f (List.range k))=[]:=by simp
def Lx.St.p0:St→Int | .mk k _ _ _ _ _=>k
def Lx.St.p1:St→Bytes | .mk _ n _ _ _ _=>n
def Lx.St.p2:St→Bytes | .mk _ _ t _ _ _=>t
def Lx.St.p3:St→List Ex | .mk _ _ _ e _ _=>e
def Lx.St.p4:St→List St | .mk _ _ _ _ b _=>b
def Lx.St.p5:St→List St | .mk _ _ _ _ _ l=>l
theorem cvS_eq (s:St):cvS s=[.int .i64 s.p0,.str s.p1,.str s.p2,.lst (s.p3.map cvE),.lst (s.p4.map cvS),.lst (s.p5.map cvS)]:=by cases s;rw [cvS_mk];rfl
def maxI (x y:Int):Int:=if y > x then y else x
theorem bl_len {H:Heap}{t:TypeId}{x:CV}:bltA Tryd.prog H .len [t] [x]=lenA Tryd.prog H t x:=rfl
theorem bl_max {H:Heap}{t:List TypeId}{k k':IntKind}{x y:Int}:bltA Tryd.prog H .max t [.int k x,.int k' y]=some (.int k (maxI x y)):=rfl
theorem up1 {i n:Nat}(h:i<n)(hn:n≤9223372036854775807):IntKind.i64.wrap ((i:Int)+1)=(i:Int)+1:=by rw [IntKind.wrap_i64];omega
theorem cvC_eq (c:Cl):cvC c=[.str c.name,.str c.super,.lst (c.fields.map cvF),.lst (c.methods.map cvM)]:=rfl
theorem cvM_eq (m:Me):cvM m=[.str m.name,.bool m.static,.lst (m.params.map cvF),.str m.result,.lst (m.body.map cvS)]:=rfl
theorem cvF_eq (f:Fld):cvF f=[.str f.name,.str f.typ]:=rfl
section
variable {P:Program} {G:Nat→CV} {n:Nat} {e:Env} {H:Heap} {nx nx0 kp ne:Nat} {Q:AExit→Env→Heap→Nat→Prop} {ops:Array Oper} {os:List Oper} {d:Option Nat} {ty t u:TypeId} {pos:String} {af:Array Edge} {K:Env→Heap→Nat→Prop} {x y:Operand} {a b:Bytes}
theorem cat_q (hx:rd G e x=.str a)(hy:rd G e y=.str b)(hl:a.length+b.length≤9223372036854775807):qstep P H (rd G e) (.binOp .add t x y u)=some (.str (a++b)):=by
 have h:Nat.ble (a.length+b.length) 9223372036854775807=true:=Nat.ble_eq.mpr hl;simp only [qstep,hx,hy,binA,strA,h]
/-- Two strings put together. -/
theorem AOpl.cat (hx:rd G e x=.str a)(hy:rd G e y=.str b)(hl:a.length+b.length≤9223372036854775807)(h:AOpl P G n ops os (putE e d (.str (a++b))) H nx Q)(hd:okD n d=true:=by exact rfl):AOpl P G n ops (⟨d,.binOp .add t x y u,ty,pos,af,none⟩::os) e H nx Q :=
 AOpl.step hd (c:=.str (a++b)) (H':=H) (nx':=nx) (by unfold stepS;rw [cat_q hx hy hl]) h
theorem ASl.cat (hx:rd G e x=.str a)(hy:rd G e y=.str b)(hl:a.length+b.length≤9223372036854775807)(h:ASl P G nx0 (kp+1) ops os (putE e d (.str (a++b))) H ne K):ASl P G nx0 kp ops (⟨d,.binOp .add t x y u,ty,pos,af,none⟩::os) e H ne K :=
 ASl.step (c:=.str (a++b)) (H':=H) (ne':=ne) (by unfold Ax.stepT;rw [cat_q hx hy hl]) h
end
/-- All steps, strings put together among them. -/
theorem gV {X X':Prop}(k:X')(f:Hd X'→X:=by
 intro h
 repeat (first | refine AOpl.cat (by simp [*];rfl) (by simp [*];rfl) (by (try simp only [List.length_append,List.length_cons,List.length_nil]);omega) ?_ | refine ASl.cat (by simp [*];rfl) (by simp [*];rfl) (by (try simp only [List.length_append,List.length_cons,List.length_nil]);omega) ?_ | (first | (apply AOpl.step;rfl) | apply ASl.step);focus simp [*,-Option.some.injEq];rfl | (first | (apply AOpl.stepG;rfl) | apply ASl.stepG);(focus simp [*];done);focus simp [*,-Option.some.injEq];rfl | (first | (apply AOpl.pass;rfl) | apply ASl.pass);(focus simp [*];done) | (first | refine AOpl.nil ?_ | refine AWp.skip ?_ | refine AWp.exit ?_ | refine AWp.ret ?_ | refine ASl.nil ?_);try simp only [Then,InBlock,reduceIte,Nat.reduceEqDiff] | refine AWp.seq ?_ | refine AWp.reg rfl ?_ | refine AWp.block ?_ | apply AWp.condT;focus simp [*];done | apply AWp.condF;focus simp [*];done | refine AWp.regT (by kernel_rfl) (by kernel_rfl) rfl rfl ?_)
 exact h.out):X:=f ⟨k⟩
end
section
open Lx Ax Go.RowKit
/-- The package-level variables. -/
def fmG:Nat→CV:=fun g=>match Nat.beq g 1 with
 | true=>.rop (kwList.map .str)
 | false=>match Nat.beq g 0 with
   | true=>.rop ([[43],[45],[42],[60],[61,61]].map .str)
   | false=>match Nat.beq g 2 with
     | true=>.rop (Lib.pow10Tab.map (.int .u64))
     | false=>.any
theorem fmG_pu (g:Nat):puV (fmG g)=true:=by
 unfold fmG;cases Nat.beq g 1 with
 | true=>rfl
 | false =>
   cases Nat.beq g 0 with
   | true=>rfl
   | false =>
     cases Nat.beq g 2 with
     | true =>
       show puL _=true
       generalize Lib.pow10Tab=l
       induction l with
       | nil=>rfl
       | cons a l ih=>simp [puL,puV,ih]
     | false=>rfl
end
set_option linter.unusedVariables false
section
open Ax Go.RowKit
def fmSp (_:Call1):Call1:=fun _ _ _ _=>none
theorem fmSp_ok {call:Call1}:CallOk Tryd.prog fmG (fmSp call):=by
 intro f args h nx r h' nx' hr;cases hr
set_option maxRecDepth 1000000 in
theorem fm_awake:FCall1 Tryd.prog fmG 9 [] (.bool true) :=
 FCall1.run (runFS_sound (P:=Tryd.prog) (G:=fmG) (sp:=fmSp) (lf:=1000) (fun c hc=>fmSp_ok) 60) fmG_pu rfl (by kernel_rfl) rfl
end
section
namespace Lx
def isType (t:Bytes):Bool:=t == [105,110,116] || isIdent t
def namedK (k:Int):Bool:=k == 3 || decide (7≤k)
def kidsOk (k:Int)(n:Nat):Bool:=if k=6 then n == 2 else if k=8 then n == 1 else if k=9 then decide (1≤n) else if k=10 then true else n == 0
/-- The first fault of an expression without its kids. -/
def ownFault (k n:Int)(o m:Bytes)(len:Nat):Nat :=
 if k<1∨10<k∨(k=6∧(n<1∨5<n)) then 12
 else if (k≠1∧k≠6∧n≠0)∨(k≠10∧o≠[])∨(namedK k=false∧m≠[])∨kidsOk k len=false then 1
 else if k=1∧n=-9223372036854775808 then 4
 else if (k=10∧isIdent o=false)∨(namedK k=true∧isIdent m=false) then 5
 else 0
mutual
def exFault:Ex→Nat
 | .mk k n o m ks=>if ownFault k n o m ks.length≠0 then ownFault k n o m ks.length else exsFault ks
def exsFault:List Ex→Nat
 | []=>0
 | e::es=>if exFault e≠0 then exFault e else exsFault es
end
theorem exsFault_first (l:List Ex):exsFault l=firstLim exFault l:=by
 induction l with
 | nil=>rfl
 | cons e l ih=>simp only [exsFault,firstLim,ih]
def namedS (k:Int):Bool:=k == 1 || k == 2 || k == 3 || k == 6
def typedS (k:Int):Bool:=k == 1 || k == 6
def bodiedS (k:Int):Bool:=k == 4 || k == 5 || k == 6
def exprsOk (k:Int)(n:Nat):Bool:=if k=1∨k=8 then decide (n≤1) else if k=3 then n == 2 else if k=6 then n == 0 else n == 1
/-- The first fault of a statement ahead of its expressions. -/
def stOwn (k:Int)(nm ty:Bytes)(ne nb nl:Nat):Nat :=
 if k<1∨9<k then 12
 else if (namedS k=false∧nm≠[])∨(typedS k=false∧ty≠[])∨(bodiedS k=false∧0<nb)∨((bodiedS k=false∨k=5)∧0<nl)∨exprsOk k ne=false then 1
 else if namedS k=true∧isIdent nm=false then 5
 else if typedS k=true∧isType ty=false then 8
 else 0
def headKind (l:List Ex):Int:=match l with
 | []=>0
 | e::_=>e.kind
mutual
def stFault:St→Nat
 | .mk k nm ty es b el=>if stOwn k nm ty es.length b.length el.length≠0 then stOwn k nm ty es.length b.length el.length
   else if exsFault es≠0 then exsFault es
   else if k=9∧headKind es≠9∧headKind es≠10 then 12
   else if stsFault b≠0 then stsFault b else stsFault el
def stsFault:List St→Nat
 | []=>0
 | s::l=>if stFault s≠0 then stFault s else stsFault l
end
theorem stsFault_first (l:List St):stsFault l=firstLim stFault l:=by
 induction l with
 | nil=>rfl
 | cons e l ih=>simp only [stsFault,firstLim,ih]
def fldFault (f:Fld):Nat:=if isIdent f.name=false then 5 else if isType f.typ=false then 8 else 0
def fldsFault (l:List Fld):Nat:=firstLim fldFault l
def meFault (m:Me):Nat:=if isIdent m.name=false then 5 else if fldsFault m.params≠0 then fldsFault m.params else if m.result≠[]∧isType m.result=false then 8 else stsFault m.body
def clFault (c:Cl):Nat:=if isIdent c.name=false∨(c.super≠[]∧isIdent c.super=false) then 5 else if fldsFault c.fields≠0 then fldsFault c.fields else firstLim meFault c.methods
open Go.RowKit (wrap64)
mutual
def exDeep:Ex→Int
 | .mk _ _ _ _ ks=>wrap64 (exsDeep ks+1)
def exsDeep:List Ex→Int
 | []=>0
 | e::es=>max (exDeep e) (exsDeep es)
end
mutual
def stDeep:St→Int
 | .mk _ _ _ es b el=>wrap64 (max (max (exsDeep es) (stsDeep b)) (stsDeep el)+1)
def stsDeep:List St→Int
 | []=>0
 | s::l=>max (stDeep s) (stsDeep l)
end
def meLim (m:Me):Nat:=if 6<m.params.length∨200<wrap64 (stsCount m.body:Int) then 3 else if 32<stsDeep m.body then 15 else 0
def clLim (c:Cl):Nat:=if 16<c.fields.length∨16<c.methods.length then 3 else firstLim meLim c.methods
def soLim (l:List Cl):Nat:=if 64<l.length then 3 else firstLim clLim l
/-! texts -/
def dig (n:Nat):UInt8:=UInt8.ofNat (48+n)
def digitsOf:Nat→Nat→Bytes
 | 0,_=>[]
 | f+1,n=>if n<10 then [dig n] else digitsOf f (n / 10)++[dig (n % 10)]
def numText (n:Int):Bytes:=if n<0 then 45::digitsOf 20 n.natAbs else digitsOf 20 n.natAbs
def levelOf (k n:Int):Int:=if k≠6 then 4 else if n=3 then 3 else if n=1∨n=2 then 2 else 1
def opText (n:Int):Bytes:=if n=1 then [43] else if n=2 then [45] else if n=3 then [42] else if n=4 then [60] else [61,61]
mutual
/-- The text of a well-formed expression. -/
def exText:Ex→Bytes
 | .mk k n o m ks =>
   if k=1 then numText n else if k=2 then [110,117,108,108] else if k=3 then m else if k=4 then [116,104,105,115] else if k=5 then [105,110,112,117,116,40,41]
   else if k=7 then [110,101,119,32]++m++[40,41]
   else if k=8 then withinAt ks 0 4++[46]++m
   else if k=9 then withinAt ks 0 4++[46]++m++argsFrom ks 1
   else if k=10 then o++[58,58]++m++argsFrom ks 0
   else withinAt ks 0 (max (levelOf k n) 2)++[32]++opText n++[32]++withinAt ks 1 (levelOf k n+1)
/-- The text of kid i at a place that requires a level. -/
def withinAt:List Ex→Nat→Int→Bytes
 | [],_,_=>[]
 | e::_,0,r=>if levelOf e.kind e.n<r then [40]++exText e++[41] else exText e
 | _::l,i+1,r=>withinAt l i r
/-- The texts of the kids from i on, in parentheses. -/
def argsFrom:List Ex→Nat→Bytes
 | l,0=>[40]++sepText l++[41]
 | [],_=>[40,41]
 | _::l,i+1=>argsFrom l i
def sepText:List Ex→Bytes
 | []=>[]
 | [e]=>exText e
 | e::l=>exText e++[44,32]++sepText l
end
end Lx
end
section
namespace Lx
def tabsOf (n:Nat):Bytes:=List.replicate n 9
/-- The text of expression i. -/
def exT (es:List Ex)(i:Nat):Bytes:=match es[i]? with
 | some e=>exText e
 | none=>[]
mutual
/-- The text of a well-formed statement, indented by n tabs. -/
def stText:Nat→St→Bytes
 | n,.mk k nm ty es b el =>
   if k=1 then tabsOf n++[118,97,114,32]++nm++[58,32]++ty++(if es=[] then [] else [32,61,32]++exT es 0)++[59,10]
   else if k=2 then tabsOf n++nm++[32,61,32]++exT es 0++[59,10]
   else if k=3 then tabsOf n++withinAt es 0 4++[46]++nm++[32,61,32]++exT es 1++[59,10]
   else if k=4 then tabsOf n++[105,102,32,40]++exT es 0++[41,32,123,10]++stsText (n+1) b++(if el=[] then [] else tabsOf n++[125,32,101,108,115,101,32,123,10]++stsText (n+1) el)++tabsOf n++[125,10]
   else if k=5 then tabsOf n++[119,104,105,108,101,32,40]++exT es 0++[41,32,123,10]++stsText (n+1) b++tabsOf n++[125,10]
   else if k=6 then tabsOf n++[116,114,121,32,123,10]++stsText (n+1) b++tabsOf n++[125,32,99,97,116,99,104,32,40]++nm++[58,32]++ty++[41,32,123,10]++stsText (n+1) el++tabsOf n++[125,10]
   else if k=7 then tabsOf n++[116,104,114,111,119,32]++exT es 0++[59,10]
   else if k=8 then tabsOf n++[114,101,116,117,114,110]++(if es=[] then [] else [32]++exT es 0)++[59,10]
   else tabsOf n++exT es 0++[59,10]
def stsText:Nat→List St→Bytes
 | _,[]=>[]
 | n,s::l=>stText n s++stsText n l
end
def fldText (f:Fld):Bytes:=f.name++[58,32]++f.typ
def parText:List Fld→Bytes
 | []=>[]
 | [f]=>fldText f
 | f::l=>fldText f++[44,32]++parText l
def meText (n:Nat)(m:Me):Bytes:=tabsOf n++(if m.static then [115,116,97,116,105,99,32] else [])++[100,101,102,32]++m.name++[40]++parText m.params++[41]++(if m.result=[] then [] else [58,32]++m.result)++[32,123,10]++stsText (n+1) m.body++tabsOf n++[125,10]
def clText (c:Cl):Bytes:=[99,108,97,115,115,32]++c.name++(if c.super=[] then [] else [32,101,120,116,101,110,100,115,32]++c.super)++[32,123,10]++(c.fields.flatMap fun f=>[9,118,97,114,32]++fldText f++[59,10])++(c.methods.flatMap (meText 1))++[125,10]
def soText (l:List Cl):Bytes:=l.flatMap clText
end Lx
end
set_option linter.unusedSimpArgs false
section
open Lx Go.RowKit
def KwIs (w:World):Prop:=∃ t fr,w.heap[1]?=some (.cells kwCells t fr)
theorem KwIs.below {w w':World}{B:Nat}(h:KwIs w)(hb:Below B w w')(hB:w.heap.size≤B):KwIs w':=by
 obtain⟨t1,f1,h1⟩:=h;exact⟨t1,f1,by rw [hb.block _ (Nat.lt_of_lt_of_le (lt_of_heap h1) hB)];exact h1⟩
theorem KwIs.alloc {w:World}(h:KwIs w)(o:Obj):KwIs (w.alloc o):=h.below ((Below.refl _ _).alloc (Nat.le_refl _) o) (Nat.le_refl _)
set_option maxHeartbeats 400000 in
theorem fm_keyword (s:ByteArray)(w:World)(hL:KwIs w):Calls Tryd.prog 61 #[.string s] w fun e w'=>e=.returned (.bool (isKeyword s.data.toList))∧w=w':=by
 obtain⟨t,fr,hg⟩:=hL;have HG:=Lib.hid hg;clear hg;go_enter Tryd.func61,Tryd.ntmps61
 go_wp2_with (refine wpList_load_row rfl 98 _ rfl 1 rfl t _ fr _ HG.out Tryd.underlying98 rfl (by kernel_rfl) ?_)
 go_loop [6] (fun i=>∃ k:Nat,k≤17∧i=.int .i64 k∧isKeyword s.data.toList=(kwList.drop k).contains s.data.toList) (fun i=>17-(intOf i).toNat)
 case atStart=>exact⟨0,by omega,rfl,rfl⟩
 case round =>
  obtain⟨k,hk,rfl,hr⟩:=hrel;have HR:=Lib.hid hr;clear hr
  by_cases hlt:k<17
  ·obtain⟨m,hm,hidx⟩:=kw_index k hlt;have HM:=Lib.hid hm;clear hm;cases he:s.toList == m
   ·have HE:=Lib.hid he;go_wp2_with fail
    go_round
    case rel=>exact⟨k+1,by omega,by go_num,by rw [HR.out,← ByteArray.toList_eq];exact contains_miss HE.out HM.out⟩
    case measure=>simp [intOf];omega
   ·have HE:=Lib.hid he;go_wp2_with fail;go_ret;exact⟨ret_bool (by rw [HR.out,← ByteArray.toList_eq];exact (contains_hit HE.out HM.out).symm),rfl⟩
  ·go_wp2_with fail;go_ret;exact⟨ret_bool (by rw [HR.out,List.drop_eq_nil_of_le (by simp [kwList];omega)];rfl),rfl⟩
set_option maxHeartbeats 400000 in
theorem fm_ident0 (s:ByteArray)(w:World)(hs:s.size≤maxLen)(hL:KwIs w):Calls Tryd.prog 31 #[.string s] w fun e w'=>e=.returned (.bool (isIdent s.data.toList))∧w=w':=by
 have HL:=Lib.hid hL;have HS:=Lib.hid hs;clear hL;unfold maxLen at hs
 by_cases h0:s.size=0
 ·have h1:=isEmpty_zero s h0;have H0:=Lib.hid h0;clear h0;go_enter Tryd.func31,Tryd.ntmps31;go_wp2_with fail;go_ret;exact⟨ret_bool (isIdent_zero s H0.out).symm,rfl⟩
 have h0:0<s.size:=by omega
 have h1:=isEmpty_pos s h0;have HI:=Lib.hid (isIdent_pos s h0)
 by_cases h2:s.size≤32
 ·go_enter Tryd.func31,Tryd.ntmps31;go_wp2_with fail;refine (lex_letter _ _).mono ?_;rintro e w' ⟨rfl,rfl⟩;cases h3:isLetter s[0]
  ·have H3:=Lib.hid h3;go_wp2_with fail;go_ret;exact⟨ret_bool (by rw [HI.out,H3.out];simp),rfl⟩
  ·have H3:=Lib.hid h3;go_wp2_with fail;refine (lex_span_part s _ HS.out).mono ?_;rintro e w' ⟨rfl,rfl⟩;have HA:=Lib.hid (spanOf_all isPart s.data.toList);have HSS:=Lib.hid (len_list s);generalize hn:spanOf isPart s.data.toList=n at HA ⊢;clear hn
   by_cases h4:n=s.size
   ·have h5:(n == s.size)=true:=beq_iff_eq.2 h4;have h6:((n:Int) == (s.size:Int))=true:=beq_iff_eq.2 (by omega);have H4:=Lib.hid h4;clear h4;go_wp2_with fail;refine (fm_keyword s _ HL.out).mono ?_;rintro e w' ⟨rfl,rfl⟩;have HB:Hid (s.data.toList.all isPart=true):=HA.out.1 (by rw [HSS.out];exact H4.out);cases h7:isKeyword s.data.toList
    ·have H7:=Lib.hid h7;go_wp2_with fail;go_ret;exact⟨ret_bool (by rw [HI.out,H3.out,HB.out,H7.out];simp [h2]),rfl⟩
    ·have H7:=Lib.hid h7;go_wp2_with fail;go_ret;exact⟨ret_bool (by rw [HI.out,H7.out];simp),rfl⟩
   ·have h5:(n == s.size)=false:=beq_eq_false_iff_ne.2 h4;have h6:((n:Int) == (s.size:Int))=false:=beq_eq_false_iff_ne.2 (by omega);have H4:=Lib.hid h4;clear h4;have HB:Hid (s.data.toList.all isPart=false):=by
     cases hb:s.data.toList.all isPart
     ·rfl
     ·exact absurd (HA.out.2 hb) (by rw [HSS.out];exact H4.out)
    go_wp2_with fail;go_ret;exact⟨ret_bool (by rw [HI.out,HB.out];simp),rfl⟩
 ·go_enter Tryd.func31,Tryd.ntmps31;go_wp2_with fail;go_ret;exact⟨ret_bool (by rw [HI.out];simp [h2]),rfl⟩
end
section
open Lx Go.RowKit
open Go.ChangeShapes Go.WideShapes Go.ChangeAt
theorem KwIs.of_met {W:World}{l:List (String×DataW Unit)}(h:laidMet Tryd.prog l W)(h1:("dataflow/lex.keywords",Rows.laid_dataflow_lex_keywords)∈l):KwIs W:=by
 obtain⟨ps,hv,_,_⟩:=h;obtain⟨g0,t0,cs0,f0,p0,hg0,ht0,hv0,hd0⟩:=laid_entry hv h1;obtain rfl:=Option.some.inj (gKw.symm.trans hg0);obtain rfl:=Option.some.inj (tKw.symm.trans ht0);obtain⟨t,fr,hh⟩:=heap_of_var hg0 hv0;have hcs:=strings_of_array (ss:=kwList) Tryd.underlying98 Tryd.underlying9 cStr cKw hd0;refine⟨t,fr,?_⟩;rw [hh];obtain⟨l0⟩:=cs0;simp only at hcs;rw [hcs];rfl
end
end Go.Proofs.YtmlafcimjhnhhaaDoor
