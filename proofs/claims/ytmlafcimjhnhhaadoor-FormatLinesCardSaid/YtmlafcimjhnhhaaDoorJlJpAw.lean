/-
  Plain Lean: a tree that a rule gives has no more nodes than the rule has read tokens.
-/
import Derived.Test.YtmlafcimjhnhhaaDoorJlJpAv
import Derived.Test.YtmlafcimjhnhhaaDoorJlJpAo
set_option linter.unusedSectionVars false
set_option linter.unusedSimpArgs false
set_option linter.unnecessarySimpa false
set_option linter.unusedVariables false
set_option linter.unusedSimpArgs false
namespace Go.Proofs.YtmlafcimjhnhhaaDoor
section
namespace Lx
mutual
def exSz:Ex→Nat
 | .mk _ _ _ _ ks=>exsSz ks+1
def exsSz:List Ex→Nat
 | []=>0
 | e::es=>exSz e+exsSz es
end
mutual
def stSz:St→Nat
 | .mk _ _ _ es b el=>exsSz es+stsSz b+stsSz el+1
def stsSz:List St→Nat
 | []=>0
 | s::l=>stSz s+stsSz l
end
theorem exSz_pos (e:Ex):0<exSz e:=by cases e;rw [exSz];omega
theorem stSz_pos (s:St):0<stSz s:=by cases s;rw [stSz];omega
theorem exsSz_mem {l:List Ex}{e:Ex}(h:e∈l):exSz e≤exsSz l:=by
 induction l with
 | nil=>cases h
 | cons x l ih =>
   simp only [exsSz];rcases List.mem_cons.1 h with rfl | h
   ·omega
   ·have:=ih h;omega
theorem stsSz_mem {l:List St}{e:St}(h:e∈l):stSz e≤stsSz l:=by
 induction l with
 | nil=>cases h
 | cons x l ih =>
   simp only [stsSz];rcases List.mem_cons.1 h with rfl | h
   ·omega
   ·have:=ih h;omega
section
variable {ts:List Tok}
def Siz (E:Nat→PR Ex):Prop:=∀ i e j,E i=.ok (e,j)→exSz e+i≤j
variable {E:Nat→PR Ex} (hE:Siz E)
include hE
omit hE
end
section
variable {ts:List Tok}
def MeZ (j:Nat)(m:Me):Prop:=stsSz m.body≤j∧m.params.length≤j
theorem MeZ.mono {j j':Nat}{m:Me}(h:MeZ j m)(hj:j≤j'):MeZ j' m:=⟨Nat.le_trans h.1 hj,Nat.le_trans h.2 hj⟩
end
end Lx
end
set_option linter.unusedVariables false
section
open Lx
namespace Lx
/-- A token without its place: an identifier, a keyword, a number, a mark. -/
inductive TT where
 | wd (x:Bytes)
 | kw (x:Bytes)
 | nu (x:Bytes) (n:Nat)
 | mk (x:Bytes)
def TT.kind:TT→Nat
 | .wd _=>1
 | .kw _=>2
 | .nu _ _=>3
 | .mk _=>4
def TT.text:TT→Bytes
 | .wd x=>x
 | .kw x=>x
 | .nu x _=>x
 | .mk x=>x
def TT.n:TT→Nat
 | .nu _ n=>n
 | _=>0
/-- From index i on these tokens stand. -/
def AtT (ts:List Tok):Nat→List TT→Prop
 | _,[]=>True
 | i,.wd x::us=>(i<ts.length∧(tk ts i).kind=1∧(tk ts i).text=x∧(tk ts i).n=0)∧AtT ts (i+1) us
 | i,.kw x::us=>(i<ts.length∧(tk ts i).kind=2∧(tk ts i).text=x∧(tk ts i).n=0)∧AtT ts (i+1) us
 | i,.nu x n::us=>(i<ts.length∧(tk ts i).kind=3∧(tk ts i).text=x∧(tk ts i).n=n)∧AtT ts (i+1) us
 | i,.mk x::us=>(i<ts.length∧(tk ts i).kind=4∧(tk ts i).text=x∧(tk ts i).n=0)∧AtT ts (i+1) us
theorem AtT.cons {ts:List Tok}{i:Nat}{u:TT}{us:List TT}:AtT ts i (u::us)↔(i<ts.length∧(tk ts i).kind=u.kind∧(tk ts i).text=u.text∧(tk ts i).n=u.n)∧AtT ts (i+1) us:=by cases u <;> exact Iff.rfl
theorem AtT.append {ts:List Tok}:∀ {us vs:List TT} {i:Nat},AtT ts i (us++vs)→AtT ts i us∧AtT ts (i+us.length) vs
 | [],_,_,h=>⟨trivial,h⟩
 | _::us,vs,i,h=>by
   obtain⟨h0,h⟩:=AtT.cons.1 h;obtain⟨h1,h2⟩:=AtT.append h;exact⟨AtT.cons.2 ⟨h0,h1⟩,by rw [List.length_cons,show i+(us.length+1)=i+1+us.length by omega];exact h2⟩
theorem AtT.le {ts:List Tok}:∀ {us:List TT} {i:Nat},AtT ts i us→us≠[]→i+us.length≤ts.length
 | [],_,_,h=>absurd rfl h
 | [u],i,h,_=>by have:=(AtT.cons.1 h).1.1;simp;omega
 | u::v::us,i,h,_=>by have:=AtT.le (AtT.cons.1 h).2 (by simp);simp only [List.length_cons] at this ⊢;omega
theorem AtT.len {ts:List Tok}{us:List TT}{i:Nat}(h:AtT ts i us):us.length≤ts.length:=by
 cases us with
 | nil=>simp
 | cons u us=>have:=h.le (by simp);omega
/-- The next token has none of these texts. -/
def Nxt (ts:List Tok)(i:Nat)(L:List Bytes):Prop:=∀ x∈L,isT ts i x=false
section
variable {ts:List Tok} {i:Nat}
theorem isT_of {x:Bytes}(h:(tk ts i).text=x)(y:Bytes):isT ts i y=(x == y):=by unfold isT;rw [h]
theorem Nxt.of {x:Bytes}{L:List Bytes}(h:(tk ts i).text=x)(hd:L.all (fun y=>!(x == y))=true):Nxt ts i L:=fun y hy=>by
 have:=List.all_eq_true.1 hd y hy;rw [isT_of h];simpa using this
theorem Nxt.sub {L M:List Bytes}(h:Nxt ts i L)(hs:M.all (fun x=>L.contains x)=true):Nxt ts i M:=fun x hx=>h x (by have:=List.all_eq_true.1 hs x hx;simpa using this)
theorem Nxt.word {L:List Bytes}(hT:TWR ts)(h:(tk ts i).kind=1∨(tk ts i).kind=3)(hL:L.all (fun x=>kmList.contains x)=true):Nxt ts i L:=fun x hx=>by
 cases hc:isT ts i x with
 | false=>rfl
 | true =>
   have:=hT.km i x (by have:=List.all_eq_true.1 hL x hx;simpa using this) hc;omega
theorem Nxt.get {L:List Bytes}(h:Nxt ts i L)(x:Bytes)(hx:L.contains x=true):isT ts i x=false:=h x (by simpa using hx)
end
mutual
/-- What a post is written as; its shape. -/
inductive GrP:Ex→List TT→Nat→Prop
 | int (x:Bytes) (n:Nat):GrP (.mk 1 (n:Int) [] [] []) [TT.nu x n] 0
 | neg (x:Bytes) (n:Nat) (h:n≠0):GrP (.mk 1 (-(n:Int)) [] [] []) [TT.mk [45],TT.nu x n] 0
 | null:GrP (.mk 2 0 [] [] []) [TT.kw [110,117,108,108]] 0
 | var (x:Bytes):GrP (.mk 3 0 [] x []) [TT.wd x] 1
 | this:GrP (.mk 4 0 [] [] []) [TT.kw [116,104,105,115]] 0
 | input:GrP (.mk 5 0 [] [] []) [TT.kw [105,110,112,117,116],TT.mk [40],TT.mk [41]] 0
 | new (x:Bytes):GrP (.mk 7 0 [] x []) [TT.kw [110,101,119],TT.wd x,TT.mk [40],TT.mk [41]] 0
 | paren {e:Ex} {us:List TT} (h:GrE e us):GrP e (TT.mk [40]::(us++[TT.mk [41]])) 0
 | static (o m:Bytes) {es:List Ex} {us:List TT} (h:GrA es us):GrP (.mk 10 0 o m es) (TT.wd o::TT.mk [58,58]::TT.wd m::us) 3
 | field {k:Ex} {us:List TT} {s:Nat} (h:GrP k us s) (m:Bytes):GrP (.mk 8 0 [] m [k]) (us++[TT.mk [46],TT.wd m]) 2
 | call {k:Ex} {us vs:List TT} {s:Nat} {es:List Ex} (h:GrP k us s) (m:Bytes) (ha:GrA es vs):GrP (.mk 9 0 [] m (k::es)) (us++(TT.mk [46]::TT.wd m::vs)) 3
inductive GrX:Ex→List TT→Prop
 | post {e:Ex} {us:List TT} {s:Nat} (h:GrP e us s):GrX e us
 | mul {a b:Ex} {us vs:List TT} {s:Nat} (h:GrX a us) (h2:GrP b vs s):GrX (binE 3 a b) (us++(TT.mk [42]::vs))
inductive GrS:Ex→List TT→Prop
 | prod {e:Ex} {us:List TT} (h:GrX e us):GrS e us
 | add {a b:Ex} {us vs:List TT} (h:GrS a us) (h2:GrX b vs):GrS (binE 1 a b) (us++(TT.mk [43]::vs))
 | sub {a b:Ex} {us vs:List TT} (h:GrS a us) (h2:GrX b vs):GrS (binE 2 a b) (us++(TT.mk [45]::vs))
inductive GrE:Ex→List TT→Prop
 | sum {e:Ex} {us:List TT} (h:GrS e us):GrE e us
 | less {a b:Ex} {us vs:List TT} (h:GrS a us) (h2:GrS b vs):GrE (binE 4 a b) (us++(TT.mk [60]::vs))
 | equal {a b:Ex} {us vs:List TT} (h:GrS a us) (h2:GrS b vs):GrE (binE 5 a b) (us++(TT.mk [61,61]::vs))
/-- Expressions with commas between them; at least one. -/
inductive GrL:List Ex→List TT→Prop
 | one {e:Ex} {us:List TT} (h:GrE e us):GrL [e] us
 | cons {e:Ex} {us vs:List TT} {es:List Ex} (h:GrE e us) (h2:GrL es vs):GrL (e::es) (us++(TT.mk [44]::vs))
inductive GrA:List Ex→List TT→Prop
 | nil:GrA [] [TT.mk [40],TT.mk [41]]
 | some {es:List Ex} {us:List TT} (h:GrL es us):GrA es (TT.mk [40]::(us++[TT.mk [41]]))
end
/-- With what an expression may begin. -/
def Fst (u:TT):Prop:=u.kind=1∨u.kind=3∨(u.text∈[[45],[110,117,108,108],[116,104,105,115],[105,110,112,117,116],[110,101,119],[40]])
def FstL (us:List TT):Prop:=∃ u vs,us=u::vs∧Fst u
theorem FstL.app {us:List TT}(h:FstL us)(vs:List TT):FstL (us++vs):=by
 obtain⟨u,ws,rfl,h⟩:=h;exact⟨u,ws++vs,rfl,h⟩
theorem GrP.fst:∀ (n:Nat) {e:Ex} {us:List TT} {s:Nat},us.length≤n→GrP e us s→FstL us:=by
 intro n
 induction n with
 | zero =>
   intro e us s hn h;cases h <;> first | (simp at hn;done) | skip
 | succ n ih =>
   intro e us s hn h;cases h with
   | int x n=>exact⟨_,_,rfl,.inr (.inl rfl)⟩
   | neg x n h=>exact⟨_,_,rfl,.inr (.inr (by simp [TT.text]))⟩
   | null=>exact⟨_,_,rfl,.inr (.inr (by simp [TT.text]))⟩
   | var x=>exact⟨_,_,rfl,.inl rfl⟩
   | this=>exact⟨_,_,rfl,.inr (.inr (by simp [TT.text]))⟩
   | input=>exact⟨_,_,rfl,.inr (.inr (by simp [TT.text]))⟩
   | new x=>exact⟨_,_,rfl,.inr (.inr (by simp [TT.text]))⟩
   | paren h=>exact⟨_,_,rfl,.inr (.inr (by simp [TT.text]))⟩
   | static o m h=>exact⟨_,_,rfl,.inl rfl⟩
   | field h m=>exact (ih (by simp at hn;omega) h).app _
   | call h m ha=>exact (ih (by simp at hn;omega) h).app _
theorem GrX.fst:∀ (n:Nat) {e:Ex} {us:List TT},us.length≤n→GrX e us→FstL us:=by
 intro n
 induction n with
 | zero=>intro e us hn h;cases h with
   | post h=>exact h.fst _ hn
   | mul h h2=>simp at hn
 | succ n ih=>intro e us hn h;cases h with
   | post h=>exact h.fst _ hn
   | mul h h2=>exact (ih (by simp at hn;omega) h).app _
theorem GrS.fst:∀ (n:Nat) {e:Ex} {us:List TT},us.length≤n→GrS e us→FstL us:=by
 intro n
 induction n with
 | zero=>intro e us hn h;cases h with
   | prod h=>exact h.fst _ hn
   | add h h2=>simp at hn
   | sub h h2=>simp at hn
 | succ n ih=>intro e us hn h;cases h with
   | prod h=>exact h.fst _ hn
   | add h h2=>exact (ih (by simp at hn;omega) h).app _
   | sub h h2=>exact (ih (by simp at hn;omega) h).app _
theorem GrE.fst {e:Ex}{us:List TT}(h:GrE e us):FstL us:=by
 cases h with
 | sum h=>exact h.fst _ (Nat.le_refl _)
 | less h h2=>exact (h.fst _ (Nat.le_refl _)).app _
 | equal h h2=>exact (h.fst _ (Nat.le_refl _)).app _
theorem GrL.fst {es:List Ex}{us:List TT}(h:GrL es us):FstL us:=by
 cases h with
 | one h=>exact h.fst
 | cons h h2=>exact h.fst.app _
section
variable {ts:List Tok} (hT:TWR ts)
include hT
end
def stop0:List Bytes:=[[60],[61,61],[43],[45],[42],[46],[40],[58,58]]
/-- E reads what is written with fewer than N tokens. -/
def Good (ts:List Tok)(N:Nat)(E:Nat→PR Ex):Prop:=∀ e us i,us.length<N→GrE e us→AtT ts i us→Nxt ts (i+us.length) stop0→E i=.ok (e,i+us.length)
section
variable {ts:List Tok} (hT:TWR ts) {N:Nat} {E:Nat→PR Ex} (hE:Good ts N E)
include hT hE
end
section
variable {ts:List Tok} (hT:TWR ts)
include hT
end
end Lx
end
end Go.Proofs.YtmlafcimjhnhhaaDoor
