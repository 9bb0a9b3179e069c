/-
  Plain Lean: the grammar of expressions on tokens without places, and that the parser reads whatever the grammar writes.
-/
import Derived.Test.YtmlafcimjhnhhaaGreatDoorJeJpBe
set_option linter.unusedSectionVars false
set_option linter.unusedSimpArgs false
set_option linter.unnecessarySimpa false
set_option linter.unusedVariables false
set_option linter.unusedSimpArgs false
set_option linter.unusedVariables false
namespace Go.Proofs.YtmlafcimjhnhhaaGreatDoor
section
open Lx
namespace Lx
/-- A token without its place: an identifier, a keyword, a number, a mark. -/
inductive TT where
 | wd (x:Bytes)
 | kw (x:Bytes)
 | nu (x:Bytes) (n:Nat)
 | mk (x:Bytes)
def TT.kind:TT→Nat
 | .wd _=>1
 | .kw _=>2
 | .nu _ _=>3
 | .mk _=>4
def TT.text:TT→Bytes
 | .wd x=>x
 | .kw x=>x
 | .nu x _=>x
 | .mk x=>x
def TT.n:TT→Nat
 | .nu _ n=>n
 | _=>0
/-- From index i on these tokens stand. -/
def AtT (ts:List Tok):Nat→List TT→Prop
 | _,[]=>True
 | i,.wd x::us=>(i<ts.length∧(tk ts i).kind=1∧(tk ts i).text=x∧(tk ts i).n=0)∧AtT ts (i+1) us
 | i,.kw x::us=>(i<ts.length∧(tk ts i).kind=2∧(tk ts i).text=x∧(tk ts i).n=0)∧AtT ts (i+1) us
 | i,.nu x n::us=>(i<ts.length∧(tk ts i).kind=3∧(tk ts i).text=x∧(tk ts i).n=n)∧AtT ts (i+1) us
 | i,.mk x::us=>(i<ts.length∧(tk ts i).kind=4∧(tk ts i).text=x∧(tk ts i).n=0)∧AtT ts (i+1) us
theorem AtT.cons {ts:List Tok}{i:Nat}{u:TT}{us:List TT}:AtT ts i (u::us)↔(i<ts.length∧(tk ts i).kind=u.kind∧(tk ts i).text=u.text∧(tk ts i).n=u.n)∧AtT ts (i+1) us:=by cases u <;> exact Iff.rfl
theorem AtT.append {ts:List Tok}:∀ {us vs:List TT} {i:Nat},AtT ts i (us++vs)→AtT ts i us∧AtT ts (i+us.length) vs
 | [],_,_,h=>⟨trivial,h⟩
 | _::us,vs,i,h=>by
   obtain⟨h0,h⟩:=AtT.cons.1 h;obtain⟨h1,h2⟩:=AtT.append h;exact⟨AtT.cons.2 ⟨h0,h1⟩,by rw [List.length_cons,show i+(us.length+1)=i+1+us.length by omega];exact h2⟩
theorem AtT.le {ts:List Tok}:∀ {us:List TT} {i:Nat},AtT ts i us→us≠[]→i+us.length≤ts.length
 | [],_,_,h=>absurd rfl h
 | [u],i,h,_=>by have:=(AtT.cons.1 h).1.1;simp;omega
 | u::v::us,i,h,_=>by have:=AtT.le (AtT.cons.1 h).2 (by simp);simp only [List.length_cons] at this ⊢;omega
theorem AtT.len {ts:List Tok}{us:List TT}{i:Nat}(h:AtT ts i us):us.length≤ts.length:=by
 cases us with
 | nil=>simp
 | cons u us=>have:=h.le (by simp);omega
/-- The next token has none of these texts. -/
def Nxt (ts:List Tok)(i:Nat)(L:List Bytes):Prop:=∀ x∈L,isT ts i x=false
section
variable {ts:List Tok} {i:Nat}
theorem isT_of {x:Bytes}(h:(tk ts i).text=x)(y:Bytes):isT ts i y=(x == y):=by unfold isT;rw [h]
theorem Nxt.of {x:Bytes}{L:List Bytes}(h:(tk ts i).text=x)(hd:L.all (fun y=>!(x == y))=true):Nxt ts i L:=fun y hy=>by
 have:=List.all_eq_true.1 hd y hy;rw [isT_of h];simpa using this
theorem Nxt.sub {L M:List Bytes}(h:Nxt ts i L)(hs:M.all (fun x=>L.contains x)=true):Nxt ts i M:=fun x hx=>h x (by have:=List.all_eq_true.1 hs x hx;simpa using this)
theorem Nxt.word {L:List Bytes}(hT:TWR ts)(h:(tk ts i).kind=1∨(tk ts i).kind=3)(hL:L.all (fun x=>kmList.contains x)=true):Nxt ts i L:=fun x hx=>by
 cases hc:isT ts i x with
 | false=>rfl
 | true =>
   have:=hT.km i x (by have:=List.all_eq_true.1 hL x hx;simpa using this) hc;omega
theorem Nxt.get {L:List Bytes}(h:Nxt ts i L)(x:Bytes)(hx:L.contains x=true):isT ts i x=false:=h x (by simpa using hx)
theorem expectP_at {x:Bytes}(h:(tk ts i).text=x):expectP ts x i=.ok ((),i+1):=by unfold expectP;rw [isT_of h];simp
theorem nameP_at {x:Bytes}(hk:(tk ts i).kind=1)(h:(tk ts i).text=x):nameP ts i=.ok (x,i+1):=by unfold nameP;rw [if_pos hk,h]
end
mutual
/-- What a post is written as; its shape. -/
inductive GrP:Ex→List TT→Nat→Prop
 | int (x:Bytes) (n:Nat):GrP (.mk 1 (n:Int) [] [] []) [TT.nu x n] 0
 | neg (x:Bytes) (n:Nat) (h:n≠0):GrP (.mk 1 (-(n:Int)) [] [] []) [TT.mk [45],TT.nu x n] 0
 | null:GrP (.mk 2 0 [] [] []) [TT.kw [110,117,108,108]] 0
 | var (x:Bytes):GrP (.mk 3 0 [] x []) [TT.wd x] 1
 | this:GrP (.mk 4 0 [] [] []) [TT.kw [116,104,105,115]] 0
 | input:GrP (.mk 5 0 [] [] []) [TT.kw [105,110,112,117,116],TT.mk [40],TT.mk [41]] 0
 | new (x:Bytes):GrP (.mk 7 0 [] x []) [TT.kw [110,101,119],TT.wd x,TT.mk [40],TT.mk [41]] 0
 | paren {e:Ex} {us:List TT} (h:GrE e us):GrP e (TT.mk [40]::(us++[TT.mk [41]])) 0
 | static (o m:Bytes) {es:List Ex} {us:List TT} (h:GrA es us):GrP (.mk 10 0 o m es) (TT.wd o::TT.mk [58,58]::TT.wd m::us) 3
 | field {k:Ex} {us:List TT} {s:Nat} (h:GrP k us s) (m:Bytes):GrP (.mk 8 0 [] m [k]) (us++[TT.mk [46],TT.wd m]) 2
 | call {k:Ex} {us vs:List TT} {s:Nat} {es:List Ex} (h:GrP k us s) (m:Bytes) (ha:GrA es vs):GrP (.mk 9 0 [] m (k::es)) (us++(TT.mk [46]::TT.wd m::vs)) 3
inductive GrX:Ex→List TT→Prop
 | post {e:Ex} {us:List TT} {s:Nat} (h:GrP e us s):GrX e us
 | mul {a b:Ex} {us vs:List TT} {s:Nat} (h:GrX a us) (h2:GrP b vs s):GrX (binE 3 a b) (us++(TT.mk [42]::vs))
inductive GrS:Ex→List TT→Prop
 | prod {e:Ex} {us:List TT} (h:GrX e us):GrS e us
 | add {a b:Ex} {us vs:List TT} (h:GrS a us) (h2:GrX b vs):GrS (binE 1 a b) (us++(TT.mk [43]::vs))
 | sub {a b:Ex} {us vs:List TT} (h:GrS a us) (h2:GrX b vs):GrS (binE 2 a b) (us++(TT.mk [45]::vs))
inductive GrE:Ex→List TT→Prop
 | sum {e:Ex} {us:List TT} (h:GrS e us):GrE e us
 | less {a b:Ex} {us vs:List TT} (h:GrS a us) (h2:GrS b vs):GrE (binE 4 a b) (us++(TT.mk [60]::vs))
 | equal {a b:Ex} {us vs:List TT} (h:GrS a us) (h2:GrS b vs):GrE (binE 5 a b) (us++(TT.mk [61,61]::vs))
/-- Expressions with commas between them; at least one. -/
inductive GrL:List Ex→List TT→Prop
 | one {e:Ex} {us:List TT} (h:GrE e us):GrL [e] us
 | cons {e:Ex} {us vs:List TT} {es:List Ex} (h:GrE e us) (h2:GrL es vs):GrL (e::es) (us++(TT.mk [44]::vs))
inductive GrA:List Ex→List TT→Prop
 | nil:GrA [] [TT.mk [40],TT.mk [41]]
 | some {es:List Ex} {us:List TT} (h:GrL es us):GrA es (TT.mk [40]::(us++[TT.mk [41]]))
end
/-- With what an expression may begin. -/
def Fst (u:TT):Prop:=u.kind=1∨u.kind=3∨(u.text∈[[45],[110,117,108,108],[116,104,105,115],[105,110,112,117,116],[110,101,119],[40]])
def FstL (us:List TT):Prop:=∃ u vs,us=u::vs∧Fst u
theorem FstL.app {us:List TT}(h:FstL us)(vs:List TT):FstL (us++vs):=by
 obtain⟨u,ws,rfl,h⟩:=h;exact⟨u,ws++vs,rfl,h⟩
theorem GrP.fst:∀ (n:Nat) {e:Ex} {us:List TT} {s:Nat},us.length≤n→GrP e us s→FstL us:=by
 intro n
 induction n with
 | zero =>
   intro e us s hn h;cases h <;> first | (simp at hn;done) | skip
 | succ n ih =>
   intro e us s hn h;cases h with
   | int x n=>exact⟨_,_,rfl,.inr (.inl rfl)⟩
   | neg x n h=>exact⟨_,_,rfl,.inr (.inr (by simp [TT.text]))⟩
   | null=>exact⟨_,_,rfl,.inr (.inr (by simp [TT.text]))⟩
   | var x=>exact⟨_,_,rfl,.inl rfl⟩
   | this=>exact⟨_,_,rfl,.inr (.inr (by simp [TT.text]))⟩
   | input=>exact⟨_,_,rfl,.inr (.inr (by simp [TT.text]))⟩
   | new x=>exact⟨_,_,rfl,.inr (.inr (by simp [TT.text]))⟩
   | paren h=>exact⟨_,_,rfl,.inr (.inr (by simp [TT.text]))⟩
   | static o m h=>exact⟨_,_,rfl,.inl rfl⟩
   | field h m=>exact (ih (by simp at hn;omega) h).app _
   | call h m ha=>exact (ih (by simp at hn;omega) h).app _
theorem GrX.fst:∀ (n:Nat) {e:Ex} {us:List TT},us.length≤n→GrX e us→FstL us:=by
 intro n
 induction n with
 | zero=>intro e us hn h;cases h with
   | post h=>exact h.fst _ hn
   | mul h h2=>simp at hn
 | succ n ih=>intro e us hn h;cases h with
   | post h=>exact h.fst _ hn
   | mul h h2=>exact (ih (by simp at hn;omega) h).app _
theorem GrS.fst:∀ (n:Nat) {e:Ex} {us:List TT},us.length≤n→GrS e us→FstL us:=by
 intro n
 induction n with
 | zero=>intro e us hn h;cases h with
   | prod h=>exact h.fst _ hn
   | add h h2=>simp at hn
   | sub h h2=>simp at hn
 | succ n ih=>intro e us hn h;cases h with
   | prod h=>exact h.fst _ hn
   | add h h2=>exact (ih (by simp at hn;omega) h).app _
   | sub h h2=>exact (ih (by simp at hn;omega) h).app _
theorem GrE.fst {e:Ex}{us:List TT}(h:GrE e us):FstL us:=by
 cases h with
 | sum h=>exact h.fst _ (Nat.le_refl _)
 | less h h2=>exact (h.fst _ (Nat.le_refl _)).app _
 | equal h h2=>exact (h.fst _ (Nat.le_refl _)).app _
theorem GrL.fst {es:List Ex}{us:List TT}(h:GrL es us):FstL us:=by
 cases h with
 | one h=>exact h.fst
 | cons h h2=>exact h.fst.app _
/-- Texts with which no expression begins. -/
def notFst:List Bytes:=[[41],[59],[118,97,114],[105,102],[119,104,105,108,101],[116,114,121],[116,104,114,111,119],[114,101,116,117,114,110],[125]]
section
variable {ts:List Tok} (hT:TWR ts)
include hT
theorem FstL.nxt {us:List TT}{i:Nat}(h:FstL us)(ha:AtT ts i us):Nxt ts i notFst:=by
 obtain⟨u,vs,rfl,h⟩:=h;obtain⟨⟨_,h1,h2,_⟩,_⟩:=AtT.cons.1 ha;rcases h with h | h | h
 ·exact .word hT (.inl (h1.trans h)) (by decide)
 ·exact .word hT (.inr (h1.trans h)) (by decide)
 ·refine fun x hx=>?_
  rw [isT_of h2];have key:∀ t∈[[45],[110,117,108,108],[116,104,105,115],[105,110,112,117,116],[110,101,119],[40]],∀ y∈notFst,((t:Bytes) == y)=false:=by decide
  exact key _ h x hx
end
def stop4:List Bytes:=[[40],[58,58]]
def stop3:List Bytes:=[[46],[40],[58,58]]
def stop2:List Bytes:=[[42],[46],[40],[58,58]]
def stop1:List Bytes:=[[43],[45],[42],[46],[40],[58,58]]
def stop0:List Bytes:=[[60],[61,61],[43],[45],[42],[46],[40],[58,58]]
/-- E reads what is written with fewer than N tokens. -/
def Good (ts:List Tok)(N:Nat)(E:Nat→PR Ex):Prop:=∀ e us i,us.length<N→GrE e us→AtT ts i us→Nxt ts (i+us.length) stop0→E i=.ok (e,i+us.length)
section
variable {ts:List Tok} (hT:TWR ts) {N:Nat} {E:Nat→PR Ex} (hE:Good ts N E)
include hT hE
omit hT in
theorem list_good:∀ {es:List Ex} {vs:List TT} (acc:List Ex) (n i:Nat),vs.length<N→vs.length<n→GrL es vs→AtT ts i (vs++[TT.mk [41]])→bindP (E i) (fun e j=>argsLoop ts E n (acc++[e]) j)=.ok (acc++es,i+vs.length+1):=by
 intro es
 induction es with
 | nil=>intro vs acc n i _ _ h;cases h
 | cons e es ih =>
   intro vs acc n i hN hn h ha;obtain⟨n,rfl⟩:∃ m,n=m+1:=⟨n-1,by omega⟩;cases h with
   | one h =>
     obtain⟨h1,h2⟩:=ha.append;obtain⟨⟨_,_,hx,_⟩,_⟩:=h2;rw [hE _ _ _ hN h h1 (.of hx (by decide)),bindP_ok,argsLoop,isT_of hx,if_neg (by decide),expectP_at hx,bindP_ok]
   | @cons _ us ws _ h h2 =>
     rw [List.append_assoc] at ha;obtain⟨h1,ha⟩:=ha.append;obtain⟨⟨_,_,hx,_⟩,ha⟩:=ha;simp only [List.length_append,List.length_cons] at hN hn;rw [hE _ _ _ (by omega) h h1 (.of hx (by decide)),bindP_ok,argsLoop,isT_of hx,if_pos (by decide)];have:=ih (acc++[e]) n _ (by omega) (by omega) h2 ha;rw [this,List.append_assoc,List.length_append,List.length_cons];simp only [List.cons_append,List.nil_append]
     congr 2;omega
theorem args_good {es:List Ex}{us:List TT}{i:Nat}(hN:us.length≤N)(h:GrA es us)(ha:AtT ts i us):argsP ts E i=.ok (es,i+us.length):=by
 cases h with
 | nil =>
   obtain⟨⟨_,_,hx,_⟩,⟨_,_,hy,_⟩,_⟩:=ha;unfold argsP;rw [expectP_at hx,bindP_ok,isT_of hy,if_pos (by decide)];rfl
 | @some _ us h =>
   have hle:=ha.len;obtain⟨⟨_,_,hx,_⟩,ha⟩:=ha;simp only [List.length_cons,List.length_append,List.length_nil] at hN hle;unfold argsP;rw [expectP_at hx,bindP_ok,(FstL.nxt hT (h.fst.app _) ha).get _ (by decide)];rw [if_neg (by decide)];have:=list_good hE [] (ts.length+1) (i+1) (by omega) (by omega) h ha;simp only [List.nil_append] at this;rw [this];simp only [List.length_cons,List.length_append,List.length_nil]
   congr 2;omega
/-- A post is read up to the loop of its suffixes. -/
theorem post_good:∀ (n:Nat) {e:Ex} {us:List TT} {s i:Nat},us.length≤n→us.length≤N→GrP e us s→AtT ts i us→Nxt ts (i+us.length) stop4 →
  ∃ m,postP ts E i=postLoop ts E m e s (i+us.length)∧ts.length+1≤m+us.length:=by
 intro n
 induction n with
 | zero=>intro e us s i hn _ h;obtain⟨u,vs,rfl,_⟩:=h.fst _ hn;simp at hn
 | succ n ih =>
   intro e us s i hn hN h ha hx;have atom:∀ {e':Ex} {s' j:Nat},atomP ts E i=.ok ((e',s'),j)→e'=e→s'=s→j=i+us.length→∃ m,postP ts E i=postLoop ts E m e s (i+us.length)∧ts.length+1≤m+us.length:=by
    rintro e' s' j h0 rfl rfl rfl;exact⟨ts.length+1,by unfold postP;rw [h0,bindP_ok],by omega⟩
   cases h with
   | int x n =>
     obtain⟨⟨_,k1,t1,n1⟩,_⟩:=ha;refine atom ?_ rfl rfl rfl;unfold atomP;rw [if_neg (by rw [k1];decide),if_pos k1,n1];rfl
   | neg x n h =>
     obtain⟨⟨_,k1,t1,_⟩,⟨_,k2,_,n2⟩,_⟩:=ha;refine atom ?_ rfl rfl rfl;unfold atomP;rw [if_neg (by rw [k1];decide),if_neg (by rw [k1];decide),isT_of t1,if_pos (by decide)];unfold minusP;rw [if_pos ⟨k2,by rw [n2];exact h⟩,n2];rfl
   | null =>
     obtain⟨⟨_,k1,t1,_⟩,_⟩:=ha;refine atom ?_ rfl rfl rfl;unfold atomP;simp only [isT_of t1];rw [if_neg (by rw [k1];decide),if_neg (by rw [k1];decide),if_neg (by decide),if_pos (by decide)];rfl
   | var x =>
     obtain⟨⟨_,k1,t1,_⟩,_⟩:=ha;refine atom ?_ rfl rfl rfl;unfold atomP;rw [if_pos k1];unfold namedP;rw [nameP_at k1 t1,bindP_ok,show isT ts (i+1) [58,58]=false from hx.get _ (by decide),if_neg (by decide)];rfl
   | this =>
     obtain⟨⟨_,k1,t1,_⟩,_⟩:=ha;refine atom ?_ rfl rfl rfl;unfold atomP;simp only [isT_of t1];rw [if_neg (by rw [k1];decide),if_neg (by rw [k1];decide),if_neg (by decide),if_neg (by decide),if_pos (by decide)];rfl
   | input =>
     obtain⟨⟨_,k1,t1,_⟩,⟨_,_,t2,_⟩,⟨_,_,t3,_⟩,_⟩:=ha;refine atom ?_ rfl rfl rfl;unfold atomP;simp only [isT_of t1];rw [if_neg (by rw [k1];decide),if_neg (by rw [k1];decide),if_neg (by decide),if_neg (by decide),if_neg (by decide),if_pos (by decide)];unfold unitP;rw [expectP_at t2,bindP_ok,expectP_at t3,bindP_ok];rfl
   | new x =>
     obtain⟨⟨_,k1,t1,_⟩,⟨_,k2,t2,_⟩,⟨_,_,t3,_⟩,⟨_,_,t4,_⟩,_⟩:=ha;refine atom ?_ rfl rfl rfl;unfold atomP;simp only [isT_of t1];rw [if_neg (by rw [k1];decide),if_neg (by rw [k1];decide),if_neg (by decide),if_neg (by decide),if_neg (by decide),if_neg (by decide),if_pos (by decide),nameP_at k2 t2,bindP_ok];unfold unitP;rw [expectP_at t3,bindP_ok,expectP_at t4,bindP_ok];rfl
   | @paren _ us h =>
     obtain⟨⟨_,k1,t1,_⟩,ha⟩:=ha;obtain⟨h1,⟨_,_,t2,_⟩,_⟩:=ha.append;simp only [List.length_cons,List.length_append,List.length_nil] at hN;refine atom (e':=e) (s':=0) (j:=i+1+us.length+1) ?_ rfl rfl (by simp only [List.length_cons,List.length_append,List.length_nil];omega);unfold atomP;simp only [isT_of t1];rw [if_neg (by rw [k1];decide),if_neg (by rw [k1];decide),if_neg (by decide),if_neg (by decide),if_neg (by decide),if_neg (by decide),if_neg (by decide)];unfold parenP;rw [expectP_at t1,bindP_ok,hE _ _ _ (by omega) h h1 (.of t2 (by decide)),bindP_ok,expectP_at t2,bindP_ok]
   | @static o m es us h =>
     obtain⟨⟨_,k1,t1,_⟩,⟨_,_,t2,_⟩,⟨_,k3,t3,_⟩,ha⟩:=ha;simp only [List.length_cons] at hN;refine atom (j:=i+1+1+1+us.length) ?_ rfl rfl (by simp only [List.length_cons];omega);unfold atomP;rw [if_pos k1];unfold namedP;rw [nameP_at k1 t1,bindP_ok,isT_of t2,if_pos (by decide),nameP_at k3 t3,bindP_ok,args_good hT hE (by omega) h ha,bindP_ok]
   | @field k us s h m =>
     obtain⟨h1,⟨_,_,t1,_⟩,⟨_,k2,t2,_⟩,_⟩:=ha.append;have hl:=h1.len;simp only [List.length_append,List.length_cons,List.length_nil] at hn hN hx ⊢;obtain⟨p,e1,e2⟩:=ih (by omega) (by omega) h h1 (.of t1 (by decide));obtain⟨p,rfl⟩:∃ q,p=q+1:=⟨p-1,by omega⟩;refine⟨p,?_,by omega⟩;rw [e1,postLoop,isT_of t1,if_pos (by decide),nameP_at k2 t2,bindP_ok,show isT ts (i+us.length+1+1) [40]=false from hx.get _ (by decide),if_neg (by decide)];rfl
   | @call k us vs s es h m hp =>
     obtain⟨h1,⟨_,_,t1,_⟩,⟨_,k2,t2,_⟩,ha⟩:=ha.append;have hl:=h1.len;simp only [List.length_append,List.length_cons,List.length_nil] at hn hN hx ⊢;obtain⟨p,e1,e2⟩:=ih (by omega) (by omega) h h1 (.of t1 (by decide));obtain⟨p,rfl⟩:∃ q,p=q+1:=⟨p-1,by omega⟩;have t3:(tk ts (i+us.length+1+1)).text=[40]:=by
      cases hp with
      | nil=>exact ha.1.2.2.1
      | some h=>exact ha.1.2.2.1
     refine⟨p,?_,by omega⟩;rw [e1,postLoop,isT_of t1,if_pos (by decide),nameP_at k2 t2,bindP_ok,isT_of t3,if_pos (by decide),args_good hT hE (by omega) hp ha,bindP_ok]
     congr 1;omega
theorem postP_good {e:Ex}{us:List TT}{s i:Nat}(hN:us.length≤N)(h:GrP e us s)(ha:AtT ts i us)(hx:Nxt ts (i+us.length) stop3):postP ts E i=.ok ((e,s),i+us.length):=by
 obtain⟨m,h1,h2⟩:=post_good hT hE _ (Nat.le_refl _) hN h ha (hx.sub (by decide));have hl:=ha.len;obtain⟨m,rfl⟩:∃ q,m=q+1:=⟨m-1,by omega⟩;rw [h1,postLoop,hx.get _ (by decide),if_neg (by decide)]
theorem prod_good:∀ (n:Nat) {e:Ex} {us:List TT} {i:Nat},us.length≤n→us.length≤N→GrX e us→AtT ts i us→Nxt ts (i+us.length) stop3 →
  ∃ m,prodP ts E i=prodLoop ts E m e (i+us.length)∧ts.length+1≤m+us.length:=by
 intro n
 induction n with
 | zero=>intro e us i hn _ h;obtain⟨u,vs,rfl,_⟩:=h.fst _ hn;simp at hn
 | succ n ih =>
   intro e us i hn hN h ha hx;cases h with
   | post h=>exact⟨ts.length+1,by unfold prodP;rw [postP_good hT hE hN h ha hx,bindP_ok],by omega⟩
   | @mul a b us vs s h h2 =>
     obtain⟨h1,⟨_,_,t1,_⟩,ha⟩:=ha.append;have hl:=h1.len;simp only [List.length_append,List.length_cons] at hn hN hx ⊢;obtain⟨p,e1,e2⟩:=ih (by omega) (by omega) h h1 (.of t1 (by decide));obtain⟨p,rfl⟩:∃ q,p=q+1:=⟨p-1,by omega⟩;have e:i+us.length+1+vs.length=i+(us.length+(vs.length+1)):=by omega
     refine⟨p,?_,by omega⟩;rw [e1,prodLoop,isT_of t1,if_pos (by decide),postP_good hT hE (by omega) h2 ha (by rw [e];exact hx),bindP_ok,e]
theorem prodP_good {e:Ex}{us:List TT}{i:Nat}(hN:us.length≤N)(h:GrX e us)(ha:AtT ts i us)(hx:Nxt ts (i+us.length) stop2):prodP ts E i=.ok (e,i+us.length):=by
 obtain⟨m,h1,h2⟩:=prod_good hT hE _ (Nat.le_refl _) hN h ha (hx.sub (by decide));have hl:=ha.len;obtain⟨m,rfl⟩:∃ q,m=q+1:=⟨m-1,by omega⟩;rw [h1,prodLoop,hx.get _ (by decide),if_neg (by decide)]
theorem sum_good:∀ (n:Nat) {e:Ex} {us:List TT} {i:Nat},us.length≤n→us.length≤N→GrS e us→AtT ts i us→Nxt ts (i+us.length) stop2 →
  ∃ m,sumP ts E i=sumLoop ts E m e (i+us.length)∧ts.length+1≤m+us.length:=by
 intro n
 induction n with
 | zero=>intro e us i hn _ h;obtain⟨u,vs,rfl,_⟩:=h.fst _ hn;simp at hn
 | succ n ih =>
   intro e us i hn hN h ha hx;cases h with
   | prod h=>exact⟨ts.length+1,by unfold sumP;rw [prodP_good hT hE hN h ha hx,bindP_ok],by omega⟩
   | @add a b us vs h h2 =>
     obtain⟨h1,⟨_,_,t1,_⟩,ha⟩:=ha.append;have hl:=h1.len;simp only [List.length_append,List.length_cons] at hn hN hx ⊢;obtain⟨p,e1,e2⟩:=ih (by omega) (by omega) h h1 (.of t1 (by decide));obtain⟨p,rfl⟩:∃ q,p=q+1:=⟨p-1,by omega⟩;have e:i+us.length+1+vs.length=i+(us.length+(vs.length+1)):=by omega
     refine⟨p,?_,by omega⟩;rw [e1,sumLoop,isT_of t1,if_pos (by decide),prodP_good hT hE (by omega) h2 ha (by rw [e];exact hx),bindP_ok,e]
   | @sub a b us vs h h2 =>
     obtain⟨h1,⟨_,_,t1,_⟩,ha⟩:=ha.append;have hl:=h1.len;simp only [List.length_append,List.length_cons] at hn hN hx ⊢;obtain⟨p,e1,e2⟩:=ih (by omega) (by omega) h h1 (.of t1 (by decide));obtain⟨p,rfl⟩:∃ q,p=q+1:=⟨p-1,by omega⟩;have e:i+us.length+1+vs.length=i+(us.length+(vs.length+1)):=by omega
     refine⟨p,?_,by omega⟩;rw [e1,sumLoop,isT_of t1,if_neg (by decide),isT_of t1,if_pos (by decide),prodP_good hT hE (by omega) h2 ha (by rw [e];exact hx),bindP_ok,e]
theorem sumP_good {e:Ex}{us:List TT}{i:Nat}(hN:us.length≤N)(h:GrS e us)(ha:AtT ts i us)(hx:Nxt ts (i+us.length) stop1):sumP ts E i=.ok (e,i+us.length):=by
 obtain⟨m,h1,h2⟩:=sum_good hT hE _ (Nat.le_refl _) hN h ha (hx.sub (by decide));have hl:=ha.len;obtain⟨m,rfl⟩:∃ q,m=q+1:=⟨m-1,by omega⟩;rw [h1,sumLoop,hx.get _ (by decide),if_neg (by decide),hx.get _ (by decide),if_neg (by decide)]
theorem exprW_good:Good ts (N+1) (exprW ts E):=by
 intro e us i hN h ha hx;unfold exprW;cases h with
 | sum h=>rw [sumP_good hT hE (by omega) h ha (hx.sub (by decide)),bindP_ok,hx.get _ (by decide),if_neg (by decide),hx.get _ (by decide),if_neg (by decide)]
 | @less a b us vs h h2 =>
   obtain⟨h1,⟨_,_,t1,_⟩,ha⟩:=ha.append;simp only [List.length_append,List.length_cons] at hN hx ⊢;have e:i+us.length+1+vs.length=i+(us.length+(vs.length+1)):=by omega
   rw [sumP_good hT hE (by omega) h h1 (.of t1 (by decide)),bindP_ok,isT_of t1,if_pos (by decide),sumP_good hT hE (by omega) h2 ha (by rw [e];exact hx.sub (by decide)),bindP_ok,e]
 | @equal a b us vs h h2 =>
   obtain⟨h1,⟨_,_,t1,_⟩,ha⟩:=ha.append;simp only [List.length_append,List.length_cons] at hN hx ⊢;have e:i+us.length+1+vs.length=i+(us.length+(vs.length+1)):=by omega
   rw [sumP_good hT hE (by omega) h h1 (.of t1 (by decide)),bindP_ok,isT_of t1,if_neg (by decide),isT_of t1,if_pos (by decide),sumP_good hT hE (by omega) h2 ha (by rw [e];exact hx.sub (by decide)),bindP_ok,e]
end
section
variable {ts:List Tok} (hT:TWR ts)
include hT
theorem exprP_good:∀ f,Good ts f (exprP ts f):=by
 intro f
 induction f with
 | zero=>intro e us i h;omega
 | succ f ih=>exact exprW_good hT ih
theorem exprT_good:Good ts (ts.length+1) (exprT ts):=exprP_good hT _
theorem expr_at {e:Ex}{us:List TT}{i:Nat}(h:GrE e us)(ha:AtT ts i us)(hx:Nxt ts (i+us.length) stop0):exprT ts i=.ok (e,i+us.length):=exprT_good hT _ _ _ (by have:=ha.len;omega) h ha hx
end
end Lx
end
section
open Lx
namespace Lx
/-- What a type is written as. -/
def GrT (t:Bytes)(u:TT):Prop:=(t=[105,110,116]∧u=TT.kw t)∨u=TT.wd t
mutual
inductive GrSt:St→List TT→Prop
 | var0 (x t:Bytes) {u:TT} (hu:GrT t u):GrSt (.mk 1 x t [] [] []) [TT.kw [118,97,114],TT.wd x,TT.mk [58],u,TT.mk [59]]
 | var1 (x t:Bytes) {u:TT} (hu:GrT t u) {e:Ex} {us:List TT} (h:GrE e us):GrSt (.mk 1 x t [e] [] []) (TT.kw [118,97,114]::TT.wd x::TT.mk [58]::u::TT.mk [61]::(us++[TT.mk [59]]))
 | assign (x:Bytes) {e:Ex} {us:List TT} (h:GrE e us):GrSt (.mk 2 x [] [e] [] []) (TT.wd x::TT.mk [61]::(us++[TT.mk [59]]))
 | store {k:Ex} {us:List TT} {s:Nat} (h:GrP k us s) (m:Bytes) {e:Ex} {vs:List TT} (h2:GrE e vs):GrSt (.mk 3 m [] [k,e] [] []) (us++(TT.mk [46]::TT.wd m::TT.mk [61]::(vs++[TT.mk [59]])))
 | if0 {e:Ex} {us:List TT} (h:GrE e us) {b:List St} {vs:List TT} (hb:GrB b vs):GrSt (.mk 4 [] [] [e] b []) (TT.kw [105,102]::TT.mk [40]::(us++(TT.mk [41]::vs)))
 | if1 {e:Ex} {us:List TT} (h:GrE e us) {b c:List St} {vs ws:List TT} (hb:GrB b vs) (hc:GrB c ws):GrSt (.mk 4 [] [] [e] b c) (TT.kw [105,102]::TT.mk [40]::(us++(TT.mk [41]::(vs++(TT.kw [101,108,115,101]::ws)))))
 | while {e:Ex} {us:List TT} (h:GrE e us) {b:List St} {vs:List TT} (hb:GrB b vs):GrSt (.mk 5 [] [] [e] b []) (TT.kw [119,104,105,108,101]::TT.mk [40]::(us++(TT.mk [41]::vs)))
 | try {b:List St} {us:List TT} (hb:GrB b us) (x t:Bytes) {u:TT} (hu:GrT t u) {c:List St} {vs:List TT} (hc:GrB c vs):GrSt (.mk 6 x t [] b c) (TT.kw [116,114,121]::(us++(TT.kw [99,97,116,99,104]::TT.mk [40]::TT.wd x::TT.mk [58]::u::TT.mk [41]::vs)))
 | throw {e:Ex} {us:List TT} (h:GrE e us):GrSt (.mk 7 [] [] [e] [] []) (TT.kw [116,104,114,111,119]::(us++[TT.mk [59]]))
 | return0:GrSt (.mk 8 [] [] [] [] []) [TT.kw [114,101,116,117,114,110],TT.mk [59]]
 | return1 {e:Ex} {us:List TT} (h:GrE e us):GrSt (.mk 8 [] [] [e] [] []) (TT.kw [114,101,116,117,114,110]::(us++[TT.mk [59]]))
 | call {e:Ex} {us:List TT} (h:GrP e us 3):GrSt (.mk 9 [] [] [e] [] []) (us++[TT.mk [59]])
inductive GrB:List St→List TT→Prop
 | mk {l:List St} {us:List TT} (h:GrSs l us):GrB l (TT.mk [123]::(us++[TT.mk [125]]))
inductive GrSs:List St→List TT→Prop
 | nil:GrSs [] []
 | cons {s:St} {us:List TT} {l:List St} {vs:List TT} (h:GrSt s us) (h2:GrSs l vs):GrSs (s::l) (us++vs)
end
theorem GrP.ne {e:Ex}{us:List TT}{s:Nat}(h:GrP e us s):us≠[]:=by obtain⟨u,vs,rfl,_⟩:=h.fst _ (Nat.le_refl _);simp
theorem GrSt.ne {s:St}{us:List TT}(h:GrSt s us):us≠[]:=by cases h <;> simp
/-- A statement does not begin with a closing brace. -/
theorem GrSt.nxt {ts:List Tok}(hT:TWR ts){s:St}{us:List TT}{i:Nat}(h:GrSt s us)(ha:AtT ts i us):isT ts i [125]=false:=by
 cases h with
 | assign x h=>exact (Nxt.word hT (L:=[[125]]) (.inl ha.1.2.1) (by decide)).get _ (by decide)
 | store h m h2=>exact (FstL.nxt hT ((h.fst _ (Nat.le_refl _)).app _) ha).get _ (by decide)
 | call h=>exact (FstL.nxt hT ((h.fst _ (Nat.le_refl _)).app _) ha).get _ (by decide)
 | _=>rw [isT_of ha.1.2.2.1];decide
section
variable {ts:List Tok} (hT:TWR ts)
include hT
end
/-- B reads what is written with fewer than N tokens. -/
def GoodB (ts:List Tok)(N:Nat)(B:Nat→PR (List St)):Prop:=∀ l us i,us.length<N→GrB l us→AtT ts i us→B i=.ok (l,i+us.length)
section
variable {ts:List Tok} (hT:TWR ts) {N:Nat} {B:Nat→PR (List St)} (hB:GoodB ts N B)
include hT hB
end
section
variable {ts:List Tok} (hT:TWR ts)
include hT
end
end Lx
end
end Go.Proofs.YtmlafcimjhnhhaaGreatDoor
