/-
  AX: own lists with spare cells behind them; they are looked at as frozen ones, they grow.
-/
import Derived.Test.YtoookjadbhdfhaaGreatDoorUJpAp
import Derived.Test.YtoookjadbhdfhaaGreatDoorUJpAk
import Derived.Test.YtoookjadbhdfhaaGreatDoorUOldAx
import Derived.Test.YtoookjadbhdfhaaGreatDoorUJpAo
import Derived.Test.YtoookjadbhdfhaaGreatDoorUJpAl
import Derived.Test.YtoookjadbhdfhaaGreatDoorULaid
set_option linter.unusedSectionVars false
set_option linter.unusedSimpArgs false
set_option linter.unnecessarySimpa false
set_option linter.unusedVariables false
set_option linter.unusedSimpArgs false
set_option linter.unusedVariables false
namespace Go.Proofs.YtoookjadbhdfhaaGreatDoor
section
namespace Ax
/-- An own list, with whatever stands behind it in its block. -/
def OwnR {α:Type}(cv:α→List CV)(k:Nat)(H:Heap)(nx:Nat)(c:CV)(l:List α):Prop:=(l=[]∧c=.nils)∨∃ b rest,c=.sl b 0 l.length k∧H b=some (.cells (l.flatMap cv++rest))∧b<nx
section
variable {α:Type} {cv:α→List CV} {k:Nat} {H:Heap} {nx:Nat} {c:CV} {l:List α}
theorem OwnR.nil:OwnR cv k H nx .nils []:=.inl ⟨rfl,rfl⟩
theorem OwnR.keep {H':Heap}{nx':Nat}(h:OwnR cv k H nx c l)(hn:nx≤nx')(hk:∀ b,b<nx→c=.sl b 0 l.length k→H' b=H b):OwnR cv k H' nx' c l:=by
 rcases h with h | ⟨b,rest,h1,h2,h3⟩
 ·exact .inl h
 ·exact .inr ⟨b,rest,h1,by rw [hk b h3 h1];exact h2,by omega⟩
theorem OwnR.isN {N:Nat}{rest:List CV}(hb:H N=some (.cells (l.flatMap cv++rest)))(hn:N<nx)(n:Nat)(hl:n=l.length):OwnR cv k H nx (.sl N 0 n k) l:=.inr ⟨N,rest,by rw [hl],hb,hn⟩
theorem OwnR.isN0 {N:Nat}(hb:H N=some (.cells (l.flatMap cv)))(hn:N<nx)(n:Nat)(hl:n=l.length):OwnR cv k H nx (.sl N 0 n k) l:=.inr ⟨N,[],by rw [hl],by rw [List.append_nil];exact hb,hn⟩
theorem OwnR.len {P:Program}{t el:TypeId}{s b1:Nat}{z:Value}(ht:ti P t=some ⟨.slice el,s,z,b1⟩)(h:OwnR cv k H nx c l)(H':Heap):lenA P H' t c=some (.int .i64 l.length):=by
 unfold lenA;rw [ht];rcases h with⟨rfl,rfl⟩ | ⟨b,rest,rfl,_,_⟩ <;> rfl
theorem OwnR.ln (hk:∀ a,(cv a).length=k)(h:OwnR cv k H nx c l):Ln H c (.lst (l.map cv)):=by
 rcases h with⟨rfl,rfl⟩ | ⟨b,rest,rfl,hb,_⟩
 ·exact .nils
 ·have e:rowsOf (l.flatMap cv++rest) 0 k l.length=l.map cv:=by
   have:=rowsOf_flat (k:=k) (rows:=l.map cv) (fun r hr=>by obtain⟨a,_,rfl⟩:=List.mem_map.mp hr;exact hk a) [] rest;rw [flat_map] at this;simpa using this
  have:=Ln.sl (H:=H) b 0 l.length k (l.flatMap cv++rest) (l.flatMap cv++rest) hb (by rw [List.length_append,flatMap_len hk];omega) rfl (fun j a b'=>.same _);rw [e] at this;exact this
/-- A beginning of the list. -/
theorem OwnR.cut {l m:List α}(hk:∀ a,(cv a).length=k){b n:Nat}(h:OwnR cv k H nx (.sl b 0 n k) (l++m)):OwnR cv k H nx (.sl b 0 l.length k) l:=by
 rcases h with⟨_,h⟩ | ⟨b2,rest,h1,h2,h3⟩
 ·cases h
 ·cases h1;exact .inr ⟨b,m.flatMap cv++rest,rfl,by rw [h2,List.flatMap_append,List.append_assoc],h3⟩
end
section
variable {P:Program} {H:Heap} {nx ne:Nat}
theorem app_rowR {t el:TypeId}{s b1:Nat}{z:Value}{i:TI}{b x n k:Nat}{cs row:List CV}(ht:ti P t=some ⟨.slice el,s,z,b1⟩)(hi:ti P el=some i)(hk:i.size=k)(hz:i.zero.cells.size=k)(hk0:0<k)(hb:H b=some (.cells cs))(hcs:n*k≤cs.length)
  (hx:H x=some (.cells row)) (hrow:row.length=k) (hone:row.all CV.one=true) (hn:n<1000000000) (hby:i.bytes≤1000):appA P H nx t t (.sl b 0 n k) (.sl x 0 1 k)=some (.sl nx 0 (n+1) k,.mv b (.cells (cs.take (n*k)++row))):=by
 have h1:Nat.ble (0+1*k) row.length=true:=Nat.ble_eq_true_of_le (by omega);have h2:Nat.ble (n*k) cs.length=true:=Nat.ble_eq_true_of_le (by omega);have h3:Nat.ble (n+1) 9223372036854775807=true:=Nat.ble_eq_true_of_le (by omega);have h4:(n+1)*i.bytes≤1000000000*1000:=Nat.mul_le_mul (by omega) hby;have h5:Nat.ble ((n+1)*i.bytes) 140737488355328=true:=Nat.ble_eq_true_of_le (by omega);have h6:Nat.blt 0 i.size=true:=lt_blt (by omega);have h7:Nat.beq i.zero.cells.size i.size=true:=by rw [hz,hk];exact Nat.beq_refl _
 have h8:Nat.beq k i.size=true:=by rw [hk];exact Nat.beq_refl _
 have e1:row.take (1*k)=row:=List.take_of_length_le (by omega);unfold appA;simp only [ht,hi,srcD,h6,h7,Bool.and_self,srcA,hx,h8,h1,Bool.true_and,List.drop_zero,e1,hone,hb,Nat.beq_refl,h2,h3,h5]
theorem app_keyR {α:Type}{cv:α→List CV}{k:Nat}{t el:TypeId}{s b1:Nat}{z:Value}{i:TI}(ht:ti P t=some ⟨.slice el,s,z,b1⟩)(hi:ti P el=some i)(hk:i.size=k)(hz:i.zero.cells.size=k)(hk0:0<k)(hby:i.bytes≤1000)
  (hcv:∀ a,(cv a).length=k) (hone:∀ a,(cv a).all CV.one=true) {c:CV} {l:List α} {x:Nat} {u:α} (ho:OwnR cv k H ne c l) (hxb:H x=some (.cells (cv u))) (hn:l.length<1000000000) :
  ∃ d',appA P H ne t t c (.sl x 0 1 k)=some (.sl ne 0 (l.length+1) k,d')∧d'.on H=true∧d'.nx ne=ne+1∧d'.hp H ne ne=some (.cells ((l++[u]).flatMap cv))∧∀ b,b<ne→(∀ b',c=.sl b' 0 l.length k→b≠b')→(d'.hp H ne) b=H b:=by
 rcases ho with⟨rfl,rfl⟩ | ⟨b,rest,rfl,hb,hlt⟩
 ·refine⟨_,app_row0 ht hi hk hz hk0 hxb (hcv u) (hone u) hby,rfl,rfl,by simp [Dl.hp,Ax.upd],fun b hb _=>?_⟩;simp only [Dl.hp];exact upd_miss _ _ _ _ (by omega)
 ·have hfl:=flatMap_len hcv l;refine⟨_,app_rowR ht hi hk hz hk0 hb (by rw [List.length_append,hfl];omega) hxb (hcv u) (hone u) (by omega) hby,rfl,rfl,?_,fun b' hb' hne=>?_⟩
  ·rw [← hfl,List.take_left];simp [Dl.hp,Ax.upd,List.flatMap_append]
  ·simp only [Dl.hp];rw [upd_miss _ _ _ _ (by omega),drp_miss _ _ _ (hne b rfl)]
end
section
variable {P:Program} {G:Nat→CV} {n:Nat} {e:Env} {H:Heap} {nx nx0 kp ne:Nat} {Q:AExit→Env→Heap→Nat→Prop} {ops:Array Oper} {os:List Oper} {d:Option Nat} {ty:TypeId} {pos:String} {af:Array Edge} {g:Option (Nat×Bool)} {K:Env→Heap→Nat→Prop}
theorem AOpl.appQ {α:Type}{cv:α→List CV}{k:Nat}{t el:TypeId}{s b1:Nat}{z:Value}{i:TI}{so xo:Operand}{c:CV}{l:List α}{x:Nat}(hcv:∀ a,(cv a).length=k)(hone:∀ a,(cv a).all CV.one=true)(ht:ti P t=some ⟨.slice el,s,z,b1⟩)(hi:ti P el=some i)(u:α)
  (ho:OwnR cv k H nx c l) (hn:l.length<1000000000)
  (h:∀ H',H' nx=some (.cells ((l++[u]).flatMap cv))→(∀ b,b<nx→(∀ b',c=.sl b' 0 l.length k→b≠b')→H' b=H b)→AOpl P G n ops os (putE e d (.sl nx 0 (l.length+1) k)) H' (nx+1) Q)
  (hk:i.size=k:=by rfl) (hz:i.zero.cells.size=k:=by rfl) (hk0:0<k:=by omega) (hby:i.bytes≤1000:=by simp) (hd:okD n d=true:=by rfl) (hg:gd ops e ⟨d,.call ⟨.builtin .append,#[so,xo],#[t,t]⟩,ty,pos,af,g⟩=some true:=by (first | rfl | (simp [*];done)))
  (hs:rd G e so=c:=by (first | (simp [*];done) | (simp [*];rfl))) (hx:rd G e xo=.sl x 0 1 k:=by (first | (simp [*];done) | (simp [*];rfl))) (hxb:H x=some (.cells (cv u)):=by (first | (simp [*];done) | (simp [*];rfl))) :
  AOpl P G n ops (⟨d,.call ⟨.builtin .append,#[so,xo],#[t,t]⟩,ty,pos,af,g⟩::os) e H nx Q:=by
 obtain⟨d',h1,h2,h3,h4,h5⟩:=app_keyR ht hi hk hz hk0 hby hcv hone ho hxb hn;refine Xa hd hg (c:=.sl nx 0 (l.length+1) k) (H':=d'.hp H nx) (nx':=nx+1) ?_ (h _ h4 h5);simp [stepS,qstep,bltA,astep,estep,hs,hx,h1,h3]
theorem ASl.appQ {α:Type}{cv:α→List CV}{k:Nat}{t el:TypeId}{s b1:Nat}{z:Value}{i:TI}{so xo:Operand}{c:CV}{l:List α}{x:Nat}(hcv:∀ a,(cv a).length=k)(hone:∀ a,(cv a).all CV.one=true)(ht:ti P t=some ⟨.slice el,s,z,b1⟩)(hi:ti P el=some i)(u:α)
  (ho:OwnR cv k H ne c l) (hn:l.length<1000000000)
  (h:∀ H',H' ne=some (.cells ((l++[u]).flatMap cv))→(∀ b,b<ne→(∀ b',c=.sl b' 0 l.length k→b≠b')→H' b=H b)→ASl P G nx0 (kp+1) ops os (putE e d (.sl ne 0 (l.length+1) k)) H' (ne+1) K)
  (hk:i.size=k:=by rfl) (hz:i.zero.cells.size=k:=by rfl) (hk0:0<k:=by omega) (hby:i.bytes≤1000:=by simp) (hg:gd ops e ⟨d,.call ⟨.builtin .append,#[so,xo],#[t,t]⟩,ty,pos,af,g⟩=some true:=by (first | rfl | (simp [*];done)))
  (hs:rd G e so=c:=by (first | (simp [*];done) | (simp [*];rfl))) (hx:rd G e xo=.sl x 0 1 k:=by (first | (simp [*];done) | (simp [*];rfl))) (hxb:H x=some (.cells (cv u)):=by (first | (simp [*];done) | (simp [*];rfl))) :
  ASl P G nx0 kp ops (⟨d,.call ⟨.builtin .append,#[so,xo],#[t,t]⟩,ty,pos,af,g⟩::os) e H ne K:=by
 obtain⟨d',h1,h2,h3,h4,h5⟩:=app_keyR ht hi hk hz hk0 hby hcv hone ho hxb hn;refine Xb hg (c:=.sl ne 0 (l.length+1) k) (H':=d'.hp H ne) (ne':=ne+1) ?_ (h _ h4 h5);simp [stepT,qstep,bltA,astep,estep,hs,hx,h1,h2,h3]
theorem ASlK.appQ {B:Nat→Prop}{R:List Nat}{H0:Heap}{α:Type}{cv:α→List CV}{k:Nat}{t el:TypeId}{s b1:Nat}{z:Value}{i:TI}{so xo:Operand}{c:CV}{l:List α}{x:Nat}(hcv:∀ a,(cv a).length=k)(hone:∀ a,(cv a).all CV.one=true)(ht:ti P t=some ⟨.slice el,s,z,b1⟩)(hi:ti P el=some i)(u:α)
  (ho:OwnR cv k H ne c l) (hn:l.length<1000000000) (hBk:∀ b,B b→b<ne∧∀ b',c=.sl b' 0 l.length k→b≠b')
  (h:∀ H',H' ne=some (.cells ((l++[u]).flatMap cv))→(∀ b,b<ne→(∀ b',c=.sl b' 0 l.length k→b≠b')→H' b=H b)→ASlK P G (Qc.b B R H0) nx0 (kp+1) ops os (putE e d (.sl ne 0 (l.length+1) k)) H' (ne+1) K)
  (hR:R.contains kp=false:=by rfl) (hk:i.size=k:=by rfl) (hz:i.zero.cells.size=k:=by rfl) (hk0:0<k:=by omega) (hby:i.bytes≤1000:=by simp) (hg:gd ops e ⟨d,.call ⟨.builtin .append,#[so,xo],#[t,t]⟩,ty,pos,af,g⟩=some true:=by (first | rfl | (simp [*];done)))
  (hs:rd G e so=c:=by (first | (simp [*];done) | (simp [*];rfl))) (hx:rd G e xo=.sl x 0 1 k:=by (first | (simp [*];done) | (simp [*];rfl))) (hxb:H x=some (.cells (cv u)):=by (first | (simp [*];done) | (simp [*];rfl))) :
  ASlK P G (Qc.b B R H0) nx0 kp ops (⟨d,.call ⟨.builtin .append,#[so,xo],#[t,t]⟩,ty,pos,af,g⟩::os) e H ne K:=by
 obtain⟨d',h1,h2,h3,h4,h5⟩:=app_keyR ht hi hk hz hk0 hby hcv hone ho hxb hn;refine ASlK.stepG hg (c:=.sl ne 0 (l.length+1) k) (H':=d'.hp H ne) (ne':=ne+1) ?_ (fun hr=>by rw [hR] at hr;cases hr) (fun b hb=>h5 b (hBk b hb).1 (hBk b hb).2) (h _ h4 h5);simp [stepT,qstep,bltA,astep,estep,hs,hx,h1,h2,h3]
end
end Ax
end
section
namespace Ax
/-- One end. -/
def Only (x:AExit)(e':Env)(H':Heap)(nx':Nat):AExit→Env→Heap→Nat→Prop:=fun x2 e2 H2 nx2=>x2=x∧e2=e'∧H2=H'∧nx2=nx'
def DWp (P:Program)(G:Nat→CV)(n:Nat)(c:Code)(e:Env)(H:Heap)(nx:Nat)(Q:AExit→Env→Heap→Nat→Prop):Prop:=∃ x e' H' nx',Q x e' H' nx'∧AWp P G n c e H nx (Only x e' H' nx')
def DOpl (P:Program)(G:Nat→CV)(n:Nat)(ops:Array Oper)(os:List Oper)(e:Env)(H:Heap)(nx:Nat)(Q:AExit→Env→Heap→Nat→Prop):Prop:=∃ x e' H' nx',Q x e' H' nx'∧AOpl P G n ops os e H nx (Only x e' H' nx')
def DCall (P:Program)(G:Nat→CV)(f:FuncId)(args:List CV)(H:Heap)(nx:Nat)(Q:CV→Heap→Nat→Prop):Prop:=∃ v H' nx',Q v H' nx'∧ACall P G f args H nx fun r H2 nx2=>r=.ret v∧H2=H'∧nx2=nx'
section
variable {P:Program} {G:Nat→CV} {n:Nat} {e:Env} {H:Heap} {nx:Nat} {Q:AExit→Env→Heap→Nat→Prop} {ops:Array Oper} {os:List Oper}
theorem DCall.toA {f:FuncId}{args:List CV}{Q:CV→Heap→Nat→Prop}(h:DCall P G f args H nx Q):ACall P G f args H nx fun r H' nx'=>∃ v,r=.ret v∧Q v H' nx':=by
 obtain⟨v,H',nx',hq,h⟩:=h;refine h.mono ?_;rintro r H2 nx2 ⟨rfl,rfl,rfl⟩;exact⟨v,rfl,hq⟩
theorem DCall.mono {f:FuncId}{args:List CV}{Q Q':CV→Heap→Nat→Prop}(h:DCall P G f args H nx Q)(hq:∀ v H' nx',Q v H' nx'→Q' v H' nx'):DCall P G f args H nx Q':=by
 obtain⟨v,H',nx',h1,h⟩:=h;exact⟨v,H',nx',hq _ _ _ h1,h⟩
theorem DCall.one {f:FuncId}{args:List CV}{v:CV}(h:FCall1 P G f args v):DCall P G f args H nx fun r H' nx'=>r=v∧H'=H∧nx'=nx:=⟨v,H,nx,⟨rfl,rfl,rfl⟩,h H nx⟩
theorem DWp.mono {c:Code}{Q':AExit→Env→Heap→Nat→Prop}(h:DWp P G n c e H nx Q)(hq:∀ x e H nx,Q x e H nx→Q' x e H nx):DWp P G n c e H nx Q':=by
 obtain⟨x,e',H',nx',h1,h⟩:=h;exact⟨x,e',H',nx',hq _ _ _ _ h1,h⟩
theorem DWp.skip (h:Q .normal e H nx):DWp P G n .skip e H nx Q:=⟨_,_,_,_,h,Xi ⟨rfl,rfl,rfl,rfl⟩⟩
theorem DWp.exit {id:Nat}(h:Q (.exit id) e H nx):DWp P G n (.exit id) e H nx Q:=⟨_,_,_,_,h,Xh ⟨rfl,rfl,rfl,rfl⟩⟩
theorem DWp.ret (h:Q .ret e H nx):DWp P G n .ret e H nx Q:=⟨_,_,_,_,h,Xo ⟨rfl,rfl,rfl,rfl⟩⟩
theorem Only.then {x:AExit}{e':Env}{H':Heap}{nx':Nat}{N:Env→Heap→Nat→Prop}(hx:x≠.normal):∀ x2 e2 H2 nx2,Only x e' H' nx' x2 e2 H2 nx2→Xx N (Only x e' H' nx') x2 e2 H2 nx2:=by
 rintro x2 e2 H2 nx2 ⟨rfl,rfl,rfl,rfl⟩;cases x2 with
 | normal=>exact absurd rfl hx
 | exit i=>exact⟨rfl,rfl,rfl,rfl⟩
 | ret=>exact⟨rfl,rfl,rfl,rfl⟩
 | pan v=>exact⟨rfl,rfl,rfl,rfl⟩
theorem DWp.seq {x y:Code}(h:DWp P G n x e H nx (Xx (fun e H nx=>DWp P G n y e H nx Q) Q)):DWp P G n (.seq x y) e H nx Q:=by
 obtain⟨z,e1,H1,n1,hq,h⟩:=h
 by_cases hz:z=.normal
 ·subst hz;obtain⟨z2,e2,H2,n2,hq2,h2⟩:=hq;refine⟨z2,e2,H2,n2,hq2,Xn (h.mono ?_)⟩;rintro _ _ _ _ ⟨rfl,rfl,rfl,rfl⟩;exact h2
 ·refine⟨z,e1,H1,n1,?_,Xn (h.mono (Only.then hz))⟩;cases z with
  | normal=>exact absurd rfl hz
  | exit i=>exact hq
  | ret=>exact hq
  | pan v=>exact hq
theorem DWp.cond' {c:Operand}{x y:Code}{b:Bool}(hc:rd G e c=.bool b)(h1:b=true→DWp P G n x e H nx Q)(h2:b=false→DWp P G n y e H nx Q):DWp P G n (.cond c x y) e H nx Q:=by
 cases b
 ·obtain⟨z,e1,H1,n1,hq,h⟩:=h2 rfl;exact⟨z,e1,H1,n1,hq,AWp.cond hc h⟩
 ·obtain⟨z,e1,H1,n1,hq,h⟩:=h1 rfl;exact⟨z,e1,H1,n1,hq,AWp.cond hc h⟩
theorem DWp.condT {c:Operand}{x y:Code}(hc:rd G e c=.bool true)(h:DWp P G n x e H nx Q):DWp P G n (.cond c x y) e H nx Q:=DWp.cond' hc (fun _=>h) (fun h=>by cases h)
theorem DWp.condF {c:Operand}{x y:Code}(hc:rd G e c=.bool false)(h:DWp P G n y e H nx Q):DWp P G n (.cond c x y) e H nx Q:=DWp.cond' hc (fun h=>by cases h) (fun _=>h)
theorem DWp.block {id:Nat}{c:Code}(h:DWp P G n c e H nx (Xy id Q)):DWp P G n (.block id c) e H nx Q:=by
 obtain⟨z,e1,H1,n1,hq,h⟩:=h;have key:∃ y,Q y e1 H1 n1∧Xy id (Only y e1 H1 n1) z e1 H1 n1:=by
  cases z with
  | normal=>exact⟨_,hq,rfl,rfl,rfl,rfl⟩
  | ret=>exact⟨_,hq,rfl,rfl,rfl,rfl⟩
  | pan v=>exact⟨_,hq,rfl,rfl,rfl,rfl⟩
  | exit i =>
    simp only [Xy] at hq ⊢
    by_cases hi:i=id
    ·rw [if_pos hi] at hq;exact⟨.normal,hq,by rw [if_pos hi];exact⟨rfl,rfl,rfl,rfl⟩⟩
    ·rw [if_neg hi] at hq;exact⟨.exit i,hq,by rw [if_neg hi];exact⟨rfl,rfl,rfl,rfl⟩⟩
 obtain⟨y,hy,hb⟩:=key;refine⟨y,e1,H1,n1,hy,Xc (h.mono ?_)⟩;rintro _ _ _ _ ⟨rfl,rfl,rfl,rfl⟩;exact hb
theorem DWp.reg {id:Nat}(hl:ops.toList=os)(h:DOpl P G n ops os e H nx Q):DWp P G n (.region id ops false) e H nx Q:=by
 obtain⟨z,e1,H1,n1,hq,h⟩:=h;exact⟨z,e1,H1,n1,hq,Xp hl h⟩
theorem DWp.regT {id m:Nat}(hm:P.follows .mixedOrders=true)(hst:statS n ops=true)(hl:ops.toList=os)(hz:ops.size=m)(h:ASl P G nx 0 ops os e H (nx+m) fun e' H' ne'=>Q .normal e' H' ne'):DWp P G n (.region id ops true) e H nx Q:=by
 subst hz;obtain⟨l,E,e',H',ne',h1,h2⟩:=h (Nat.le_refl _) 0;subst hl;exact⟨_,_,_,_,h2,AWp.regS (κ:=Qc.no) hm hst (fun _ _ _ _ _ h=>h.elim) (fun _ h=>h.elim) h1 ⟨rfl,rfl,rfl,rfl⟩⟩
/-- Drawn regions with calls: S holds all along, the looks R hang on it alone. -/
def Qc.s (S:Heap→Prop)(R:List Nat):Qc:=⟨S,R,fun _=>True⟩
abbrev ASx (P:Program)(G:Nat→CV)(S:Heap→Prop)(R:List Nat)(nx0 k:Nat)(ops:Array Oper)(os:List Oper)(e:Env)(H:Heap)(ne:Nat)(K:Env→Heap→Nat→Prop):Prop:=ASlK P G (Qc.s S R) nx0 k ops os e H ne K
theorem DWp.regX {id m:Nat}(R:List Nat)(S:Heap→Prop)(hm:P.follows .mixedOrders=true)(hst:statR n R ops=true)(hl:ops.toList=os)(hz:ops.size=m)(hSn:∀ H1 H2,(∀ b,b<nx→H2 b=H1 b)→S H1→S H2)(hS0:S H)(h:ASx P G S R nx 0 ops os e H (nx+m) fun e' H' ne'=>Q .normal e' H' ne'):DWp P G n (.region id ops true) e H nx Q:=by
 subst hz;obtain⟨l,E,e',H',ne',h1,h2⟩:=h (Nat.le_refl _) 0;subst hl;exact⟨_,_,_,_,h2,AWp.regS (κ:=Qc.s S R) hm hst hSn hS0 h1 ⟨rfl,rfl,rfl,rfl⟩⟩
theorem AWp.regX {id m:Nat}(R:List Nat)(S:Heap→Prop)(hm:P.follows .mixedOrders=true)(hst:statR n R ops=true)(hl:ops.toList=os)(hz:ops.size=m)(hSn:∀ H1 H2,(∀ b,b<nx→H2 b=H1 b)→S H1→S H2)(hS0:S H)(h:ASx P G S R nx 0 ops os e H (nx+m) fun e' H' ne'=>Q .normal e' H' ne'):AWp P G n (.region id ops true) e H nx Q:=by
 subst hz;obtain⟨l,E,e',H',ne',h1,h2⟩:=h (Nat.le_refl _) 0;subst hl;exact AWp.regS (κ:=Qc.s S R) hm hst hSn hS0 h1 h2
theorem DOpl.nil (h:Q .normal e H nx):DOpl P G n ops [] e H nx Q:=⟨_,_,_,_,h,Xl ⟨rfl,rfl,rfl,rfl⟩⟩
variable {d:Option Nat} {op:Op} {ty:TypeId} {pos:String} {af:Array Edge} {g:Option (Nat×Bool)}
theorem DOpl.stepG (hd:okD n d=true)(hg:gd ops e ⟨d,op,ty,pos,af,g⟩=some true){c:CV}{H':Heap}{nx':Nat}(hs:stepS P G e H nx op=some (c,H',nx'))(h:DOpl P G n ops os (putE e d c) H' nx' Q):DOpl P G n ops (⟨d,op,ty,pos,af,g⟩::os) e H nx Q:=by
 obtain⟨z,e1,H1,n1,hq,h⟩:=h;exact⟨z,e1,H1,n1,hq,Xa hd hg hs h⟩
theorem DOpl.step (hd:okD n d=true){c:CV}{H':Heap}{nx':Nat}(hs:stepS P G e H nx op=some (c,H',nx'))(h:DOpl P G n ops os (putE e d c) H' nx' Q):DOpl P G n ops (⟨d,op,ty,pos,af,none⟩::os) e H nx Q:=DOpl.stepG hd rfl hs h
theorem DOpl.pass (hd:okD n d=true)(hg:gd ops e ⟨d,op,ty,pos,af,g⟩=some false)(h:DOpl P G n ops os (putE e d (.tup [])) H nx Q):DOpl P G n ops (⟨d,op,ty,pos,af,g⟩::os) e H nx Q:=by
 obtain⟨z,e1,H1,n1,hq,h⟩:=h;exact⟨z,e1,H1,n1,hq,Xg hd hg h⟩
theorem DOpl.callD {Q':CV→Heap→Nat→Prop}(hd:okD n d=true)(hg:gd ops e ⟨d,op,ty,pos,af,g⟩=some true){f:FuncId}{args:List CV}(hq:callA (rd G e) op=some (f,args))(he:enters P f=true)(hf:DCall P G f args H nx Q')
  (h:∀ v H' nx',Q' v H' nx'→DOpl P G n ops os (putE e d v) H' nx' Q):DOpl P G n ops (⟨d,op,ty,pos,af,g⟩::os) e H nx Q:=by
 obtain⟨v,H',nx',hq',hf⟩:=hf;obtain⟨z,e1,H1,n1,hz,h⟩:=h v H' nx' hq';refine⟨z,e1,H1,n1,hz,AOpl.callG hd hg hq he (hf.mono ?_)⟩;rintro r H2 nx2 ⟨rfl,rfl,rfl⟩;exact h
theorem AOpl.callD {Q':CV→Heap→Nat→Prop}(hd:okD n d=true)(hg:gd ops e ⟨d,op,ty,pos,af,g⟩=some true){f:FuncId}{args:List CV}(hq:callA (rd G e) op=some (f,args))(he:enters P f=true)(hf:DCall P G f args H nx Q')
  (h:∀ v H' nx',Q' v H' nx'→AOpl P G n ops os (putE e d v) H' nx' Q):AOpl P G n ops (⟨d,op,ty,pos,af,g⟩::os) e H nx Q:=by
 obtain⟨v,H',nx',hq',hf⟩:=hf;refine AOpl.callG hd hg hq he (hf.mono ?_);rintro r H2 nx2 ⟨rfl,rfl,rfl⟩;exact h v _ _ hq'
theorem DOpl.callR (hd:okD n d=true)(hg:gd ops e ⟨d,op,ty,pos,af,g⟩=some true){f:FuncId}{args:List CV}(hq:callA (rd G e) op=some (f,args))(he:enters P f=true){v:CV}(hf:∀ nx,ACall P G f args H nx fun r H' nx'=>r=.ret v∧H'=H∧nx'=nx)
  (h:DOpl P G n ops os (putE e d v) H nx Q):DOpl P G n ops (⟨d,op,ty,pos,af,g⟩::os) e H nx Q:=by
 obtain⟨z,e1,H1,n1,hz,h⟩:=h;exact⟨z,e1,H1,n1,hz,Xr hd hg hq he hf h⟩
theorem DOpl.appQ {α:Type}{cv:α→List CV}{k:Nat}{t el:TypeId}{s b1:Nat}{z:Value}{i:TI}{so xo:Operand}{c:CV}{l:List α}{x:Nat}(hcv:∀ a,(cv a).length=k)(hone:∀ a,(cv a).all CV.one=true)(ht:ti P t=some ⟨.slice el,s,z,b1⟩)(hi:ti P el=some i)(u:α)
  (ho:OwnR cv k H nx c l) (hn:l.length<1000000000)
  (h:∀ H',H' nx=some (.cells ((l++[u]).flatMap cv))→(∀ b,b<nx→(∀ b',c=.sl b' 0 l.length k→b≠b')→H' b=H b)→DOpl P G n ops os (putE e d (.sl nx 0 (l.length+1) k)) H' (nx+1) Q)
  (hk:i.size=k:=by rfl) (hz:i.zero.cells.size=k:=by rfl) (hk0:0<k:=by omega) (hby:i.bytes≤1000:=by simp) (hd:okD n d=true:=by rfl) (hg:gd ops e ⟨d,.call ⟨.builtin .append,#[so,xo],#[t,t]⟩,ty,pos,af,g⟩=some true:=by (first | rfl | (simp [*];done)))
  (hs:rd G e so=c:=by (first | (simp [*];done) | (simp [*];rfl))) (hx:rd G e xo=.sl x 0 1 k:=by (first | (simp [*];done) | (simp [*];rfl))) (hxb:H x=some (.cells (cv u)):=by (first | (simp [*];done) | (simp [*];rfl))) :
  DOpl P G n ops (⟨d,.call ⟨.builtin .append,#[so,xo],#[t,t]⟩,ty,pos,af,g⟩::os) e H nx Q:=by
 obtain⟨d',h1,h2,h3,h4,h5⟩:=app_keyR ht hi hk hz hk0 hby hcv hone ho hxb hn;refine DOpl.stepG hd hg (c:=.sl nx 0 (l.length+1) k) (H':=d'.hp H nx) (nx':=nx+1) ?_ (h _ h4 h5);simp [stepS,qstep,bltA,astep,estep,hs,hx,h1,h3]
/-- A loop's rounds, one known end each. -/
inductive LCert (P:Program) (G:Nat→CV) (n:Nat) (c:Code) (x0:AExit) (e0:Env) (H0:Heap) (n0:Nat):Nat→Env→Heap→Nat→Prop
 | stop (k:Nat) {e:Env} {H:Heap} {nx:Nat} (hx:x0≠.normal) (h:AWp P G n c e H nx (Only x0 e0 H0 n0)):LCert P G n c x0 e0 H0 n0 k e H nx
 | next (k:Nat) {e e1:Env} {H H1:Heap} {nx n1:Nat} (h:AWp P G n c e H nx (Only .normal e1 H1 n1)) (r:LCert P G n c x0 e0 H0 n0 k e1 H1 n1):LCert P G n c x0 e0 H0 n0 (k+1) e H nx
theorem LCert.loop {c:Code}{x0:AExit}{e0:Env}{H0:Heap}{n0 k:Nat}(h:LCert P G n c x0 e0 H0 n0 k e H nx):AWp P G n (.loop c) e H nx (Only x0 e0 H0 n0):=by
 refine AWp.loop (fun k e H nx=>LCert P G n c x0 e0 H0 n0 k e H nx) id k h ?_;intro k e H nx hc;cases hc with
 | stop _ hx h=>exact h.mono (Only.then hx)
 | @next k _ e1 _ H1 _ n1 h r =>
   refine h.mono ?_;rintro _ _ _ _ ⟨rfl,rfl,rfl,rfl⟩;exact⟨k,Nat.lt_succ_self k,r⟩
/-- A loop that counts up to N. -/
theorem DWp.countO {c:Code}(N:Nat)(ms:List Nat)(lo:Nat)(S:Nat→Env→Heap→Nat→Prop)(h0:S 0 e H nx)
  (round:∀ i v H' nx',i≤N→S i v H' nx'→DWp P G n c (over e ms lo v) H' nx' (Xx (fun e' H'' nx''=>Keeps e ms lo e'∧i<N∧S (i+1) e' H'' nx'') Q)):DWp P G n (.loop c) e H nx Q:=by
 have key:∀ k i v H' nx',N-i≤k→i≤N→S i v H' nx'→∃ z e1 H1 n1,Q z e1 H1 n1∧∃ m,LCert P G n c z e1 H1 n1 m (over e ms lo v) H' nx':=by
  intro k
  induction k with
  | zero =>
    intro i v H' nx' hk hi hs;obtain⟨z,e1,H1,n1,hq,h⟩:=round i v H' nx' hi hs;cases z with
    | normal=>have:=hq.2.1;omega
    | exit j=>exact⟨_,e1,H1,n1,hq,0,.stop 0 (by simp) h⟩
    | ret=>exact⟨_,e1,H1,n1,hq,0,.stop 0 (by simp) h⟩
    | pan v=>exact⟨_,e1,H1,n1,hq,0,.stop 0 (by simp) h⟩
  | succ k ih =>
    intro i v H' nx' hk hi hs;obtain⟨z,e1,H1,n1,hq,h⟩:=round i v H' nx' hi hs;cases z with
    | normal =>
      obtain⟨hk1,hlt,hs1⟩:=hq;obtain⟨z2,e2,H2,n2,hq2,m,hc⟩:=ih (i+1) e1 H1 n1 (by omega) (by omega) hs1;rw [hk1.eq] at hc;exact⟨z2,e2,H2,n2,hq2,m+1,.next m h hc⟩
    | exit j=>exact⟨_,e1,H1,n1,hq,0,.stop 0 (by simp) h⟩
    | ret=>exact⟨_,e1,H1,n1,hq,0,.stop 0 (by simp) h⟩
    | pan v=>exact⟨_,e1,H1,n1,hq,0,.stop 0 (by simp) h⟩
 obtain⟨z,e1,H1,n1,hq,m,hc⟩:=key N 0 e H nx (by omega) (by omega) h0;rw [(Keeps.refl e ms lo).eq] at hc;exact⟨z,e1,H1,n1,hq,hc.loop⟩
theorem DWp.frzR {α:Type}{cv:α→List CV}{k N:Nat}(hk:∀ a,(cv a).length=k)(t0:Nat){c:Code}(l:List α)(rest:List CV)(h0:e t0=.sl N 0 l.length k)(hb:H N=some (.cells (l.flatMap cv++rest)))
  (h:∀ H',(∀ b,b≠N→H' b=H b)→DWp P G n c (putE e (some t0) (.lst (l.map cv))) H' nx Q):DWp P G n c e H nx Q:=by
 obtain⟨z,e1,H1,n1,hq,h⟩:=h _ fun b hb=>drp_miss _ _ _ hb
 have er:rowsOf (l.flatMap cv++rest) 0 k l.length=l.map cv:=by
  have:=rowsOf_flat (k:=k) (rows:=l.map cv) (fun r hr=>by obtain⟨a,_,rfl⟩:=List.mem_map.mp hr;exact hk a) [] rest;rw [flat_map] at this;simpa using this
 refine⟨z,e1,H1,n1,hq,AWp.frzT t0 h0 hb (by rw [List.length_append,flatMap_len hk];omega) ?_⟩;rw [er];exact h
/-- What the body of a function comes to, known. -/
theorem DCall.of_body {f:FuncId}{fn:Func}{c:Code}{args:List CV}{Q:CV→Heap→Nat→Prop}(hf:P.funcs[f]?=some fn)(hb:fn.body=some c)
  (h:DWp P G (max args.length fn.ntmps) c (argE args) H nx (BodyQ P fn fun r H' nx'=>∃ v,r=.ret v∧Q v H' nx')):DCall P G f args H nx Q:=by
 obtain⟨z,e1,H1,n1,hq,h⟩:=h;have fin:(∃ l,resA P H1 e1 fn.results.toList=some l∧∃ v,Res.ret (packA l)=.ret v∧Q v H1 n1)→(z=.normal∨z=.ret)→DCall P G f args H nx Q:=by
  rintro⟨l,hl,v,hv,hqv⟩ hz;cases hv;refine⟨_,H1,n1,hqv,ACall.of_body hf hb (h.mono ?_)⟩;rintro _ _ _ _ ⟨rfl,rfl,rfl,rfl⟩;rcases hz with rfl | rfl
  ·exact⟨l,hl,rfl,rfl,rfl⟩
  ·exact⟨l,hl,rfl,rfl,rfl⟩
 cases z with
 | normal=>exact fin hq (.inl rfl)
 | ret=>exact fin hq (.inr rfl)
 | exit i=>exact hq.elim
 | pan v=>obtain⟨w,hw,_⟩:=hq;cases hw
end
section
variable {P:Program} {G:Nat→CV} {S:Heap→Prop} {R:List Nat} {e:Env} {H:Heap} {nx0 k ne:Nat} {ops:Array Oper} {os:List Oper} {K:Env→Heap→Nat→Prop} {d:Option Nat} {op:Op} {ty:TypeId} {pos:String} {af:Array Edge} {g:Option (Nat×Bool)}
theorem ASx.nil (h:K e H ne):ASx P G S R nx0 k ops [] e H ne K:=ASlK.nil h
theorem ASx.pass (hg:gd ops e ⟨d,op,ty,pos,af,g⟩=some false)(h:ASx P G S R nx0 (k+1) ops os (putE e d (.tup [])) H ne K):ASx P G S R nx0 k ops (⟨d,op,ty,pos,af,g⟩::os) e H ne K:=ASlK.pass hg h
/-- A look in R hangs on S, the others see no memory; effects keep S. -/
inductive Fits (P:Program) (G:Nat→CV) (S:Heap→Prop) (R:List Nat) (k:Nat) (e:Env) (H:Heap) (op:Op) (c:CV) (H':Heap):Prop
 | pure (h:memO op=false)
 | look (hr:R.contains k=true) (h:∀ H2,S H2→qstep P H2 (rd G e) op=some c)
 | eff (hi:isEf op=true) (h:S H→S H')
theorem ASx.stepG (hg:gd ops e ⟨d,op,ty,pos,af,g⟩=some true){c:CV}{H':Heap}{ne':Nat}(hs:stepT P G e H (nx0+k) ne op=some (c,H',ne'))
  (hR:Fits P G S R k e H op c H')
  (h:ASx P G S R nx0 (k+1) ops os (putE e d c) H' ne' K):ASx P G S R nx0 k ops (⟨d,op,ty,pos,af,g⟩::os) e H ne K:=fun hne j=>by
 unfold stepT at hs;split at hs
 ·rename_i c' hq;cases hs;obtain⟨l,E,e',H',ne',h1,h2⟩:=h hne j;refine⟨_,E,e',H',ne',.look (o:=⟨d,op,ty,pos,af,g⟩) _ hg hq (fun hr H2 _=>?_) (fun hr H2 hS2=>?_) h1,h2⟩
  ·cases hR with
   | pure h=>rw [qstep_mem (H':=H) h];exact hq
   | look hr2 _=>have hr:R.contains k=false:=hr;rw [hr2] at hr;cases hr
   | eff hi _=>rw [qstep_isEf hi] at hq;cases hq
  ·cases hR with
   | pure h=>rw [qstep_mem (H':=H) h];exact hq
   | look _ h=>exact h H2 hS2
   | eff hi _=>rw [qstep_isEf hi] at hq;cases hq
 ·split at hs
  ·rename_i c' kk hq;cases hs;obtain⟨l,E,e',H',ne',h1,h2⟩:=h hne j;exact⟨_,E,e',H',ne',.alloc (o:=⟨d,op,ty,pos,af,g⟩) _ kk hg hq h1,h2⟩
  ·split at hs
   ·rename_i c' dl hq;split at hs
    ·rename_i hon;cases hs;have hle:=Dl.nx_le ne dl;obtain⟨l,E,e',H',ne',h1,h2⟩:=h (by omega) (j+1);refine⟨_,_,e',H',ne',.eff (o:=⟨d,op,ty,pos,af,g⟩) _ hg (estep_isEf hq) hle (fun b _ hb hn=>Dl.keeps hon (by omega) hn) (fun hs=>by rw [show isSt op=true from estep_isSt hq] at hs;cases hs) ?_ (EffOk.estepH (o:=⟨d,op,ty,pos,af,g⟩) hq) h1,h2⟩;cases hR with
     | pure h=>have:=memO_ef (estep_isEf hq);rw [h] at this;cases this
     | look _ h=>intro hS;have h1:=h H hS;rw [qstep_isEf (estep_isEf hq)] at h1;cases h1
     | eff _ h=>exact h
    ·cases hs
   ·cases hs
theorem ASx.callD {Q':CV→Heap→Nat→Prop}(hg:gd ops e ⟨d,op,ty,pos,af,g⟩=some true){f:FuncId}{args:List CV}(hq:callA (rd G e) op=some (f,args))(he:enters P f=true)(hf:DCall P G f args H ne Q')
  (h:∀ v H' ne',Q' v H' ne'→ne≤ne'∧(∀ b,nx0≤b→b<nx0+ops.size→H b=none→H' b=none)∧(S H→S H')∧ASx P G S R nx0 (k+1) ops os (putE e d v) H' ne' K):ASx P G S R nx0 k ops (⟨d,op,ty,pos,af,g⟩::os) e H ne K:=fun hne j=>by
 obtain⟨v,H',ne',hq',hf⟩:=hf;obtain⟨a1,a2,a3,a4⟩:=h v H' ne' hq';obtain⟨l,E,e',H2,ne2,h1,h2⟩:=a4 (by omega) (j+1);exact⟨_,_,e',H2,ne2,.eff (o:=⟨d,op,ty,pos,af,g⟩) v hg (callA_isEf hq) a1 a2 (fun _ _ hx=>absurd trivial hx) a3 (EffOk.call (o:=⟨d,op,ty,pos,af,g⟩) hq he hf) h1,h2⟩
end
end Ax
end
section
namespace Ax
theorem gWf {A X X':Prop}(a:A)(k:X')(f:A→Hd X'→X:=by
 intro a h
 repeat (first | (first | (apply Xf;rfl) | apply Xj);focus simp [*,-Option.some.injEq];rfl | (first | (apply Xa;rfl) | apply Xb);(focus simp [*];done);focus simp [*,-Option.some.injEq];rfl | (first | (apply Xg;rfl) | apply Xk);(focus simp [*];done) | (first | refine Xl ?_ | refine Xi ?_ | refine Xh ?_ | refine Xo ?_ | refine Xq ?_);try simp only [Xx,Xy,reduceIte,Nat.reduceEqDiff] | refine Xn ?_ | refine Xp rfl ?_ | refine Xc ?_ | apply Xd;focus simp [*];done | apply Xe;focus simp [*];done | refine Yb rfl rfl ?_)
 exact h.out):X:=f a ⟨k⟩
theorem gWr {X X':Prop}(k:X')(f:Hd X'→X:=by
 intro h
 repeat (first | (first | (apply Xf;rfl) | apply Xj);focus simp [*,-Option.some.injEq];rfl | (first | (apply Xa;rfl) | apply Xb);(focus simp [*];done);focus simp [*,-Option.some.injEq];rfl | (first | (apply Xg;rfl) | apply Xk);(focus simp [*];done) | (first | refine Xl ?_ | refine Xi ?_ | refine Xh ?_ | refine Xo ?_ | refine Xq ?_);try simp only [Xx,Xy,reduceIte,Nat.reduceEqDiff] | refine Xn ?_ | refine Xp rfl ?_ | refine Xc ?_ | apply Xd;focus simp [*];done | apply Xe;focus simp [*];done)
 exact h.out):X:=f ⟨k⟩
theorem gWrf {A X X':Prop}(a:A)(k:X')(f:A→Hd X'→X:=by
 intro a h
 repeat (first | (first | (apply Xf;rfl) | apply Xj);focus simp [*,-Option.some.injEq];rfl | (first | (apply Xa;rfl) | apply Xb);(focus simp [*];done);focus simp [*,-Option.some.injEq];rfl | (first | (apply Xg;rfl) | apply Xk);(focus simp [*];done) | (first | refine Xl ?_ | refine Xi ?_ | refine Xh ?_ | refine Xo ?_ | refine Xq ?_);try simp only [Xx,Xy,reduceIte,Nat.reduceEqDiff] | refine Xn ?_ | refine Xp rfl ?_ | refine Xc ?_ | apply Xd;focus simp [*];done | apply Xe;focus simp [*];done)
 exact h.out):X:=f a ⟨k⟩
theorem gD {X X':Prop}(k:X')(f:Hd X'→X:=by
 intro h
 repeat (first | (first | (apply DOpl.step;rfl) | apply Xj);focus simp [*,-Option.some.injEq];rfl | (first | (apply DOpl.stepG;rfl) | apply Xb);(focus simp [*];done);focus simp [*,-Option.some.injEq];rfl | (first | (apply DOpl.pass;rfl) | apply Xk);(focus simp [*];done) | (first | refine DOpl.nil ?_ | refine DWp.skip ?_ | refine DWp.exit ?_ | refine DWp.ret ?_ | refine Xq ?_);try simp only [Xx,Xy,reduceIte,Nat.reduceEqDiff] | refine DWp.seq ?_ | refine DWp.reg rfl ?_ | refine DWp.block ?_ | apply DWp.condT;focus simp [*];done | apply DWp.condF;focus simp [*];done | refine DWp.regT (by kernel_rfl) (by kernel_rfl) rfl rfl ?_)
 exact h.out):X:=f ⟨k⟩
theorem gDf {A X X':Prop}(a:A)(k:X')(f:A→Hd X'→X:=by
 intro a h
 repeat (first | (first | (apply DOpl.step;rfl) | apply Xj);focus simp [*,-Option.some.injEq];rfl | (first | (apply DOpl.stepG;rfl) | apply Xb);(focus simp [*];done);focus simp [*,-Option.some.injEq];rfl | (first | (apply DOpl.pass;rfl) | apply Xk);(focus simp [*];done) | (first | refine DOpl.nil ?_ | refine DWp.skip ?_ | refine DWp.exit ?_ | refine DWp.ret ?_ | refine Xq ?_);try simp only [Xx,Xy,reduceIte,Nat.reduceEqDiff] | refine DWp.seq ?_ | refine DWp.reg rfl ?_ | refine DWp.block ?_ | apply DWp.condT;focus simp [*];done | apply DWp.condF;focus simp [*];done | refine DWp.regT (by kernel_rfl) (by kernel_rfl) rfl rfl ?_)
 exact h.out):X:=f a ⟨k⟩
theorem gDr {X X':Prop}(k:X')(f:Hd X'→X:=by
 intro h
 repeat (first | (first | (apply DOpl.step;rfl) | apply Xj);focus simp [*,-Option.some.injEq];rfl | (first | (apply DOpl.stepG;rfl) | apply Xb);(focus simp [*];done);focus simp [*,-Option.some.injEq];rfl | (first | (apply DOpl.pass;rfl) | apply Xk);(focus simp [*];done) | (first | refine DOpl.nil ?_ | refine DWp.skip ?_ | refine DWp.exit ?_ | refine DWp.ret ?_ | refine Xq ?_);try simp only [Xx,Xy,reduceIte,Nat.reduceEqDiff] | refine DWp.seq ?_ | refine DWp.reg rfl ?_ | refine DWp.block ?_ | apply DWp.condT;focus simp [*];done | apply DWp.condF;focus simp [*];done)
 exact h.out):X:=f ⟨k⟩
theorem gDrf {A X X':Prop}(a:A)(k:X')(f:A→Hd X'→X:=by
 intro a h
 repeat (first | (first | (apply DOpl.step;rfl) | apply Xj);focus simp [*,-Option.some.injEq];rfl | (first | (apply DOpl.stepG;rfl) | apply Xb);(focus simp [*];done);focus simp [*,-Option.some.injEq];rfl | (first | (apply DOpl.pass;rfl) | apply Xk);(focus simp [*];done) | (first | refine DOpl.nil ?_ | refine DWp.skip ?_ | refine DWp.exit ?_ | refine DWp.ret ?_ | refine Xq ?_);try simp only [Xx,Xy,reduceIte,Nat.reduceEqDiff] | refine DWp.seq ?_ | refine DWp.reg rfl ?_ | refine DWp.block ?_ | apply DWp.condT;focus simp [*];done | apply DWp.condF;focus simp [*];done)
 exact h.out):X:=f a ⟨k⟩
end Ax
end
section
open Lx Ax Go.RowKit
mutual
theorem puE:∀ e:Ex,puL (cvE e)=true
 | .mk k n o m ks=>by rw [cvE_mk];simp [puL,puV,puEs ks]
theorem puEs:∀ l:List Ex,puR (l.map cvE)=true
 | []=>rfl
 | e::l=>by simp [puR,puE e,puEs l]
end
mutual
theorem puS:∀ s:St,puL (cvS s)=true
 | .mk k nm ty es b el=>by rw [Ya];simp [puL,puV,puEs es,puSs b,puSs el]
theorem puSs:∀ l:List St,puR (l.map cvS)=true
 | []=>rfl
 | e::l=>by simp [puR,puS e,puSs l]
end
theorem puRm {α:Type}{cv:α→List CV}(h:∀ a,puL (cv a)=true)(l:List α):puR (l.map cv)=true:=by
 induction l with
 | nil=>rfl
 | cons a l ih=>simp [puR,h a,ih]
theorem puF (f:Fld):puL (cvF f)=true:=rfl
theorem puM (m:Me):puL (cvM m)=true:=by simp [cvM,puL,puV,puRm puF,puSs]
theorem puC (c:Cl):puL (cvC c)=true:=by simp [cvC,puL,puV,puRm puF,puRm puM]
theorem Xz (e:Ex):cvE e=[.int .i64 e.kind,.int .i64 e.n,.str e.of,.str e.name,.lst (e.kids.map cvE)]:=by cases e;rw [cvE_mk];rfl
def Lx.St.p0:St→Int | .mk k _ _ _ _ _=>k
def Lx.St.p1:St→Bytes | .mk _ n _ _ _ _=>n
def Lx.St.p2:St→Bytes | .mk _ _ t _ _ _=>t
def Lx.St.p3:St→List Ex | .mk _ _ _ e _ _=>e
def Lx.St.p4:St→List St | .mk _ _ _ _ b _=>b
def Lx.St.p5:St→List St | .mk _ _ _ _ _ l=>l
theorem cvS_eq (s:St):cvS s=[.int .i64 s.p0,.str s.p1,.str s.p2,.lst (s.p3.map cvE),.lst (s.p4.map cvS),.lst (s.p5.map cvS)]:=by cases s;rw [Ya];rfl
section
variable {P:Program} {G:Nat→CV} {n:Nat} {e:Env} {H:Heap} {nx nx0 kp ne:Nat} {Q:AExit→Env→Heap→Nat→Prop} {ops:Array Oper} {os:List Oper} {d:Option Nat} {ty t u:TypeId} {pos:String} {af:Array Edge} {K:Env→Heap→Nat→Prop} {x y:Operand} {a b:Bytes}
theorem cat_q (hx:rd G e x=.str a)(hy:rd G e y=.str b)(hl:a.length+b.length≤9223372036854775807):qstep P H (rd G e) (.binOp .add t x y u)=some (.str (a++b)):=by
 have h:Nat.ble (a.length+b.length) 9223372036854775807=true:=Nat.ble_eq.mpr hl;simp only [qstep,hx,hy,binA,strA,h]
/-- Two strings put together. -/
theorem AOpl.cat (hx:rd G e x=.str a)(hy:rd G e y=.str b)(hl:a.length+b.length≤9223372036854775807)(h:AOpl P G n ops os (putE e d (.str (a++b))) H nx Q)(hd:okD n d=true:=by exact rfl):AOpl P G n ops (⟨d,.binOp .add t x y u,ty,pos,af,none⟩::os) e H nx Q :=
 Xf hd (c:=.str (a++b)) (H':=H) (nx':=nx) (by unfold stepS;rw [cat_q hx hy hl]) h
theorem ASl.cat (hx:rd G e x=.str a)(hy:rd G e y=.str b)(hl:a.length+b.length≤9223372036854775807)(h:ASl P G nx0 (kp+1) ops os (putE e d (.str (a++b))) H ne K):ASl P G nx0 kp ops (⟨d,.binOp .add t x y u,ty,pos,af,none⟩::os) e H ne K :=
 Xj (c:=.str (a++b)) (H':=H) (ne':=ne) (by unfold Ax.stepT;rw [cat_q hx hy hl]) h
end
end
section
namespace Lx
def isType (t:Bytes):Bool:=t == [105,110,116] || isIdent t
open Go.RowKit (wrap64)
/-! texts -/
def dig (n:Nat):UInt8:=UInt8.ofNat (48+n)
def digitsOf:Nat→Nat→Bytes
 | 0,_=>[]
 | f+1,n=>if n<10 then [dig n] else digitsOf f (n / 10)++[dig (n % 10)]
def numText (n:Int):Bytes:=if n<0 then 45::digitsOf 20 n.natAbs else digitsOf 20 n.natAbs
end Lx
end
section
open Lx Go.RowKit
def KwIs (w:World):Prop:=∃ t fr,w.heap[0]?=some (.cells kwCells t fr)
theorem KwIs.below {w w':World}{B:Nat}(h:KwIs w)(hb:Below B w w')(hB:w.heap.size≤B):KwIs w':=by
 obtain⟨t1,f1,h1⟩:=h;exact⟨t1,f1,by rw [hb.block _ (Nat.lt_of_lt_of_le (lt_of_heap h1) hB)];exact h1⟩
theorem KwIs.alloc {w:World}(h:KwIs w)(o:Obj):KwIs (w.alloc o):=h.below ((Below.refl _ _).alloc (Nat.le_refl _) o) (Nat.le_refl _)
set_option maxHeartbeats 400000 in
theorem fm_keyword (s:ByteArray)(w:World)(hL:KwIs w):Calls Tryz.prog 70 #[.string s] w fun e w'=>e=.returned (.bool (isKeyword s.data.toList))∧w=w':=by
 obtain⟨t,fr,hg⟩:=hL;have HG:=Lib.hid hg;clear hg;go_enter Tryz.func70,Tryz.ntmps70
 go_wp2_with (refine wpList_load_row rfl 138 _ rfl 0 rfl t _ fr _ HG.out Tryz.underlying138 rfl (by kernel_rfl) ?_)
 go_loop [6] (fun i=>∃ k:Nat,k≤17∧i=.int .i64 k∧isKeyword s.data.toList=(kwList.drop k).contains s.data.toList) (fun i=>17-(intOf i).toNat)
 case atStart=>exact⟨0,by omega,rfl,rfl⟩
 case round =>
  obtain⟨k,hk,rfl,hr⟩:=hrel;have HR:=Lib.hid hr;clear hr
  by_cases hlt:k<17
  ·obtain⟨m,hm,hidx⟩:=kw_index k hlt;have HM:=Lib.hid hm;clear hm;cases he:s.toList == m
   ·have HE:=Lib.hid he;go_wp2_with fail
    go_round
    case rel=>exact⟨k+1,by omega,by go_num,by rw [HR.out,← ByteArray.toList_eq];exact contains_miss HE.out HM.out⟩
    case measure=>simp [intOf];omega
   ·have HE:=Lib.hid he;go_wp2_with fail;go_ret;exact⟨ret_bool (by rw [HR.out,← ByteArray.toList_eq];exact (contains_hit HE.out HM.out).symm),rfl⟩
  ·go_wp2_with fail;go_ret;exact⟨ret_bool (by rw [HR.out,List.drop_eq_nil_of_le (by simp [kwList];omega)];rfl),rfl⟩
set_option maxHeartbeats 400000 in
theorem fm_ident0 (s:ByteArray)(w:World)(hs:s.size≤maxLen)(hL:KwIs w):Calls Tryz.prog 43 #[.string s] w fun e w'=>e=.returned (.bool (isIdent s.data.toList))∧w=w':=by
 have HL:=Lib.hid hL;have HS:=Lib.hid hs;clear hL;unfold maxLen at hs
 by_cases h0:s.size=0
 ·have h1:=isEmpty_zero s h0;have H0:=Lib.hid h0;clear h0;go_enter Tryz.func43,Tryz.ntmps43;go_wp2_with fail;go_ret;exact⟨ret_bool (isIdent_zero s H0.out).symm,rfl⟩
 have h0:0<s.size:=by omega
 have h1:=isEmpty_pos s h0;have HI:=Lib.hid (isIdent_pos s h0)
 by_cases h2:s.size≤32
 ·go_enter Tryz.func43,Tryz.ntmps43;go_wp2_with fail;refine (lex_letter _ _).mono ?_;rintro e w' ⟨rfl,rfl⟩;cases h3:isLetter s[0]
  ·have H3:=Lib.hid h3;go_wp2_with fail;go_ret;exact⟨ret_bool (by rw [HI.out,H3.out];simp),rfl⟩
  ·have H3:=Lib.hid h3;go_wp2_with fail;refine (lex_span_part s _ HS.out).mono ?_;rintro e w' ⟨rfl,rfl⟩;have HA:=Lib.hid (spanOf_all isPart s.data.toList);have HSS:=Lib.hid (len_list s);generalize hn:spanOf isPart s.data.toList=n at HA ⊢;clear hn
   by_cases h4:n=s.size
   ·have h5:(n == s.size)=true:=beq_iff_eq.2 h4;have h6:((n:Int) == (s.size:Int))=true:=beq_iff_eq.2 (by omega);have H4:=Lib.hid h4;clear h4;go_wp2_with fail;refine (fm_keyword s _ HL.out).mono ?_;rintro e w' ⟨rfl,rfl⟩;have HB:Hid (s.data.toList.all isPart=true):=HA.out.1 (by rw [HSS.out];exact H4.out);cases h7:isKeyword s.data.toList
    ·have H7:=Lib.hid h7;go_wp2_with fail;go_ret;exact⟨ret_bool (by rw [HI.out,H3.out,HB.out,H7.out];simp [h2]),rfl⟩
    ·have H7:=Lib.hid h7;go_wp2_with fail;go_ret;exact⟨ret_bool (by rw [HI.out,H7.out];simp),rfl⟩
   ·have h5:(n == s.size)=false:=beq_eq_false_iff_ne.2 h4;have h6:((n:Int) == (s.size:Int))=false:=beq_eq_false_iff_ne.2 (by omega);have H4:=Lib.hid h4;clear h4;have HB:Hid (s.data.toList.all isPart=false):=by
     cases hb:s.data.toList.all isPart
     ·rfl
     ·exact absurd (HA.out.2 hb) (by rw [HSS.out];exact H4.out)
    go_wp2_with fail;go_ret;exact⟨ret_bool (by rw [HI.out,HB.out];simp),rfl⟩
 ·go_enter Tryz.func43,Tryz.ntmps43;go_wp2_with fail;go_ret;exact⟨ret_bool (by rw [HI.out];simp [h2]),rfl⟩
end
section
open Lx Go.RowKit
open Go.ChangeShapes Go.WideShapes Go.ChangeAt
theorem KwIs.of_met {W:World}{l:List (String×DataW Unit)}(h:laidMet Tryz.prog l W)(h1:("dataflow/lex.keywords",Rows.laid_dataflow_lex_keywords)∈l):KwIs W:=by
 obtain⟨ps,hv,_,_⟩:=h;obtain⟨g0,t0,cs0,f0,p0,hg0,ht0,hv0,hd0⟩:=laid_entry hv h1;obtain rfl:=Option.some.inj (gKw.symm.trans hg0);obtain rfl:=Option.some.inj (tKw.symm.trans ht0);obtain⟨t,fr,hh⟩:=heap_of_var hg0 hv0;have hcs:=strings_of_array (ss:=kwList) Tryz.underlying138 Tryz.underlying9 cStr cKw hd0;refine⟨t,fr,?_⟩;rw [hh];obtain⟨l0⟩:=cs0;simp only at hcs;rw [hcs];rfl
end
end Go.Proofs.YtoookjadbhdfhaaGreatDoor
