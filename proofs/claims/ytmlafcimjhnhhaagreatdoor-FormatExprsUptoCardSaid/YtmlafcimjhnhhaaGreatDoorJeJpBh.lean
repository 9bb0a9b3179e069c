/-
  Calls of put as steps; blocks made at any free number.
-/
import Derived.Test.YtmlafcimjhnhhaaGreatDoorJeJpBg
import Derived.Test.YtmlafcimjhnhhaaGreatDoorJeJpAs
import Derived.Test.YtmlafcimjhnhhaaGreatDoorJeOldAx
import Derived.Lib.ItoaNum
import Derived.Lib.ItoaLen
import Derived.Test.YtmlafcimjhnhhaaGreatDoorJeJpBe
import Derived.Test.YtmlafcimjhnhhaaGreatDoorShelf
import Derived.Test.YtmlafcimjhnhhaaGreatDoorJeJpAr
import Derived.Deep.Slices
set_option linter.unusedSectionVars false
set_option linter.unusedSimpArgs false
set_option linter.unnecessarySimpa false
set_option linter.unusedVariables false
set_option linter.unusedVariables false
set_option linter.unusedSimpArgs false
namespace Go.Proofs.YtmlafcimjhnhhaaGreatDoor
section
open Lx Ax Go.RowKit
namespace Ax
section
variable {b x y n n' nx nx':Nat} {c c':CV} {H H':Heap} {T:Bytes} {k k':CB}
theorem PrAt.at (h:PrAt b c H nx T)(k:CB)(hx:nx≤x)(hn:x<n'):PrAt b c (upd H x k) n' T :=
 ⟨by rw [upd_miss _ _ _ _ (by have:=h.lt;omega)];exact h.cell,by
  rcases h.own with h0 | ⟨ht,y,h1,h2,h3⟩
  ·exact .inl h0
  ·exact .inr ⟨ht,y,h1,by rw [upd_miss _ _ _ _ (by omega)];exact h2,by omega⟩,by have:=h.lt;omega,h.off,h.len⟩
theorem PrAt.up (h:PrAt b c H nx T)(hn:nx≤n'):PrAt b c H n' T:=⟨h.cell,by
 rcases h.own with h0 | ⟨ht,y,h1,h2,h3⟩
 ·exact .inl h0
 ·exact .inr ⟨ht,y,h1,h2,by omega⟩,by have:=h.lt;omega,h.off,h.len⟩
theorem OwnB.newAt (h:PrAt b c H nx T)(k:CB)(hx:nx≤x)(hn:x<n'):OwnB b x c (upd H x k) n' k:=⟨upd_hit _ _ _,hn,by have:=h.lt;omega,fun o m j e=>by have:=h.sl_lt e;omega⟩
theorem OwnB.at2 (h:OwnB b y c H nx k)(k':CB)(hx:nx≤x)(hn:x<n'):OwnB b y c (upd H x k') n' k:=⟨by rw [upd_miss _ _ _ _ (by have:=h.lt;omega)];exact h.at',by have:=h.lt;omega,h.ne,h.off⟩
theorem Pf.at (h:Pf b c H nx c' H' nx')(k:CB)(hx:nx'≤x)(hn:x<n'):Pf b c H nx c' (upd H' x k) n' :=
 ⟨by have:=h.le;omega,h.byt,fun y hy hb ho=>by rw [upd_miss _ _ _ _ (by have:=h.le;omega)];exact h.keep y hy hb ho⟩
theorem Pf.up (h:Pf b c H nx c' H' nx')(hn:nx'≤n'):Pf b c H nx c' H' n':=⟨Nat.le_trans h.le hn,h.byt,h.keep⟩
theorem OwnB.lent {cs:List CV}(o:OwnB b x c H nx (.cells cs))(hp:puL cs=true):∀ y,(y == x)=true→y<nx∧y≠b∧offB y c∧∃ cs,H y=some (.cells cs)∧puL cs=true:=fun y hy=>by
 obtain rfl:=eq_of_beq hy;exact⟨o.lt,o.ne,o.off,cs,o.at',hp⟩
theorem puStrs (strs:List Bytes):puL (strs.map .str)=true:=by
 induction strs with
 | nil=>rfl
 | cons s l ih=>simp [puL,puV,ih]
end
section
variable {n:Nat} {e:Env} {H:Heap} {nx nx0 k ne:Nat} {Q:AExit→Env→Heap→Nat→Prop} {ops:Array Oper} {os:List Oper} {d:Option Nat} {op:Op} {ty:TypeId} {pos:String} {af:Array Edge} {g:Option (Nat×Bool)} {K:Env→Heap→Nat→Prop} {b x m n0:Nat} {c:CV} {T:Bytes} {strs:List Bytes}
/-- put, in a region in the text's order. -/
theorem AOpl.put (strs:List Bytes)(p:PrAt b c H nx T)(o:OwnB b x c H nx (.cells (strs.map .str)))(hT:T.length≤66536)(hs:∀ s∈strs,s.length≤1000)(h:∀ c' H' n1,PrAt b c' H' n1 (put T strs)→Pf b c H nx c' H' n1→AOpl Tryz.prog fmG n ops os (putE e d (.tup [])) H' n1 Q)
  (hn:strs.length≤1000:=by decide) (hm:strs.length=m:=by rfl) (hd:okD n d=true:=by exact rfl) (hg:gd ops e ⟨d,op,ty,pos,af,g⟩=some true:=by first | rfl | (simp [*];done)) (hq:callA (rd fmG e) op=some (37,[.ptr b 0,.sl x 0 m 1]):=by simp [*]):AOpl Tryz.prog fmG n ops (⟨d,op,ty,pos,af,g⟩::os) e H nx Q :=
 AOpl.callP (fm_putc rfl p o hs hT hn hm) h hd hg hq (by kernel_rfl)
/-- put, in a drawn region. -/
theorem ASlX.put (strs:List Bytes)(p:PrAt b c H ne T)(o:OwnB b x c H ne (.cells (strs.map .str)))(hT:T.length≤66536)(hs:∀ s∈strs,s.length≤1000)(h0:n0≤ne)(h:∀ c' H' n1,PrAt b c' H' n1 (put T strs)→Pf b c H ne c' H' n1→ASlX Tryz.prog fmG (prC b c n0) nx0 (k+1) ops os (putE e d (.tup [])) H' n1 K)
  (hn:strs.length≤1000:=by decide) (hm:strs.length=m:=by rfl) (hg:gd ops e ⟨d,op,ty,pos,af,g⟩=some true:=by first | rfl | (simp [*];done)) (hq:callA (rd fmG e) op=some (37,[.ptr b 0,.sl x 0 m 1]):=by simp [*]):ASlX Tryz.prog fmG (prC b c n0) nx0 k ops (⟨d,op,ty,pos,af,g⟩::os) e H ne K :=
 ASlX.callP (fun y=>y == x) p (by have:=put_len hT hs;omega) (o.lent (puStrs _)) (fun H1 p1 e1=>fm_putc rfl p1 ⟨(e1 x (beq_self_eq_true x)).trans o.at',o.lt,o.ne,o.off⟩ hs hT hn hm) h0 h hg hq (by kernel_rfl)
end
/-- All steps but drawn regions. -/
theorem gU {X X':Prop}(k:X')(f:Hd X'→X:=by
 intro h
 repeat (first | (first | (apply AOpl.step;rfl) | apply ASl.step);focus simp [*,-Option.some.injEq];rfl | (first | (apply AOpl.stepG;rfl) | apply ASl.stepG);(focus simp [*];done);focus simp [*,-Option.some.injEq];rfl | (first | (apply AOpl.pass;rfl) | apply ASl.pass);(focus simp [*];done) | (first | refine AOpl.nil ?_ | refine AWp.skip ?_ | refine AWp.exit ?_ | refine AWp.ret ?_ | refine ASl.nil ?_);try simp only [Then,InBlock,reduceIte,Nat.reduceEqDiff] | refine AWp.seq ?_ | refine AWp.reg rfl ?_ | refine AWp.block ?_ | apply AWp.condT;focus simp [*];done | apply AWp.condF;focus simp [*];done)
 exact h.out):X:=f ⟨k⟩
/-- A function of the printer that puts these pieces. -/
def PC (f:FuncId)(extra:List CV)(ps:List Bytes):Prop:=∀ b c H nx T,T.length≤66536→PrAt b c H nx T→ACall Tryz.prog fmG f (.ptr b 0::extra) H nx (PPost b c H nx (Lx.put T ps))
/-- Blocks of the caller's own: numbers and cells. -/
def Bxs (b:Nat)(c:CV)(H:Heap)(nx:Nat):List (Nat×CB)→Prop
 | []=>True
 | (x,k)::L=>OwnB b x c H nx k∧Bxs b c H nx L
def Ats (H:Heap):List (Nat×CB)→Prop
 | []=>True
 | (x,k)::L=>H x=some k∧Ats H L
def Bls (b:Nat)(c:CV)(n0:Nat):List (Nat×CB)→Prop
 | []=>True
 | (x,_)::L=>¬ prC b c n0 x∧Bls b c n0 L
section
variable {b x n' nx nx':Nat} {c c':CV} {H H':Heap} {T:Bytes} {k:CB}
theorem Bxs.at2 (hx:nx≤x)(hn:x<n'):∀ {L:List (Nat×CB)},Bxs b c H nx L→Bxs b c (upd H x k) n' L
 | [],_=>trivial
 | (_,_)::_,⟨h,h2⟩=>⟨h.at2 k hx hn,h2.at2 hx hn⟩
theorem Bxs.call (f:Pf b c H nx c' H' nx'):∀ {L:List (Nat×CB)},Bxs b c H nx L→Bxs b c' H' nx' L
 | [],_=>trivial
 | (_,_)::_,⟨h,h2⟩=>⟨h.call f,h2.call f⟩
theorem Bxs.ats:∀ {L:List (Nat×CB)},Bxs b c H nx L→Ats H L
 | [],_=>trivial
 | (_,_)::_,⟨h,h2⟩=>⟨h.at',h2.ats⟩
theorem Bxs.bls (m:Nat):∀ {L:List (Nat×CB)},Bxs b c H nx L→Bls b c (nx+m) L
 | [],_=>trivial
 | (_,_)::_,⟨h,h2⟩=>⟨h.blind m,h2.bls m⟩
end
/-- A printer in the midst of a function: its text, the caller's own blocks, what the function has left alone so far. -/
structure PZ (b:Nat) (c0:CV) (H0:Heap) (m0:Nat) (L:List (Nat×CB)) (c:CV) (H:Heap) (nx:Nat) (T:Bytes):Prop where
 p:PrAt b c H nx T
 o:Bxs b c H nx L
 f:Pf b c0 H0 m0 c H nx
 t:T.length≤66536
section
variable {n:Nat} {e:Env} {H H0:Heap} {nx nx0 kk ne y m0:Nat} {Q:AExit→Env→Heap→Nat→Prop} {ops:Array Oper} {os:List Oper} {d:Option Nat} {op:Op} {ty:TypeId} {pos:String} {af:Array Edge} {g:Option (Nat×Bool)} {K:Env→Heap→Nat→Prop} {b x m N:Nat} {c c0:CV} {T:Bytes} {L:List (Nat×CB)} {k:CB}
theorem PZ.box (s:PZ b c0 H0 m0 L c H nx T)(k:CB):PZ b c0 H0 m0 ((nx,k)::L) c (upd H nx k) (nx+1) T :=
 ⟨s.p.at k (Nat.le_refl _) (Nat.lt_succ_self _),⟨OwnB.newAt s.p k (Nat.le_refl _) (Nat.lt_succ_self _),s.o.at2 (Nat.le_refl _) (Nat.lt_succ_self _)⟩,s.f.at k (Nat.le_refl _) (Nat.lt_succ_self _),s.t⟩
theorem PZ.start (p:PrAt b c H nx T)(t:T.length≤66536)(k:CB):PZ b c H nx [(nx,k)] c (upd H nx k) (nx+1) T:=PZ.box (L:=[]) ⟨p,trivial,Pf.refl _ _ _ _,t⟩ k
theorem PZ.tail (s:PZ b c0 H0 m0 ((x,k)::L) c H nx T):PZ b c0 H0 m0 L c H nx T:=⟨s.p,s.o.2,s.f,s.t⟩
theorem PZ.put (s:PZ b c0 H0 m0 L c H nx T)(strs:List Bytes)(hs:∀ s∈strs,s.length≤1000)(h:∀ c' H' n1,PZ b c0 H0 m0 L c' H' n1 (Lx.put T strs)→Ats H' L→AOpl Tryz.prog fmG n ops os (putE e d (.tup [])) H' n1 Q)
  (hn:strs.length≤1000:=by exact Nat.le_of_ble_eq_true rfl) (hm:strs.length=m:=by rfl) (hd:okD n d=true:=by exact rfl) (hg:gd ops e ⟨d,op,ty,pos,af,g⟩=some true:=by first | rfl | (simp [*];done)) (hq:callA (rd fmG e) op=some (37,[.ptr b 0,.sl nx 0 m 1]):=by simp [*]):AOpl Tryz.prog fmG n ops (⟨d,op,ty,pos,af,g⟩::os) e (upd H nx (.cells (strs.map .str))) (nx+1) Q :=
 AOpl.put strs (s.p.at _ (Nat.le_refl _) (Nat.lt_succ_self _)) (OwnB.newAt s.p _ (Nat.le_refl _) (Nat.lt_succ_self _)) s.t hs (fun c' H' n1 p1 g1=>by
  have o1:=(s.o.at2 (k:=.cells (strs.map .str)) (Nat.le_refl _) (Nat.lt_succ_self _)).call g1;exact h c' H' n1 ⟨p1,o1,(s.f.at _ (Nat.le_refl _) (Nat.lt_succ_self _)).trans g1,put_len s.t hs⟩ o1.ats) hn hm hd hg hq
theorem PZ.putX (s:PZ b c0 H0 m0 L c H nx T)(strs:List Bytes)(hs:∀ s∈strs,s.length≤1000)(h:∀ c' H' n1,PZ b c0 H0 m0 L c' H' n1 (Lx.put T strs)→Ats H' L→ASlX Tryz.prog fmG (prC b c N) nx0 (kk+1) ops os (putE e d (.tup [])) H' n1 K)
  (hy:nx≤y:=by omega) (hy2:y<ne:=by omega) (h0:N≤ne:=by omega) (hn:strs.length≤1000:=by exact Nat.le_of_ble_eq_true rfl) (hm:strs.length=m:=by rfl) (hg:gd ops e ⟨d,op,ty,pos,af,g⟩=some true:=by first | rfl | (simp [*];done)) (hq:callA (rd fmG e) op=some (37,[.ptr b 0,.sl y 0 m 1]):=by simp [*]):ASlX Tryz.prog fmG (prC b c N) nx0 kk ops (⟨d,op,ty,pos,af,g⟩::os) e (upd H y (.cells (strs.map .str))) ne K :=
 ASlX.put strs (s.p.at _ hy hy2) (OwnB.newAt s.p _ hy hy2) s.t hs h0 (fun c' H' n1 p1 g1=>by
  have o1:=(s.o.at2 (k:=.cells (strs.map .str)) hy hy2).call g1;exact h c' H' n1 ⟨p1,o1,(s.f.at _ hy hy2).trans g1,put_len s.t hs⟩ o1.ats) hn hm hg hq
theorem PZ.call {f:FuncId}{ex:List CV}{ps:List Bytes}(s:PZ b c0 H0 m0 L c H nx T)(hc:PC f ex ps)(hs:∀ s∈ps,s.length≤1000)(h:∀ c' H' n1,PZ b c0 H0 m0 L c' H' n1 (Lx.put T ps)→Ats H' L→AOpl Tryz.prog fmG n ops os (putE e d (.tup [])) H' n1 Q)
  (hd:okD n d=true:=by exact rfl) (hg:gd ops e ⟨d,op,ty,pos,af,g⟩=some true:=by first | rfl | (simp [*];done)) (hq:callA (rd fmG e) op=some (f,.ptr b 0::ex):=by simp [*]) (he:enters Tryz.prog f=true:=by kernel_rfl):AOpl Tryz.prog fmG n ops (⟨d,op,ty,pos,af,g⟩::os) e H nx Q :=
 AOpl.callP (hc b c H nx T s.t s.p) (fun c' H' n1 p1 g1=>h c' H' n1 ⟨p1,s.o.call g1,s.f.trans g1,put_len s.t hs⟩ (s.o.call g1).ats) hd hg hq he
theorem PZ.reg {id:Nat}(s:PZ b c0 H0 m0 L c H nx T)(m:Nat)(h:Bls b c (nx+m) L→ASlX Tryz.prog fmG (prC b c (nx+m)) nx 0 ops ops.toList e H (nx+m) fun e' H' ne'=>Q .normal e' H' ne')
  (hst:statS n ops=true:=by kernel_rfl) (hz:ops.size=m:=by rfl):AWp Tryz.prog fmG n (.region id ops true) e H nx Q :=
 AWp.regTX _ (by kernel_rfl) hst rfl hz (h (s.o.bls m))
end
end Ax
end
section
open Lx Ax Go.RowKit
namespace Lx
theorem dec_digits:∀ (f n:Nat),n<10 ^ f→0<f→digitsOf f n=Lib.decDigits n
 | f+1,n,h,_=>by
   rw [digitsOf,Lib.decDigits];split
   ·rfl
   ·rename_i h0;have hf:0<f:=by
     rcases Nat.eq_zero_or_pos f with e | e
     ·subst e;simp at h;omega
     ·exact e
    rw [dec_digits f (n / 10) (by rw [Nat.pow_succ] at h;omega) hf];rfl
theorem itoa_num {n:Int}(h:-9223372036854775808≤n∧n≤9223372036854775807):Lib.itoa n=numText n:=by
 obtain⟨h0,h1⟩:=h;unfold Lib.itoa numText;split
 ·rw [dec_digits 20 _ (by omega) (by omega)]
 ·rw [dec_digits 20 _ (by omega) (by omega)];congr 1;omega
theorem numText_len {n:Int}(h:-9223372036854775808≤n∧n≤9223372036854775807):(numText n).length≤21:=by
 rw [← itoa_num h];exact Lib.itoa_length_le n h.1 h.2
end Lx
theorem below_grow {B:Nat}(w:World)(k:Nat)(os:Array Obj)(hB:B≤w.heap.size):Below B w (Go.Sort.grow (w.drewN k) os) :=
 ⟨rfl,rfl,rfl,by show w.heap.size≤(w.heap++os).size;simp,fun i hi=>by show (w.heap++os)[i]?=w.heap[i]?;rw [Array.getElem?_append_left (by omega)]⟩
theorem tab_of {M:Mp}{w:World}(hg:RG fmG M)(hz:∀ g o,M.fz g=some o→w.heap[g]?=some o):Lib.TabIs Tryz.prog w "internal/strconv.uint64pow10" .u64 Lib.pow10Tab:=by
 obtain⟨h1,arr,T,fr,h2,h3⟩:=hg 2;have hh:=hz _ _ h2;unfold Lib.TabIs World.var?;rw [show Tryz.prog.globalNamed "internal/strconv.uint64pow10"=some 2 by kernel_rfl];simp only [Option.bind_some,hh];refine congrArg some (Array.ext (by simpa using h3) fun i a b=>?_);change RV M (.rop (Lib.pow10Tab.map (.int .u64))) _ at h1;cases h1 with
 | rop cs g o arr' T' fr' h' hl hr =>
   rw [h2] at h';cases h';have:=hr i (by simpa using b) (by simpa using a);simp only [List.getElem_map,Nat.zero_add] at this;generalize hv:arr[i]=v at this;cases this;simp [hv]
theorem fm_num {n:Int}(h:-9223372036854775808≤n∧n≤9223372036854775807):FCall1 Tryz.prog fmG 38 [.int .i64 n,.int .i64 10] (.str (numText n)):=by
 refine FCall.one fmG_pu rfl rfl (FCall.ofOld fun M w vs hg hz hv=>?_);obtain⟨v0,vs,rfl,hv0,hv⟩:=hv.cons_inv;obtain⟨v1,vs,rfl,hv1,hv⟩:=hv.cons_inv;cases hv.nil_inv;cases hv0;cases hv1;refine (Tryz.strconv_FormatInt_10 n h.1 h.2 w (tab_of hg hz)).mono ?_;rintro e w' ⟨rfl,k,os,rfl⟩;exact⟨below_grow _ _ _ (Nat.le_refl _),_,rfl,.str _ _ (by rw [← itoa_num h])⟩
end
section
open Lx Ax Go.RowKit
theorem cells_of {M:Mp}{w:World}{g:Nat}{ss:List Bytes}(hg:RG fmG M)(hz:∀ g o,M.fz g=some o→w.heap[g]?=some o)(h:fmG g=.rop (ss.map .str)):∃ t fr,w.heap[g]?=some (.cells (ss.map fun l=>Value.string ⟨l.toArray⟩).toArray t fr):=by
 obtain⟨h1,h3⟩:=hg g;rw [h] at h1 h3;obtain⟨arr,T,fr,h2,h3⟩:=h3;refine⟨T,fr,?_⟩;rw [hz _ _ h2];refine congrArg (fun a=>some (Obj.cells a T fr)) (Array.ext (by simpa using h3) fun i a b=>?_);cases h1 with
 | rop cs g o arr' T' fr' h' hl hr =>
   rw [h2] at h';cases h';have:=hr i (by simpa using b) (by simpa using a);simp only [List.getElem_map,Nat.zero_add] at this;generalize hv:arr[i]=v at this;cases this with
   | str l s hs =>
     simp [hv,← hs]
theorem kw_is {M:Mp}{w:World}(hg:RG fmG M)(hz:∀ g o,M.fz g=some o→w.heap[g]?=some o):KwIs w:=cells_of (ss:=kwList) hg hz rfl
end
section
open Lx Go.RowKit
/-- A number within int64. -/
def In64 (n:Int):Prop:=-9223372036854775808≤n∧n≤9223372036854775807
/-- Bounds of what is read: numbers within int64, lengths that a machine has. -/
def ExB:Nat→Ex→Prop
 | 0,_=>False
 | d+1,.mk k n o m ks=>In64 k∧In64 n∧o.length≤maxLen∧m.length≤maxLen∧∀ x∈ks,ExB d x
def StB:Nat→St→Prop
 | 0,_=>False
 | d+1,.mk k nm ty es b el=>In64 k∧nm.length≤maxLen∧ty.length≤maxLen∧(∀ x∈es,ExB d x)∧(∀ x∈b,StB d x)∧∀ x∈el,StB d x
theorem ExB.succ:∀ (d:Nat) (e:Ex),ExB d e→ExB (d+1) e:=by
 intro d
 induction d with
 | zero=>intro e h;exact absurd h (by simp [ExB])
 | succ d ih =>
   intro e h;obtain⟨k,n,o,m,ks⟩:=e;exact⟨h.1,h.2.1,h.2.2.1,h.2.2.2.1,fun x hx=>ih x (h.2.2.2.2 x hx)⟩
theorem ExB.le {d d':Nat}(h:d≤d'){e:Ex}(he:ExB d e):ExB d' e:=by
 obtain⟨k,rfl⟩:=Nat.exists_eq_add_of_le h
 induction k with
 | zero=>exact he
 | succ k ih=>exact ExB.succ _ _ (ih (by omega))
theorem StB.succ:∀ (d:Nat) (e:St),StB d e→StB (d+1) e:=by
 intro d
 induction d with
 | zero=>intro e h;exact absurd h (by simp [StB])
 | succ d ih =>
   intro e h;obtain⟨k,nm,ty,es,b,el⟩:=e;exact⟨h.1,h.2.1,h.2.2.1,fun x hx=>ExB.succ _ _ (h.2.2.2.1 x hx),fun x hx=>ih x (h.2.2.2.2.1 x hx),fun x hx=>ih x (h.2.2.2.2.2 x hx)⟩
theorem StB.le {d d':Nat}(h:d≤d'){e:St}(he:StB d e):StB d' e:=by
 obtain⟨k,rfl⟩:=Nat.exists_eq_add_of_le h
 induction k with
 | zero=>exact he
 | succ k ih=>exact StB.succ _ _ (ih (by omega))
def FldB (f:Fld):Prop:=f.name.length≤maxLen∧f.typ.length≤maxLen
def MethB (d:Nat)(m:Me):Prop:=m.name.length≤maxLen∧m.result.length≤maxLen∧(∀ x∈m.params,FldB x)∧∀ x∈m.body,StB d x
def ClB (d:Nat)(c:Cl):Prop:=c.name.length≤maxLen∧c.super.length≤maxLen∧(∀ x∈c.fields,FldB x)∧∀ x∈c.methods,MethB d x
theorem len5 {cs:List Value}(h:cs.length=5):∃ c0 c1 c2 c3 c4,cs=[c0,c1,c2,c3,c4]:=by
 match cs,h with
 | [c0,c1,c2,c3,c4],_=>exact⟨c0,c1,c2,c3,c4,rfl⟩
theorem list_of {α:Type}{len:Nat}{Q:Nat→α→Prop}(h:∀ i,i<len→∃ a,Q i a):∃ l:List α,l.length=len∧∀ i (hi:i<l.length),Q i l[i]:=by
 induction len with
 | zero=>exact⟨[],rfl,fun i hi=>by simp at hi⟩
 | succ n ih =>
   obtain⟨l,h1,h2⟩:=ih fun i hi=>h i (by omega)
   obtain⟨a,ha⟩:=h n (by omega);refine⟨l++[a],by simp [h1],fun i hi=>?_⟩
   by_cases hlt:i<l.length
   ·rw [List.getElem_append_left hlt];exact h2 i hlt
   ·have e:i=l.length:=by simp at hi;omega
    subst e;rw [List.getElem_append_right (Nat.le_refl _)];simp only [Nat.sub_self,List.getElem_cons_zero];rw [h1];exact ha
theorem addr_off (g off k:Nat):(⟨g,off,none⟩:Addr).add k=⟨g,off+k,none⟩:=by
 unfold Addr.add;split
 ·rename_i h;rw [h];rfl
 ·rfl
theorem IsList.each {α:Type}{A:Nat→Prop}{w:World}{k:Nat}{P:α→List Value→Prop}{l:List α}{v:Value}(h:IsList A w k P l v):∀ x∈l,∃ cs,P x cs:=by
 obtain⟨_,⟨rfl,_⟩ | ⟨g,off,cap,_,_,hc⟩⟩:=h
 ·intro x hx;cases hx
 ·intro x hx;obtain⟨i,hi,rfl⟩:=List.getElem_of_mem hx;obtain⟨cs,_,_,h⟩:=hc i hi;exact⟨cs,h⟩
section
variable {H:Type} {enc:TypeId×Value→H} {w:World} {spare:Nat→Bool} {held:Bool}
/-- The fields of a struct type: their types, offsets, sizes. -/
noncomputable def fldsOf (t:Nat):List (Nat×Nat×Nat):=match Tryz.prog.underlying t with
 | some (.struct fs)=>fs.toList.map fun f=>(f.type,f.offset,Tryz.prog.cellsOf f.type)
 | _=>[]
theorem trod_str {n:Nat}{cs:List Value}{x:DataW H×List MemPlace}(h:DataW.trod enc Tryz.prog w 0 spare held n 9 cs=some x):∃ s:Bytes,cs=[.string (strOf s)]∧s.length≤maxLen:=by
 obtain⟨s,h1,_,h2⟩:=DataW.trod_string Tryz.underlying9 h;exact⟨s.data.toList,by rw [← strOf_of];exact h1,by rw [len_list];exact h2⟩
theorem wf64 {n:Int}(h:(Lit.int .i64 n).wf=true):In64 n:=by
 have h':(decide (IntKind.i64.min≤n) && decide (n≤IntKind.i64.max))=true:=h;rw [Bool.and_eq_true,decide_eq_true_eq,decide_eq_true_eq] at h';exact h'
theorem trod_num {t n:Nat}(ht:Tryz.prog.underlying t=some (.int .i64)){cs:List Value}{x:DataW H×List MemPlace}(h:DataW.trod enc Tryz.prog w 0 spare held n t cs=some x):∃ k:Int,cs=[.int .i64 k]∧In64 k:=by
 obtain⟨k,h1,_,h2⟩:=DataW.trod_int ht h;exact⟨k,h1,wf64 h2⟩
theorem cells_ex:Tryz.prog.cellsOf 24=5:=by kernel_rfl
theorem flds_ex:fldsOf 24=[(3,0,1),(2,1,1),(9,2,1),(9,3,1),(22,4,1)]:=by kernel_rfl
theorem MethB.le {d d':Nat}(h:d≤d'){m:Me}(hm:MethB d m):MethB d' m:=⟨hm.1,hm.2.1,hm.2.2.1,fun x hx=>StB.le h (hm.2.2.2 x hx)⟩
theorem ClB.le {d d':Nat}(h:d≤d'){m:Cl}(hm:ClB d m):ClB d' m:=⟨hm.1,hm.2.1,hm.2.2.1,fun x hx=>MethB.le h (hm.2.2.2 x hx)⟩
end
end
end Go.Proofs.YtmlafcimjhnhhaaGreatDoor
