/-
  AX: abstract values, what they stand for; the abstract heap.
-/
import Derived.Orders
import Derived.Below
import Derived.Defers
import Derived.Recover
import Derived.Laws.CopyRow
import Derived.Laws.Append
import Derived.Laws.AppendOwn
import Derived.Laws.StructEq
import Derived.Laws.BytesString
import Derived.MapKept
import Derived.ChangeKeysEq
set_option linter.unusedSectionVars false
set_option linter.unusedSimpArgs false
set_option linter.unnecessarySimpa false
set_option linter.unusedVariables false
namespace Go.Proofs.YtoookjadbhdfhaaGreatDoor
section
namespace Ax
/-- Abstract values. -/
inductive CV where
 | any
 | bool (b:Bool)
 | int (k:IntKind) (n:Int)
 | str (l:List UInt8)
 | nilp
 | ptr (b o:Nat)
 | rop (cs:List CV)
 | nils
 | sl (b o n k:Nat)
 | lst (rows:List (List CV))
 | nilm
 | mp (b:Nat)
 | fmp (ks vs:List CV)
 | nilf
 | fn (f:Fn) (first captured:List CV)
 | nili
 | iface (t:TypeId) (v:CV)
 | agg (cells:List CV)
 | tup (vs:List CV)
 | opt (g:Bool) (c:CV)
 deriving Inhabited
/-- What lies frozen, and where the own blocks lie, with how many cells. -/
structure Mp where
 fz:Nat→Option Obj
 bk:Nat→Option (Nat×Nat)
/-- An abstract value stands for a value. -/
inductive RV (M:Mp):CV→Value→Prop
 | any (v:Value):RV M .any v
 | bool (b:Bool):RV M (.bool b) (.bool b)
 | int (k:IntKind) (n:Int):RV M (.int k n) (.int k n)
 | str (l:List UInt8) (s:ByteArray) (h:s.data.toList=l):RV M (.str l) (.string s)
 | nilp:RV M .nilp (.pointer none)
 | ptr (b o g m:Nat) (h:M.bk b=some (g,m)):RV M (.ptr b o) (.pointer (some ⟨g,o,none⟩))
 | rop (cs:List CV) (g o:Nat) (arr:Array Value) (T:TypeId) (fr:Nat×Nat) (h:M.fz g=some (.cells arr T fr)) (hl:o+cs.length≤arr.size)
   (hr:∀ j (a:j<cs.length) (b:o+j<arr.size),RV M cs[j] arr[o+j]):RV M (.rop cs) (.pointer (some ⟨g,o,none⟩))
 | nils:RV M .nils (.slice none 0 0)
 | sl (b o n k g m c:Nat) (h:M.bk b=some (g,m)) (hn:n≤c) (hm:o+c*k≤m):RV M (.sl b o n k) (.slice (some ⟨g,o,none⟩) n c)
 | lst0 (a:Option Addr) (c:Nat):RV M (.lst []) (.slice a 0 c)
 | lst (rows:List (List CV)) (g o n k c:Nat) (arr:Array Value) (T:TypeId) (fr:Nat×Nat) (h:M.fz g=some (.cells arr T fr)) (hn:n=rows.length) (hc:n≤c)
   (hk:∀ r∈rows,r.length=k) (hl:o+n*k≤arr.size)
   (hr:∀ i (a:i<rows.length) j (b:j<rows[i].length) (d:o+i*k+j<arr.size),RV M rows[i][j] arr[o+i*k+j]):RV M (.lst rows) (.slice (some ⟨g,o,none⟩) n c)
 | nilm:RV M .nilm (.map none)
 | mp (b g m:Nat) (h:M.bk b=some (g,m)):RV M (.mp b) (.map (some g))
 | fmp (ks vs:List CV) (g:Nat) (en:Array MapEntry) (clock:Nat) (h:M.fz g=some (.map en clock)) (h1:ks.length=en.size) (h2:vs.length=en.size)
   (hk:∀ j (a:j<ks.length) (b:j<en.size),RV M ks[j] en[j].key) (hv:∀ j (a:j<vs.length) (b:j<en.size),RV M vs[j] en[j].val):RV M (.fmp ks vs) (.map (some g))
 | nilf:RV M .nilf .nilFunc
 | fn (f:Fn) (fs cs:List CV) (fs' cs':List Value) (l1:fs'.length=fs.length) (l2:cs'.length=cs.length)
   (h1:∀ j (a:j<fs.length) (b:j<fs'.length),RV M fs[j] fs'[j]) (h2:∀ j (a:j<cs.length) (b:j<cs'.length),RV M cs[j] cs'[j]):RV M (.fn f fs cs) (.func f fs'.toArray cs'.toArray)
 | nili:RV M .nili .nilIface
 | iface (t:TypeId) (x:CV) (v:Value) (h:RV M x v):RV M (.iface t x) (.iface t v)
 | agg (cs:List CV) (vs:List Value) (hl:vs.length=cs.length) (hr:∀ j (a:j<cs.length) (b:j<vs.length),RV M cs[j] vs[j]):RV M (.agg cs) (.agg vs.toArray)
 | tup (cs:List CV) (vs:List Value) (hl:vs.length=cs.length) (hr:∀ j (a:j<cs.length) (b:j<vs.length),RV M cs[j] vs[j]):RV M (.tup cs) (.tuple vs.toArray)
 | opt (g:Bool) (c:CV) (v:Value) (h1:g=true→RV M c v) (h0:g=false→v=undef):RV M (.opt g c) v
structure Ext (M M':Mp):Prop where
 fz:∀ g x,M.fz g=some x→M'.fz g=some x
 bk:∀ b x,M.bk b=some x→M'.bk b=some x
theorem Ext.refl (M:Mp):Ext M M:=⟨fun _ _ h=>h,fun _ _ h=>h⟩
theorem Ext.trans {M M' M'':Mp}(h:Ext M M')(h':Ext M' M''):Ext M M'':=⟨fun b x k=>h'.fz b x (h.fz b x k),fun b x k=>h'.bk b x (h.bk b x k)⟩
theorem RV.ext {M M':Mp}(he:Ext M M'){x:CV}{v:Value}(h:RV M x v):RV M' x v:=by
 induction h with
 | any v=>exact .any v
 | bool b=>exact .bool b
 | int k n=>exact .int k n
 | str l s h=>exact .str l s h
 | nilp=>exact .nilp
 | ptr b o g m h=>exact .ptr b o g m (he.bk _ _ h)
 | rop cs g o arr T fr h hl _ ih=>exact .rop cs g o arr T fr (he.fz _ _ h) hl ih
 | nils=>exact .nils
 | sl b o n k g m c h hn hm=>exact .sl b o n k g m c (he.bk _ _ h) hn hm
 | lst0 a c=>exact .lst0 a c
 | lst rows g o n k c arr T fr h hn hc hk hl _ ih=>exact .lst rows g o n k c arr T fr (he.fz _ _ h) hn hc hk hl ih
 | nilm=>exact .nilm
 | mp b g m h=>exact .mp b g m (he.bk _ _ h)
 | fmp ks vs g en clock h h1 h2 _ _ i1 i2=>exact .fmp ks vs g en clock (he.fz _ _ h) h1 h2 i1 i2
 | nilf=>exact .nilf
 | fn f fs cs fs' cs' l1 l2 _ _ i1 i2=>exact .fn f fs cs fs' cs' l1 l2 i1 i2
 | nili=>exact .nili
 | iface t x v _ ih=>exact .iface t x v ih
 | agg cs vs hl _ ih=>exact .agg cs vs hl ih
 | tup cs vs hl _ ih=>exact .tup cs vs hl ih
 | opt g c v _ h0 ih=>exact .opt g c v ih h0
/-- Lists of values. -/
def RVs (M:Mp)(cs:List CV)(vs:List Value):Prop:=vs.length=cs.length∧∀ j (_:j<cs.length) (_:j<vs.length),RV M cs[j] vs[j]
theorem RVs.ext {M M':Mp}(he:Ext M M'){cs:List CV}{vs:List Value}(h:RVs M cs vs):RVs M' cs vs:=⟨h.1,fun j a b=>(h.2 j a b).ext he⟩
theorem RVs.nil {M:Mp}:RVs M [] []:=⟨rfl,fun j a=>by simp at a⟩
theorem RVs.cons {M:Mp}{c:CV}{v:Value}{cs:List CV}{vs:List Value}(h:RV M c v)(hs:RVs M cs vs):RVs M (c::cs) (v::vs):=by
 refine⟨by simp [hs.1],fun j a b=>?_⟩;cases j with
 | zero=>exact h
 | succ j=>exact hs.2 j (by simpa using a) (by simpa using b)
theorem RVs.head {M:Mp}{c:CV}{v:Value}{cs:List CV}{vs:List Value}(h:RVs M (c::cs) (v::vs)):RV M c v:=h.2 0 (by simp) (by simp)
theorem RVs.tail {M:Mp}{c:CV}{v:Value}{cs:List CV}{vs:List Value}(h:RVs M (c::cs) (v::vs)):RVs M cs vs :=
 ⟨by simpa using h.1,fun j a b=>h.2 (j+1) (by simpa using a) (by simpa using b)⟩
theorem RVs.nil_inv {M:Mp}{vs:List Value}(h:RVs M [] vs):vs=[]:=List.length_eq_zero_iff.mp h.1
theorem RVs.cons_inv {M:Mp}{c:CV}{cs:List CV}{vs:List Value}(h:RVs M (c::cs) vs):∃ v vs',vs=v::vs'∧RV M c v∧RVs M cs vs':=by
 cases vs with
 | nil=>have:=h.1;simp at this
 | cons v vs'=>exact⟨v,vs',rfl,h.head,h.tail⟩
theorem RVs.one {M:Mp}{c:CV}{v:Value}(h:RV M c v):RVs M [c] [v]:=.cons h .nil
theorem RVs.append {M:Mp}{cs ds:List CV}{vs us:List Value}(h:RVs M cs vs)(h':RVs M ds us):RVs M (cs++ds) (vs++us):=by
 refine⟨by simp [h.1,h'.1],fun j a b=>?_⟩
 by_cases hj:j<cs.length
 ·rw [List.getElem_append_left hj,List.getElem_append_left (by rw [h.1];exact hj)];exact h.2 j hj (by rw [h.1];exact hj)
 ·rw [List.getElem_append_right (by omega),List.getElem_append_right (by rw [h.1];omega)];have e:j-vs.length=j-cs.length:=by rw [h.1]
  simp only [e];exact h'.2 _ (by simp at a;omega) (by rw [h'.1];simp at a;omega)
theorem RVs.take {M:Mp}{cs:List CV}{vs:List Value}(n:Nat)(h:RVs M cs vs):RVs M (cs.take n) (vs.take n):=by
 refine⟨by simp [h.1],fun j a b=>?_⟩;rw [List.getElem_take,List.getElem_take];exact h.2 j (by simp at a;omega) (by simp at b;omega)
theorem RVs.drop {M:Mp}{cs:List CV}{vs:List Value}(n:Nat)(h:RVs M cs vs):RVs M (cs.drop n) (vs.drop n):=by
 refine⟨by simp [h.1],fun j a b=>?_⟩;rw [List.getElem_drop,List.getElem_drop];exact h.2 _ (by simp at a;omega) (by simp at b;omega)
theorem RVs.at' {M:Mp}{cs:List CV}{vs:List Value}{j:Nat}{c:CV}(h:RVs M cs vs)(hj:cs[j]?=some c):∃ v,vs[j]?=some v∧RV M c v:=by
 obtain⟨hl,rfl⟩:=List.getElem?_eq_some_iff.mp hj;have hv:j<vs.length:=by rw [h.1];exact hl
 exact⟨vs[j],by simp [hv],h.2 j hl hv⟩
theorem RVs.set {M:Mp}{cs:List CV}{vs:List Value}{c:CV}{v:Value}(n:Nat)(h:RVs M cs vs)(hv:RV M c v):RVs M (cs.set n c) (vs.set n v):=by
 refine⟨by simp [h.1],fun j a b=>?_⟩;rw [List.getElem_set,List.getElem_set]
 by_cases e:n=j
 ·simp only [e,if_true];exact hv
 ·simp only [e,if_false];exact h.2 j (by simpa using a) (by simpa using b)
theorem RVs.replicate {M:Mp}{c:CV}{v:Value}(n:Nat)(h:RV M c v):RVs M (List.replicate n c) (List.replicate n v):=by
 refine⟨by simp,fun j a b=>?_⟩;rw [List.getElem_replicate,List.getElem_replicate];exact h
/-- Values of one cell. -/
def CV.one:CV→Bool
 | .any | .agg _ | .tup _ | .opt _ _=>false
 | _=>true
def oneV:Value→Bool
 | .agg _ | .tuple _=>false
 | _=>true
theorem RV.oneV {M:Mp}{c:CV}{v:Value}(h:RV M c v)(ho:c.one=true):oneV v=true:=by
 cases h <;> first | rfl | (simp [CV.one] at ho)
theorem RVs.oneV {M:Mp}{cs:List CV}{vs:List Value}(h:RVs M cs vs)(ho:cs.all CV.one=true):∀ v∈vs,Ax.oneV v=true:=by
 intro v hv;obtain⟨j,hj,rfl⟩:=List.getElem_of_mem hv;have hc:j<cs.length:=by rw [← h.1];exact hj
 exact (h.2 j hc hj).oneV (List.all_eq_true.mp ho _ (List.getElem_mem hc))
/-- Abstract blocks. -/
inductive CB where
 | cells (cs:List CV)
 | map (ks vs:List CV)
 | iter (l:List UInt8) (p:Nat)
def RB (M:Mp)(w:World)(g m:Nat):CB→Prop
 | .cells cs=>∃ (arr:Array Value) (T:TypeId),w.heap[g]?=some (.cells arr T (0,0))∧arr.size=m∧RVs M cs (arr.toList.take cs.length)
 | .map ks vs=>∃ (en:Array MapEntry) (clock:Nat),w.heap[g]?=some (.map en clock)∧RVs M ks (en.toList.map (·.key))∧RVs M vs (en.toList.map (·.val))
 | .iter l p=>∃ s:ByteArray,w.heap[g]?=some (.stringIter s p)∧s.data.toList=l
theorem RB.ext {M M':Mp}(he:Ext M M'){w w':World}{g m:Nat}{k:CB}(hh:w'.heap[g]?=w.heap[g]?)(h:RB M w g m k):RB M' w' g m k:=by
 cases k with
 | cells cs=>obtain⟨arr,T,a,b,c⟩:=h;exact⟨arr,T,by rw [hh,a],b,c.ext he⟩
 | map ks vs=>obtain⟨en,clock,a,b,c⟩:=h;exact⟨en,clock,by rw [hh,a],b.ext he,c.ext he⟩
 | iter l p=>obtain⟨s,a,b⟩:=h;exact⟨s,by rw [hh,a],b⟩
theorem RB.lt {M:Mp}{w:World}{g m:Nat}{k:CB}(h:RB M w g m k):g<w.heap.size:=by
 cases k with
 | cells cs=>obtain⟨arr,T,a,_⟩:=h;exact (Array.getElem?_eq_some_iff.mp a).1
 | map ks vs=>obtain⟨en,clock,a,_⟩:=h;exact (Array.getElem?_eq_some_iff.mp a).1
 | iter l p=>obtain⟨s,a,_⟩:=h;exact (Array.getElem?_eq_some_iff.mp a).1
abbrev Heap:=Nat→Option CB
def Heap.no:Heap:=fun _=>none
/-- The abstract heap stands for the world's. -/
structure Rep (M:Mp) (H:Heap) (nx:Nat) (w:World):Prop where
 blk:∀ b k,H b=some k→∃ g m,M.bk b=some (g,m)∧RB M w g m k
 inj:∀ b b' k k' g m m',H b=some k→H b'=some k'→M.bk b=some (g,m)→M.bk b'=some (g,m')→b=b'
 fresh:∀ b,nx≤b→M.bk b=none
 fz:∀ g o,M.fz g=some o→w.heap[g]?=some o
 sep:∀ g o b k m,M.fz g=some o→H b=some k→M.bk b=some (g,m)→False
/-- Blocks of the heap. -/
def Im (H:Heap)(M:Mp)(g:Nat):Prop:=∃ b k m,H b=some k∧M.bk b=some (g,m)
/-- From one state to a later one. -/
structure Fr (H:Heap) (M:Mp) (nx:Nat) (w:World) (H':Heap) (M':Mp) (nx':Nat) (w':World):Prop where
 ext:Ext M M'
 os:w'.os=w.os
 tape:w'.tape=w.tape
 output:w'.output=w.output
 grown:w.heap.size≤w'.heap.size
 kept:∀ g,g<w.heap.size→¬ Im H M g→w'.heap[g]?=w.heap[g]?
 mono:∀ g,Im H' M' g→Im H M g∨w.heap.size≤g
 low:∀ b,b<nx→M'.bk b=M.bk b
 nxle:nx≤nx'
 fzn:∀ g o,M'.fz g=some o→M.fz g=some o∨Im H M g∨w.heap.size≤g
theorem Fr.refl (H:Heap)(M:Mp)(nx:Nat)(w:World):Fr H M nx w H M nx w :=
 ⟨.refl _,rfl,rfl,rfl,Nat.le_refl _,fun _ _ _=>rfl,fun _ h=>.inl h,fun _ _=>rfl,Nat.le_refl _,fun _ _ h=>.inl h⟩
theorem Fr.trans {H H' H'':Heap}{M M' M'':Mp}{nx nx' nx'':Nat}{w w' w'':World}(a:Fr H M nx w H' M' nx' w')(b:Fr H' M' nx' w' H'' M'' nx'' w''):Fr H M nx w H'' M'' nx'' w'' where
 ext:=a.ext.trans b.ext
 os:=b.os.trans a.os
 tape:=b.tape.trans a.tape
 output:=b.output.trans a.output
 grown:=Nat.le_trans a.grown b.grown
 kept g hg hn:=by
  rw [b.kept g (Nat.lt_of_lt_of_le hg a.grown) (fun hw=>by
   rcases a.mono g hw with h1 | h1
   ·exact hn h1
   ·omega),a.kept g hg hn]
 mono g hw:=by
  rcases b.mono g hw with h1 | h1
  ·exact a.mono g h1
  ·have:=a.grown;exact .inr (by omega)
 low x hx:=by rw [b.low x (Nat.lt_of_lt_of_le hx a.nxle),a.low x hx]
 nxle:=Nat.le_trans a.nxle b.nxle
 fzn g o hg:=by
  rcases b.fzn g o hg with h | h | h
  ·exact a.fzn g o h
  ·rcases a.mono g h with h1 | h1
   ·exact .inr (.inl h1)
   ·exact .inr (.inr h1)
  ·have:=a.grown;exact .inr (.inr (by omega))
/-! the heap as a function -/
def upd (H:Heap)(b:Nat)(k:CB):Heap:=fun x=>if x=b then some k else H x
def drp (H:Heap)(b:Nat):Heap:=fun x=>if x=b then none else H x
def updM (M:Mp)(b:Nat)(p:Nat×Nat):Mp:=⟨M.fz,fun x=>if x=b then some p else M.bk x⟩
theorem upd_hit (H:Heap)(b:Nat)(k:CB):upd H b k b=some k:=by simp [upd]
theorem upd_miss (H:Heap)(b x:Nat)(k:CB)(hx:x≠b):upd H b k x=H x:=by simp [upd,hx]
theorem drp_hit (H:Heap)(b:Nat):drp H b b=none:=by simp [drp]
theorem drp_miss (H:Heap)(b x:Nat)(hx:x≠b):drp H b x=H x:=by simp [drp,hx]
theorem updM_hit (M:Mp)(b:Nat)(p:Nat×Nat):(updM M b p).bk b=some p:=by simp [updM]
theorem updM_miss (M:Mp)(b x:Nat)(p:Nat×Nat)(hx:x≠b):(updM M b p).bk x=M.bk x:=by simp [updM,hx]
theorem Ext.updM {M:Mp}{b:Nat}{p:Nat×Nat}(h:M.bk b=none):Ext M (updM M b p):=⟨fun _ _ h=>h,fun x y hx=>by
 by_cases e:x=b
 ·subst e;rw [h] at hx;cases hx
 ·rw [updM_miss _ _ _ _ e];exact hx⟩
/-- A part of the heap. -/
def Sub (H' H:Heap):Prop:=∀ b k,H' b=some k→H b=some k
theorem Sub.refl (H:Heap):Sub H H:=fun _ _ h=>h
theorem Sub.no (H:Heap):Sub Heap.no H:=fun _ _ h=>by cases h
theorem Sub.drp (H:Heap)(b:Nat):Sub (drp H b) H:=fun x k h=>by
 by_cases e:x=b
 ·subst e;rw [drp_hit] at h;cases h
 ·rw [drp_miss _ _ _ e] at h;exact h
theorem Sub.im {H' H:Heap}{M:Mp}{g:Nat}(s:Sub H' H)(h:Im H' M g):Im H M g:=by
 obtain⟨b,k,m,a,c⟩:=h;exact⟨b,k,m,s b k a,c⟩
theorem Rep.weak {M:Mp}{H H':Heap}{nx:Nat}{w:World}(r:Rep M H nx w)(s:Sub H' H):Rep M H' nx w :=
 ⟨fun b k h=>r.blk b k (s b k h),fun b b' k k' g m m' h h'=>r.inj b b' k k' g m m' (s _ _ h) (s _ _ h'),r.fresh,r.fz,fun g o b k m h h'=>r.sep g o b k m h (s _ _ h')⟩
theorem Fr.weak {M:Mp}{H H':Heap}{nx:Nat}{w:World}(s:Sub H' H):Fr H M nx w H' M nx w :=
 ⟨.refl _,rfl,rfl,rfl,Nat.le_refl _,fun _ _ _=>rfl,fun _ h=>.inl (s.im h),fun _ _=>rfl,Nat.le_refl _,fun _ _ h=>.inl h⟩
/-- A greater number is free too. -/
theorem Rep.up {M:Mp}{H:Heap}{nx nx':Nat}{w:World}(r:Rep M H nx w)(h:nx≤nx'):Rep M H nx' w:=⟨r.blk,r.inj,fun b hb=>r.fresh b (by omega),r.fz,r.sep⟩
theorem Fr.up {M:Mp}{H:Heap}{nx nx':Nat}{w:World}(h:nx≤nx'):Fr H M nx w H M nx' w :=
 ⟨.refl _,rfl,rfl,rfl,Nat.le_refl _,fun _ _ _=>rfl,fun _ h=>.inl h,fun _ _=>rfl,h,fun _ _ h=>.inl h⟩
/-- A world with the same heap. -/
theorem Rep.same {M:Mp}{H:Heap}{nx:Nat}{w w':World}(r:Rep M H nx w)(hh:w'.heap=w.heap):Rep M H nx w' :=
 ⟨fun b k hb=>by obtain⟨g,m,a,c⟩:=r.blk b k hb;exact⟨g,m,a,c.ext (.refl _) (by rw [hh])⟩,r.inj,r.fresh,fun g o h=>by rw [hh];exact r.fz g o h,r.sep⟩
theorem Fr.drew {M:Mp}{H:Heap}{nx:Nat}{w w':World}(hh:w'.heap=w.heap)(ho:w'.os=w.os)(ht:w'.tape=w.tape)(hp:w'.output=w.output):Fr H M nx w H M nx w' :=
 ⟨.refl _,ho,ht,hp,by rw [hh];exact Nat.le_refl _,fun _ _ _=>by rw [hh],fun _ h=>.inl h,fun _ _=>rfl,Nat.le_refl _,fun _ _ h=>.inl h⟩
theorem Rep.lt {M:Mp}{H:Heap}{nx:Nat}{w:World}(r:Rep M H nx w){b:Nat}{k:CB}{g m:Nat}(hb:H b=some k)(hi:M.bk b=some (g,m)):g<w.heap.size:=by
 obtain⟨g',m',a,c⟩:=r.blk b k hb;rw [hi] at a;cases a;exact c.lt
theorem Rep.im_lt {M:Mp}{H:Heap}{nx:Nat}{w:World}(r:Rep M H nx w){g:Nat}(h:Im H M g):g<w.heap.size:=by
 obtain⟨b,k,m,a,c⟩:=h;exact r.lt a c
theorem Rep.num {M:Mp}{H:Heap}{nx:Nat}{w:World}(r:Rep M H nx w){b:Nat}{x:Nat×Nat}(hi:M.bk b=some x):b<nx:=by
 refine Nat.lt_of_not_le (fun h=>?_);rw [r.fresh b h] at hi;cases hi
/-- A new object at a free number. -/
theorem Rep.new {M:Mp}{H:Heap}{nx nx':Nat}{w w':World}(r:Rep M H nx w)(b:Nat)(k:CB)(m:Nat)(o:Obj)(hb:M.bk b=none)(hn:nx≤nx')(hbn:b<nx')
  (hw:w'.heap=w.heap.push o) (hk:RB (updM M b (w.heap.size,m)) w' w.heap.size m k) :
  Rep (updM M b (w.heap.size,m)) (upd H b k) nx' w':=by
 have hold:∀ g,g<w.heap.size→w'.heap[g]?=w.heap[g]?:=fun g hg=>by rw [hw,Array.getElem?_push];simp [Nat.ne_of_lt hg]
 have he:Ext M (updM M b (w.heap.size,m)):=Ext.updM hb;refine⟨?_,?_,?_,?_,?_⟩
 ·intro x k' hx
  by_cases e:x=b
  ·subst e;rw [upd_hit] at hx;cases hx;exact⟨_,_,updM_hit _ _ _,hk⟩
  ·rw [upd_miss _ _ _ _ e] at hx;obtain⟨g,m',a,c⟩:=r.blk x k' hx;exact⟨g,m',by rw [updM_miss _ _ _ _ e];exact a,c.ext he (hold g c.lt)⟩
 ·intro x x' k1 k2 g m1 m2 h1 h2 i1 i2
  by_cases e:x=b <;> by_cases e':x'=b
  ·rw [e,e']
  ·subst e;rw [updM_hit] at i1;cases i1;rw [updM_miss _ _ _ _ e'] at i2;rw [upd_miss _ _ _ _ e'] at h2;have:=r.lt h2 i2;omega
  ·subst e';rw [updM_hit] at i2;cases i2;rw [updM_miss _ _ _ _ e] at i1;rw [upd_miss _ _ _ _ e] at h1;have:=r.lt h1 i1;omega
  ·rw [updM_miss _ _ _ _ e] at i1;rw [updM_miss _ _ _ _ e'] at i2;rw [upd_miss _ _ _ _ e] at h1;rw [upd_miss _ _ _ _ e'] at h2;exact r.inj x x' k1 k2 g m1 m2 h1 h2 i1 i2
 ·intro x hx;rw [updM_miss _ _ _ _ (by omega)];exact r.fresh x (by omega)
 ·intro g x hx;have h1:w.heap[g]?=some x:=r.fz g x hx;rw [hold g (Array.getElem?_eq_some_iff.mp h1).1,h1]
 ·intro g o' x k' m' h1 h2 h3;have hl:g<w.heap.size:=(Array.getElem?_eq_some_iff.mp (r.fz g o' h1)).1
  by_cases e:x=b
  ·subst e;rw [updM_hit] at h3;cases h3;omega
  ·rw [upd_miss _ _ _ _ e] at h2;rw [updM_miss _ _ _ _ e] at h3;exact r.sep g o' x k' m' h1 h2 h3
/-- The same for a part of the heap. -/
theorem Fr.new {M:Mp}{H H1:Heap}{nx nx':Nat}{w w':World}(b:Nat)(k:CB)(m:Nat)(o:Obj)(hb:M.bk b=none)(hbn:nx≤b)(hn:nx≤nx')(s:Sub H1 H)
  (hw:w'.heap=w.heap.push o) (ho:w'.os=w.os) (ht:w'.tape=w.tape) (hp:w'.output=w.output) :
  Fr H M nx w (upd H1 b k) (updM M b (w.heap.size,m)) nx' w':=by
 refine⟨Ext.updM hb,ho,ht,hp,by rw [hw];simp,fun g hg _=>by rw [hw,Array.getElem?_push];simp [Nat.ne_of_lt hg],?_,?_,hn,fun _ _ h=>.inl h⟩
 ·intro g ⟨x,k',m',h1,h2⟩
  by_cases e:x=b
  ·subst e;rw [updM_hit] at h2;cases h2;exact .inr (Nat.le_refl _)
  ·rw [upd_miss _ _ _ _ e] at h1;rw [updM_miss _ _ _ _ e] at h2;exact .inl ⟨x,k',m',s _ _ h1,h2⟩
 ·intro x hx;exact updM_miss _ _ _ _ (by omega)
/-- A block is written. -/
theorem Rep.write {M:Mp}{H:Heap}{nx:Nat}{w w':World}(r:Rep M H nx w)(b:Nat)(k k':CB)(g m:Nat)(hb:H b=some k)(hi:M.bk b=some (g,m))
  (hs:w'.heap.size=w.heap.size) (hh:∀ x,x≠g→w'.heap[x]?=w.heap[x]?) (ho:w'.os=w.os) (ht:w'.tape=w.tape) (hp:w'.output=w.output)
  (hr:RB M w' g m k'):Rep M (upd H b k') nx w'∧Fr H M nx w (upd H b k') M nx w':=by
 refine⟨⟨?_,?_,r.fresh,?_,?_⟩,⟨.refl _,ho,ht,hp,by omega,?_,?_,fun _ _=>rfl,Nat.le_refl _,fun _ _ h=>.inl h⟩⟩
 ·intro x k1 hx
  by_cases e:x=b
  ·subst e;rw [upd_hit] at hx;cases hx;exact⟨g,m,hi,hr⟩
  ·rw [upd_miss _ _ _ _ e] at hx;obtain⟨g1,m1,a,c⟩:=r.blk x k1 hx;refine⟨g1,m1,a,c.ext (.refl _) (hh g1 (fun e1=>e ?_))⟩;subst e1;exact (r.inj b x k k1 g1 m m1 hb hx hi a).symm
 ·intro x x' k1 k2 g1 m1 m2 h1 h2 i1 i2;have l:∀ y k3,(upd H b k') y=some k3→∃ k,H y=some k:=by
   intro y k3 hy
   by_cases e:y=b
   ·subst e;exact⟨k,hb⟩
   ·rw [upd_miss _ _ _ _ e] at hy;exact⟨k3,hy⟩
  obtain⟨a,ha⟩:=l x k1 h1;obtain⟨c,hc⟩:=l x' k2 h2;exact r.inj x x' a c g1 m1 m2 ha hc i1 i2
 ·intro g1 o h1;rw [hh g1 (fun e=>by subst e;exact r.sep g1 o b k m h1 hb hi)];exact r.fz g1 o h1
 ·intro g1 o x k1 m1 h1 h2 h3
  by_cases e:x=b
  ·subst e;exact r.sep g1 o x k m1 h1 hb h3
  ·rw [upd_miss _ _ _ _ e] at h2;exact r.sep g1 o x k1 m1 h1 h2 h3
 ·intro g1 _ hn;exact hh g1 (fun e=>hn ⟨b,k,m,hb,e▸hi⟩)
 ·intro g1 ⟨x,k1,m1,h1,h3⟩
  by_cases e:x=b
  ·subst e;exact .inl ⟨x,k,m1,hb,h3⟩
  ·rw [upd_miss _ _ _ _ e] at h1;exact .inl ⟨x,k1,m1,h1,h3⟩
/-- A block goes over to a new number. -/
theorem Rep.move {M:Mp}{H:Heap}{nx:Nat}{w:World}(r:Rep M H nx w)(b:Nat)(k:CB)(g m:Nat)(hb:H b=some k)(hi:M.bk b=some (g,m)) :
  Rep (updM M nx (g,m)) (upd (drp H b) nx k) (nx+1) w∧Fr H M nx w (upd (drp H b) nx k) (updM M nx (g,m)) (nx+1) w:=by
 have hf:M.bk nx=none:=r.fresh nx (Nat.le_refl _);have he:Ext M (updM M nx (g,m)):=Ext.updM hf;have hbn:b≠nx:=fun e=>by rw [e,hf] at hi;cases hi
 have key:∀ x k1,(upd (drp H b) nx k) x=some k1→∀ g1 m1,(updM M nx (g,m)).bk x=some (g1,m1)→(x=nx∧g1=g∧m1=m∧k1=k)∨(x≠nx∧x≠b∧H x=some k1∧M.bk x=some (g1,m1)):=by
  intro x k1 hx g1 m1 hi1
  by_cases e:x=nx
  ·subst e;rw [updM_hit] at hi1;rw [upd_hit] at hx;cases hi1;cases hx;exact .inl ⟨rfl,rfl,rfl,rfl⟩
  ·rw [upd_miss _ _ _ _ e] at hx;rw [updM_miss _ _ _ _ e] at hi1
   by_cases e1:x=b
   ·subst e1;rw [drp_hit] at hx;cases hx
   ·rw [drp_miss _ _ _ e1] at hx;exact .inr ⟨e,e1,hx,hi1⟩
 obtain⟨g0,m0,a0,c0⟩:=r.blk b k hb;rw [hi] at a0;cases a0;refine⟨⟨?_,?_,?_,r.fz,?_⟩,⟨he,rfl,rfl,rfl,Nat.le_refl _,fun _ _ _=>rfl,?_,fun x hx=>updM_miss _ _ _ _ (by omega),by omega,fun _ _ h=>.inl h⟩⟩
 ·intro x k1 hx
  by_cases e:x=nx
  ·subst e;rw [upd_hit] at hx;cases hx;exact⟨g,m,updM_hit _ _ _,c0.ext he rfl⟩
  ·rw [upd_miss _ _ _ _ e] at hx
   by_cases e1:x=b
   ·subst e1;rw [drp_hit] at hx;cases hx
   ·rw [drp_miss _ _ _ e1] at hx;obtain⟨g1,m1,a,c⟩:=r.blk x k1 hx;exact⟨g1,m1,he.bk _ _ a,c.ext he rfl⟩
 ·intro x x' k1 k2 g1 m1 m2 h1 h2 i1 i2;rcases key x k1 h1 g1 m1 i1 with⟨a,b1,_,_⟩ | ⟨a,b1,c1,d1⟩ <;> rcases key x' k2 h2 g1 m2 i2 with⟨a',b2,_,_⟩ | ⟨a',b2,c2,d2⟩
  ·rw [a,a']
  ·subst b1;exact absurd (r.inj b x' k k2 g1 m m2 hb c2 hi d2).symm b2
  ·subst b2;exact absurd (r.inj x b k1 k g1 m1 m c1 hb d1 hi) b1
  ·exact r.inj x x' k1 k2 g1 m1 m2 c1 c2 d1 d2
 ·intro x hx;rw [updM_miss _ _ _ _ (by omega)];exact r.fresh x (by omega)
 ·intro g1 o x k1 m1 h1 h2 h3;rcases key x k1 h2 g1 m1 h3 with⟨a,b1,_,_⟩ | ⟨a,b1,c1,d1⟩
  ·subst b1;exact r.sep g1 o b k m h1 hb hi
  ·exact r.sep g1 o x k1 m1 h1 c1 d1
 ·intro g1 ⟨x,k1,m1,h1,h3⟩;rcases key x k1 h1 g1 m1 h3 with⟨a,b1,_,_⟩ | ⟨a,b1,c1,d1⟩
  ·subst b1;exact .inl ⟨b,k,m,hb,hi⟩
  ·exact .inl ⟨x,k1,m1,c1,d1⟩
/-- Two heaps side by side: the second first. -/
def cup (H X:Heap):Heap:=fun b=>match X b with
 | some k=>some k
 | none=>H b
/-- What is not handed on stays. -/
theorem Rep.frame {M M':Mp}{H H1 H':Heap}{nx nx':Nat}{w w':World}(X:Heap)(r:Rep M H nx w)(s:Sub H1 H)(sx:Sub X H)(dj:∀ b k,X b=some k→H1 b=none)
  (r':Rep M' H' nx' w') (f:Fr H1 M nx w H' M' nx' w'):Rep M' (cup H' X) nx' w'∧Fr H M nx w (cup H' X) M' nx' w':=by
 have notim:∀ b k g m,X b=some k→M.bk b=some (g,m)→¬ Im H1 M g:=by
  intro b k g m hx hi ⟨b1,k1,m1,h1,i1⟩;have e:=r.inj b b1 k k1 g m m1 (sx _ _ hx) (s _ _ h1) hi i1;subst e;rw [dj _ _ hx] at h1;cases h1
 have low:∀ b k,X b=some k→∃ g m,M.bk b=some (g,m)∧M'.bk b=some (g,m)∧g<w.heap.size∧RB M w g m k:=by
  intro b k hx;obtain⟨g,m,a,c⟩:=r.blk b k (sx _ _ hx);exact⟨g,m,a,f.ext.bk _ _ a,c.lt,c⟩
 have key:∀ b k,cup H' X b=some k→X b=some k∨(X b=none∧H' b=some k):=by
  intro b k h;unfold cup at h;cases hx:X b with
  | some k'=>rw [hx] at h;exact .inl h
  | none=>rw [hx] at h;exact .inr ⟨rfl,h⟩
 refine⟨⟨?_,?_,r'.fresh,r'.fz,?_⟩,⟨f.ext,f.os,f.tape,f.output,f.grown,?_,?_,f.low,f.nxle,?_⟩⟩
 ·intro b k h;rcases key b k h with h | ⟨_,h⟩
  ·obtain⟨g,m,a,a',hl,c⟩:=low b k h;exact⟨g,m,a',c.ext f.ext (f.kept g hl (notim b k g m h a))⟩
  ·exact r'.blk b k h
 ·have mix:∀ b b' k k' g m m',X b=some k→H' b'=some k'→M'.bk b=some (g,m)→M'.bk b'=some (g,m')→False:=by
   intro b b' k k' g m m' hx h' i i';obtain⟨g0,m0,a,a',hl,c⟩:=low b k hx;rw [a'] at i;cases i;rcases f.mono g ⟨b',k',m',h',i'⟩ with h1 | h1
   ·exact notim b k g m hx a h1
   ·omega
  intro b b' k k' g m m' h h' i i';rcases key b k h with h | ⟨_,h⟩ <;> rcases key b' k' h' with h' | ⟨_,h'⟩
  ·obtain⟨g0,m0,a,a',_,_⟩:=low b k h;obtain⟨g1,m1,d,d',_,_⟩:=low b' k' h';rw [a'] at i;cases i;rw [d'] at i';cases i';exact r.inj b b' k k' g m m' (sx _ _ h) (sx _ _ h') a d
  ·exact (mix b b' k k' g m m' h h' i i').elim
  ·exact (mix b' b k' k g m' m h' h i' i).elim
  ·exact r'.inj b b' k k' g m m' h h' i i'
 ·intro g o b k m hz h i;rcases key b k h with h | ⟨_,h⟩
  ·obtain⟨g0,m0,a,a',hl,c⟩:=low b k h;rw [a'] at i;cases i;rcases f.fzn g o hz with h1 | h1 | h1
   ·exact r.sep g o b k m h1 (sx _ _ h) a
   ·exact notim b k g m h a h1
   ·omega
  ·exact r'.sep g o b k m hz h i
 ·intro g hg hn;exact f.kept g hg (fun h=>hn (s.im h))
 ·intro g ⟨b,k,m,h,i⟩;rcases key b k h with h | ⟨_,h⟩
  ·obtain⟨g0,m0,a,a',_,_⟩:=low b k h;rw [a'] at i;cases i;exact .inl ⟨b,k,m,sx _ _ h,a⟩
  ·rcases f.mono g ⟨b,k,m,h,i⟩ with h1 | h1
   ·exact .inl (s.im h1)
   ·exact .inr h1
 ·intro g o h;rcases f.fzn g o h with h1 | h1 | h1
  ·exact .inl h1
  ·exact .inr (.inl (s.im h1))
  ·exact .inr (.inr h1)
/-- A block is frozen. -/
theorem Rep.frz {M:Mp}{H:Heap}{nx:Nat}{w:World}(r:Rep M H nx w)(b g m:Nat)(k:CB)(o:Obj)(hb:H b=some k)(hi:M.bk b=some (g,m))(ho:w.heap[g]?=some o) :
  Rep ⟨fun x=>if x=g then some o else M.fz x,M.bk⟩ (drp H b) nx w∧Fr H M nx w (drp H b) ⟨fun x=>if x=g then some o else M.fz x,M.bk⟩ nx w:=by
 have he:Ext M ⟨fun x=>if x=g then some o else M.fz x,M.bk⟩:=⟨fun x y hx=>by
  by_cases e:x=g
  ·subst e;exact (r.sep x y b k m hx hb hi).elim
  ·simpa [e] using hx,fun _ _ h=>h⟩
 refine⟨⟨?_,?_,r.fresh,?_,?_⟩,⟨he,rfl,rfl,rfl,Nat.le_refl _,fun _ _ _=>rfl,?_,fun _ _=>rfl,Nat.le_refl _,?_⟩⟩
 ·intro x k1 hx;obtain⟨g1,m1,a,c⟩:=r.blk x k1 (Sub.drp H b _ _ hx);exact⟨g1,m1,a,c.ext he rfl⟩
 ·intro x x' k1 k2 g1 m1 m2 h1 h2 i1 i2;exact r.inj x x' k1 k2 g1 m1 m2 (Sub.drp H b _ _ h1) (Sub.drp H b _ _ h2) i1 i2
 ·intro x y hx
  by_cases e:x=g
  ·subst e;simp at hx;rw [← hx];exact ho
  ·simp [e] at hx;exact r.fz x y hx
 ·intro x y b1 k1 m1 h1 h2 h3
  by_cases e:x=g
  ·subst e;have e1:=r.inj b1 b k1 k x m1 m (Sub.drp H b _ _ h2) hb h3 hi;subst e1;rw [drp_hit] at h2;cases h2
  ·simp [e] at h1;exact r.sep x y b1 k1 m1 h1 (Sub.drp H b _ _ h2) h3
 ·intro g1 ⟨x,k1,m1,h1,h3⟩;exact .inl ⟨x,k1,m1,Sub.drp H b _ _ h1,h3⟩
 ·intro x y hx
  by_cases e:x=g
  ·subst e;exact .inr (.inl ⟨b,k,m,hb,hi⟩)
  ·simp [e] at hx;exact .inl hx
/-- The whole world frozen. -/
def snap (w:World):Mp:=⟨fun g=>w.heap[g]?,fun _=>none⟩
theorem Rep.snap (w:World):Rep (Ax.snap w) Heap.no 0 w :=
 ⟨fun _ _ h=>(by cases h),fun _ _ _ _ _ _ _ h=>(by cases h),fun _ _=>rfl,fun _ _ h=>h,fun _ _ _ _ _ _ h=>(by cases h)⟩
theorem Fr.below {M M':Mp}{H':Heap}{nx nx':Nat}{w w':World}(f:Fr Heap.no M nx w H' M' nx' w'):Go.RowKit.Below w.heap.size w w' :=
 ⟨f.os,f.tape,f.output,f.grown,fun g hg=>f.kept g hg (fun ⟨_,_,_,h,_⟩=>by cases h)⟩
end Ax
end
set_option linter.unusedSimpArgs false
set_option linter.unusedVariables false
section
namespace Ax
/-- What the operations ask of a type. -/
structure TI where
 und:TypeDesc
 size:Nat
 zero:Value
 bytes:Nat
def ti (P:Program)(t:TypeId):Option TI:=match P.info? t with
 | some i=>match P.underlying t with
   | some d=>match i.zero with
     | some z=>some ⟨d,i.size,z,i.bytes⟩
     | none=>none
   | none=>none
 | none=>none
theorem ti_spec {P:Program}{t:TypeId}{i:TI}(h:ti P t=some i):P.underlying t=some i.und∧∃ f,P.info? t=some f∧f.size=i.size∧f.zero=some i.zero∧f.bytes=i.bytes:=by
 unfold ti at h;split at h
 ·rename_i f hf;split at h
  ·rename_i d hd;split at h
   ·rename_i z hz;cases h;exact⟨hd,f,hf,rfl,hz,rfl⟩
   ·cases h
  ·cases h
 ·cases h
section runs
variable {P:Program} {t:TypeId} {i:TI}
theorem ti_und (h:ti P t=some i)(w:World):(underlying t).run P w=.ok i.und w:=run_underlying (ti_spec h).1 w
theorem ti_size (h:ti P t=some i)(w:World):(sizeOf t).run P w=.ok i.size w:=by
 obtain⟨_,f,hf,hs,_⟩:=ti_spec h;simp [sizeOf,typeInfo,hf,hs]
theorem ti_zero (h:ti P t=some i)(w:World):(zeroValue t).run P w=.ok i.zero w:=by
 obtain⟨_,f,hf,_,hz,_⟩:=ti_spec h;simp [zeroValue,typeInfo,hf,hz]
def isAggD:TypeDesc→Bool
 | .struct _ | .array _ _=>true
 | _=>false
theorem ti_agg (h:ti P t=some i)(w:World):(isAgg t).run P w=.ok (isAggD i.und) w:=by
 simp only [isAgg,Sem.run_bind,ti_und h,Result.andThen_ok];cases i.und <;> simp [isAggD]
end runs
/-- Constants. -/
def ofS:Value→CV
 | .bool b=>.bool b
 | .int k n=>.int k n
 | .string s=>.str s.data.toList
 | .pointer none=>.nilp
 | .slice none 0 0=>.nils
 | .map none=>.nilm
 | .nilFunc=>.nilf
 | .nilIface=>.nili
 | _=>.any
def ofV:Value→CV
 | .agg cs=>.agg (cs.toList.map ofS)
 | v=>ofS v
theorem RV.ofS (M:Mp)(v:Value):RV M (ofS v) v:=by
 unfold Ax.ofS;split
 ·exact .bool _
 ·exact .int _ _
 ·exact .str _ _ rfl
 ·exact .nilp
 ·exact .nils
 ·exact .nilm
 ·exact .nilf
 ·exact .nili
 ·exact .any _
theorem RVs.ofS (M:Mp)(vs:List Value):RVs M (vs.map Ax.ofS) vs :=
 ⟨by simp,fun j _ _=>by rw [List.getElem_map];exact RV.ofS M _⟩
theorem RV.ofV (M:Mp)(v:Value):RV M (ofV v) v:=by
 unfold Ax.ofV;split
 ·rename_i cs;have h:=RVs.ofS M cs.toList;exact RV.agg _ cs.toList h.1 h.2
 ·exact RV.ofS M v
/-- The cells of a value. -/
def CV.cs:CV→Option (List CV)
 | .agg cs=>some cs
 | .any=>none
 | .tup _=>none
 | .opt _ _=>none
 | c=>some [c]
theorem RV.cs {M:Mp}{c:CV}{v:Value}{l:List CV}(h:RV M c v)(hc:c.cs=some l):RVs M l v.cells.toList:=by
 have h0:=h;cases h with
 | any=>cases hc
 | agg cs vs hl hr=>cases hc;exact⟨by simpa [Value.cells] using hl,by intro j a b;exact hr j a (by simpa [Value.cells] using b)⟩
 | tup=>cases hc
 | opt=>cases hc
 | _=>cases hc;exact RVs.one h0
/-! loads -/
theorem cell_at {w:World}{g o j:Nat}{arr:Array Value}{T:TypeId}{fr:Nat×Nat}(h:w.heap[g]?=some (.cells arr T fr)):w.cell? ((⟨g,o,none⟩:Addr).add j)=arr[o+j]?:=by
 have hadd:(⟨g,o,none⟩:Addr).add j=⟨g,o+j,none⟩:=by unfold Addr.add;split <;> simp_all
 rw [hadd];simp [World.cell?,h]
theorem run_loadAt_agg {P:Program}{t:TypeId}{i:TI}{w:World}{g o:Nat}{arr:Array Value}{T:TypeId}{fr:Nat×Nat}(ht:ti P t=some i)(ha:isAggD i.und=true)
  (h:w.heap[g]?=some (.cells arr T fr)) (hl:o+i.size≤arr.size) :
  (Instr.loadAt t (.pointer (some ⟨g,o,none⟩))).run P w=.ok (.agg ((arr.toList.drop o).take i.size).toArray) w:=by
 have e:=run_loadCells_list (P:=P) w ⟨g,o,none⟩ ((arr.toList.drop o).take i.size) (fun j v hj=>by
  rw [cell_at h];rw [List.getElem?_take] at hj;split at hj
  ·simpa using hj
  ·cases hj)
 have hn:((arr.toList.drop o).take i.size).length=i.size:=by simp;omega
 rw [hn] at e;simp [Instr.loadAt,Instr.sureAddr,loadVar,ti_agg ht,ha,ti_size ht,e]
theorem run_loadAt_one {P:Program}{t:TypeId}{i:TI}{w:World}{g o:Nat}{arr:Array Value}{T:TypeId}{fr:Nat×Nat}{v:Value}(ht:ti P t=some i)(ha:isAggD i.und=false)
  (h:w.heap[g]?=some (.cells arr T fr)) (hl:arr[o]?=some v) :
  (Instr.loadAt t (.pointer (some ⟨g,o,none⟩))).run P w=.ok v w:=by
 have e:=cell_at (o:=o) (j:=0) h;simp only [Addr.add,if_true,Nat.add_zero] at e;rw [hl] at e;simp [Instr.loadAt,Instr.sureAddr,loadVar,ti_agg ht,ha,e]
def pickCells (i:TI)(cs:List CV)(o:Nat):Option CV:=match isAggD i.und with
 | true=>match Nat.ble (o+i.size) cs.length with
   | true=>some (.agg ((cs.drop o).take i.size))
   | false=>none
 | false=>cs[o]?
theorem pick_load {P:Program}{M:Mp}{t:TypeId}{i:TI}{w:World}{g o o':Nat}{arr:Array Value}{T:TypeId}{fr:Nat×Nat}{cs:List CV}{c:CV}(ht:ti P t=some i)
  (h:w.heap[g]?=some (.cells arr T fr)) (hl:o+cs.length≤arr.size) (hr:RVs M cs ((arr.toList.drop o).take cs.length)) (hp:pickCells i cs o'=some c) :
  ∃ v,(Instr.loadAt t (.pointer (some ⟨g,o+o',none⟩))).run P w=.ok v w∧RV M c v:=by
 unfold pickCells at hp;split at hp
 ·rename_i ha;split at hp
  ·rename_i hb;cases hp;have hb':=Nat.le_of_ble_eq_true hb;refine⟨_,run_loadAt_agg ht ha h (by omega),?_⟩;have e:((arr.toList.drop (o+o')).take i.size)=(((arr.toList.drop o).take cs.length).drop o').take i.size:=by
    rw [List.drop_take,List.take_take,List.drop_drop,Nat.min_eq_left (by omega)]
   rw [e];have:=(hr.drop o').take i.size;exact .agg _ _ this.1 this.2
  ·cases hp
 ·rename_i ha;obtain⟨v,hv,hrv⟩:=hr.at' hp;have hlt:=(List.getElem?_eq_some_iff.mp hp).1;rw [List.getElem?_take,if_pos hlt] at hv;exact⟨v,run_loadAt_one ht ha h (by simpa using hv),hrv⟩
def loadA (P:Program)(H:Heap)(t:TypeId)(x:CV):Option CV:=match ti P t with
 | none=>none
 | some i=>match x with
   | .ptr b o=>match H b with
     | some (.cells cs)=>pickCells i cs o
     | _=>none
   | .rop cs=>pickCells i cs 0
   | _=>none
theorem loadA_sound {P:Program}{H:Heap}{t:TypeId}{x c:CV}{M:Mp}{nx:Nat}{w:World}{v:Value}(h:loadA P H t x=some c)(r:Rep M H nx w)(hx:RV M x v) :
  ∃ u,(Instr.loadAt t v).run P w=.ok u w∧RV M c u:=by
 unfold loadA at h;split at h
 ·cases h
 ·rename_i i ht;split at h
  ·rename_i b o;split at h
   ·rename_i cs hb;cases hx with
    | ptr _ _ g m hm =>
      obtain⟨g',m',hm',arr,T,ha,hs,hr⟩:=r.blk b _ hb;rw [hm] at hm';cases hm';have hlen:cs.length≤arr.size:=by have:=hr.1;simp at this;omega
      have:=pick_load (o:=0) ht ha (by omega) (by simpa using hr) h;simpa using this
   ·cases h
  ·rename_i cs;cases hx with
   | rop _ g o arr T fr hg hl hr =>
     have hw:=r.fz g _ hg;have hrs:RVs M cs ((arr.toList.drop o).take cs.length):=⟨by simp;omega,fun j a b=>by
      have:=hr j a (by omega);simpa using this⟩
     have:=pick_load (o':=0) ht hw hl hrs h;simpa using this
  ·cases h
/-! parts of values -/
def partA (i:TI)(cs:List CV)(off:Nat):Option CV:=match isAggD i.und with
 | true=>match Nat.ble (off+i.size) cs.length with
   | true=>some (.agg ((cs.drop off).take i.size))
   | false=>none
 | false=>cs[off]?
theorem partA_sound {P:Program}{M:Mp}{t:TypeId}{i:TI}{cs:List CV}{vs:List Value}{off:Nat}{c:CV}{w:World}(ht:ti P t=some i)(hr:RVs M cs vs)(h:partA i cs off=some c) :
  ∃ u,(part t vs.toArray off).run P w=.ok u w∧RV M c u:=by
 unfold partA at h;split at h
 ·rename_i ha;split at h
  ·rename_i hb;cases h;have hb':=Nat.le_of_ble_eq_true hb;refine⟨.agg ((vs.drop off).take i.size).toArray,?_,?_⟩
   ·simp [part,ti_agg ht,ha,ti_size ht]
   ·have:=(hr.drop off).take i.size;exact .agg _ _ this.1 this.2
  ·cases h
 ·rename_i ha;obtain⟨v,hv,hrv⟩:=hr.at' h;exact⟨v,by simp [part,ti_agg ht,ha,hv],hrv⟩
def fieldA (P:Program)(t:TypeId)(x:CV)(f:Nat):Option CV:=match ti P t with
 | some ⟨.struct fs,_,_,_⟩=>match fs.toList[f]? with
   | some fd=>match ti P fd.type with
     | some i=>match x with
       | .agg cs=>partA i cs fd.offset
       | _=>none
     | none=>none
   | none=>none
 | _=>none
theorem fieldA_sound {P:Program}{t:TypeId}{x c:CV}{f:Nat}{M:Mp}{w:World}{v:Value}(h:fieldA P t x f=some c)(hx:RV M x v) :
  ∃ u,(Instr.field t v f).run P w=.ok u w∧RV M c u:=by
 unfold fieldA at h;split at h
 ·rename_i fs s z bt ht;split at h
  ·rename_i fd hf;split at h
   ·rename_i i hi;split at h
    ·rename_i cs;cases hx with
     | agg _ vs hl hr =>
       obtain⟨u,h1,h2⟩:=partA_sound (w:=w) hi ⟨hl,hr⟩ h;refine⟨u,?_,h2⟩;have hf':fs[f]?=some fd:=by rw [← Array.getElem?_toList];exact hf
       simp [Instr.field,ti_und ht,hf',asAgg,h1]
    ·cases h
   ·cases h
  ·cases h
 ·cases h
def faddA (P:Program)(t:TypeId)(x:CV)(f:Nat):Option CV:=match ti P t with
 | some ⟨.struct fs,_,_,_⟩=>match fs.toList[f]? with
   | some fd=>match ti P fd.type with
     | some i=>match Nat.beq i.size 0 with
       | true=>none
       | false=>match x with
         | .ptr b o=>some (.ptr b (o+fd.offset))
         | .rop cs=>match Nat.ble fd.offset cs.length with
           | true=>some (.rop (cs.drop fd.offset))
           | false=>none
         | _=>none
     | none=>none
   | none=>none
 | _=>none
theorem addr_add (g o j:Nat):(⟨g,o,none⟩:Addr).add j=⟨g,o+j,none⟩:=by unfold Addr.add;split <;> simp_all
theorem RV.ropDrop {M:Mp}{cs:List CV}{g o:Nat}(n:Nat)(hn:n≤cs.length)(h:RV M (.rop cs) (.pointer (some ⟨g,o,none⟩))):RV M (.rop (cs.drop n)) (.pointer (some ⟨g,o+n,none⟩)):=by
 cases h with
 | rop _ _ _ arr T fr hg hl hr =>
   refine .rop _ _ _ arr T fr hg (by simp;omega) (fun j a b=>?_);have:=hr (n+j) (by simp at a;omega) (by omega);simpa [Nat.add_assoc] using this
theorem faddA_sound {P:Program}{t:TypeId}{x c:CV}{f:Nat}{M:Mp}{w:World}{v:Value}(h:faddA P t x f=some c)(hx:RV M x v) :
  ∃ u,(Instr.fieldAt t v f).run P w=.ok u w∧RV M c u:=by
 unfold faddA at h;split at h
 ·rename_i fs s z bt ht;split at h
  ·rename_i fd hf;have hf':fs[f]?=some fd:=by rw [← Array.getElem?_toList];exact hf
   split at h
   ·rename_i i hi;split at h
    ·cases h
    ·rename_i hz;have hz':i.size≠0:=fun e=>by rw [e] at hz;simp at hz
     split at h
     ·rename_i b o;cases h;cases hx with
      | ptr _ _ g m hm =>
        refine⟨.pointer (some ⟨g,o+fd.offset,none⟩),?_,.ptr _ _ g m hm⟩;simp [Instr.fieldAt,ti_und ht,hf',Instr.sureAddr,fieldPlace,ti_size hi,hz',addr_add]
     ·rename_i cs;split at h
      ·rename_i hb;cases h;have hx0:=hx;cases hx with
       | rop _ g o arr T fr hg hl hr =>
         refine⟨.pointer (some ⟨g,o+fd.offset,none⟩),?_,hx0.ropDrop _ (Nat.le_of_ble_eq_true hb)⟩;simp [Instr.fieldAt,ti_und ht,hf',Instr.sureAddr,fieldPlace,ti_size hi,hz',addr_add]
      ·cases h
     ·cases h
   ·cases h
  ·cases h
 ·cases h
end Ax
end
end Go.Proofs.YtoookjadbhdfhaaGreatDoor
