/-
  Contracts said of worlds (Calls, Below) as contracts of abstract values; trees that lie in memory as frozen values.
-/
import Derived.Test.YtoookjadbhdfhaaGreatDoorUJpAk
import Derived.Test.YtoookjadbhdfhaaGreatDoorUJpAm
import Derived.Test.YtoookjadbhdfhaaGreatDoorUJpAl
set_option linter.unusedSectionVars false
set_option linter.unusedSimpArgs false
set_option linter.unnecessarySimpa false
set_option linter.unusedVariables false
namespace Go.Proofs.YtoookjadbhdfhaaGreatDoor
open Lx Go.RowKit Ax
namespace Ax
/-- What lay frozen, and all that is new. -/
def Mp.new (M:Mp)(w w':World):Mp:=⟨fun g=>if g<w.heap.size then M.fz g else w'.heap[g]?,M.bk⟩
theorem FCall.ofOld {P:Program}{G:Nat→CV}{f:FuncId}{args:List CV}{Q:Res→Prop}
  (h:∀ M w vs,RG G M→(∀ g o,M.fz g=some o→w.heap[g]?=some o)→RVs M args vs→Calls P f vs.toArray w fun e w'=>Below w.heap.size w w'∧∃ r,Q r∧EndR (M.new w w') r e):FCall P G f args Q:=by
 intro H nx M w vs g r v;refine (h M w vs g r.fz v).mono ?_;rintro e w' ⟨hb,x,hq,hr⟩;have old:∀ g o,M.fz g=some o→g<w.heap.size:=fun g o hz=>(Array.getElem?_eq_some_iff.mp (r.fz g o hz)).1
 have he:Ext M (M.new w w'):=⟨fun g o hz=>by simp only [Mp.new,old g o hz,if_true];exact hz,fun _ _ h=>h⟩;refine⟨M.new w w',x,H,nx,hr,⟨fun b k hk=>?_,r.inj,r.fresh,fun g o hz=>?_,fun g o b k m hz hk hm=>?_⟩,⟨he,hb.os,hb.tape,hb.output,hb.size,fun g hg _=>hb.block g hg,fun _ h=>.inl h,fun _ _=>rfl,Nat.le_refl _,fun g o hz=>?_⟩,rfl,hq⟩
 ·obtain⟨g,m,h1,h2⟩:=r.blk b k hk;exact⟨g,m,h1,h2.ext he (hb.block g h2.lt)⟩
 ·simp only [Mp.new] at hz;split at hz
  ·rename_i hl;rw [hb.block g hl];exact r.fz g o hz
  ·exact hz
 ·have hl:=r.lt hk hm;simp only [Mp.new,hl,if_true] at hz;exact r.sep g o b k m hz hk hm
 ·simp only [Mp.new] at hz;split at hz
  ·exact .inl hz
  ·rename_i hl;exact .inr (.inr (by omega))
/-- The other way: what a contract of abstract values says of worlds. -/
theorem cells_some {w:World}{g o:Nat}{v:Value}(h:w.cell? ⟨g,o,none⟩=some v):∃ arr T fr,w.heap[g]?=some (.cells arr T fr)∧arr[o]?=some v:=by
 simp only [World.cell?] at h;cases hg:w.heap[g]? with
 | none=>rw [hg] at h;cases h
 | some ob =>
   rw [hg] at h;cases ob with
   | cells arr T fr=>exact⟨arr,T,fr,rfl,h⟩
   | _=>cases h
/-- A list that lies in frozen blocks. -/
theorem rv_list {α:Type}{A:Nat→Prop}{M:Mp}{w:World}{k:Nat}{P:α→List Value→Prop}{cv:α→List CV}{l:List α}{v:Value}(hk:0<k)(hM:∀ g o,A g→w.heap[g]?=some o→M.fz g=some o)
  (h:IsList A w k P l v) (hcv:∀ x,(cv x).length=k) (hP:∀ x∈l,∀ cs,P x cs→RVs M (cv x) cs):RV M (.lst (l.map cv)) v:=by
 obtain⟨_,⟨rfl,a,cap,rfl⟩ | ⟨g,off,cap,rfl,⟨hA,hcap⟩,hc⟩⟩:=h
 ·exact .lst0 _ _
 ·cases hl:l with
  | nil=>exact .lst0 _ _
  | cons x0 l0 =>
    rw [← hl];have h0:0<l.length:=by rw [hl];simp
    obtain⟨cs0,e0,e1,_⟩:=hc 0 h0;have z0:∃ v,cs0[0]?=some v:=⟨_,List.getElem?_eq_getElem (by omega)⟩;obtain⟨v0,z0⟩:=z0;obtain⟨arr,T,fr,hg,_⟩:=cells_some ((e1 0 hk).trans z0);have cell:∀ i (hi:i<l.length) j (hj:j<k),∃ cs:List Value,cs.length=k∧P l[i] cs∧arr[off+(i*k+j)]?=cs[j]?:=by
     intro i hi j hj;obtain⟨cs,c1,c2,c3⟩:=hc i hi;refine⟨cs,c1,c3,?_⟩;rw [← c2 j hj];simp [World.cell?,hg]
    have hsz:off+l.length*k≤arr.size:=by
     obtain⟨cs,c1,_,c3⟩:=cell (l.length-1) (by omega) (k-1) (by omega);rw [List.getElem?_eq_getElem (by omega)] at c3;have:=(Array.getElem?_eq_some_iff.mp c3).1;have e:(l.length-1)*k+k=l.length*k:=by
      conv=>rhs;rw [show l.length=(l.length-1)+1 by omega]
      rw [Nat.add_mul,Nat.one_mul]
     omega
    refine .lst (l.map cv) g off l.length k cap arr T fr (hM g _ hA hg) (by simp) hcap (fun r hr=>?_) hsz (fun i a j b d=>?_)
    ·obtain⟨x,_,rfl⟩:=List.mem_map.mp hr;exact hcv x
    ·have hi:i<l.length:=by simpa using a
     have hj:j<k:=by simp only [List.getElem_map] at b;rw [hcv] at b;exact b
     obtain⟨cs,c1,c2,c3⟩:=cell i hi j hj;have hr:=hP _ (List.getElem_mem hi) cs c2;have:=hr.2 j (by rw [hcv];exact hj) (by omega);have e1:arr[off+i*k+j]'d=cs[j]'(by omega):=by
      rw [← Nat.add_assoc,Array.getElem?_eq_getElem d,List.getElem?_eq_getElem (by omega)] at c3;exact Option.some.inj c3
     rw [e1];simpa using this
end Ax
/-! trees as values -/
def cvE:Ex→List CV
 | .mk k n o m ks=>[.int .i64 k,.int .i64 n,.str o,.str m,.lst (ks.attach.map fun x=>cvE x.1)]
decreasing_by
 have:=List.sizeOf_lt_of_mem x.2;simp;omega
theorem cvE_mk (k n:Int)(o m:Bytes)(ks:List Ex):cvE (.mk k n o m ks)=[.int .i64 k,.int .i64 n,.str o,.str m,.lst (ks.map cvE)]:=by
 rw [cvE];simp
def cvS:St→List CV
 | .mk k nm ty es b el=>[.int .i64 k,.str nm,.str ty,.lst (es.map cvE),.lst (b.attach.map fun x=>cvS x.1),.lst (el.attach.map fun x=>cvS x.1)]
decreasing_by
 all_goals
  have:=List.sizeOf_lt_of_mem x.2;simp;omega
theorem Ya (k:Int)(nm ty:Bytes)(es:List Ex)(b el:List St):cvS (.mk k nm ty es b el)=[.int .i64 k,.str nm,.str ty,.lst (es.map cvE),.lst (b.map cvS),.lst (el.map cvS)]:=by
 rw [cvS];simp
def cvF (f:Fld):List CV:=[.str f.name,.str f.typ]
def cvM (m:Me):List CV:=[.str m.name,.bool m.static,.lst (m.params.map cvF),.str m.result,.lst (m.body.map cvS)]
def cvC (c:Cl):List CV:=[.str c.name,.str c.super,.lst (c.fields.map cvF),.lst (c.methods.map cvM)]
theorem cvE_len (e:Ex):(cvE e).length=5:=by cases e;rw [cvE_mk];rfl
theorem cvS_len (s:St):(cvS s).length=6:=by cases s;rw [Ya];rfl
theorem cvF_len (f:Fld):(cvF f).length=2:=rfl
theorem cvM_len (m:Me):(cvM m).length=5:=rfl
theorem cvC_len (c:Cl):(cvC c).length=4:=rfl
theorem cvF_one (f:Fld):(cvF f).all CV.one=true:=rfl
section
variable {A:Nat→Prop} {M:Mp} {w:World} (hM:∀ g o,A g→w.heap[g]?=some o→M.fz g=some o)
theorem rv_strOf (l:Bytes):RV M (.str l) (.string (strOf l)):=.str _ _ (by simp [strOf])
include hM
theorem rv_ex:∀ (d:Nat) (e:Ex) (cs:List Value),IsEx A w d e cs→RVs M (cvE e) cs:=by
 intro d
 induction d with
 | zero=>intro e cs h;exact h.elim
 | succ d ih =>
   intro e cs h;obtain⟨k,n,o,m,ks⟩:=e;obtain⟨v,rfl,hl⟩:=h;rw [cvE_mk];exact .cons (.int _ _) (.cons (.int _ _) (.cons (rv_strOf _) (.cons (rv_strOf _) (.one (rv_list (by decide) hM hl cvE_len fun x _ cs hx=>ih x cs hx)))))
theorem rv_st:∀ (d:Nat) (e:St) (cs:List Value),IsSt A w d e cs→RVs M (cvS e) cs:=by
 intro d
 induction d with
 | zero=>intro e cs h;exact h.elim
 | succ d ih =>
   intro e cs h;obtain⟨k,nm,ty,es,b,el⟩:=e;obtain⟨v1,v2,v3,rfl,h1,h2,h3⟩:=h;rw [Ya];exact .cons (.int _ _) (.cons (rv_strOf _) (.cons (rv_strOf _) (.cons (rv_list (by decide) hM h1 cvE_len fun x _ cs hx=>rv_ex hM d x cs hx) (.cons (rv_list (by decide) hM h2 cvS_len fun x _ cs hx=>ih x cs hx) (.one (rv_list (by decide) hM h3 cvS_len fun x _ cs hx=>ih x cs hx))))))
omit hM in
theorem rv_fld (f:Fld)(cs:List Value)(h:IsFld f cs):RVs M (cvF f) cs:=by
 have h:cs=_:=h;subst h;exact .cons (rv_strOf _) (.one (rv_strOf _))
theorem rv_me {d:Nat}{m:Me}{cs:List Value}(h:IsMe A w d m cs):RVs M (cvM m) cs:=by
 obtain⟨v1,v2,rfl,h1,h2⟩:=h;exact .cons (rv_strOf _) (.cons (.bool _) (.cons (rv_list (by decide) hM h1 cvF_len fun x _ cs hx=>rv_fld x cs hx) (.cons (rv_strOf _) (.one (rv_list (by decide) hM h2 cvS_len fun x _ cs hx=>rv_st hM d x cs hx)))))
theorem rv_cl {d:Nat}{c:Cl}{cs:List Value}(h:IsCl A w d c cs):RVs M (cvC c) cs:=by
 obtain⟨v1,v2,rfl,h1,h2⟩:=h;exact .cons (rv_strOf _) (.cons (rv_strOf _) (.cons (rv_list (by decide) hM h1 cvF_len fun x _ cs hx=>rv_fld x cs hx) (.one (rv_list (by decide) hM h2 cvM_len fun x _ cs hx=>rv_me hM hx))))
end
end Go.Proofs.YtoookjadbhdfhaaGreatDoor
