/-
  What is known of types.
-/
import Derived.Test.YtmlafcimjhnhhaaDoorJlJpAt
import Derived.Test.YtmlafcimjhnhhaaDoorJlJpAv
import Derived.Test.YtmlafcimjhnhhaaDoorJlOldAx
import Derived.Lib.ItoaNum
import Derived.Lib.ItoaLen
import Derived.Test.YtmlafcimjhnhhaaDoorJlJpAw
import Derived.Test.YtmlafcimjhnhhaaDoorShelf
set_option linter.unusedSectionVars false
set_option linter.unusedSimpArgs false
set_option linter.unnecessarySimpa false
set_option linter.unusedVariables false
namespace Go.Proofs.YtmlafcimjhnhhaaDoor
section
open Ax
theorem ti_int:ti Tryd.prog 3=some ⟨.int .i64,1,.int .i64 0,8⟩:=by kernel_rfl
theorem ti_i64:ti Tryd.prog 2=some ⟨.int .i64,1,.int .i64 0,8⟩:=by kernel_rfl
theorem ti_str:ti Tryd.prog 9=some ⟨.string,1,.string ⟨#[]⟩,16⟩:=by kernel_rfl
theorem ti_bool:ti Tryd.prog 4=some ⟨.bool,1,.bool false,1⟩:=by kernel_rfl
theorem ti_u8:ti Tryd.prog 5=some ⟨.int .u8,1,.int .u8 0,1⟩:=by kernel_rfl
theorem ti_Bys:ti Tryd.prog 48=some ⟨.slice 5,1,.slice none 0 0,24⟩:=by kernel_rfl
theorem ti_Exs:ti Tryd.prog 58=some ⟨.slice 60,1,.slice none 0 0,24⟩:=by kernel_rfl
theorem ti_Ex:ti Tryd.prog 60=some ⟨.struct #[⟨ "Kind",3,0,false, "", "",0⟩,⟨ "N",2,1,false, "", "",8⟩,⟨ "Of",9,2,false, "", "",16⟩,⟨ "Name",9,3,false, "", "",32⟩,⟨ "Kids",58,4,false, "", "",48⟩],5,.agg #[.int .i64 0,.int .i64 0,.string ⟨#[]⟩,.string ⟨#[]⟩,.slice none 0 0],72⟩:=by kernel_rfl
theorem ti_Sts:ti Tryd.prog 39=some ⟨.slice 81,1,.slice none 0 0,24⟩:=by kernel_rfl
theorem ti_St:ti Tryd.prog 81=some ⟨.struct #[⟨ "Kind",3,0,false, "", "",0⟩,⟨ "Name",9,1,false, "", "",8⟩,⟨ "Type",9,2,false, "", "",24⟩,⟨ "Exprs",58,3,false, "", "",40⟩,⟨ "Body",39,4,false, "", "",64⟩,⟨ "Else",39,5,false, "", "",88⟩],6,.agg #[.int .i64 0,.string ⟨#[]⟩,.string ⟨#[]⟩,.slice none 0 0,.slice none 0 0,.slice none 0 0],112⟩:=by kernel_rfl
theorem ti_Flds:ti Tryd.prog 38=some ⟨.slice 72,1,.slice none 0 0,24⟩:=by kernel_rfl
theorem ti_Fld:ti Tryd.prog 72=some ⟨.struct #[⟨ "Name",9,0,false, "", "",0⟩,⟨ "Type",9,1,false, "", "",16⟩],2,.agg #[.string ⟨#[]⟩,.string ⟨#[]⟩],32⟩:=by kernel_rfl
theorem ti_Mes:ti Tryd.prog 44=some ⟨.slice 41,1,.slice none 0 0,24⟩:=by kernel_rfl
theorem ti_Me:ti Tryd.prog 41=some ⟨.struct #[⟨ "Name",9,0,false, "", "",0⟩,⟨ "Static",4,1,false, "", "",16⟩,⟨ "Params",38,2,false, "", "",24⟩,⟨ "Result",9,3,false, "", "",48⟩,⟨ "Body",39,4,false, "", "",64⟩],5,.agg #[.string ⟨#[]⟩,.bool false,.slice none 0 0,.string ⟨#[]⟩,.slice none 0 0],88⟩:=by kernel_rfl
theorem ti_Cls:ti Tryd.prog 22=some ⟨.slice 46,1,.slice none 0 0,24⟩:=by kernel_rfl
theorem ti_Cl:ti Tryd.prog 46=some ⟨.struct #[⟨ "Name",9,0,false, "", "",0⟩,⟨ "Super",9,1,false, "", "",16⟩,⟨ "Fields",38,2,false, "", "",32⟩,⟨ "Methods",44,3,false, "", "",56⟩],4,.agg #[.string ⟨#[]⟩,.string ⟨#[]⟩,.slice none 0 0,.slice none 0 0],80⟩:=by kernel_rfl
theorem ti_So:ti Tryd.prog 24=some ⟨.struct #[⟨ "Classes",22,0,false, "", "",0⟩],1,.agg #[.slice none 0 0],24⟩:=by kernel_rfl
theorem ti_Strs:ti Tryd.prog 89=some ⟨.slice 9,1,.slice none 0 0,24⟩:=by kernel_rfl
theorem ti_Bld:ti Tryd.prog 50=some ⟨.struct #[⟨ "text",48,0,false, "", "dataflow/format",0⟩],1,.agg #[.slice none 0 0],24⟩:=by kernel_rfl
theorem ti_Prn:ti Tryd.prog 52=some ⟨.struct #[⟨ "builder",50,0,true, "", "dataflow/format",0⟩],1,.agg #[.slice none 0 0],24⟩:=by kernel_rfl
theorem ti_OpA:ti Tryd.prog 93=some ⟨.array 5 9,5,.agg #[.string ⟨#[]⟩,.string ⟨#[]⟩,.string ⟨#[]⟩,.string ⟨#[]⟩,.string ⟨#[]⟩],80⟩:=by kernel_rfl
end
set_option linter.unusedSimpArgs false
set_option linter.unusedVariables false
section
open Lx Ax Go.RowKit
theorem flatY (T:Bytes):T.flatMap cvY=T.map fun y=>.int .u8 y.toNat:=by
 induction T with
 | nil=>rfl
 | cons y T ih=>rw [List.flatMap_cons,ih];rfl
theorem oneY (T:Bytes):(T.map fun y=>CV.int .u8 y.toNat).all CV.one=true:=by
 rw [List.all_eq_true];intro c hc;obtain⟨y,_,rfl⟩:=List.mem_map.1 hc;rfl
/-- A string behind the printer's text. -/
theorem appStr_key {b nx:Nat}{c:CV}{H:Heap}{T s:Bytes}(hp:PrAt b c H nx T)(hl:T.length+s.length≤80000) :
  ∃ c' d',appA Tryd.prog H nx 48 9 c (.str s)=some (c',d')∧((T++s=[]∧c'=.nils)∨(T++s≠[]∧∃ x,c'=.sl x 0 (T++s).length 1∧(d'.hp H nx) x=some (.cells ((T++s).flatMap cvY))∧x<d'.nx nx∧x≠b))∧nx≤d'.nx nx∧(c'=c∨∀ y,y<nx→offB y c')∧∀ y,y<nx→offB y c→(d'.hp H nx) y=H y:=by
 have hb:=hp.lt;have base:∀ c:CV,appA Tryd.prog H nx 48 9 c (.str s)=match c with
   | .nils=>(match Nat.beq s.length 0 with
     | true=>some (.nils,.no)
     | false=>match Nat.ble s.length 9223372036854775807 && Nat.ble (s.length*1) 140737488355328 with
       | true=>some (.sl nx 0 s.length 1,.nw (.cells (s.map fun y=>.int .u8 y.toNat)))
       | false=>none)
   | .sl b o n k=>(match H b with
     | some (.cells cs)=>match Nat.beq o 0 && Nat.beq k 1 && Nat.ble (n*k) cs.length && Nat.ble (n+s.length) 9223372036854775807 && Nat.ble ((n+s.length)*1) 140737488355328 with
       | true=>some (.sl nx 0 (n+s.length) k,.mv b (.cells (cs.take (n*k)++s.map fun y=>.int .u8 y.toNat)))
       | false=>none
     | _=>none)
   | _=>none:=by
  intro c;unfold appA;simp only [ti_Bys,ti_u8,ti_str,srcA,oneY];rfl
 rw [base c];rcases hp.own with⟨rfl,rfl⟩ | ⟨hT,x,rfl,hx,hlt⟩
 ·by_cases h0:s=[]
  ·subst h0;exact⟨.nils,.no,rfl,.inl ⟨rfl,rfl⟩,Nat.le_refl _,.inl rfl,fun _ _ _=>rfl⟩
  ·have h1:Nat.beq s.length 0=false:=by cases s with
    | nil=>exact absurd rfl h0
    | cons a s=>rfl
   have h2:(Nat.ble s.length 9223372036854775807 && Nat.ble (s.length*1) 140737488355328)=true:=by
    simp only [List.length_nil] at hl;rw [Bool.and_eq_true,Nat.ble_eq,Nat.ble_eq];omega
   simp only [h1,h2];refine⟨_,_,rfl,.inr ⟨by simpa using h0,nx,by simp,?_,by simp [Dl.nx],by omega⟩,by simp [Dl.nx],.inr fun y hy o n k e=>?_,fun y hy _=>?_⟩
   ·simp [Dl.hp,Ax.upd,flatY]
   ·cases e;omega
   ·simp only [Dl.hp];exact upd_miss _ _ _ _ (by omega)
 ·have h2:(Nat.beq 0 0 && Nat.beq 1 1 && Nat.ble (T.length*1) (T.flatMap cvY).length && Nat.ble (T.length+s.length) 9223372036854775807 && Nat.ble ((T.length+s.length)*1) 140737488355328)=true:=by
   have e3:(T.flatMap cvY).length=T.length:=by rw [flatY,List.length_map]
   rw [Bool.and_eq_true,Bool.and_eq_true,Bool.and_eq_true,Nat.ble_eq,Nat.ble_eq,Nat.ble_eq,e3];exact⟨⟨⟨rfl,by omega⟩,by omega⟩,by omega⟩
  simp only [hx,h2];refine⟨_,_,rfl,.inr ⟨by simp [hT],nx,by simp,?_,by simp [Dl.nx],by omega⟩,by simp [Dl.nx],.inr fun y hy o n k e=>?_,fun y hy ho=>?_⟩
  ·have e1:(T.flatMap cvY).take T.length=T.flatMap cvY:=by rw [List.take_of_length_le];rw [flatY,List.length_map];omega
   simp [Dl.hp,Ax.upd,e1];rw [flatY s]
  ·cases e;omega
  ·simp only [Dl.hp];rw [upd_miss _ _ _ _ (by omega),drp_miss _ _ _ (fun e=>ho _ _ _ (by rw [e]))]
section
variable {G:Nat→CV} {n:Nat} {e:Env} {H:Heap} {nx:Nat} {Q:AExit→Env→Heap→Nat→Prop} {ops:Array Oper} {os:List Oper} {d:Option Nat} {ty:TypeId} {pos:String} {af:Array Edge}
theorem AOpl.appStr {so xo:Operand}{b:Nat}{c:CV}{T s:Bytes}(hs:rd G e so=c)(hx:rd G e xo=.str s)(hp:PrAt b c H nx T)(hl:T.length+s.length≤80000)
  (h:∀ c' H' nx',((T++s=[]∧c'=.nils)∨(T++s≠[]∧∃ x,c'=.sl x 0 (T++s).length 1∧H' x=some (.cells ((T++s).flatMap cvY))∧x<nx'∧x≠b))→nx≤nx'→(c'=c∨∀ y,y<nx→offB y c')→(∀ y,y<nx→offB y c→H' y=H y)→AOpl Tryd.prog G n ops os (putE e d c') H' nx' Q) (hd:okD n d=true:=by exact rfl) :
  AOpl Tryd.prog G n ops (⟨d,.call ⟨.builtin .append,#[so,xo],#[48,9]⟩,ty,pos,af,none⟩::os) e H nx Q:=by
 obtain⟨c',d',h1,h2,h3,h4,h5⟩:=appStr_key hp hl;refine AOpl.step hd (c:=c') (H':=d'.hp H nx) (nx':=d'.nx nx) ?_ (h c' _ _ h2 h3 h4 h5);simp [stepS,qstep,bltA,astep,estep,hs,hx,h1]
end
end
section
open Lx Ax Go.RowKit
attribute [local simp] stepS Ax.stepT Dl.on qstep astep estep rd putE over argE ofV ofS loadA pickCells isAggD faddA fieldA partA iaddA idxA bnd binA intA strA unA convA lenA mapOf lookA findK keyD scalD storeA mupA srcA srcD upd drp Dl.hp Dl.nx CV.cs CV.one buildA placesA fillA zrep tasA ifaceD eqA eqFs eqIs range2 copyA nbeq nble nblt decEq beqI bneI beqS bneS isED Int.ofNat_inj List.getElem?_map List.getElem?_eq_getElem Option.map_some ti_int ti_i64 ti_str ti_bool ti_u8 ti_Strs ti_Bld ti_Prn ti_Bys gd gdB callA resA op1
attribute [local simp] one1 drR drp nu1 nu2 nu3 nu4 nu5 nu6 nu7 nu8 nu9 nu10 nu11 nu12 nu13 bl_len
set_option maxRecDepth 10000 in
set_option maxHeartbeats 4000000 in
theorem fm_over {b nx:Nat}{c:CV}{H:Heap}{T:Bytes}(hp:PrAt b c H nx T):ACall Tryd.prog fmG 34 [.ptr b 0] H nx fun r H' nx'=>r=.ret (.bool (decide (65536<T.length)))∧H'=H∧nx'=nx:=by
 refine ACall.of_body Tryd.func34 rfl ?_;have hc:=hp.cell;rcases hp.own with⟨rfl,rfl⟩ | ⟨_,x,rfl,hx,_⟩
 ·refine gV ?_
  (refine⟨_,(by simp [*];rfl),?_⟩;(try simp only [packA]))
  simp
 ·refine gV ?_
  (refine⟨_,(by simp [*];rfl),?_⟩;(try simp only [packA]))
  simp;omega
/-- What is stored into the printer's block. -/
theorem PrAt.stored {b nx1 nx2:Nat}{c1 c2:CV}{H1 H2:Heap}{T1 s:Bytes}(p1:PrAt b c1 H1 nx1 T1)(hl:(T1++s).length≤70000)
  (o2:(T1++s=[]∧c2=.nils)∨(T1++s≠[]∧∃ x,c2=.sl x 0 (T1++s).length 1∧H2 x=some (.cells ((T1++s).flatMap cvY))∧x<nx2∧x≠b)) (n2:nx1≤nx2) (w2:c2=c1∨∀ y,y<nx1→offB y c2) (k2:∀ y,y<nx1→offB y c1→H2 y=H1 y) :
  PrAt b c2 (upd H2 b (.cells [c2])) nx2 (T1++s)∧Pf b c1 H1 nx1 c2 (upd H2 b (.cells [c2])) nx2:=by
 have hb:=p1.lt;refine⟨⟨upd_hit _ _ _,?_,by omega,?_,hl⟩,n2,w2,fun y hy hyb ho=>by rw [upd_miss _ _ _ _ hyb];exact k2 y hy ho⟩
 ·rcases o2 with h | ⟨h0,x,h1,h2,h3,h4⟩
  ·exact .inl h
  ·exact .inr ⟨h0,x,h1,by rw [upd_miss _ _ _ _ h4];exact h2,h3⟩
 ·rcases o2 with⟨_,h⟩ | ⟨h0,x,h1,h2,h3,h4⟩
  ·rw [h];intro o n k e;cases e
  ·rw [h1];intro o n k e;cases e;exact h4 rfl
/-- Where the loop of put stands. -/
def PutS (b xs:Nat)(c:CV)(H0:Heap)(nx0:Nat)(T:Bytes)(strs:List Bytes)(i:Nat)(v:Env)(H:Heap)(nx:Nat):Prop:=v 8=.int .i64 i∧∃ c',PrAt b c' H nx (put T (strs.take i))∧Pf b c H0 nx0 c' H nx∧OwnB b xs c' H nx (.cells (strs.map .str))
theorem take_put (T:Bytes)(strs:List Bytes){i:Nat}(h:i<strs.length):put T (strs.take (i+1))=put1 (put T (strs.take i)) strs[i]:=by
 rw [List.take_succ_eq_append_getElem h,put_app];rfl
set_option maxRecDepth 10000 in
set_option maxHeartbeats 8000000 in
theorem fm_put {b nx xs:Nat}{c:CV}{H:Heap}{T:Bytes}{strs:List Bytes}(hp:PrAt b c H nx T)(hx:H xs=some (.cells (strs.map .str)))(hxn:xs<nx)(hxb:xs≠b)(hxo:offB xs c)(hs:∀ s∈strs,s.length≤1000)(hT:T.length≤66536)(hn:strs.length≤1000) :
  ACall Tryd.prog fmG 33 [.ptr b 0,.sl xs 0 strs.length 1] H nx fun r H' nx'=>r=.ret (.tup [])∧(put T strs).length≤66536∧∃ c',PrAt b c' H' nx' (put T strs)∧Pf b c H nx c' H' nx':=by
 refine ACall.of_body Tryd.func33 rfl ?_;have bnd:∀ i,(put T (strs.take i)).length≤66536:=by
  intro i
  induction i with
  | zero=>simpa [put] using hT
  | succ i ih =>
    by_cases h:i<strs.length
    ·rw [take_put T strs h];unfold put1;split
     ·exact ih
     ·have:=hs _ (List.getElem_mem h);simp only [List.length_append];omega
    ·rw [List.take_of_length_le (by omega)] at ih ⊢;exact ih
 refine gV ?_;refine AWp.countO strs.length [5,8] 9 (PutS b xs c H nx T strs) ⟨by simp [putE,over],c,hp,Pf.refl _ _ _ _,⟨hx,hxn,hxb,hxo⟩⟩ ?_;rintro i v H1 nx1 hi hn1 ⟨h8,c1,p1,f1,ox⟩
 by_cases hb:i<strs.length
 ·have hwi:=up1 hb (by omega);have hsi:=hs _ (List.getElem_mem hb);have hbi:=bnd i;have htk:=take_put T strs hb;obtain⟨T1,hT1⟩:∃ T1,T1=put T (strs.take i):=⟨_,rfl⟩;rw [← hT1] at p1 hbi htk;clear bnd hT1;have ho:=fm_over p1;have hc1:=p1.cell;have hx1:=ox.at';clear hn1 hp hx hi
  by_cases h65:65536<T1.length
  ·have e:decide (65536<T1.length)=true:=by simpa using h65
   rw [e] at ho;rw [put1,if_pos h65] at htk;clear e h65;refine gV ?_;refine AOpl.callG rfl rfl (by simp [*]) (by kernel_rfl) (ho.mono ?_);rintro _ H2 nx2 ⟨rfl,rfl,rfl⟩;dsimp only;refine gV ?_;exact⟨by ((repeat (first | exact Keeps.base _ _ _ _ | (with_reducible exact Keeps.refl _ _ _) | (refine Keeps.put rfl ?_) | (refine Keeps.over' rfl rfl ?_)))),hb,by simp [putE,over],c1,by rw [htk];exact p1,f1,ox⟩
  ·have e:decide (65536<T1.length)=false:=by simpa using h65
   rw [e] at ho;rw [put1,if_neg h65] at htk;clear e;refine gV ?_;refine AOpl.callG rfl rfl (by simp [*]) (by kernel_rfl) (ho.mono ?_);rintro _ H2 nx2 ⟨rfl,rfl,rfl⟩;dsimp only;refine gV ?_;refine AOpl.appStr (c:=c1) (s:=strs[i]) (by simp [*]) (by simp [*]) p1 (by omega) ?_;intro c2 H2 nx2 o2 n2 w2 k2;obtain⟨p2,f2⟩:=PrAt.stored p1 (by simp only [List.length_append];omega) o2 n2 w2 k2;have hb2:H2 b=some (.cells [c1]):=(k2 b p1.lt p1.off).trans p1.cell;clear ho w2;have hlt:i<strs.length:=hb;rcases o2 with⟨_,rfl⟩ | ⟨_,x2,rfl,_⟩
   ·refine gV ?_;exact⟨by ((repeat (first | exact Keeps.base _ _ _ _ | (with_reducible exact Keeps.refl _ _ _) | (refine Keeps.put rfl ?_) | (refine Keeps.over' rfl rfl ?_)))),hlt,by simp [putE,over],_,by rw [htk];exact p2,f1.trans f2,ox.call f2⟩
   ·refine gV ?_;simp only [List.length_append] at p2 f2;exact⟨by ((repeat (first | exact Keeps.base _ _ _ _ | (with_reducible exact Keeps.refl _ _ _) | (refine Keeps.put rfl ?_) | (refine Keeps.over' rfl rfl ?_)))),hlt,by simp [putE,over],_,by rw [htk];exact p2,f1.trans f2,ox.call f2⟩
 ·have hall:strs.take i=strs:=List.take_of_length_le (by omega);rw [hall] at p1;have hbi:=bnd strs.length;rw [List.take_length] at hbi;clear bnd;refine gV ?_
  (refine⟨_,(by simp [*];rfl),?_⟩;(try simp only [packA]))
  exact⟨trivial,hbi,c1,p1,f1⟩
/-- A call of put: the strings in a block of the caller's own. -/
theorem fm_putc {b nx xs m:Nat}{c:CV}{H:Heap}{T T':Bytes}{strs:List Bytes}(hT':T'=put T strs)(hp:PrAt b c H nx T)(ho:OwnB b xs c H nx (.cells (strs.map .str)))(hs:∀ s∈strs,s.length≤1000)(hT:T.length≤66536)(hn:strs.length≤1000)(hm:strs.length=m) :
  ACall Tryd.prog fmG 33 [.ptr b 0,.sl xs 0 m 1] H nx (PPost b c H nx T'):=by
 subst hT';subst hm;exact (fm_put hp ho.at' ho.lt ho.ne ho.off hs hT hn).mono fun _ _ _ ⟨h1,_,h3⟩=>⟨h1,h3⟩
theorem put_len {T:Bytes}:∀ {strs:List Bytes},T.length≤66536→(∀ s∈strs,s.length≤1000)→(put T strs).length≤66536
 | [],h,_=>h
 | s::l,h,hs=>by
   rw [put_cons];refine put_len ?_ fun x hx=>hs x (List.mem_cons_of_mem _ hx)
   have:=hs s List.mem_cons_self;unfold put1;split
   ·exact h
   ·simp only [List.length_append];omega
end
section
open Lx Ax Go.RowKit
namespace Ax
section
variable {b x y n n' nx nx':Nat} {c c':CV} {H H':Heap} {T:Bytes} {k k':CB}
theorem PrAt.at (h:PrAt b c H nx T)(k:CB)(hx:nx≤x)(hn:x<n'):PrAt b c (upd H x k) n' T :=
 ⟨by rw [upd_miss _ _ _ _ (by have:=h.lt;omega)];exact h.cell,by
  rcases h.own with h0 | ⟨ht,y,h1,h2,h3⟩
  ·exact .inl h0
  ·exact .inr ⟨ht,y,h1,by rw [upd_miss _ _ _ _ (by omega)];exact h2,by omega⟩,by have:=h.lt;omega,h.off,h.len⟩
theorem PrAt.up (h:PrAt b c H nx T)(hn:nx≤n'):PrAt b c H n' T:=⟨h.cell,by
 rcases h.own with h0 | ⟨ht,y,h1,h2,h3⟩
 ·exact .inl h0
 ·exact .inr ⟨ht,y,h1,h2,by omega⟩,by have:=h.lt;omega,h.off,h.len⟩
theorem OwnB.newAt (h:PrAt b c H nx T)(k:CB)(hx:nx≤x)(hn:x<n'):OwnB b x c (upd H x k) n' k:=⟨upd_hit _ _ _,hn,by have:=h.lt;omega,fun o m j e=>by have:=h.sl_lt e;omega⟩
theorem OwnB.at2 (h:OwnB b y c H nx k)(k':CB)(hx:nx≤x)(hn:x<n'):OwnB b y c (upd H x k') n' k:=⟨by rw [upd_miss _ _ _ _ (by have:=h.lt;omega)];exact h.at',by have:=h.lt;omega,h.ne,h.off⟩
theorem Pf.at (h:Pf b c H nx c' H' nx')(k:CB)(hx:nx'≤x)(hn:x<n'):Pf b c H nx c' (upd H' x k) n' :=
 ⟨by have:=h.le;omega,h.byt,fun y hy hb ho=>by rw [upd_miss _ _ _ _ (by have:=h.le;omega)];exact h.keep y hy hb ho⟩
theorem Pf.up (h:Pf b c H nx c' H' nx')(hn:nx'≤n'):Pf b c H nx c' H' n':=⟨Nat.le_trans h.le hn,h.byt,h.keep⟩
theorem OwnB.lent {cs:List CV}(o:OwnB b x c H nx (.cells cs))(hp:puL cs=true):∀ y,(y == x)=true→y<nx∧y≠b∧offB y c∧∃ cs,H y=some (.cells cs)∧puL cs=true:=fun y hy=>by
 obtain rfl:=eq_of_beq hy;exact⟨o.lt,o.ne,o.off,cs,o.at',hp⟩
theorem puStrs (strs:List Bytes):puL (strs.map .str)=true:=by
 induction strs with
 | nil=>rfl
 | cons s l ih=>simp [puL,puV,ih]
end
section
variable {n:Nat} {e:Env} {H:Heap} {nx nx0 k ne:Nat} {Q:AExit→Env→Heap→Nat→Prop} {ops:Array Oper} {os:List Oper} {d:Option Nat} {op:Op} {ty:TypeId} {pos:String} {af:Array Edge} {g:Option (Nat×Bool)} {K:Env→Heap→Nat→Prop} {b x m n0:Nat} {c:CV} {T:Bytes} {strs:List Bytes}
/-- put, in a region in the text's order. -/
theorem AOpl.put (strs:List Bytes)(p:PrAt b c H nx T)(o:OwnB b x c H nx (.cells (strs.map .str)))(hT:T.length≤66536)(hs:∀ s∈strs,s.length≤1000)(h:∀ c' H' n1,PrAt b c' H' n1 (put T strs)→Pf b c H nx c' H' n1→AOpl Tryd.prog fmG n ops os (putE e d (.tup [])) H' n1 Q)
  (hn:strs.length≤1000:=by decide) (hm:strs.length=m:=by rfl) (hd:okD n d=true:=by exact rfl) (hg:gd ops e ⟨d,op,ty,pos,af,g⟩=some true:=by first | rfl | (simp [*];done)) (hq:callA (rd fmG e) op=some (33,[.ptr b 0,.sl x 0 m 1]):=by simp [*]):AOpl Tryd.prog fmG n ops (⟨d,op,ty,pos,af,g⟩::os) e H nx Q :=
 AOpl.callP (fm_putc rfl p o hs hT hn hm) h hd hg hq (by kernel_rfl)
/-- put, in a drawn region. -/
theorem ASlX.put (strs:List Bytes)(p:PrAt b c H ne T)(o:OwnB b x c H ne (.cells (strs.map .str)))(hT:T.length≤66536)(hs:∀ s∈strs,s.length≤1000)(h0:n0≤ne)(h:∀ c' H' n1,PrAt b c' H' n1 (put T strs)→Pf b c H ne c' H' n1→ASlX Tryd.prog fmG (prC b c n0) nx0 (k+1) ops os (putE e d (.tup [])) H' n1 K)
  (hn:strs.length≤1000:=by decide) (hm:strs.length=m:=by rfl) (hg:gd ops e ⟨d,op,ty,pos,af,g⟩=some true:=by first | rfl | (simp [*];done)) (hq:callA (rd fmG e) op=some (33,[.ptr b 0,.sl x 0 m 1]):=by simp [*]):ASlX Tryd.prog fmG (prC b c n0) nx0 k ops (⟨d,op,ty,pos,af,g⟩::os) e H ne K :=
 ASlX.callP (fun y=>y == x) p (by have:=put_len hT hs;omega) (o.lent (puStrs _)) (fun H1 p1 e1=>fm_putc rfl p1 ⟨(e1 x (beq_self_eq_true x)).trans o.at',o.lt,o.ne,o.off⟩ hs hT hn hm) h0 h hg hq (by kernel_rfl)
end
/-- All steps but drawn regions. -/
theorem gU {X X':Prop}(k:X')(f:Hd X'→X:=by
 intro h
 repeat (first | (first | (apply AOpl.step;rfl) | apply ASl.step);focus simp [*,-Option.some.injEq];rfl | (first | (apply AOpl.stepG;rfl) | apply ASl.stepG);(focus simp [*];done);focus simp [*,-Option.some.injEq];rfl | (first | (apply AOpl.pass;rfl) | apply ASl.pass);(focus simp [*];done) | (first | refine AOpl.nil ?_ | refine AWp.skip ?_ | refine AWp.exit ?_ | refine AWp.ret ?_ | refine ASl.nil ?_);try simp only [Then,InBlock,reduceIte,Nat.reduceEqDiff] | refine AWp.seq ?_ | refine AWp.reg rfl ?_ | refine AWp.block ?_ | apply AWp.condT;focus simp [*];done | apply AWp.condF;focus simp [*];done)
 exact h.out):X:=f ⟨k⟩
/-- A function of the printer that puts these pieces. -/
def PC (f:FuncId)(extra:List CV)(ps:List Bytes):Prop:=∀ b c H nx T,T.length≤66536→PrAt b c H nx T→ACall Tryd.prog fmG f (.ptr b 0::extra) H nx (PPost b c H nx (Lx.put T ps))
/-- Blocks of the caller's own: numbers and cells. -/
def Bxs (b:Nat)(c:CV)(H:Heap)(nx:Nat):List (Nat×CB)→Prop
 | []=>True
 | (x,k)::L=>OwnB b x c H nx k∧Bxs b c H nx L
def Ats (H:Heap):List (Nat×CB)→Prop
 | []=>True
 | (x,k)::L=>H x=some k∧Ats H L
def Bls (b:Nat)(c:CV)(n0:Nat):List (Nat×CB)→Prop
 | []=>True
 | (x,_)::L=>¬ prC b c n0 x∧Bls b c n0 L
section
variable {b x n' nx nx':Nat} {c c':CV} {H H':Heap} {T:Bytes} {k:CB}
theorem Bxs.at2 (hx:nx≤x)(hn:x<n'):∀ {L:List (Nat×CB)},Bxs b c H nx L→Bxs b c (upd H x k) n' L
 | [],_=>trivial
 | (_,_)::_,⟨h,h2⟩=>⟨h.at2 k hx hn,h2.at2 hx hn⟩
theorem Bxs.call (f:Pf b c H nx c' H' nx'):∀ {L:List (Nat×CB)},Bxs b c H nx L→Bxs b c' H' nx' L
 | [],_=>trivial
 | (_,_)::_,⟨h,h2⟩=>⟨h.call f,h2.call f⟩
theorem Bxs.ats:∀ {L:List (Nat×CB)},Bxs b c H nx L→Ats H L
 | [],_=>trivial
 | (_,_)::_,⟨h,h2⟩=>⟨h.at',h2.ats⟩
theorem Bxs.bls (m:Nat):∀ {L:List (Nat×CB)},Bxs b c H nx L→Bls b c (nx+m) L
 | [],_=>trivial
 | (_,_)::_,⟨h,h2⟩=>⟨h.blind m,h2.bls m⟩
end
/-- A printer in the midst of a function: its text, the caller's own blocks, what the function has left alone so far. -/
structure PZ (b:Nat) (c0:CV) (H0:Heap) (m0:Nat) (L:List (Nat×CB)) (c:CV) (H:Heap) (nx:Nat) (T:Bytes):Prop where
 p:PrAt b c H nx T
 o:Bxs b c H nx L
 f:Pf b c0 H0 m0 c H nx
 t:T.length≤66536
section
variable {n:Nat} {e:Env} {H H0:Heap} {nx nx0 kk ne y m0:Nat} {Q:AExit→Env→Heap→Nat→Prop} {ops:Array Oper} {os:List Oper} {d:Option Nat} {op:Op} {ty:TypeId} {pos:String} {af:Array Edge} {g:Option (Nat×Bool)} {K:Env→Heap→Nat→Prop} {b x m N:Nat} {c c0:CV} {T:Bytes} {L:List (Nat×CB)} {k:CB}
theorem PZ.box (s:PZ b c0 H0 m0 L c H nx T)(k:CB):PZ b c0 H0 m0 ((nx,k)::L) c (upd H nx k) (nx+1) T :=
 ⟨s.p.at k (Nat.le_refl _) (Nat.lt_succ_self _),⟨OwnB.newAt s.p k (Nat.le_refl _) (Nat.lt_succ_self _),s.o.at2 (Nat.le_refl _) (Nat.lt_succ_self _)⟩,s.f.at k (Nat.le_refl _) (Nat.lt_succ_self _),s.t⟩
theorem PZ.start (p:PrAt b c H nx T)(t:T.length≤66536)(k:CB):PZ b c H nx [(nx,k)] c (upd H nx k) (nx+1) T:=PZ.box (L:=[]) ⟨p,trivial,Pf.refl _ _ _ _,t⟩ k
theorem PZ.tail (s:PZ b c0 H0 m0 ((x,k)::L) c H nx T):PZ b c0 H0 m0 L c H nx T:=⟨s.p,s.o.2,s.f,s.t⟩
theorem PZ.put (s:PZ b c0 H0 m0 L c H nx T)(strs:List Bytes)(hs:∀ s∈strs,s.length≤1000)(h:∀ c' H' n1,PZ b c0 H0 m0 L c' H' n1 (Lx.put T strs)→Ats H' L→AOpl Tryd.prog fmG n ops os (putE e d (.tup [])) H' n1 Q)
  (hn:strs.length≤1000:=by exact Nat.le_of_ble_eq_true rfl) (hm:strs.length=m:=by rfl) (hd:okD n d=true:=by exact rfl) (hg:gd ops e ⟨d,op,ty,pos,af,g⟩=some true:=by first | rfl | (simp [*];done)) (hq:callA (rd fmG e) op=some (33,[.ptr b 0,.sl nx 0 m 1]):=by simp [*]):AOpl Tryd.prog fmG n ops (⟨d,op,ty,pos,af,g⟩::os) e (upd H nx (.cells (strs.map .str))) (nx+1) Q :=
 AOpl.put strs (s.p.at _ (Nat.le_refl _) (Nat.lt_succ_self _)) (OwnB.newAt s.p _ (Nat.le_refl _) (Nat.lt_succ_self _)) s.t hs (fun c' H' n1 p1 g1=>by
  have o1:=(s.o.at2 (k:=.cells (strs.map .str)) (Nat.le_refl _) (Nat.lt_succ_self _)).call g1;exact h c' H' n1 ⟨p1,o1,(s.f.at _ (Nat.le_refl _) (Nat.lt_succ_self _)).trans g1,put_len s.t hs⟩ o1.ats) hn hm hd hg hq
theorem PZ.putX (s:PZ b c0 H0 m0 L c H nx T)(strs:List Bytes)(hs:∀ s∈strs,s.length≤1000)(h:∀ c' H' n1,PZ b c0 H0 m0 L c' H' n1 (Lx.put T strs)→Ats H' L→ASlX Tryd.prog fmG (prC b c N) nx0 (kk+1) ops os (putE e d (.tup [])) H' n1 K)
  (hy:nx≤y:=by omega) (hy2:y<ne:=by omega) (h0:N≤ne:=by omega) (hn:strs.length≤1000:=by exact Nat.le_of_ble_eq_true rfl) (hm:strs.length=m:=by rfl) (hg:gd ops e ⟨d,op,ty,pos,af,g⟩=some true:=by first | rfl | (simp [*];done)) (hq:callA (rd fmG e) op=some (33,[.ptr b 0,.sl y 0 m 1]):=by simp [*]):ASlX Tryd.prog fmG (prC b c N) nx0 kk ops (⟨d,op,ty,pos,af,g⟩::os) e (upd H y (.cells (strs.map .str))) ne K :=
 ASlX.put strs (s.p.at _ hy hy2) (OwnB.newAt s.p _ hy hy2) s.t hs h0 (fun c' H' n1 p1 g1=>by
  have o1:=(s.o.at2 (k:=.cells (strs.map .str)) hy hy2).call g1;exact h c' H' n1 ⟨p1,o1,(s.f.at _ hy hy2).trans g1,put_len s.t hs⟩ o1.ats) hn hm hg hq
theorem PZ.call {f:FuncId}{ex:List CV}{ps:List Bytes}(s:PZ b c0 H0 m0 L c H nx T)(hc:PC f ex ps)(hs:∀ s∈ps,s.length≤1000)(h:∀ c' H' n1,PZ b c0 H0 m0 L c' H' n1 (Lx.put T ps)→Ats H' L→AOpl Tryd.prog fmG n ops os (putE e d (.tup [])) H' n1 Q)
  (hd:okD n d=true:=by exact rfl) (hg:gd ops e ⟨d,op,ty,pos,af,g⟩=some true:=by first | rfl | (simp [*];done)) (hq:callA (rd fmG e) op=some (f,.ptr b 0::ex):=by simp [*]) (he:enters Tryd.prog f=true:=by kernel_rfl):AOpl Tryd.prog fmG n ops (⟨d,op,ty,pos,af,g⟩::os) e H nx Q :=
 AOpl.callP (hc b c H nx T s.t s.p) (fun c' H' n1 p1 g1=>h c' H' n1 ⟨p1,s.o.call g1,s.f.trans g1,put_len s.t hs⟩ (s.o.call g1).ats) hd hg hq he
theorem PZ.reg {id:Nat}(s:PZ b c0 H0 m0 L c H nx T)(m:Nat)(h:Bls b c (nx+m) L→ASlX Tryd.prog fmG (prC b c (nx+m)) nx 0 ops ops.toList e H (nx+m) fun e' H' ne'=>Q .normal e' H' ne')
  (hst:statS n ops=true:=by kernel_rfl) (hz:ops.size=m:=by rfl):AWp Tryd.prog fmG n (.region id ops true) e H nx Q :=
 AWp.regTX _ (by kernel_rfl) hst rfl hz (h (s.o.bls m))
end
end Ax
end
section
open Lx Ax Go.RowKit
namespace Lx
theorem dec_digits:∀ (f n:Nat),n<10 ^ f→0<f→digitsOf f n=Lib.decDigits n
 | f+1,n,h,_=>by
   rw [digitsOf,Lib.decDigits];split
   ·rfl
   ·rename_i h0;have hf:0<f:=by
     rcases Nat.eq_zero_or_pos f with e | e
     ·subst e;simp at h;omega
     ·exact e
    rw [dec_digits f (n / 10) (by rw [Nat.pow_succ] at h;omega) hf];rfl
theorem itoa_num {n:Int}(h:-9223372036854775808≤n∧n≤9223372036854775807):Lib.itoa n=numText n:=by
 obtain⟨h0,h1⟩:=h;unfold Lib.itoa numText;split
 ·rw [dec_digits 20 _ (by omega) (by omega)]
 ·rw [dec_digits 20 _ (by omega) (by omega)];congr 1;omega
theorem numText_len {n:Int}(h:-9223372036854775808≤n∧n≤9223372036854775807):(numText n).length≤21:=by
 rw [← itoa_num h];exact Lib.itoa_length_le n h.1 h.2
end Lx
theorem below_grow {B:Nat}(w:World)(k:Nat)(os:Array Obj)(hB:B≤w.heap.size):Below B w (Go.Sort.grow (w.drewN k) os) :=
 ⟨rfl,rfl,rfl,by show w.heap.size≤(w.heap++os).size;simp,fun i hi=>by show (w.heap++os)[i]?=w.heap[i]?;rw [Array.getElem?_append_left (by omega)]⟩
theorem tab_of {M:Mp}{w:World}(hg:RG fmG M)(hz:∀ g o,M.fz g=some o→w.heap[g]?=some o):Lib.TabIs Tryd.prog w "internal/strconv.uint64pow10" .u64 Lib.pow10Tab:=by
 obtain⟨h1,arr,T,fr,h2,h3⟩:=hg 2;have hh:=hz _ _ h2;unfold Lib.TabIs World.var?;rw [show Tryd.prog.globalNamed "internal/strconv.uint64pow10"=some 2 by kernel_rfl];simp only [Option.bind_some,hh];refine congrArg some (Array.ext (by simpa using h3) fun i a b=>?_);change RV M (.rop (Lib.pow10Tab.map (.int .u64))) _ at h1;cases h1 with
 | rop cs g o arr' T' fr' h' hl hr =>
   rw [h2] at h';cases h';have:=hr i (by simpa using b) (by simpa using a);simp only [List.getElem_map,Nat.zero_add] at this;generalize hv:arr[i]=v at this;cases this;simp [hv]
theorem fm_num {n:Int}(h:-9223372036854775808≤n∧n≤9223372036854775807):FCall1 Tryd.prog fmG 64 [.int .i64 n,.int .i64 10] (.str (numText n)):=by
 refine FCall.one fmG_pu rfl rfl (FCall.ofOld fun M w vs hg hz hv=>?_);obtain⟨v0,vs,rfl,hv0,hv⟩:=hv.cons_inv;obtain⟨v1,vs,rfl,hv1,hv⟩:=hv.cons_inv;cases hv.nil_inv;cases hv0;cases hv1;refine (Tryd.strconv_FormatInt_10 n h.1 h.2 w (tab_of hg hz)).mono ?_;rintro e w' ⟨rfl,k,os,rfl⟩;exact⟨below_grow _ _ _ (Nat.le_refl _),_,rfl,.str _ _ (by rw [← itoa_num h])⟩
end
section
open Lx Ax Go.RowKit
theorem cells_of {M:Mp}{w:World}{g:Nat}{ss:List Bytes}(hg:RG fmG M)(hz:∀ g o,M.fz g=some o→w.heap[g]?=some o)(h:fmG g=.rop (ss.map .str)):∃ t fr,w.heap[g]?=some (.cells (ss.map fun l=>Value.string ⟨l.toArray⟩).toArray t fr):=by
 obtain⟨h1,h3⟩:=hg g;rw [h] at h1 h3;obtain⟨arr,T,fr,h2,h3⟩:=h3;refine⟨T,fr,?_⟩;rw [hz _ _ h2];refine congrArg (fun a=>some (Obj.cells a T fr)) (Array.ext (by simpa using h3) fun i a b=>?_);cases h1 with
 | rop cs g o arr' T' fr' h' hl hr =>
   rw [h2] at h';cases h';have:=hr i (by simpa using b) (by simpa using a);simp only [List.getElem_map,Nat.zero_add] at this;generalize hv:arr[i]=v at this;cases this with
   | str l s hs =>
     simp [hv,← hs]
theorem kw_is {M:Mp}{w:World}(hg:RG fmG M)(hz:∀ g o,M.fz g=some o→w.heap[g]?=some o):KwIs w:=cells_of (ss:=kwList) hg hz rfl
end
end Go.Proofs.YtmlafcimjhnhhaaDoor
