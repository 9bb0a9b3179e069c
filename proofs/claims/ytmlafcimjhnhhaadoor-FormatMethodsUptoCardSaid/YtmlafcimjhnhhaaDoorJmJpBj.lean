/-
  What format's limits and faults say of trees, as contracts of abstract values.
-/
import Derived.Test.YtmlafcimjhnhhaaDoorJmJpAy
import Derived.Test.YtmlafcimjhnhhaaDoorJmJpBb
import Derived.Test.YtmlafcimjhnhhaaDoorJmJpBi
import Derived.Test.YtmlafcimjhnhhaaDoorJmJpBf
import Derived.Test.YtmlafcimjhnhhaaDoorJmJpAs
import Derived.Test.YtmlafcimjhnhhaaDoorJmLaid
set_option linter.unusedSectionVars false
set_option linter.unusedSimpArgs false
set_option linter.unnecessarySimpa false
set_option linter.unusedVariables false
set_option linter.unusedVariables false
namespace Go.Proofs.YtmlafcimjhnhhaaDoor
section
open Lx Go.RowKit Ax
/-- A frozen list lies in memory as a list. -/
theorem rv_isList {α:Type}{M:Mp}{w:World}{k:Nat}{P:α→List Value→Prop}{cv:α→List CV}{l:List α}{v:Value}(hz:∀ g o,M.fz g=some o→w.heap[g]?=some o)(hk:0<k)(hcv:∀ x,(cv x).length=k)(hm:l.length≤maxLen)
  (h:RV M (.lst (l.map cv)) v) (hP:∀ x∈l,∀ cs,RVs M (cv x) cs→P x cs):IsList Any w k P l v:=by
 refine⟨hm,?_⟩;generalize hr:l.map cv=rows at h;cases h with
 | lst0 a c=>exact .inl ⟨List.map_eq_nil_iff.1 hr,a,c,rfl⟩
 | lst _ g o n k' c arr T fr hg hn hc hk' hl hrv =>
   subst hr;rw [List.length_map] at hn;subst hn
   by_cases h0:l.length=0
   ·exact .inl ⟨List.length_eq_zero_iff.1 h0,_,_,by rw [h0]⟩
   ·have e:k'=k:=by
     have:=hk' (cv (l[0]'(by omega))) (List.mem_map.2 ⟨_,List.getElem_mem _,rfl⟩);rw [← this,hcv]
    subst e;refine .inr ⟨g,o,c,rfl,⟨trivial,hc⟩,fun i hi=>?_⟩;have hs:i*k'+k'≤l.length*k':=mul_step k' hi;have hlen:((arr.toList.drop (o+i*k')).take k').length=k':=by rw [List.length_take,List.length_drop,Array.length_toList];omega
    refine⟨(arr.toList.drop (o+i*k')).take k',hlen,fun j hj=>?_,hP _ (List.getElem_mem hi) _ ⟨by rw [hlen,hcv],fun j a b=>?_⟩⟩
    ·rw [List.getElem?_take_of_lt hj,List.getElem?_drop,Array.getElem?_toList];simp [World.cell?,hz _ _ hg,Nat.add_assoc]
    ·have hj:j<k':=by rw [hcv] at a;exact a
     have hd:o+i*k'+j<arr.size:=by omega
     have:=hrv i (by simpa using hi) j (by simpa using a) hd;simp only [List.getElem_map] at this;rw [List.getElem_take,List.getElem_drop,Array.getElem_toList];exact this
theorem str_strOf {M:Mp}{l:Bytes}{v:Value}(h:RV M (.str l) v):v=.string (strOf l):=by
 cases h with
 | str _ s hs=>rw [show s=strOf l from by apply bytes_ext;rw [hs];simp [strOf]]
theorem int_of {M:Mp}{k:IntKind}{n:Int}{v:Value}(h:RV M (.int k n) v):v=.int k n:=by cases h;rfl
theorem bool_of {M:Mp}{b:Bool}{v:Value}(h:RV M (.bool b) v):v=.bool b:=by cases h;rfl
theorem agg_of {M:Mp}{cs:List CV}{v:Value}(h:RV M (.agg cs) v):∃ vs,v=.agg vs.toArray∧RVs M cs vs:=by
 cases h with
 | agg _ vs hl hr=>exact⟨vs,rfl,hl,hr⟩
theorem IsList.form {α:Type}{A:Nat→Prop}{w:World}{k:Nat}{P:α→List Value→Prop}{l:List α}{v:Value}(h:IsList A w k P l v):∃ a n c,v=.slice a n c:=by
 obtain⟨_,⟨_,a,c,rfl⟩ | ⟨g,off,c,rfl,_⟩⟩:=h
 ·exact⟨_,_,_,rfl⟩
 ·exact⟨_,_,_,rfl⟩
section
variable {M:Mp} {w:World} (hz:∀ g o,M.fz g=some o→w.heap[g]?=some o)
include hz
theorem rv_isEx:∀ (d:Nat) (e:Ex) (cs:List Value),LenE d e→RVs M (cvE e) cs→IsEx Any w d e cs:=by
 intro d
 induction d with
 | zero=>intro e cs h;exact h.elim
 | succ d ih =>
   intro e cs hl h;obtain⟨k,n,o,m,ks⟩:=e;rw [cvE_mk] at h;obtain⟨v0,_,rfl,h0,h⟩:=h.cons_inv;obtain⟨v1,_,rfl,h1,h⟩:=h.cons_inv;obtain⟨v2,_,rfl,h2,h⟩:=h.cons_inv;obtain⟨v3,_,rfl,h3,h⟩:=h.cons_inv;obtain⟨v4,_,rfl,h4,h⟩:=h.cons_inv;cases h.nil_inv;rw [int_of h0,int_of h1,str_strOf h2,str_strOf h3];exact⟨v4,rfl,rv_isList hz (by decide) cvE_len hl.1 h4 fun x hx cs=>ih x cs (hl.2 x hx)⟩
theorem rv_isSt:∀ (d:Nat) (e:St) (cs:List Value),LenS d e→RVs M (cvS e) cs→IsSt Any w d e cs:=by
 intro d
 induction d with
 | zero=>intro e cs h;exact h.elim
 | succ d ih =>
   intro e cs hl h;obtain⟨k,nm,ty,es,b,el⟩:=e;rw [cvS_mk] at h;obtain⟨v0,_,rfl,h0,h⟩:=h.cons_inv;obtain⟨v1,_,rfl,h1,h⟩:=h.cons_inv;obtain⟨v2,_,rfl,h2,h⟩:=h.cons_inv;obtain⟨v3,_,rfl,h3,h⟩:=h.cons_inv;obtain⟨v4,_,rfl,h4,h⟩:=h.cons_inv;obtain⟨v5,_,rfl,h5,h⟩:=h.cons_inv;cases h.nil_inv;rw [int_of h0,str_strOf h1,str_strOf h2];obtain⟨l0,l1,l2,l3,l4,l5⟩:=hl;exact⟨v3,v4,v5,rfl,rv_isList hz (by decide) cvE_len l0 h3 fun x hx cs=>rv_isEx hz d x cs (l3 x hx),rv_isList hz (by decide) cvS_len l1 h4 fun x hx cs=>ih x cs (l4 x hx),rv_isList hz (by decide) cvS_len l2 h5 fun x hx cs=>ih x cs (l5 x hx)⟩
omit hz in
theorem rv_isFld (f:Fld)(cs:List Value)(h:RVs M (cvF f) cs):IsFld f cs:=by
 obtain⟨v0,_,rfl,h0,h⟩:=h.cons_inv;obtain⟨v1,_,rfl,h1,h⟩:=h.cons_inv;cases h.nil_inv;rw [str_strOf h0,str_strOf h1];rfl
theorem rv_isMe (d:Nat)(m:Me)(cs:List Value)(hl:LenM d m)(h:RVs M (cvM m) cs):IsMe Any w d m cs:=by
 obtain⟨v0,_,rfl,h0,h⟩:=h.cons_inv;obtain⟨v1,_,rfl,h1,h⟩:=h.cons_inv;obtain⟨v2,_,rfl,h2,h⟩:=h.cons_inv;obtain⟨v3,_,rfl,h3,h⟩:=h.cons_inv;obtain⟨v4,_,rfl,h4,h⟩:=h.cons_inv;cases h.nil_inv;rw [str_strOf h0,bool_of h1,str_strOf h3];exact⟨v2,v4,rfl,rv_isList hz (by decide) cvF_len hl.1 h2 fun x _ cs=>rv_isFld x cs,rv_isList hz (by decide) cvS_len hl.2.1 h4 fun x hx cs=>rv_isSt hz d x cs (hl.2.2 x hx)⟩
end
theorem fs_meLim (d:Nat)(m:Me)(hl:LenM d m):FCall1 Tryd.prog fmG 25 [.agg (cvM m)] (.int .i64 (meLim m:Int)):=by
 refine FCall.one fmG_pu (by simp [puL,puV,puM]) rfl (FCall.ofOld fun M w vs hg hz hv=>?_);obtain⟨v0,vs,rfl,hv0,hv⟩:=hv.cons_inv;cases hv.nil_inv;obtain⟨us,rfl,hu⟩:=agg_of hv0;have hi:=rv_isMe (w:=w) hz d m us hl hu;obtain⟨v1,v2,rfl,h1,h2⟩:=id hi;obtain⟨a1,n1,c1,rfl⟩:=h1.form;obtain⟨a2,n2,c2,rfl⟩:=h2.form;refine (fmt_methodLimits d m _ _ a1 n1 c1 _ a2 n2 c2 w hi).mono ?_;rintro e w' ⟨rfl,hb⟩;exact⟨hb,_,rfl,.int _ _⟩
theorem fs_method (d:Nat)(m:Me)(hl:LenM d m)(hB:MethB d m):FCall1 Tryd.prog fmG 26 [.agg (cvM m)] (.int .i64 (meFault m:Int)):=by
 refine FCall.one fmG_pu (by simp [puL,puV,puM]) rfl (FCall.ofOld fun M w vs hg hz hv=>?_);obtain⟨v0,vs,rfl,hv0,hv⟩:=hv.cons_inv;cases hv.nil_inv;obtain⟨us,rfl,hu⟩:=agg_of hv0;have hi:=rv_isMe (w:=w) hz d m us hl hu;obtain⟨v1,v2,rfl,h1,h2⟩:=id hi;obtain⟨a1,n1,c1,rfl⟩:=h1.form;obtain⟨a2,n2,c2,rfl⟩:=h2.form;refine (fmt_methodFault d m _ _ a1 n1 c1 _ a2 n2 c2 w hi hB (kw_is hg hz)).mono ?_;rintro e w' ⟨rfl,hb⟩;exact⟨hb,_,rfl,.int _ _⟩
end
set_option linter.unusedSimpArgs false
section
open Lx Ax Go.RowKit
attribute [local simp] stepS Ax.stepT Dl.on qstep astep estep rd putE over argE ofV ofS loadA pickCells isAggD faddA fieldA partA iaddA idxA bnd binA intA strA unA convA lenA mapOf lookA findK keyD scalD storeA mupA srcA srcD upd drp Dl.hp Dl.nx CV.cs CV.one buildA placesA fillA zrep tasA ifaceD eqA eqFs eqIs range2 copyA nbeq nble nblt decEq beqI bneI beqS bneS isED Int.ofNat_inj List.getElem?_map List.getElem?_eq_getElem Option.map_some ti_int ti_i64 ti_str ti_bool ti_u8 ti_Strs ti_Bld ti_Prn ti_Bys gd gdB callA resA op1
attribute [local simp] one1 drR drp nu1 nu2 nu3 nu4 nu5 nu6 nu7 nu8 nu9 nu10 nu11 nu12 nu13 bl_len
theorem bytesOf_Y:∀ T:Bytes,bytesOf (T.flatMap cvY)=some T
 | []=>rfl
 | c::T=>by
   have ih:=bytesOf_Y T;rw [List.flatMap_cons];simp [cvY,bytesOf,ih]
theorem lenY (T:Bytes):(T.flatMap cvY).length=T.length:=by
 induction T with
 | nil=>rfl
 | cons c T ih=>rw [List.flatMap_cons,List.length_append,ih];simp [cvY];omega
theorem takeY (T:Bytes):(T.flatMap cvY).take T.length=T.flatMap cvY:=List.take_of_length_le (by rw [lenY];omega)
set_option maxRecDepth 10000 in
set_option maxHeartbeats 4000000 in
theorem fm_result {b nx:Nat}{c:CV}{H:Heap}{T:Bytes}(hp:PrAt b c H nx T):ACall Tryd.prog fmG 17 [.ptr b 0] H nx fun r H' nx'=>r=(if 65536<T.length then .ret (.tup [.str [],.int .i64 3]) else .ret (.tup [.str T,.int .i64 0]))∧H'=H∧nx'=nx:=by
 refine ACall.of_body Tryd.func17 rfl ?_;have ho:=fm_over hp;have hc:=hp.cell
 by_cases h65:65536<T.length
 ·rw [decide_eq_true h65] at ho;rw [if_pos h65];refine gV ?_;refine AOpl.callG rfl rfl (by simp [*]) (by kernel_rfl) (ho.mono ?_);rintro _ H2 nx2 ⟨rfl,rfl,rfl⟩;dsimp only;refine gV ?_
  (refine⟨_,(by simp [*];rfl),?_⟩;(try simp only [packA]))
  simp
 ·rw [decide_eq_false h65] at ho;rw [if_neg h65];rcases hp.own with⟨rfl,rfl⟩ | ⟨_,x,rfl,hx,_⟩
  ·refine gV ?_;refine AOpl.callG rfl rfl (by simp [*]) (by kernel_rfl) (ho.mono ?_);rintro _ H2 nx2 ⟨rfl,rfl,rfl⟩;dsimp only;refine gV ?_
   (refine⟨_,(by simp [*];rfl),?_⟩;(try simp only [packA]))
   simp
  ·have hl:=lenY T;have ht:=takeY T;have hb:=bytesOf_Y T;generalize T.flatMap cvY=cs at hl ht hb hx;have hle:T.length≤cs.length:=by omega
   refine gV ?_;refine AOpl.callG rfl rfl (by simp [*]) (by kernel_rfl) (ho.mono ?_);rintro _ H2 nx2 ⟨rfl,rfl,rfl⟩;dsimp only;refine gV ?_
   (refine⟨_,(by simp [*];rfl),?_⟩;(try simp only [packA]))
   simp
end
section
open Lx Ax Go.RowKit
attribute [local simp] stepS Ax.stepT Dl.on qstep astep estep rd putE over argE ofV ofS loadA pickCells isAggD faddA fieldA partA iaddA idxA bnd binA intA strA unA convA lenA mapOf lookA findK keyD scalD storeA mupA srcA srcD upd drp Dl.hp Dl.nx CV.cs CV.one buildA placesA fillA zrep tasA ifaceD eqA eqFs eqIs range2 copyA nbeq nble nblt decEq beqI bneI beqS bneS isED Int.ofNat_inj List.getElem?_map List.getElem?_eq_getElem Option.map_some ti_int ti_i64 ti_str ti_bool ti_u8 ti_Strs ti_Bld ti_Prn ti_Bys ti_Cl ti_Cls ti_So gd gdB callA resA op1
attribute [local simp] one1 cvC_eq drR drp nu1 nu2 nu3 nu4 nu5 nu6 nu7 nu8 nu9 nu10 nu11 nu12 nu13 bl_len upd_upd wrp1
namespace Lx
end Lx
end
section
open Lx Ax Go.RowKit
def opCells:Array Value:=#[.string ⟨#[43]⟩,.string ⟨#[45]⟩,.string ⟨#[42]⟩,.string ⟨#[60]⟩,.string ⟨#[61,61]⟩]
def powCells:Array Value:=(Lib.pow10Tab.map (Value.int .u64)).toArray
structure FLaid (w:World):Prop where
 kw:KwIs w
 ops:∃ t fr,w.heap[0]?=some (.cells opCells t fr)
 pow:∃ t fr,w.heap[2]?=some (.cells powCells t fr)
theorem FLaid.below {w w':World}{B:Nat}(h:FLaid w)(hb:Below B w w')(hB:w.heap.size≤B):FLaid w':=by
 obtain⟨h1,⟨t2,f2,h2⟩,⟨t3,f3,h3⟩⟩:=h;exact⟨h1.below hb hB,⟨t2,f2,by rw [hb.block _ (Nat.lt_of_lt_of_le (lt_of_heap h2) hB)];exact h2⟩,⟨t3,f3,by rw [hb.block _ (Nat.lt_of_lt_of_le (lt_of_heap h3) hB)];exact h3⟩⟩
theorem FLaid.alloc {w:World}(h:FLaid w)(o:Obj):FLaid (w.alloc o):=h.below ((Below.refl _ _).alloc (Nat.le_refl _) o) (Nat.le_refl _)
theorem rop_cells {w:World}{g:Nat}{cs:List CV}{arr:Array Value}{t:TypeId}{fr:Nat×Nat}(h:w.heap[g]?=some (.cells arr t fr))(hr:RVs (snap w) cs arr.toList):RV (snap w) (.rop cs) (.pointer (some ⟨g,0,none⟩))∧Szd (snap w) g (.rop cs):=by
 have hl:arr.size=cs.length:=by have:=hr.1;simpa using this
 refine⟨.rop _ _ 0 arr t fr h (by omega) (fun j a b=>?_),_,_,_,h,hl⟩;have:=hr.2 j a (by simpa using (by omega:j<arr.size));simpa using this
theorem rvs_strs (M:Mp):∀ l:List Bytes,RVs M (l.map .str) (l.map fun s=>Value.string ⟨s.toArray⟩)
 | []=>.nil
 | s::l=>.cons (.str _ _ rfl) (rvs_strs M l)
theorem rvs_nums (M:Mp)(k:IntKind):∀ l:List Int,RVs M (l.map (.int k)) (l.map (Value.int k))
 | []=>.nil
 | s::l=>.cons (.int _ _) (rvs_nums M k l)
theorem FLaid.rg {w:World}(h:FLaid w):RG fmG (snap w):=by
 obtain⟨⟨t1,f1,h1⟩,⟨t2,f2,h2⟩,⟨t3,f3,h3⟩⟩:=h;intro g;unfold fmG;split
 ·rename_i hb;have hg:=beq_eq hb;subst hg;exact rop_cells h1 (rvs_strs _ kwList)
 ·split
  ·rename_i hb;have hg:=beq_eq hb;subst hg;exact rop_cells h2 (rvs_strs _ [[43],[45],[42],[60],[61,61]])
  ·split
   ·rename_i hb;have hg:=beq_eq hb;subst hg;exact rop_cells h3 (rvs_nums _ .u64 Lib.pow10Tab)
   ·exact⟨.any _,trivial⟩
theorem law09_awake (w:World)(hL:FLaid w):Calls Tryd.prog 9 #[] w fun e w'=>e=.returned (.bool true)∧Below w.heap.size w w':=by
 refine (fm_awake.f Heap.no 0 (snap w) w [] hL.rg (Rep.snap w) .nil).mono ?_;rintro e w' ⟨M',r,H',nx',h1,h2,h3,_,rfl⟩;refine⟨?_,h3.below⟩;cases e <;> simp only [EndR] at h1;rw [bool_of h1]
/-! bounds of trees that lie in memory -/
theorem lenE_of {A:Nat→Prop}{w:World}:∀ (d:Nat) (e:Ex) (cs:List Value),IsEx A w d e cs→LenE d e:=by
 intro d
 induction d with
 | zero=>intro e cs h;exact h.elim
 | succ d ih =>
   intro e cs h;obtain⟨k,n,o,m,ks⟩:=e;obtain⟨v,rfl,hl⟩:=h;exact⟨hl.1,fun x hx=>by obtain⟨c,hc⟩:=hl.each x hx;exact ih x c hc⟩
theorem lenS_of {A:Nat→Prop}{w:World}:∀ (d:Nat) (s:St) (cs:List Value),IsSt A w d s cs→LenS d s:=by
 intro d
 induction d with
 | zero=>intro e cs h;exact h.elim
 | succ d ih =>
   intro e cs h;obtain⟨k,nm,ty,es,b,el⟩:=e;obtain⟨v1,v2,v3,rfl,h1,h2,h3⟩:=h;exact⟨h1.1,h2.1,h3.1,fun x hx=>by obtain⟨c,hc⟩:=h1.each x hx;exact lenE_of d x c hc,fun x hx=>by obtain⟨c,hc⟩:=h2.each x hx;exact ih x c hc,fun x hx=>by obtain⟨c,hc⟩:=h3.each x hx;exact ih x c hc⟩
theorem lenM_of {A:Nat→Prop}{w:World}{d:Nat}{m:Me}{cs:List Value}(h:IsMe A w d m cs):LenM d m:=by
 obtain⟨v1,v2,rfl,h1,h2⟩:=h;exact⟨h1.1,h2.1,fun x hx=>by obtain⟨c,hc⟩:=h2.each x hx;exact lenS_of d x c hc⟩
theorem tup_of {M:Mp}{cs:List CV}{v:Value}(h:RV M (.tup cs) v):∃ vs,v=.tuple vs.toArray∧RVs M cs vs:=by
 cases h with
 | tup _ vs hl hr=>exact⟨vs,rfl,hl,hr⟩
end
section
open Lx Go.RowKit
open Go.ChangeShapes Go.WideShapes Go.ChangeAt
theorem nums_of_array {P:Program}{W:World}{t e:TypeId}{k:IntKind}{n fuel:Nat}{cs:List Value}{ss:List Int}{p:List MemPlace}(ht:P.underlying t=some (.array n e))(he:P.underlying e=some (.int k))(hce:P.cellsOf e=1)(hct:P.cellsOf t=n)
  (h:DataW.trod (fun _=>()) P W 0 (fun _=>true) false fuel t cs=some (.agg (ss.map fun l=>.lit (.int k l)),p)):cs=ss.map (Value.int k):=by
 obtain⟨xs,m,_,hx,hl,hxl,hf⟩:=DataW.trod_array ht h;simp only [Prod.mk.injEq,DataW.agg.injEq] at hx;have hss:ss.length=n:=by have:=congrArg List.length hx.1;simpa [hxl] using this
 apply List.ext_getElem?;intro i
 by_cases hi:i<n
 ·have h1:=hf i hi;have hxi:xs[i]?=some (xs[i]'(by omega)):=List.getElem?_eq_getElem (by omega);rw [hxi,hce,Nat.mul_one] at h1;obtain⟨s,hs1,hs2,_⟩:=DataW.trod_int he h1;have hc:cs[i]?=some (.int k s):=by
   have:(cs.drop i)[0]?=((cs.drop i).take 1)[0]?:=by simp
   rw [hs1] at this;simpa using this
  have he2:=congrArg (fun l=>l[i]?) hx.1;have hs3:(xs[i]'(by omega)).1=.lit (.int k s):=by rw [hs2]
  simp only [List.getElem?_map,hxi,Option.map_some,hs3] at he2;rw [List.getElem?_eq_getElem (show i<ss.length by omega)] at he2;simp only [Option.map_some,Option.some.injEq,DataW.lit.injEq,Lit.int.injEq] at he2;rw [hc,List.getElem?_map,List.getElem?_eq_getElem (show i<ss.length by omega),Option.map_some,← he2.2]
 ·rw [List.getElem?_eq_none (by omega),List.getElem?_eq_none (by simp;omega)]
theorem gOp:Tryd.prog.globalNamed "dataflow/format.operators"=some 0:=by kernel_rfl
theorem gPw:Tryd.prog.globalNamed "internal/strconv.uint64pow10"=some 2:=by kernel_rfl
theorem tOp:(Tryd.prog.globals[0]?).map (·.type)=some 93:=by kernel_rfl
theorem tPw:(Tryd.prog.globals[2]?).map (·.type)=some 112:=by kernel_rfl
theorem cOp:Tryd.prog.cellsOf 93=5:=by kernel_rfl
theorem cPw:Tryd.prog.cellsOf 112=20:=by kernel_rfl
theorem cU64:Tryd.prog.cellsOf 103=1:=by kernel_rfl
theorem FLaid.of_met {W:World}{l:List (String×DataW Unit)}(h:laidMet Tryd.prog l W)(hk:KwIs W)(h1:("dataflow/format.operators",Rows.laid_dataflow_format_operators)∈l)(h2:("internal/strconv.uint64pow10",Rows.laid_internal_strconv_uint64pow10)∈l):FLaid W:=by
 obtain⟨ps,hv,_,_⟩:=h;refine⟨hk,?_,?_⟩
 ·obtain⟨g0,t0,cs0,f0,p0,hg0,ht0,hv0,hd0⟩:=laid_entry hv h1;obtain rfl:=Option.some.inj (gOp.symm.trans hg0);obtain rfl:=Option.some.inj (tOp.symm.trans ht0);obtain⟨t,fr,hh⟩:=heap_of_var hg0 hv0;have hcs:=strings_of_array (ss:=[[43],[45],[42],[60],[61,61]]) Tryd.underlying93 Tryd.underlying9 cStr cOp hd0;refine⟨t,fr,?_⟩;rw [hh];obtain⟨l0⟩:=cs0;simp only at hcs;rw [hcs];rfl
 ·obtain⟨g0,t0,cs0,f0,p0,hg0,ht0,hv0,hd0⟩:=laid_entry hv h2;obtain rfl:=Option.some.inj (gPw.symm.trans hg0);obtain rfl:=Option.some.inj (tPw.symm.trans ht0);obtain⟨t,fr,hh⟩:=heap_of_var hg0 hv0;have hcs:=nums_of_array (ss:=Lib.pow10Tab) Tryd.underlying112 Tryd.underlying103 cU64 cPw hd0;refine⟨t,fr,?_⟩;rw [hh];obtain⟨l0⟩:=cs0;simp only at hcs;rw [hcs];rfl
end
section
open Lx Ax Go.RowKit
attribute [local simp] stepS Ax.stepT Dl.on qstep astep estep rd putE over argE ofV ofS loadA pickCells isAggD faddA fieldA partA iaddA idxA bnd binA intA strA unA convA lenA mapOf lookA findK keyD scalD storeA mupA srcA srcD upd drp Dl.hp Dl.nx CV.cs CV.one buildA placesA fillA zrep tasA ifaceD eqA eqFs eqIs range2 copyA nbeq nble nblt decEq beqI bneI beqS bneS isED Int.ofNat_inj List.getElem?_map List.getElem?_eq_getElem Option.map_some ti_int ti_i64 ti_str ti_bool ti_u8 ti_Strs ti_Bld ti_Prn ti_Bys ti_Me ti_Flds ti_Sts gd gdB callA resA op1
attribute [local simp] one1 drR drp nu1 nu2 nu3 nu4 nu5 nu6 nu7 nu8 nu9 nu10 nu11 nu12 nu13 bl_len upd_upd wrp1
namespace Lx
/-- What format makes of a method. -/
def methF (m:Me):Bytes×Nat:=if meLim m≠0 then ([],meLim m) else if meFault m≠0 then ([],meFault m) else if 65536<(meP 0 m).flatten.length then ([],3) else ((meP 0 m).flatten,0)
end Lx
set_option maxRecDepth 10000 in
set_option maxHeartbeats 16000000 in
theorem fm_Method0 (ce:List CV)(nm:Bytes)(st:Bool)(ps:List (List CV))(r:Bytes)(b:List (List CV))(hce:ce=[.str nm,.bool st,.lst ps,.str r,.lst b])(hpu:puL ce=true)(lm fl:Nat)(qs:List Bytes)
  (hd:FCall1 Tryd.prog fmG 25 [.agg ce] (.int .i64 (lm:Int))) (hf:FCall1 Tryd.prog fmG 26 [.agg ce] (.int .i64 (fl:Int)))
  (hE:fl=0→PC 27 [.agg ce,.int .i64 0] qs) :
  FCall1 Tryd.prog fmG 12 [.agg ce] (if lm≠0 then .tup [.str [],.int .i64 (lm:Int)] else if fl≠0 then .tup [.str [],.int .i64 (fl:Int)] else if 65536<qs.flatten.length then .tup [.str [],.int .i64 3] else .tup [.str qs.flatten,.int .i64 0]):=by
 refine FCall.one fmG_pu (by simp only [puL,puV,hpu];rfl) (by split;rfl;split;rfl;split <;> rfl) ?_;refine FCall.ofBody Tryd.func12 rfl rfl fun nx=>?_
 subst hce
 by_cases h0:lm=0
 ·subst h0;rw [if_neg (by simp)]
  by_cases h1:fl=0
  ·subst h1;rw [if_neg (by simp)];have hc:=hE rfl;have ha:=put_all qs [];rw [List.nil_append] at ha;clear hE;refine gV ?_
   (first | refine AOpl.call1 rfl (by first | rfl | (simp [*];done)) (by simp [*]) (by kernel_rfl) (hd) ?_ | refine ASl.callg (by first | rfl | (simp [*];done)) (by simp [*]) (by kernel_rfl) (hd) ?_)
   refine gV ?_
   (first | refine AOpl.call1 rfl (by first | rfl | (simp [*];done)) (by simp [*]) (by kernel_rfl) (hf) ?_ | refine ASl.callg (by first | rfl | (simp [*];done)) (by simp [*]) (by kernel_rfl) (hf) ?_)
   refine gV ?_;have p0:PrAt (nx+1) .nils (upd (upd Heap.no nx (.cells [.str nm,.bool st,.lst ps,.str r,.lst b])) (nx+1) (.cells [.nils])) (nx+1+1) []:=⟨upd_hit _ _ _,.inl ⟨rfl,rfl⟩,by omega,(fun _ _ _ e=>by cases e),by simp⟩;refine AOpl.callP (hc (nx+1) .nils _ _ [] (by simp) p0) ?_;intro cX HX nX pX gX;have hr:=fm_result pX;clear gX;refine gV ?_;refine AOpl.callG rfl rfl (by simp [*]) (by kernel_rfl) (hr.mono ?_);rintro _ H2 nx2 ⟨rfl,rfl,rfl⟩;rcases ha with⟨h1,h2⟩ | ⟨h1,h2⟩
   ·simp only [if_pos h1,if_pos h2];refine gV ?_
    (refine⟨_,(by simp [*];rfl),?_⟩;(try simp only [packA]))
   ·rw [h2];simp only [if_neg (show ¬ 65536<qs.flatten.length by omega)];refine gV ?_
    (refine⟨_,(by simp [*];rfl),?_⟩;(try simp only [packA]))
  ·rw [if_pos h1];have h2:¬ (fl:Int)=0:=by omega
   clear hE;refine gV ?_
   (first | refine AOpl.call1 rfl (by first | rfl | (simp [*];done)) (by simp [*]) (by kernel_rfl) (hd) ?_ | refine ASl.callg (by first | rfl | (simp [*];done)) (by simp [*]) (by kernel_rfl) (hd) ?_)
   refine gV ?_
   (first | refine AOpl.call1 rfl (by first | rfl | (simp [*];done)) (by simp [*]) (by kernel_rfl) (hf) ?_ | refine ASl.callg (by first | rfl | (simp [*];done)) (by simp [*]) (by kernel_rfl) (hf) ?_)
   refine gV ?_
   (refine⟨_,(by simp [*];rfl),?_⟩;(try simp only [packA]))
 ·rw [if_pos h0];have h2:¬ (lm:Int)=0:=by omega
  clear hE hf;refine gV ?_
  (first | refine AOpl.call1 rfl (by first | rfl | (simp [*];done)) (by simp [*]) (by kernel_rfl) (hd) ?_ | refine ASl.callg (by first | rfl | (simp [*];done)) (by simp [*]) (by kernel_rfl) (hd) ?_)
  refine gV ?_
  (refine⟨_,(by simp [*];rfl),?_⟩;(try simp only [packA]))
theorem fm_Method (d:Nat)(m:Me)(hl:LenM d m)(hB:MethB d m):FCall1 Tryd.prog fmG 12 [.agg (cvM m)] (.tup [.str (methF m).1,.int .i64 ((methF m).2:Nat)]):=by
 have h:=fm_Method0 (cvM m) _ _ _ _ _ (cvM_eq m) (puM m) _ _ (meP 0 m) (fs_meLim d m hl) (fs_method d m hl hB) fun h0=>by
  have hw:=wfM_of (fun s hs=>numS_of (hB.2.2.2 s hs)) h0;exact fm_method d 0 (by decide) m hw hl.2.1 hl.2.2 hl.1
 unfold methF
 by_cases h1:meLim m≠0
 ·rw [if_pos h1] at h ⊢;exact h
 ·rw [if_neg h1] at h ⊢
  by_cases h2:meFault m≠0
  ·rw [if_pos h2] at h ⊢;exact h
  ·rw [if_neg h2] at h ⊢
   by_cases h3:65536<(meP 0 m).flatten.length
   ·rw [if_pos h3] at h ⊢;exact h
   ·rw [if_neg h3] at h ⊢;exact h
end
end Go.Proofs.YtmlafcimjhnhhaaDoor
