/-
  ref09's level, within, args and text walked.
-/
import Derived.Test.YtmlafcimjhnhhaaDoorJmJpBl
import Derived.Test.YtmlafcimjhnhhaaDoorJmJpAs
set_option linter.unusedSectionVars false
set_option linter.unusedSimpArgs false
set_option linter.unnecessarySimpa false
set_option linter.unusedVariables false
set_option linter.unusedSimpArgs false
set_option linter.unusedVariables false
namespace Go.Proofs.YtmlafcimjhnhhaaDoor
section
open Lx Ax Go.RowKit
attribute [local simp] stepS Ax.stepT Dl.on qstep astep estep rd putE over argE ofV ofS loadA pickCells isAggD faddA fieldA partA iaddA idxA bnd binA intA strA unA convA lenA mapOf lookA findK keyD scalD storeA mupA srcA srcD upd drp Dl.hp Dl.nx CV.cs CV.one buildA placesA fillA zrep tasA ifaceD eqA eqFs eqIs range2 copyA nbeq nble nblt decEq beqI bneI beqS bneS isED Int.ofNat_inj List.getElem?_map List.getElem?_eq_getElem Option.map_some ti_int ti_i64 ti_str ti_bool ti_u8 ti_Strs ti_Exs ti_Ex gd gdB callA resA op1
attribute [local simp] one1 cvE_eq cvS_eq exk exn exo exm exks drR drp nu1 nu2 nu3 nu4 nu5 nu6 nu7 nu8 nu9 nu10 nu11 nu12 nu13 bl_len bl_max cvM cvC
theorem mx1:maxI 1 2=2:=by decide
theorem mx2:maxI 2 2=2:=by decide
theorem mx3:maxI 3 2=3:=by decide
attribute [local simp] rw1 rw2 rw3 rw4 rw5 rw6 rw7 rw8 rw9 rw10 mx1 mx2 mx3
set_option maxRecDepth 10000 in
set_option maxHeartbeats 4000000 in
theorem rt_level (e:Ex)(hw:WfE e):FCall1 Tryd.prog paG 87 [.agg (cvE e)] (.int .i64 (levelOf e.kind e.n)):=by
 refine FCall.one paG_pu (by simp only [puL,puV,puE];rfl) rfl ?_;refine FCall.ofBody Tryd.func87 rfl rfl fun nx=>?_
 cases hw with
 | @bin op h a b ha hb =>
   have:op=1∨op=2∨op=3∨op=4∨op=5:=by omega
   clear h;rcases this with rfl | rfl | rfl | rfl | rfl
   all_goals
    refine gV ?_
    (refine⟨_,(by simp [*];rfl),?_⟩;(try simp only [packA]))
    rfl
 | int n h1 h2=>refine gV ?_;(refine⟨_,(by simp [*];rfl),?_⟩;(try simp only [packA]));rfl
 | null=>refine gV ?_;(refine⟨_,(by simp [*];rfl),?_⟩;(try simp only [packA]));rfl
 | var x hx=>refine gV ?_;(refine⟨_,(by simp [*];rfl),?_⟩;(try simp only [packA]));rfl
 | this=>refine gV ?_;(refine⟨_,(by simp [*];rfl),?_⟩;(try simp only [packA]));rfl
 | input=>refine gV ?_;(refine⟨_,(by simp [*];rfl),?_⟩;(try simp only [packA]));rfl
 | new x hx=>refine gV ?_;(refine⟨_,(by simp [*];rfl),?_⟩;(try simp only [packA]));rfl
 | field m hm hk=>refine gV ?_;(refine⟨_,(by simp [*];rfl),?_⟩;(try simp only [packA]));rfl
 | call m hm hk he=>refine gV ?_;(refine⟨_,(by simp [*];rfl),?_⟩;(try simp only [packA]));rfl
 | static o m ho hm he=>refine gV ?_;(refine⟨_,(by simp [*];rfl),?_⟩;(try simp only [packA]));rfl
/-- An operand's text. -/
def operT (e:Ex)(r:Int):Bytes:=if levelOf e.kind e.n<r then [40]++exText e++[41] else exText e
theorem operT_len {e:Ex}(h:WfE e)(r:Int):(operT e r).length≤110*exSz e:=by
 have:=exText_len h;have:=oper_len e r;unfold operT;omega
set_option maxRecDepth 10000 in
set_option maxHeartbeats 4000000 in
theorem rt_within (e:Ex)(r:Int)(hw:WfE e)(hs:exSz e≤100000000)(hc:FCall1 Tryd.prog paG 78 [.agg (cvE e)] (.str (exText e))):FCall1 Tryd.prog paG 79 [.agg (cvE e),.int .i64 r] (.str (operT e r)):=by
 refine FCall.one paG_pu (by simp only [puL,puV,puE];rfl) rfl ?_;refine FCall.ofBody Tryd.func79 rfl rfl fun nx=>?_
 have hl:=rt_level e hw;have hx:=exText_len hw;obtain⟨lv,hlv⟩:∃ lv,lv=levelOf e.kind e.n:=⟨_,rfl⟩;unfold operT;rw [← hlv] at hl ⊢;clear hlv hw;obtain⟨T,hT⟩:∃ T,T=exText e:=⟨_,rfl⟩;rw [← hT] at hc hx ⊢;clear hT
 by_cases hb:lv<r
 ·rw [if_pos hb];refine gV ?_
  (first | refine AOpl.call1 rfl (by first | rfl | (simp [*];done)) (by simp [*]) (by kernel_rfl) (hl) ?_ | refine ASl.callg (by first | rfl | (simp [*];done)) (by simp [*]) (by kernel_rfl) (hl) ?_)
  refine gV ?_
  (first | refine AOpl.call1 rfl (by first | rfl | (simp [*];done)) (by simp [*]) (by kernel_rfl) (hc) ?_ | refine ASl.callg (by first | rfl | (simp [*];done)) (by simp [*]) (by kernel_rfl) (hc) ?_)
  refine gV ?_
  (refine⟨_,(by simp [*];rfl),?_⟩;(try simp only [packA]))
  simp
 ·rw [if_neg hb];refine gV ?_
  (first | refine AOpl.call1 rfl (by first | rfl | (simp [*];done)) (by simp [*]) (by kernel_rfl) (hl) ?_ | refine ASl.callg (by first | rfl | (simp [*];done)) (by simp [*]) (by kernel_rfl) (hl) ?_)
  refine gV ?_
  (first | refine AOpl.call1 rfl (by first | rfl | (simp [*];done)) (by simp [*]) (by kernel_rfl) (hc) ?_ | refine ASl.callg (by first | rfl | (simp [*];done)) (by simp [*]) (by kernel_rfl) (hc) ?_)
  refine gV ?_
  (refine⟨_,(by simp [*];rfl),?_⟩;(try simp only [packA]))
theorem sl1F (H:Heap)(a b c d e:CV)(es:List Ex):sliA Tryd.prog H 58 (.lst ([a,b,c,d,e]::es.map cvE)) (some (.int .i64 1)) none=some (.lst (es.map cvE)) :=
 sliA_lo (m:=1) ti_Exs ti_Ex (fun r hr=>by
  rcases List.mem_cons.1 hr with rfl | hr
  ·rfl
  ·obtain⟨x,_,rfl⟩:=List.mem_map.1 hr;exact cvE_len x) (by simp)
attribute [local simp] sl1F
theorem sepText_eq:∀ (e:Ex) (l:List Ex),sepText (e::l)=exText e++l.flatMap fun f=>[44,32]++exText f
 | e,[]=>by simp [sepText]
 | e,f::l=>by rw [sepText,sepText_eq f l];simp;simp
def sepR (es:List Ex)(i:Nat):Bytes:=if i=0 then sepText es else (es.drop i).flatMap fun f=>[44,32]++exText f
theorem sepR_step {es:List Ex}{i:Nat}(h:i<es.length):sepR es i=(if i=0 then [] else [44,32])++exText es[i]++sepR es (i+1):=by
 unfold sepR;rw [if_neg (by omega:¬ i+1=0)];split
 ·rename_i h0;subst h0;cases es with
  | nil=>simp at h
  | cons e l=>rw [sepText_eq];simp
 ·rw [dropAt h,List.flatMap_cons]
  try simp
theorem sepR_end {es:List Ex}{i:Nat}(h:¬ i<es.length):sepR es i=[]:=by
 unfold sepR;split
 ·rename_i h0;subst h0;cases es with
  | nil=>rw [sepText]
  | cons e l=>simp at h
 ·rw [List.drop_eq_nil_of_le (by omega)];rfl
set_option maxRecDepth 10000 in
set_option maxHeartbeats 16000000 in
theorem rt_both:∀ d,d≤100000000→(∀ e,exSz e≤d→WfE e→FCall1 Tryd.prog paG 78 [.agg (cvE e)] (.str (exText e)))∧(∀ es,exsSz es≤d→(∀ e∈es,WfE e)→FCall1 Tryd.prog paG 86 [.lst (es.map cvE)] (.str ([40]++sepText es++[41]))):=by
 intro d
 induction d with
 | zero =>
   intro _;refine⟨fun e h=>by have:=exSz_pos e;omega,fun es h hw=>?_⟩;have:=exsSz_len es;obtain rfl:es=[]:=List.length_eq_zero_iff.mp (by omega);refine FCall.one paG_pu rfl rfl ?_;refine FCall.ofBody Tryd.func86 rfl rfl fun nx=>?_
   refine gV ?_;refine AWp.countO 0 [3,4] 5 (fun i v H nx1=>v 3=.str [40]∧v 4=.int .i64 i) ⟨rfl,rfl⟩ ?_;rintro i v H nx1 hi hn1 ⟨h3,h4⟩;obtain rfl:i=0:=by omega
   refine gV ?_
   (refine⟨_,(by simp [*];rfl),?_⟩;(try simp only [packA]))
   rw [sepText];rfl
 | succ d ih =>
   intro hd1;obtain⟨ih1,ih2⟩:=ih (by omega);have hE:∀ e,exSz e≤d+1→WfE e→FCall1 Tryd.prog paG 78 [.agg (cvE e)] (.str (exText e)):=by
    intro e hd hw;refine FCall.one paG_pu (by simp only [puL,puV,puE];rfl) rfl ?_;refine FCall.ofBody Tryd.func78 rfl rfl fun nx=>?_
    cases hw with
    | int n h1 h2 =>
      have hc:=rt_num n h1 h2;clear ih1 ih2;refine gV ?_
      (first | refine AOpl.call1 rfl (by first | rfl | (simp [*];done)) (by simp [*]) (by kernel_rfl) (hc) ?_ | refine ASl.callg (by first | rfl | (simp [*];done)) (by simp [*]) (by kernel_rfl) (hc) ?_)
      refine gV ?_
      (refine⟨_,(by simp [*];rfl),?_⟩;(try simp only [packA]))
      rw [exText];rfl
    | null =>
      clear ih1 ih2;refine gV ?_
      (refine⟨_,(by simp [*];rfl),?_⟩;(try simp only [packA]))
      rw [exText];rfl
    | var x hx =>
      clear ih1 ih2;refine gV ?_
      (refine⟨_,(by simp [*];rfl),?_⟩;(try simp only [packA]))
      rw [exText];rfl
    | this =>
      clear ih1 ih2;refine gV ?_
      (refine⟨_,(by simp [*];rfl),?_⟩;(try simp only [packA]))
      rw [exText];rfl
    | input =>
      clear ih1 ih2;refine gV ?_
      (refine⟨_,(by simp [*];rfl),?_⟩;(try simp only [packA]))
      rw [exText];rfl
    | @bin op h a b ha hb =>
      simp only [exSz,exsSz] at hd;have c0:=rt_level (.mk 6 op [] [] [a,b]) (.bin op h ha hb);have c1:=rt_within a (max (levelOf 6 op) 2) ha (by omega) (ih1 a (by omega) ha);have c2:=rt_within b (levelOf 6 op+1) hb (by omega) (ih1 b (by omega) hb);have l1:=operT_len ha (max (levelOf 6 op) 2);have l2:=operT_len hb (levelOf 6 op+1);have hp:exText (.mk 6 op [] [] [a,b])=operT a (max (levelOf 6 op) 2)++[32]++opText op++[32]++operT b (levelOf 6 op+1):=by rw [exText];simp [within0,within1,operT]
      rw [hp];have hop:op=1∨op=2∨op=3∨op=4∨op=5:=by omega
      obtain⟨A,hA⟩:∃ A,A=operT a (max (levelOf 6 op) 2):=⟨_,rfl⟩;obtain⟨B,hB⟩:∃ B,B=operT b (levelOf 6 op+1):=⟨_,rfl⟩;obtain⟨r1,hr1⟩:∃ r1,r1=max (levelOf 6 op) 2:=⟨_,rfl⟩;obtain⟨r2,hr2⟩:∃ r2,r2=levelOf 6 op+1:=⟨_,rfl⟩;rw [← hA] at c1 l1 ⊢;rw [← hB] at c2 l2 ⊢;rw [← hr1] at c1;rw [← hr2] at c2;clear ih1 ih2 hp h ha hb hA hB;rcases hop with rfl | rfl | rfl | rfl | rfl
      ·obtain rfl:r1=2:=by rw [hr1];rfl
       obtain rfl:r2=3:=by rw [hr2];rfl
       replace c0:FCall1 Tryd.prog paG 87 [.agg (cvE (.mk 6 1 [] [] [a,b]))] (.int .i64 2):=c0;clear hr1 hr2;refine gV ?_
       (first | refine AOpl.call1 rfl (by first | rfl | (simp [*];done)) (by simp [*]) (by kernel_rfl) (c0) ?_ | refine ASl.callg (by first | rfl | (simp [*];done)) (by simp [*]) (by kernel_rfl) (c0) ?_)
       refine gV ?_
       (first | refine AOpl.call1 rfl (by first | rfl | (simp [*];done)) (by simp [*]) (by kernel_rfl) (c1) ?_ | refine ASl.callg (by first | rfl | (simp [*];done)) (by simp [*]) (by kernel_rfl) (c1) ?_)
       refine gV ?_
       (first | refine AOpl.call1 rfl (by first | rfl | (simp [*];done)) (by simp [*]) (by kernel_rfl) (c2) ?_ | refine ASl.callg (by first | rfl | (simp [*];done)) (by simp [*]) (by kernel_rfl) (c2) ?_)
       refine gV ?_
       (refine⟨_,(by simp [*];rfl),?_⟩;(try simp only [packA]))
       try simp [opText]
      ·obtain rfl:r1=2:=by rw [hr1];rfl
       obtain rfl:r2=3:=by rw [hr2];rfl
       replace c0:FCall1 Tryd.prog paG 87 [.agg (cvE (.mk 6 2 [] [] [a,b]))] (.int .i64 2):=c0;clear hr1 hr2;refine gV ?_
       (first | refine AOpl.call1 rfl (by first | rfl | (simp [*];done)) (by simp [*]) (by kernel_rfl) (c0) ?_ | refine ASl.callg (by first | rfl | (simp [*];done)) (by simp [*]) (by kernel_rfl) (c0) ?_)
       refine gV ?_
       (first | refine AOpl.call1 rfl (by first | rfl | (simp [*];done)) (by simp [*]) (by kernel_rfl) (c1) ?_ | refine ASl.callg (by first | rfl | (simp [*];done)) (by simp [*]) (by kernel_rfl) (c1) ?_)
       refine gV ?_
       (first | refine AOpl.call1 rfl (by first | rfl | (simp [*];done)) (by simp [*]) (by kernel_rfl) (c2) ?_ | refine ASl.callg (by first | rfl | (simp [*];done)) (by simp [*]) (by kernel_rfl) (c2) ?_)
       refine gV ?_
       (refine⟨_,(by simp [*];rfl),?_⟩;(try simp only [packA]))
       try simp [opText]
      ·obtain rfl:r1=3:=by rw [hr1];rfl
       obtain rfl:r2=4:=by rw [hr2];rfl
       replace c0:FCall1 Tryd.prog paG 87 [.agg (cvE (.mk 6 3 [] [] [a,b]))] (.int .i64 3):=c0;clear hr1 hr2;refine gV ?_
       (first | refine AOpl.call1 rfl (by first | rfl | (simp [*];done)) (by simp [*]) (by kernel_rfl) (c0) ?_ | refine ASl.callg (by first | rfl | (simp [*];done)) (by simp [*]) (by kernel_rfl) (c0) ?_)
       refine gV ?_
       (first | refine AOpl.call1 rfl (by first | rfl | (simp [*];done)) (by simp [*]) (by kernel_rfl) (c1) ?_ | refine ASl.callg (by first | rfl | (simp [*];done)) (by simp [*]) (by kernel_rfl) (c1) ?_)
       refine gV ?_
       (first | refine AOpl.call1 rfl (by first | rfl | (simp [*];done)) (by simp [*]) (by kernel_rfl) (c2) ?_ | refine ASl.callg (by first | rfl | (simp [*];done)) (by simp [*]) (by kernel_rfl) (c2) ?_)
       refine gV ?_
       (refine⟨_,(by simp [*];rfl),?_⟩;(try simp only [packA]))
       try simp [opText]
      ·obtain rfl:r1=2:=by rw [hr1];rfl
       obtain rfl:r2=2:=by rw [hr2];rfl
       replace c0:FCall1 Tryd.prog paG 87 [.agg (cvE (.mk 6 4 [] [] [a,b]))] (.int .i64 1):=c0;clear hr1 hr2;refine gV ?_
       (first | refine AOpl.call1 rfl (by first | rfl | (simp [*];done)) (by simp [*]) (by kernel_rfl) (c0) ?_ | refine ASl.callg (by first | rfl | (simp [*];done)) (by simp [*]) (by kernel_rfl) (c0) ?_)
       refine gV ?_
       (first | refine AOpl.call1 rfl (by first | rfl | (simp [*];done)) (by simp [*]) (by kernel_rfl) (c1) ?_ | refine ASl.callg (by first | rfl | (simp [*];done)) (by simp [*]) (by kernel_rfl) (c1) ?_)
       refine gV ?_
       (first | refine AOpl.call1 rfl (by first | rfl | (simp [*];done)) (by simp [*]) (by kernel_rfl) (c2) ?_ | refine ASl.callg (by first | rfl | (simp [*];done)) (by simp [*]) (by kernel_rfl) (c2) ?_)
       refine gV ?_
       (refine⟨_,(by simp [*];rfl),?_⟩;(try simp only [packA]))
       try simp [opText]
      ·obtain rfl:r1=2:=by rw [hr1];rfl
       obtain rfl:r2=2:=by rw [hr2];rfl
       replace c0:FCall1 Tryd.prog paG 87 [.agg (cvE (.mk 6 5 [] [] [a,b]))] (.int .i64 1):=c0;clear hr1 hr2;refine gV ?_
       (first | refine AOpl.call1 rfl (by first | rfl | (simp [*];done)) (by simp [*]) (by kernel_rfl) (c0) ?_ | refine ASl.callg (by first | rfl | (simp [*];done)) (by simp [*]) (by kernel_rfl) (c0) ?_)
       refine gV ?_
       (first | refine AOpl.call1 rfl (by first | rfl | (simp [*];done)) (by simp [*]) (by kernel_rfl) (c1) ?_ | refine ASl.callg (by first | rfl | (simp [*];done)) (by simp [*]) (by kernel_rfl) (c1) ?_)
       refine gV ?_
       (first | refine AOpl.call1 rfl (by first | rfl | (simp [*];done)) (by simp [*]) (by kernel_rfl) (c2) ?_ | refine ASl.callg (by first | rfl | (simp [*];done)) (by simp [*]) (by kernel_rfl) (c2) ?_)
       refine gV ?_
       (refine⟨_,(by simp [*];rfl),?_⟩;(try simp only [packA]))
       try simp [opText]
    | new x hx =>
      have:=ident_len hx;clear ih1 ih2;refine gV ?_
      (refine⟨_,(by simp [*];rfl),?_⟩;(try simp only [packA]))
      rw [exText];simp
    | @field m hm k hk =>
      simp only [exSz,exsSz] at hd;have c1:=rt_within k 4 hk (by omega) (ih1 k (by omega) hk);have l1:=operT_len hk 4;have l2:=ident_len hm;have hp:exText (.mk 8 0 [] m [k])=operT k 4++[46]++m:=by rw [exText];simp [within0,operT]
      rw [hp];clear ih1 ih2 hp;refine gV ?_
      (first | refine AOpl.call1 rfl (by first | rfl | (simp [*];done)) (by simp [*]) (by kernel_rfl) (c1) ?_ | refine ASl.callg (by first | rfl | (simp [*];done)) (by simp [*]) (by kernel_rfl) (c1) ?_)
      refine gV ?_
      (refine⟨_,(by simp [*];rfl),?_⟩;(try simp only [packA]))
      simp
    | @call m hm k es hk he =>
      simp only [exSz,exsSz] at hd;have c1:=rt_within k 4 hk (by omega) (ih1 k (by omega) hk);have c2:=ih2 es (by omega) he;have l1:=operT_len hk 4;have l2:=ident_len hm;have l3:=sepText_len fun x hx=>exText_len (he x hx)
      have hp:exText (.mk 9 0 [] m (k::es))=operT k 4++[46]++m++([40]++sepText es++[41]):=by rw [exText];simp [within0,operT,argsFrom1,argsFrom]
      rw [hp];have l4:([40]++sepText es++[41]).length≤110*exsSz es+2:=by simp;omega
      obtain⟨A,hA⟩:∃ A,A=[40]++sepText es++[41]:=⟨_,rfl⟩;rw [← hA] at c2 l4 ⊢;clear ih1 ih2 hp l3 hA;refine gV ?_
      (first | refine AOpl.call1 rfl (by first | rfl | (simp [*];done)) (by simp [*]) (by kernel_rfl) (c1) ?_ | refine ASl.callg (by first | rfl | (simp [*];done)) (by simp [*]) (by kernel_rfl) (c1) ?_)
      refine gV ?_
      (first | refine AOpl.call1 rfl (by first | rfl | (simp [*];done)) (by simp [*]) (by kernel_rfl) (c2) ?_ | refine ASl.callg (by first | rfl | (simp [*];done)) (by simp [*]) (by kernel_rfl) (c2) ?_)
      refine gV ?_
      (refine⟨_,(by simp [*];rfl),?_⟩;(try simp only [packA]))
      simp
    | @static o m ho hm es he =>
      simp only [exSz] at hd;have c2:=ih2 es (by omega) he;have l1:=ident_len ho;have l2:=ident_len hm;have l3:=sepText_len fun x hx=>exText_len (he x hx)
      have hp:exText (.mk 10 0 o m es)=o++[58,58]++m++([40]++sepText es++[41]):=by rw [exText];simp [argsFrom]
      rw [hp];have l4:([40]++sepText es++[41]).length≤110*exsSz es+2:=by simp;omega
      obtain⟨A,hA⟩:∃ A,A=[40]++sepText es++[41]:=⟨_,rfl⟩;rw [← hA] at c2 l4 ⊢;clear ih1 ih2 hp l3 hA;refine gV ?_
      (first | refine AOpl.call1 rfl (by first | rfl | (simp [*];done)) (by simp [*]) (by kernel_rfl) (c2) ?_ | refine ASl.callg (by first | rfl | (simp [*];done)) (by simp [*]) (by kernel_rfl) (c2) ?_)
      refine gV ?_
      (refine⟨_,(by simp [*];rfl),?_⟩;(try simp only [packA]))
      simp
   refine⟨hE,fun es hd hw=>?_⟩;refine FCall.one paG_pu (by simp only [puL,puV,puEs];rfl) rfl ?_;refine FCall.ofBody Tryd.func86 rfl rfl fun nx=>?_
   have hln:=exsSz_len es;have hlen:=sepText_len fun x hx=>exText_len (hw x hx)
   obtain⟨R,hR⟩:∃ R,R=[40]++sepText es:=⟨_,rfl⟩;have hRl:R.length≤110*exsSz es+1:=by rw [hR];simp;omega
   rw [← hR];clear hlen;refine gV ?_;refine AWp.countO es.length [3,4] 5 (fun i v H nx1=>∃ out:Bytes,v 3=.str out∧v 4=.int .i64 i∧R=out++sepR es i) ⟨[40],rfl,rfl,by rw [hR];simp [sepR]⟩ ?_;clear hR;rintro i v H nx1 hi hn1 ⟨out,h3,h4,hR⟩;have hol:out.length≤R.length:=by rw [hR];simp
   by_cases hb2:i<es.length
   ·have hwi:=up1 hb2 (by omega);rw [sepR_step hb2] at hR;have hm:=exsSz_mem (List.getElem_mem hb2);have hwe:=hw _ (List.getElem_mem hb2);have hc:=hE es[i] (by omega) hwe;have hle:=exText_len hwe;clear hn1 ih1 ih2 hE
    by_cases h0:i=0
    ·subst h0;rw [if_pos rfl] at hR;refine gV ?_
     (first | refine AOpl.call1 rfl (by first | rfl | (simp [*];done)) (by simp [*]) (by kernel_rfl) (hc) ?_ | refine ASl.callg (by first | rfl | (simp [*];done)) (by simp [*]) (by kernel_rfl) (hc) ?_)
     refine gV ?_;exact⟨by ((repeat (first | exact Keeps.base _ _ _ _ | (with_reducible exact Keeps.refl _ _ _) | (refine Keeps.put rfl ?_) | (refine Keeps.over' rfl rfl ?_)))),hb2,out++exText es[0],by simp [putE,over],by simp [putE,over],by rw [hR];simp⟩
    ·rw [if_neg h0] at hR;have h0':(0:Int)<(i:Int):=by omega
     have h0'':0<i:=by omega
     refine gV ?_
     (first | refine AOpl.call1 rfl (by first | rfl | (simp [*];done)) (by simp [*]) (by kernel_rfl) (hc) ?_ | refine ASl.callg (by first | rfl | (simp [*];done)) (by simp [*]) (by kernel_rfl) (hc) ?_)
     refine gV ?_;exact⟨by ((repeat (first | exact Keeps.base _ _ _ _ | (with_reducible exact Keeps.refl _ _ _) | (refine Keeps.put rfl ?_) | (refine Keeps.over' rfl rfl ?_)))),hb2,out++[44,32]++exText es[i],by simp [putE,over],by simp [putE,over],by rw [hR];simp⟩
   ·rw [sepR_end hb2,List.append_nil] at hR;clear hn1 ih1 ih2 hE;obtain rfl:R=out:=hR;refine gV ?_
    (refine⟨_,(by simp [*];rfl),?_⟩;(try simp only [packA]))
theorem rt_E' {e:Ex}(h:WfE e)(hs:exSz e≤100000000):FCall1 Tryd.prog paG 78 [.agg (cvE e)] (.str (exText e)):=(rt_both (exSz e) hs).1 e (Nat.le_refl _) h
end
section
open Lx Ax Go.RowKit
attribute [local simp] stepS Ax.stepT Dl.on qstep astep estep rd putE over argE ofV ofS loadA pickCells isAggD faddA fieldA partA iaddA idxA bnd binA intA strA unA convA lenA mapOf lookA findK keyD scalD storeA mupA srcA srcD upd drp Dl.hp Dl.nx CV.cs CV.one buildA placesA fillA zrep tasA ifaceD eqA eqFs eqIs range2 copyA nbeq nble nblt decEq beqI bneI beqS bneS isED Int.ofNat_inj List.getElem?_map List.getElem?_eq_getElem Option.map_some ti_int ti_i64 ti_str ti_bool ti_Exs ti_Ex gd gdB callA resA op1
attribute [local simp] one1 drR drp nu1 nu2 nu3 nu4 nu5 nu6 nu7 nu8 nu9 nu10 nu11 nu12 nu13 bl_len
namespace Lx
/-- A text that fits, or none and the error. -/
def fitT (t:Bytes):Bytes×Nat:=if 65536<t.length then ([],3) else (t,0)
end Lx
set_option maxRecDepth 10000 in
set_option maxHeartbeats 4000000 in
theorem rt_fit (t:Bytes):FCall1 Tryd.prog paG 21 [.str t,.int .i64 0] (.tup [.str (fitT t).1,.int .i64 ((fitT t).2:Nat)]):=by
 refine FCall.one paG_pu rfl rfl ?_;refine FCall.ofBody Tryd.func21 rfl rfl fun nx=>?_
 unfold fitT
 by_cases h:65536<t.length
 ·rw [if_pos h];have h2:(65536:Int)<(t.length:Int):=by omega
  refine gV ?_
  (refine⟨_,(by simp [*];rfl),?_⟩;(try simp only [packA]))
  rfl
 ·rw [if_neg h];have h2:¬ (65536:Int)<(t.length:Int):=by omega
  refine gV ?_
  (refine⟨_,(by simp [*];rfl),?_⟩;(try simp only [packA]))
  rfl
end
section
open Lx Ax Go.RowKit
attribute [local simp] stepS Ax.stepT Dl.on qstep astep estep rd putE over argE ofV ofS loadA pickCells isAggD faddA fieldA partA iaddA idxA bnd binA intA strA unA convA lenA mapOf lookA findK keyD scalD storeA mupA srcA srcD upd drp Dl.hp Dl.nx CV.cs CV.one buildA placesA fillA zrep tasA ifaceD eqA eqFs eqIs range2 copyA nbeq nble nblt decEq beqI bneI beqS bneS isED Int.ofNat_inj List.getElem?_map List.getElem?_eq_getElem Option.map_some ti_int ti_i64 ti_str ti_bool ti_Exs ti_Ex ti_St ti_Sts ti_Fld ti_Flds ti_Me ti_Mes ti_Cl ti_Cls ti_So gd gdB callA resA op1
attribute [local simp] one1 cvE_eq cvS_eq exk exn exo exm exks drR drp nu1 nu2 nu3 nu4 nu5 nu6 nu7 nu8 nu9 nu10 nu11 nu12 nu13 bl_len cvC
attribute [local simp] sl1F rw1 Lx.St.p0 Lx.St.p1 Lx.St.p2 Lx.St.p3 Lx.St.p4 Lx.St.p5
theorem tabs_succ (n:Nat):tabsOf (n+1)=tabsOf n++[9]:=by unfold tabsOf;rw [List.replicate_succ']
set_option maxRecDepth 10000 in
set_option maxHeartbeats 4000000 in
theorem rt_tabs (n:Nat)(hn:n≤3000000):FCall1 Tryd.prog paG 56 [.int .i64 n] (.str (tabsOf n)):=by
 refine FCall.one paG_pu rfl rfl ?_;refine FCall.ofBody Tryd.func56 rfl rfl fun nx=>?_
 refine gV ?_;refine AWp.countO n [3,4] 5 (fun i v H nx1=>v 3=.str (tabsOf i)∧v 4=.int .i64 i) ⟨by simp [putE,over,tabsOf],by simp [putE,over]⟩ ?_;rintro i v H nx1 hi hn1 ⟨h3,h4⟩;have hl:=tabs_len i
 by_cases hb2:i<n
 ·have hwi:=up1 hb2 (by omega);have hs:=tabs_succ i;obtain⟨T,hT⟩:∃ T,T=tabsOf i:=⟨_,rfl⟩;rw [← hT] at h3 hl hs;have hb3:(i:Int)<(n:Int):=by omega
  clear hn1 hT;refine gV ?_;exact⟨by ((repeat (first | exact Keeps.base _ _ _ _ | (with_reducible exact Keeps.refl _ _ _) | (refine Keeps.put rfl ?_) | (refine Keeps.over' rfl rfl ?_)))),hb2,by rw [hs];simp [putE,over],by simp [putE,over]⟩
 ·obtain rfl:i=n:=by omega
  obtain⟨T,hT⟩:∃ T,T=tabsOf i:=⟨_,rfl⟩;rw [← hT] at h3 ⊢;clear hn1 hT hl;refine gV ?_
  (refine⟨_,(by simp [*];rfl),?_⟩;(try simp only [packA]))
theorem rt_E {e:Ex}(h:WfE e)(hs:exSz e≤100000000):FCall1 Tryd.prog paG 78 [.agg (cvE e)] (.str (exText e)):=rt_E' h hs
theorem rt_W {e:Ex}(r:Int)(h:WfE e)(hs:exSz e≤100000000):FCall1 Tryd.prog paG 79 [.agg (cvE e),.int .i64 r] (.str (operT e r)):=rt_within e r h hs (rt_E h hs)
set_option maxRecDepth 10000 in
set_option maxHeartbeats 32000000 in
theorem rt_line:∀ d,d≤2000000→(∀ s n,stSz s≤d→n+stSz s≤2097152→WfS s→FCall1 Tryd.prog paG 72 [.agg (cvS s),.int .i64 (n:Nat)] (.str (stText n s)))∧(∀ l n,stsSz l≤d→n+stsSz l≤2097152→(∀ s∈l,WfS s)→FCall1 Tryd.prog paG 57 [.lst (l.map cvS),.int .i64 (n:Nat)] (.str (stsText n l))):=by
 intro d
 induction d with
 | zero =>
   intro _;refine⟨fun s n h=>by have:=stSz_pos s;omega,fun l n h hb _=>?_⟩;have:=stsSz_len l;obtain rfl:l=[]:=List.length_eq_zero_iff.mp (by omega);refine FCall.one paG_pu rfl rfl ?_;refine FCall.ofBody Tryd.func57 rfl rfl fun nx=>?_
   refine gV ?_;refine AWp.countO 0 [5,6] 7 (fun i v H nx1=>v 5=.str []∧v 6=.int .i64 i) ⟨rfl,rfl⟩ ?_;rintro i v H nx1 hi hn1 ⟨h3,h4⟩;obtain rfl:i=0:=by omega
   refine gV ?_
   (refine⟨_,(by simp [*];rfl),?_⟩;(try simp only [packA]))
   rfl
 | succ d ih =>
   intro hd1;obtain⟨ih1,ih2⟩:=ih (by omega);have hS:∀ s n,stSz s≤d+1→n+stSz s≤2097152→WfS s→FCall1 Tryd.prog paG 72 [.agg (cvS s),.int .i64 (n:Nat)] (.str (stText n s)):=by
    intro s n hsz hn hws;refine FCall.one paG_pu (by simp only [puL,puV,puS];rfl) rfl ?_;refine FCall.ofBody Tryd.func72 rfl rfl fun nx=>?_
    have ht:=rt_tabs n (by omega);have lt0:=tabs_len n;have hw1:IntKind.i64.wrap ((n:Int)+1)=(n:Int)+1:=by rw [IntKind.wrap_i64];omega
    have hn8:n≤2097152:=by omega
    cases hws with
    | var0 x t hx ht2 =>
      have lx:=ident_len hx;have lt:=typ_len ht2;have hp:stText n (.mk 1 x t [] [] [])=tabsOf n++[118,97,114,32]++x++[58,32]++t++[59,10]:=by simp [stText,exT]
      rw [hp];obtain⟨TB,hTB⟩:∃ TB,TB=tabsOf n:=⟨_,rfl⟩;rw [← hTB] at ht lt0 ⊢;clear ih1 ih2 hp hTB;refine gV ?_
      (first | refine AOpl.call1 rfl (by first | rfl | (simp [*];done)) (by simp [*]) (by kernel_rfl) (ht) ?_ | refine ASl.callg (by first | rfl | (simp [*];done)) (by simp [*]) (by kernel_rfl) (ht) ?_)
      refine gV ?_
      (refine⟨_,(by simp [*];rfl),?_⟩;(try simp only [packA]))
      try simp
    | @var1 x t hx ht2 e he =>
      simp only [stSz,exsSz,stsSz] at hsz hn;have lx:=ident_len hx;have lt:=typ_len ht2;have c1:=rt_E he (by omega);have l1:=exText_len he;have hp:stText n (.mk 1 x t [e] [] [])=tabsOf n++[118,97,114,32]++x++[58,32]++t++[32,61,32]++exText e++[59,10]:=by simp [stText,exT]
      rw [hp];obtain⟨TB,hTB⟩:∃ TB,TB=tabsOf n:=⟨_,rfl⟩;rw [← hTB] at ht lt0 ⊢;clear ih1 ih2 hp hTB;refine gV ?_
      (first | refine AOpl.call1 rfl (by first | rfl | (simp [*];done)) (by simp [*]) (by kernel_rfl) (ht) ?_ | refine ASl.callg (by first | rfl | (simp [*];done)) (by simp [*]) (by kernel_rfl) (ht) ?_)
      refine gV ?_
      (first | refine AOpl.call1 rfl (by first | rfl | (simp [*];done)) (by simp [*]) (by kernel_rfl) (c1) ?_ | refine ASl.callg (by first | rfl | (simp [*];done)) (by simp [*]) (by kernel_rfl) (c1) ?_)
      refine gV ?_
      (refine⟨_,(by simp [*];rfl),?_⟩;(try simp only [packA]))
      try simp
    | @assign x hx e he =>
      simp only [stSz,exsSz,stsSz] at hsz hn;have lx:=ident_len hx;have c1:=rt_E he (by omega);have l1:=exText_len he;have hp:stText n (.mk 2 x [] [e] [] [])=tabsOf n++x++[32,61,32]++exText e++[59,10]:=by simp [stText,exT]
      rw [hp];obtain⟨TB,hTB⟩:∃ TB,TB=tabsOf n:=⟨_,rfl⟩;rw [← hTB] at ht lt0 ⊢;clear ih1 ih2 hp hTB;refine gV ?_
      (first | refine AOpl.call1 rfl (by first | rfl | (simp [*];done)) (by simp [*]) (by kernel_rfl) (ht) ?_ | refine ASl.callg (by first | rfl | (simp [*];done)) (by simp [*]) (by kernel_rfl) (ht) ?_)
      refine gV ?_
      (first | refine AOpl.call1 rfl (by first | rfl | (simp [*];done)) (by simp [*]) (by kernel_rfl) (c1) ?_ | refine ASl.callg (by first | rfl | (simp [*];done)) (by simp [*]) (by kernel_rfl) (c1) ?_)
      refine gV ?_
      (refine⟨_,(by simp [*];rfl),?_⟩;(try simp only [packA]))
      try simp
    | @store m hm k e hk he =>
      simp only [stSz,exsSz,stsSz] at hsz hn;have lx:=ident_len hm;have c1:=rt_W 4 hk (by omega);have l1:=operT_len hk 4;have c2:=rt_E he (by omega);have l2:=exText_len he;have hp:stText n (.mk 3 m [] [k,e] [] [])=tabsOf n++operT k 4++[46]++m++[32,61,32]++exText e++[59,10]:=by rw [stText];simp [exT,within0,operT]
      rw [hp];obtain⟨TB,hTB⟩:∃ TB,TB=tabsOf n:=⟨_,rfl⟩;rw [← hTB] at ht lt0 ⊢;clear ih1 ih2 hp hTB;refine gV ?_
      (first | refine AOpl.call1 rfl (by first | rfl | (simp [*];done)) (by simp [*]) (by kernel_rfl) (ht) ?_ | refine ASl.callg (by first | rfl | (simp [*];done)) (by simp [*]) (by kernel_rfl) (ht) ?_)
      refine gV ?_
      (first | refine AOpl.call1 rfl (by first | rfl | (simp [*];done)) (by simp [*]) (by kernel_rfl) (c1) ?_ | refine ASl.callg (by first | rfl | (simp [*];done)) (by simp [*]) (by kernel_rfl) (c1) ?_)
      refine gV ?_
      (first | refine AOpl.call1 rfl (by first | rfl | (simp [*];done)) (by simp [*]) (by kernel_rfl) (c2) ?_ | refine ASl.callg (by first | rfl | (simp [*];done)) (by simp [*]) (by kernel_rfl) (c2) ?_)
      refine gV ?_
      (refine⟨_,(by simp [*];rfl),?_⟩;(try simp only [packA]))
      try simp
    | @«if» e he b c hb hc =>
      simp only [stSz,exsSz] at hsz hn;have c1:=rt_E he (by omega);have l1:=exText_len he;have b1:=ih2 b (n+1) (by omega) (by omega) hb;rw [show ((n+1:Nat):Int)=(n:Int)+1 by omega] at b1;have m1:=blText_len (n:=n+1) (by omega) hb;have b2:=ih2 c (n+1) (by omega) (by omega) hc;rw [show ((n+1:Nat):Int)=(n:Int)+1 by omega] at b2;have m2:=blText_len (n:=n+1) (by omega) hc;obtain⟨TB,hTB⟩:∃ TB,TB=tabsOf n:=⟨_,rfl⟩
      by_cases h0:c=[]
      ·have hp:stText n (.mk 4 [] [] [e] b c)=TB++[105,102,32,40]++exText e++[41,32,123,10]++stsText (n+1) b++TB++[125,10]:=by rw [hTB];simp [stText,exT,h0]
       rw [hp];rw [← hTB] at ht lt0;subst h0;clear ih1 ih2 hp hTB b2 m2 hc;refine gV ?_
       (first | refine AOpl.call1 rfl (by first | rfl | (simp [*];done)) (by simp [*]) (by kernel_rfl) (ht) ?_ | refine ASl.callg (by first | rfl | (simp [*];done)) (by simp [*]) (by kernel_rfl) (ht) ?_)
       refine gV ?_
       (first | refine AOpl.call1 rfl (by first | rfl | (simp [*];done)) (by simp [*]) (by kernel_rfl) (c1) ?_ | refine ASl.callg (by first | rfl | (simp [*];done)) (by simp [*]) (by kernel_rfl) (c1) ?_)
       refine gV ?_
       (first | refine AOpl.call1 rfl (by first | rfl | (simp [*];done)) (by simp [*]) (by kernel_rfl) (b1) ?_ | refine ASl.callg (by first | rfl | (simp [*];done)) (by simp [*]) (by kernel_rfl) (b1) ?_)
       refine gV ?_
       (refine⟨_,(by simp [*];rfl),?_⟩;(try simp only [packA]))
       try simp
      ·have hp:stText n (.mk 4 [] [] [e] b c)=TB++[105,102,32,40]++exText e++[41,32,123,10]++stsText (n+1) b++(TB++[125,32,101,108,115,101,32,123,10]++stsText (n+1) c)++TB++[125,10]:=by rw [hTB];simp [stText,exT,h0]
       have h1:0<c.length:=List.length_pos_iff.2 h0;have h2:(0:Int)<(c.length:Int):=by omega
       rw [hp];rw [← hTB] at ht lt0;clear ih1 ih2 hp hTB;refine gV ?_
       (first | refine AOpl.call1 rfl (by first | rfl | (simp [*];done)) (by simp [*]) (by kernel_rfl) (ht) ?_ | refine ASl.callg (by first | rfl | (simp [*];done)) (by simp [*]) (by kernel_rfl) (ht) ?_)
       refine gV ?_
       (first | refine AOpl.call1 rfl (by first | rfl | (simp [*];done)) (by simp [*]) (by kernel_rfl) (c1) ?_ | refine ASl.callg (by first | rfl | (simp [*];done)) (by simp [*]) (by kernel_rfl) (c1) ?_)
       refine gV ?_
       (first | refine AOpl.call1 rfl (by first | rfl | (simp [*];done)) (by simp [*]) (by kernel_rfl) (b1) ?_ | refine ASl.callg (by first | rfl | (simp [*];done)) (by simp [*]) (by kernel_rfl) (b1) ?_)
       refine gV ?_
       (first | refine AOpl.call1 rfl (by first | rfl | (simp [*];done)) (by simp [*]) (by kernel_rfl) (b2) ?_ | refine ASl.callg (by first | rfl | (simp [*];done)) (by simp [*]) (by kernel_rfl) (b2) ?_)
       refine gV ?_
       (refine⟨_,(by simp [*];rfl),?_⟩;(try simp only [packA]))
       try simp
    | @«while» e he b hb =>
      simp only [stSz,exsSz,stsSz] at hsz hn;have c1:=rt_E he (by omega);have l1:=exText_len he;have b1:=ih2 b (n+1) (by omega) (by omega) hb;rw [show ((n+1:Nat):Int)=(n:Int)+1 by omega] at b1;have m1:=blText_len (n:=n+1) (by omega) hb;have hp:stText n (.mk 5 [] [] [e] b [])=tabsOf n++[119,104,105,108,101,32,40]++exText e++[41,32,123,10]++stsText (n+1) b++tabsOf n++[125,10]:=by simp [stText,exT]
      rw [hp];obtain⟨TB,hTB⟩:∃ TB,TB=tabsOf n:=⟨_,rfl⟩;rw [← hTB] at ht lt0 ⊢;clear ih1 ih2 hp hTB;refine gV ?_
      (first | refine AOpl.call1 rfl (by first | rfl | (simp [*];done)) (by simp [*]) (by kernel_rfl) (ht) ?_ | refine ASl.callg (by first | rfl | (simp [*];done)) (by simp [*]) (by kernel_rfl) (ht) ?_)
      refine gV ?_
      (first | refine AOpl.call1 rfl (by first | rfl | (simp [*];done)) (by simp [*]) (by kernel_rfl) (c1) ?_ | refine ASl.callg (by first | rfl | (simp [*];done)) (by simp [*]) (by kernel_rfl) (c1) ?_)
      refine gV ?_
      (first | refine AOpl.call1 rfl (by first | rfl | (simp [*];done)) (by simp [*]) (by kernel_rfl) (b1) ?_ | refine ASl.callg (by first | rfl | (simp [*];done)) (by simp [*]) (by kernel_rfl) (b1) ?_)
      refine gV ?_
      (refine⟨_,(by simp [*];rfl),?_⟩;(try simp only [packA]))
      try simp
    | @«try» x t hx ht2 b c hb hc =>
      simp only [stSz,exsSz] at hsz hn;have lx:=ident_len hx;have lt:=typ_len ht2;have b1:=ih2 b (n+1) (by omega) (by omega) hb;rw [show ((n+1:Nat):Int)=(n:Int)+1 by omega] at b1;have m1:=blText_len (n:=n+1) (by omega) hb;have b2:=ih2 c (n+1) (by omega) (by omega) hc;rw [show ((n+1:Nat):Int)=(n:Int)+1 by omega] at b2;have m2:=blText_len (n:=n+1) (by omega) hc;have hp:stText n (.mk 6 x t [] b c)=tabsOf n++[116,114,121,32,123,10]++stsText (n+1) b++tabsOf n++[125,32,99,97,116,99,104,32,40]++x++[58,32]++t++[41,32,123,10]++stsText (n+1) c++tabsOf n++[125,10]:=by simp [stText,exT]
      rw [hp];obtain⟨TB,hTB⟩:∃ TB,TB=tabsOf n:=⟨_,rfl⟩;rw [← hTB] at ht lt0 ⊢;clear ih1 ih2 hp hTB;refine gV ?_
      (first | refine AOpl.call1 rfl (by first | rfl | (simp [*];done)) (by simp [*]) (by kernel_rfl) (ht) ?_ | refine ASl.callg (by first | rfl | (simp [*];done)) (by simp [*]) (by kernel_rfl) (ht) ?_)
      refine gV ?_
      (first | refine AOpl.call1 rfl (by first | rfl | (simp [*];done)) (by simp [*]) (by kernel_rfl) (b1) ?_ | refine ASl.callg (by first | rfl | (simp [*];done)) (by simp [*]) (by kernel_rfl) (b1) ?_)
      refine gV ?_
      (first | refine AOpl.call1 rfl (by first | rfl | (simp [*];done)) (by simp [*]) (by kernel_rfl) (b2) ?_ | refine ASl.callg (by first | rfl | (simp [*];done)) (by simp [*]) (by kernel_rfl) (b2) ?_)
      refine gV ?_
      (refine⟨_,(by simp [*];rfl),?_⟩;(try simp only [packA]))
      try simp
    | @throw e he =>
      simp only [stSz,exsSz,stsSz] at hsz hn;have c1:=rt_E he (by omega);have l1:=exText_len he;have hp:stText n (.mk 7 [] [] [e] [] [])=tabsOf n++[116,104,114,111,119,32]++exText e++[59,10]:=by simp [stText,exT]
      rw [hp];obtain⟨TB,hTB⟩:∃ TB,TB=tabsOf n:=⟨_,rfl⟩;rw [← hTB] at ht lt0 ⊢;clear ih1 ih2 hp hTB;refine gV ?_
      (first | refine AOpl.call1 rfl (by first | rfl | (simp [*];done)) (by simp [*]) (by kernel_rfl) (ht) ?_ | refine ASl.callg (by first | rfl | (simp [*];done)) (by simp [*]) (by kernel_rfl) (ht) ?_)
      refine gV ?_
      (first | refine AOpl.call1 rfl (by first | rfl | (simp [*];done)) (by simp [*]) (by kernel_rfl) (c1) ?_ | refine ASl.callg (by first | rfl | (simp [*];done)) (by simp [*]) (by kernel_rfl) (c1) ?_)
      refine gV ?_
      (refine⟨_,(by simp [*];rfl),?_⟩;(try simp only [packA]))
      try simp
    | return0 =>
      have hp:stText n (.mk 8 [] [] [] [] [])=tabsOf n++[114,101,116,117,114,110,59,10]:=by simp [stText,exT]
      rw [hp];obtain⟨TB,hTB⟩:∃ TB,TB=tabsOf n:=⟨_,rfl⟩;rw [← hTB] at ht lt0 ⊢;clear ih1 ih2 hp hTB;refine gV ?_
      (first | refine AOpl.call1 rfl (by first | rfl | (simp [*];done)) (by simp [*]) (by kernel_rfl) (ht) ?_ | refine ASl.callg (by first | rfl | (simp [*];done)) (by simp [*]) (by kernel_rfl) (ht) ?_)
      refine gV ?_
      (refine⟨_,(by simp [*];rfl),?_⟩;(try simp only [packA]))
      try simp
    | @return1 e he =>
      simp only [stSz,exsSz,stsSz] at hsz hn;have c1:=rt_E he (by omega);have l1:=exText_len he;have hp:stText n (.mk 8 [] [] [e] [] [])=tabsOf n++[114,101,116,117,114,110,32]++exText e++[59,10]:=by simp [stText,exT]
      rw [hp];obtain⟨TB,hTB⟩:∃ TB,TB=tabsOf n:=⟨_,rfl⟩;rw [← hTB] at ht lt0 ⊢;clear ih1 ih2 hp hTB;refine gV ?_
      (first | refine AOpl.call1 rfl (by first | rfl | (simp [*];done)) (by simp [*]) (by kernel_rfl) (ht) ?_ | refine ASl.callg (by first | rfl | (simp [*];done)) (by simp [*]) (by kernel_rfl) (ht) ?_)
      refine gV ?_
      (first | refine AOpl.call1 rfl (by first | rfl | (simp [*];done)) (by simp [*]) (by kernel_rfl) (c1) ?_ | refine ASl.callg (by first | rfl | (simp [*];done)) (by simp [*]) (by kernel_rfl) (c1) ?_)
      refine gV ?_
      (refine⟨_,(by simp [*];rfl),?_⟩;(try simp only [packA]))
      try simp
    | @call e he hk =>
      simp only [stSz,exsSz,stsSz] at hsz hn;have c1:=rt_E he (by omega);have l1:=exText_len he;have hp:stText n (.mk 9 [] [] [e] [] [])=tabsOf n++exText e++[59,10]:=by simp [stText,exT]
      rw [hp];obtain⟨TB,hTB⟩:∃ TB,TB=tabsOf n:=⟨_,rfl⟩;rw [← hTB] at ht lt0 ⊢;clear ih1 ih2 hp hTB;refine gV ?_
      (first | refine AOpl.call1 rfl (by first | rfl | (simp [*];done)) (by simp [*]) (by kernel_rfl) (ht) ?_ | refine ASl.callg (by first | rfl | (simp [*];done)) (by simp [*]) (by kernel_rfl) (ht) ?_)
      refine gV ?_
      (first | refine AOpl.call1 rfl (by first | rfl | (simp [*];done)) (by simp [*]) (by kernel_rfl) (c1) ?_ | refine ASl.callg (by first | rfl | (simp [*];done)) (by simp [*]) (by kernel_rfl) (c1) ?_)
      refine gV ?_
      (refine⟨_,(by simp [*];rfl),?_⟩;(try simp only [packA]))
      try simp
   refine⟨hS,fun l n hsz hn hw=>?_⟩;refine FCall.one paG_pu (by simp only [puL,puV,puSs];rfl) rfl ?_;refine FCall.ofBody Tryd.func57 rfl rfl fun nx=>?_
   have hln:=stsSz_len l;have hlen:=blText_len hn hw;obtain⟨R,hR⟩:∃ R,R=stsText n l:=⟨_,rfl⟩;rw [← hR] at hlen ⊢;refine gV ?_;refine AWp.countO l.length [5,6] 7 (fun i v H nx1=>∃ out:Bytes,v 5=.str out∧v 6=.int .i64 i∧R=out++stsText n (l.drop i)) ⟨[],rfl,rfl,by rw [hR];simp⟩ ?_;clear hR;rintro i v H nx1 hi hn1 ⟨out,h3,h4,hR⟩;have hol:out.length≤R.length:=by rw [hR];simp
   by_cases hb2:i<l.length
   ·have hwi:=up1 hb2 (by omega);rw [dropAt hb2,stsText] at hR;have hm:=stsSz_mem (List.getElem_mem hb2);have hws:=hw _ (List.getElem_mem hb2);have hc:=hS l[i] n (by omega) (by omega) hws;have hle:=stText_len (n:=n) (by omega) hws;have hb3:(i:Int)<(l.length:Int):=by omega
    rw [cvS_eq] at hc;clear hn1 ih1 ih2 hS;refine gV ?_
    (first | refine AOpl.call1 rfl (by first | rfl | (simp [*];done)) (by simp [*]) (by kernel_rfl) (hc) ?_ | refine ASl.callg (by first | rfl | (simp [*];done)) (by simp [*]) (by kernel_rfl) (hc) ?_)
    refine gV ?_;exact⟨by ((repeat (first | exact Keeps.base _ _ _ _ | (with_reducible exact Keeps.refl _ _ _) | (refine Keeps.put rfl ?_) | (refine Keeps.over' rfl rfl ?_)))),hb2,out++stText n l[i],by simp [putE,over],by simp [putE,over],by rw [hR];simp⟩
   ·rw [dropEnd hi hb2,stsText,List.append_nil] at hR;clear hn1 ih1 ih2 hS;obtain rfl:R=out:=hR;refine gV ?_
    (refine⟨_,(by simp [*];rfl),?_⟩;(try simp only [packA]))
end
end Go.Proofs.YtmlafcimjhnhhaaDoor
