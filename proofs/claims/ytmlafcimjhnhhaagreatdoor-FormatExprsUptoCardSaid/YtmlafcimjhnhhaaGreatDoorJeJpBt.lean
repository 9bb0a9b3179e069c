/-
  ref09's level, within, args and text walked.
-/
import Derived.Test.YtmlafcimjhnhhaaGreatDoorJeJpBs
import Derived.Test.YtmlafcimjhnhhaaGreatDoorJeJpAs
import Derived.Test.YtmlafcimjhnhhaaGreatDoorJeJpBm
set_option linter.unusedSectionVars false
set_option linter.unusedSimpArgs false
set_option linter.unnecessarySimpa false
set_option linter.unusedVariables false
set_option linter.unusedSimpArgs false
set_option linter.unusedVariables false
namespace Go.Proofs.YtmlafcimjhnhhaaGreatDoor
section
open Lx Ax Go.RowKit
attribute [local simp] stepS Ax.stepT Dl.on qstep astep estep rd putE over argE ofV ofS loadA pickCells isAggD faddA fieldA partA iaddA idxA bnd binA intA strA unA convA lenA mapOf lookA findK keyD scalD storeA mupA srcA srcD upd drp Dl.hp Dl.nx CV.cs CV.one buildA placesA fillA zrep tasA ifaceD eqA eqFs eqIs range2 copyA nbeq nble nblt decEq beqI bneI beqS bneS isED Int.ofNat_inj List.getElem?_map List.getElem?_eq_getElem Option.map_some ti_int ti_i64 ti_str ti_bool ti_u8 ti_Strs ti_Exs ti_Ex gd gdB callA resA op1
attribute [local simp] one1 cvE_eq cvS_eq exk exn exo exm exks drR drp nu1 nu2 nu3 nu4 nu5 nu6 nu7 nu8 nu9 nu10 nu11 nu12 nu13 bl_len bl_max cvM cvC
theorem mx1:maxI 1 2=2:=by decide
theorem mx2:maxI 2 2=2:=by decide
theorem mx3:maxI 3 2=3:=by decide
attribute [local simp] rw1 rw2 rw3 rw4 rw5 rw6 rw7 rw8 rw9 rw10 mx1 mx2 mx3
set_option maxRecDepth 10000 in
set_option maxHeartbeats 4000000 in
theorem rt_level (e:Ex)(hw:WfE e):FCall1 Tryz.prog paG 47 [.agg (cvE e)] (.int .i64 (levelOf e.kind e.n)):=by
 refine FCall.one paG_pu (by simp only [puL,puV,puE];rfl) rfl ?_;refine FCall.ofBody Tryz.func47 rfl rfl fun nx=>?_
 cases hw with
 | @bin op h a b ha hb =>
   have:op=1∨op=2∨op=3∨op=4∨op=5:=by omega
   clear h;rcases this with rfl | rfl | rfl | rfl | rfl
   all_goals
    refine gV ?_
    (refine⟨_,(by simp [*];rfl),?_⟩;(try simp only [packA]))
    rfl
 | int n h1 h2=>refine gV ?_;(refine⟨_,(by simp [*];rfl),?_⟩;(try simp only [packA]));rfl
 | null=>refine gV ?_;(refine⟨_,(by simp [*];rfl),?_⟩;(try simp only [packA]));rfl
 | var x hx=>refine gV ?_;(refine⟨_,(by simp [*];rfl),?_⟩;(try simp only [packA]));rfl
 | this=>refine gV ?_;(refine⟨_,(by simp [*];rfl),?_⟩;(try simp only [packA]));rfl
 | input=>refine gV ?_;(refine⟨_,(by simp [*];rfl),?_⟩;(try simp only [packA]));rfl
 | new x hx=>refine gV ?_;(refine⟨_,(by simp [*];rfl),?_⟩;(try simp only [packA]));rfl
 | field m hm hk=>refine gV ?_;(refine⟨_,(by simp [*];rfl),?_⟩;(try simp only [packA]));rfl
 | call m hm hk he=>refine gV ?_;(refine⟨_,(by simp [*];rfl),?_⟩;(try simp only [packA]));rfl
 | static o m ho hm he=>refine gV ?_;(refine⟨_,(by simp [*];rfl),?_⟩;(try simp only [packA]));rfl
/-- An operand's text. -/
def operT (e:Ex)(r:Int):Bytes:=if levelOf e.kind e.n<r then [40]++exText e++[41] else exText e
theorem operT_len {e:Ex}(h:WfE e)(r:Int):(operT e r).length≤110*exSz e:=by
 have:=exText_len h;have:=oper_len e r;unfold operT;omega
set_option maxRecDepth 10000 in
set_option maxHeartbeats 4000000 in
theorem rt_within (e:Ex)(r:Int)(hw:WfE e)(hs:exSz e≤100000000)(hc:FCall1 Tryz.prog paG 21 [.agg (cvE e)] (.str (exText e))):FCall1 Tryz.prog paG 45 [.agg (cvE e),.int .i64 r] (.str (operT e r)):=by
 refine FCall.one paG_pu (by simp only [puL,puV,puE];rfl) rfl ?_;refine FCall.ofBody Tryz.func45 rfl rfl fun nx=>?_
 have hl:=rt_level e hw;have hx:=exText_len hw;obtain⟨lv,hlv⟩:∃ lv,lv=levelOf e.kind e.n:=⟨_,rfl⟩;unfold operT;rw [← hlv] at hl ⊢;clear hlv hw;obtain⟨T,hT⟩:∃ T,T=exText e:=⟨_,rfl⟩;rw [← hT] at hc hx ⊢;clear hT
 by_cases hb:lv<r
 ·rw [if_pos hb];refine gV ?_
  (first | refine AOpl.call1 rfl (by first | rfl | (simp [*];done)) (by simp [*]) (by kernel_rfl) (hl) ?_ | refine ASl.callg (by first | rfl | (simp [*];done)) (by simp [*]) (by kernel_rfl) (hl) ?_)
  refine gV ?_
  (first | refine AOpl.call1 rfl (by first | rfl | (simp [*];done)) (by simp [*]) (by kernel_rfl) (hc) ?_ | refine ASl.callg (by first | rfl | (simp [*];done)) (by simp [*]) (by kernel_rfl) (hc) ?_)
  refine gV ?_
  (refine⟨_,(by simp [*];rfl),?_⟩;(try simp only [packA]))
  simp
 ·rw [if_neg hb];refine gV ?_
  (first | refine AOpl.call1 rfl (by first | rfl | (simp [*];done)) (by simp [*]) (by kernel_rfl) (hl) ?_ | refine ASl.callg (by first | rfl | (simp [*];done)) (by simp [*]) (by kernel_rfl) (hl) ?_)
  refine gV ?_
  (first | refine AOpl.call1 rfl (by first | rfl | (simp [*];done)) (by simp [*]) (by kernel_rfl) (hc) ?_ | refine ASl.callg (by first | rfl | (simp [*];done)) (by simp [*]) (by kernel_rfl) (hc) ?_)
  refine gV ?_
  (refine⟨_,(by simp [*];rfl),?_⟩;(try simp only [packA]))
theorem sl1F (H:Heap)(a b c d e:CV)(es:List Ex):sliA Tryz.prog H 22 (.lst ([a,b,c,d,e]::es.map cvE)) (some (.int .i64 1)) none=some (.lst (es.map cvE)) :=
 sliA_lo (m:=1) ti_Exs ti_Ex (fun r hr=>by
  rcases List.mem_cons.1 hr with rfl | hr
  ·rfl
  ·obtain⟨x,_,rfl⟩:=List.mem_map.1 hr;exact cvE_len x) (by simp)
attribute [local simp] sl1F
theorem sepText_eq:∀ (e:Ex) (l:List Ex),sepText (e::l)=exText e++l.flatMap fun f=>[44,32]++exText f
 | e,[]=>by simp [sepText]
 | e,f::l=>by rw [sepText,sepText_eq f l];simp;simp
def sepR (es:List Ex)(i:Nat):Bytes:=if i=0 then sepText es else (es.drop i).flatMap fun f=>[44,32]++exText f
theorem sepR_step {es:List Ex}{i:Nat}(h:i<es.length):sepR es i=(if i=0 then [] else [44,32])++exText es[i]++sepR es (i+1):=by
 unfold sepR;rw [if_neg (by omega:¬ i+1=0)];split
 ·rename_i h0;subst h0;cases es with
  | nil=>simp at h
  | cons e l=>rw [sepText_eq];simp
 ·rw [dropAt h,List.flatMap_cons]
  try simp
theorem sepR_end {es:List Ex}{i:Nat}(h:¬ i<es.length):sepR es i=[]:=by
 unfold sepR;split
 ·rename_i h0;subst h0;cases es with
  | nil=>rw [sepText]
  | cons e l=>simp at h
 ·rw [List.drop_eq_nil_of_le (by omega)];rfl
set_option maxRecDepth 10000 in
set_option maxHeartbeats 16000000 in
theorem rt_both:∀ d,d≤100000000→(∀ e,exSz e≤d→WfE e→FCall1 Tryz.prog paG 21 [.agg (cvE e)] (.str (exText e)))∧(∀ es,exsSz es≤d→(∀ e∈es,WfE e)→FCall1 Tryz.prog paG 46 [.lst (es.map cvE)] (.str ([40]++sepText es++[41]))):=by
 intro d
 induction d with
 | zero =>
   intro _;refine⟨fun e h=>by have:=exSz_pos e;omega,fun es h hw=>?_⟩;have:=exsSz_len es;obtain rfl:es=[]:=List.length_eq_zero_iff.mp (by omega);refine FCall.one paG_pu rfl rfl ?_;refine FCall.ofBody Tryz.func46 rfl rfl fun nx=>?_
   refine gV ?_;refine AWp.countO 0 [3,4] 5 (fun i v H nx1=>v 3=.str [40]∧v 4=.int .i64 i) ⟨rfl,rfl⟩ ?_;rintro i v H nx1 hi hn1 ⟨h3,h4⟩;obtain rfl:i=0:=by omega
   refine gV ?_
   (refine⟨_,(by simp [*];rfl),?_⟩;(try simp only [packA]))
   rw [sepText];rfl
 | succ d ih =>
   intro hd1;obtain⟨ih1,ih2⟩:=ih (by omega);have hE:∀ e,exSz e≤d+1→WfE e→FCall1 Tryz.prog paG 21 [.agg (cvE e)] (.str (exText e)):=by
    intro e hd hw;refine FCall.one paG_pu (by simp only [puL,puV,puE];rfl) rfl ?_;refine FCall.ofBody Tryz.func21 rfl rfl fun nx=>?_
    cases hw with
    | int n h1 h2 =>
      have hc:=rt_num n h1 h2;clear ih1 ih2;refine gV ?_
      (first | refine AOpl.call1 rfl (by first | rfl | (simp [*];done)) (by simp [*]) (by kernel_rfl) (hc) ?_ | refine ASl.callg (by first | rfl | (simp [*];done)) (by simp [*]) (by kernel_rfl) (hc) ?_)
      refine gV ?_
      (refine⟨_,(by simp [*];rfl),?_⟩;(try simp only [packA]))
      rw [exText];rfl
    | null =>
      clear ih1 ih2;refine gV ?_
      (refine⟨_,(by simp [*];rfl),?_⟩;(try simp only [packA]))
      rw [exText];rfl
    | var x hx =>
      clear ih1 ih2;refine gV ?_
      (refine⟨_,(by simp [*];rfl),?_⟩;(try simp only [packA]))
      rw [exText];rfl
    | this =>
      clear ih1 ih2;refine gV ?_
      (refine⟨_,(by simp [*];rfl),?_⟩;(try simp only [packA]))
      rw [exText];rfl
    | input =>
      clear ih1 ih2;refine gV ?_
      (refine⟨_,(by simp [*];rfl),?_⟩;(try simp only [packA]))
      rw [exText];rfl
    | @bin op h a b ha hb =>
      simp only [exSz,exsSz] at hd;have c0:=rt_level (.mk 6 op [] [] [a,b]) (.bin op h ha hb);have c1:=rt_within a (max (levelOf 6 op) 2) ha (by omega) (ih1 a (by omega) ha);have c2:=rt_within b (levelOf 6 op+1) hb (by omega) (ih1 b (by omega) hb);have l1:=operT_len ha (max (levelOf 6 op) 2);have l2:=operT_len hb (levelOf 6 op+1);have hp:exText (.mk 6 op [] [] [a,b])=operT a (max (levelOf 6 op) 2)++[32]++opText op++[32]++operT b (levelOf 6 op+1):=by rw [exText];simp [within0,within1,operT]
      rw [hp];have hop:op=1∨op=2∨op=3∨op=4∨op=5:=by omega
      obtain⟨A,hA⟩:∃ A,A=operT a (max (levelOf 6 op) 2):=⟨_,rfl⟩;obtain⟨B,hB⟩:∃ B,B=operT b (levelOf 6 op+1):=⟨_,rfl⟩;obtain⟨r1,hr1⟩:∃ r1,r1=max (levelOf 6 op) 2:=⟨_,rfl⟩;obtain⟨r2,hr2⟩:∃ r2,r2=levelOf 6 op+1:=⟨_,rfl⟩;rw [← hA] at c1 l1 ⊢;rw [← hB] at c2 l2 ⊢;rw [← hr1] at c1;rw [← hr2] at c2;clear ih1 ih2 hp h ha hb hA hB;rcases hop with rfl | rfl | rfl | rfl | rfl
      ·obtain rfl:r1=2:=by rw [hr1];rfl
       obtain rfl:r2=3:=by rw [hr2];rfl
       replace c0:FCall1 Tryz.prog paG 47 [.agg (cvE (.mk 6 1 [] [] [a,b]))] (.int .i64 2):=c0;clear hr1 hr2;refine gV ?_
       (first | refine AOpl.call1 rfl (by first | rfl | (simp [*];done)) (by simp [*]) (by kernel_rfl) (c0) ?_ | refine ASl.callg (by first | rfl | (simp [*];done)) (by simp [*]) (by kernel_rfl) (c0) ?_)
       refine gV ?_
       (first | refine AOpl.call1 rfl (by first | rfl | (simp [*];done)) (by simp [*]) (by kernel_rfl) (c1) ?_ | refine ASl.callg (by first | rfl | (simp [*];done)) (by simp [*]) (by kernel_rfl) (c1) ?_)
       refine gV ?_
       (first | refine AOpl.call1 rfl (by first | rfl | (simp [*];done)) (by simp [*]) (by kernel_rfl) (c2) ?_ | refine ASl.callg (by first | rfl | (simp [*];done)) (by simp [*]) (by kernel_rfl) (c2) ?_)
       refine gV ?_
       (refine⟨_,(by simp [*];rfl),?_⟩;(try simp only [packA]))
       try simp [opText]
      ·obtain rfl:r1=2:=by rw [hr1];rfl
       obtain rfl:r2=3:=by rw [hr2];rfl
       replace c0:FCall1 Tryz.prog paG 47 [.agg (cvE (.mk 6 2 [] [] [a,b]))] (.int .i64 2):=c0;clear hr1 hr2;refine gV ?_
       (first | refine AOpl.call1 rfl (by first | rfl | (simp [*];done)) (by simp [*]) (by kernel_rfl) (c0) ?_ | refine ASl.callg (by first | rfl | (simp [*];done)) (by simp [*]) (by kernel_rfl) (c0) ?_)
       refine gV ?_
       (first | refine AOpl.call1 rfl (by first | rfl | (simp [*];done)) (by simp [*]) (by kernel_rfl) (c1) ?_ | refine ASl.callg (by first | rfl | (simp [*];done)) (by simp [*]) (by kernel_rfl) (c1) ?_)
       refine gV ?_
       (first | refine AOpl.call1 rfl (by first | rfl | (simp [*];done)) (by simp [*]) (by kernel_rfl) (c2) ?_ | refine ASl.callg (by first | rfl | (simp [*];done)) (by simp [*]) (by kernel_rfl) (c2) ?_)
       refine gV ?_
       (refine⟨_,(by simp [*];rfl),?_⟩;(try simp only [packA]))
       try simp [opText]
      ·obtain rfl:r1=3:=by rw [hr1];rfl
       obtain rfl:r2=4:=by rw [hr2];rfl
       replace c0:FCall1 Tryz.prog paG 47 [.agg (cvE (.mk 6 3 [] [] [a,b]))] (.int .i64 3):=c0;clear hr1 hr2;refine gV ?_
       (first | refine AOpl.call1 rfl (by first | rfl | (simp [*];done)) (by simp [*]) (by kernel_rfl) (c0) ?_ | refine ASl.callg (by first | rfl | (simp [*];done)) (by simp [*]) (by kernel_rfl) (c0) ?_)
       refine gV ?_
       (first | refine AOpl.call1 rfl (by first | rfl | (simp [*];done)) (by simp [*]) (by kernel_rfl) (c1) ?_ | refine ASl.callg (by first | rfl | (simp [*];done)) (by simp [*]) (by kernel_rfl) (c1) ?_)
       refine gV ?_
       (first | refine AOpl.call1 rfl (by first | rfl | (simp [*];done)) (by simp [*]) (by kernel_rfl) (c2) ?_ | refine ASl.callg (by first | rfl | (simp [*];done)) (by simp [*]) (by kernel_rfl) (c2) ?_)
       refine gV ?_
       (refine⟨_,(by simp [*];rfl),?_⟩;(try simp only [packA]))
       try simp [opText]
      ·obtain rfl:r1=2:=by rw [hr1];rfl
       obtain rfl:r2=2:=by rw [hr2];rfl
       replace c0:FCall1 Tryz.prog paG 47 [.agg (cvE (.mk 6 4 [] [] [a,b]))] (.int .i64 1):=c0;clear hr1 hr2;refine gV ?_
       (first | refine AOpl.call1 rfl (by first | rfl | (simp [*];done)) (by simp [*]) (by kernel_rfl) (c0) ?_ | refine ASl.callg (by first | rfl | (simp [*];done)) (by simp [*]) (by kernel_rfl) (c0) ?_)
       refine gV ?_
       (first | refine AOpl.call1 rfl (by first | rfl | (simp [*];done)) (by simp [*]) (by kernel_rfl) (c1) ?_ | refine ASl.callg (by first | rfl | (simp [*];done)) (by simp [*]) (by kernel_rfl) (c1) ?_)
       refine gV ?_
       (first | refine AOpl.call1 rfl (by first | rfl | (simp [*];done)) (by simp [*]) (by kernel_rfl) (c2) ?_ | refine ASl.callg (by first | rfl | (simp [*];done)) (by simp [*]) (by kernel_rfl) (c2) ?_)
       refine gV ?_
       (refine⟨_,(by simp [*];rfl),?_⟩;(try simp only [packA]))
       try simp [opText]
      ·obtain rfl:r1=2:=by rw [hr1];rfl
       obtain rfl:r2=2:=by rw [hr2];rfl
       replace c0:FCall1 Tryz.prog paG 47 [.agg (cvE (.mk 6 5 [] [] [a,b]))] (.int .i64 1):=c0;clear hr1 hr2;refine gV ?_
       (first | refine AOpl.call1 rfl (by first | rfl | (simp [*];done)) (by simp [*]) (by kernel_rfl) (c0) ?_ | refine ASl.callg (by first | rfl | (simp [*];done)) (by simp [*]) (by kernel_rfl) (c0) ?_)
       refine gV ?_
       (first | refine AOpl.call1 rfl (by first | rfl | (simp [*];done)) (by simp [*]) (by kernel_rfl) (c1) ?_ | refine ASl.callg (by first | rfl | (simp [*];done)) (by simp [*]) (by kernel_rfl) (c1) ?_)
       refine gV ?_
       (first | refine AOpl.call1 rfl (by first | rfl | (simp [*];done)) (by simp [*]) (by kernel_rfl) (c2) ?_ | refine ASl.callg (by first | rfl | (simp [*];done)) (by simp [*]) (by kernel_rfl) (c2) ?_)
       refine gV ?_
       (refine⟨_,(by simp [*];rfl),?_⟩;(try simp only [packA]))
       try simp [opText]
    | new x hx =>
      have:=ident_len hx;clear ih1 ih2;refine gV ?_
      (refine⟨_,(by simp [*];rfl),?_⟩;(try simp only [packA]))
      rw [exText];simp
    | @field m hm k hk =>
      simp only [exSz,exsSz] at hd;have c1:=rt_within k 4 hk (by omega) (ih1 k (by omega) hk);have l1:=operT_len hk 4;have l2:=ident_len hm;have hp:exText (.mk 8 0 [] m [k])=operT k 4++[46]++m:=by rw [exText];simp [within0,operT]
      rw [hp];clear ih1 ih2 hp;refine gV ?_
      (first | refine AOpl.call1 rfl (by first | rfl | (simp [*];done)) (by simp [*]) (by kernel_rfl) (c1) ?_ | refine ASl.callg (by first | rfl | (simp [*];done)) (by simp [*]) (by kernel_rfl) (c1) ?_)
      refine gV ?_
      (refine⟨_,(by simp [*];rfl),?_⟩;(try simp only [packA]))
      simp
    | @call m hm k es hk he =>
      simp only [exSz,exsSz] at hd;have c1:=rt_within k 4 hk (by omega) (ih1 k (by omega) hk);have c2:=ih2 es (by omega) he;have l1:=operT_len hk 4;have l2:=ident_len hm;have l3:=sepText_len fun x hx=>exText_len (he x hx)
      have hp:exText (.mk 9 0 [] m (k::es))=operT k 4++[46]++m++([40]++sepText es++[41]):=by rw [exText];simp [within0,operT,argsFrom1,argsFrom]
      rw [hp];have l4:([40]++sepText es++[41]).length≤110*exsSz es+2:=by simp;omega
      obtain⟨A,hA⟩:∃ A,A=[40]++sepText es++[41]:=⟨_,rfl⟩;rw [← hA] at c2 l4 ⊢;clear ih1 ih2 hp l3 hA;refine gV ?_
      (first | refine AOpl.call1 rfl (by first | rfl | (simp [*];done)) (by simp [*]) (by kernel_rfl) (c1) ?_ | refine ASl.callg (by first | rfl | (simp [*];done)) (by simp [*]) (by kernel_rfl) (c1) ?_)
      refine gV ?_
      (first | refine AOpl.call1 rfl (by first | rfl | (simp [*];done)) (by simp [*]) (by kernel_rfl) (c2) ?_ | refine ASl.callg (by first | rfl | (simp [*];done)) (by simp [*]) (by kernel_rfl) (c2) ?_)
      refine gV ?_
      (refine⟨_,(by simp [*];rfl),?_⟩;(try simp only [packA]))
      simp
    | @static o m ho hm es he =>
      simp only [exSz] at hd;have c2:=ih2 es (by omega) he;have l1:=ident_len ho;have l2:=ident_len hm;have l3:=sepText_len fun x hx=>exText_len (he x hx)
      have hp:exText (.mk 10 0 o m es)=o++[58,58]++m++([40]++sepText es++[41]):=by rw [exText];simp [argsFrom]
      rw [hp];have l4:([40]++sepText es++[41]).length≤110*exsSz es+2:=by simp;omega
      obtain⟨A,hA⟩:∃ A,A=[40]++sepText es++[41]:=⟨_,rfl⟩;rw [← hA] at c2 l4 ⊢;clear ih1 ih2 hp l3 hA;refine gV ?_
      (first | refine AOpl.call1 rfl (by first | rfl | (simp [*];done)) (by simp [*]) (by kernel_rfl) (c2) ?_ | refine ASl.callg (by first | rfl | (simp [*];done)) (by simp [*]) (by kernel_rfl) (c2) ?_)
      refine gV ?_
      (refine⟨_,(by simp [*];rfl),?_⟩;(try simp only [packA]))
      simp
   refine⟨hE,fun es hd hw=>?_⟩;refine FCall.one paG_pu (by simp only [puL,puV,puEs];rfl) rfl ?_;refine FCall.ofBody Tryz.func46 rfl rfl fun nx=>?_
   have hln:=exsSz_len es;have hlen:=sepText_len fun x hx=>exText_len (hw x hx)
   obtain⟨R,hR⟩:∃ R,R=[40]++sepText es:=⟨_,rfl⟩;have hRl:R.length≤110*exsSz es+1:=by rw [hR];simp;omega
   rw [← hR];clear hlen;refine gV ?_;refine AWp.countO es.length [3,4] 5 (fun i v H nx1=>∃ out:Bytes,v 3=.str out∧v 4=.int .i64 i∧R=out++sepR es i) ⟨[40],rfl,rfl,by rw [hR];simp [sepR]⟩ ?_;clear hR;rintro i v H nx1 hi hn1 ⟨out,h3,h4,hR⟩;have hol:out.length≤R.length:=by rw [hR];simp
   by_cases hb2:i<es.length
   ·have hwi:=up1 hb2 (by omega);rw [sepR_step hb2] at hR;have hm:=exsSz_mem (List.getElem_mem hb2);have hwe:=hw _ (List.getElem_mem hb2);have hc:=hE es[i] (by omega) hwe;have hle:=exText_len hwe;clear hn1 ih1 ih2 hE
    by_cases h0:i=0
    ·subst h0;rw [if_pos rfl] at hR;refine gV ?_
     (first | refine AOpl.call1 rfl (by first | rfl | (simp [*];done)) (by simp [*]) (by kernel_rfl) (hc) ?_ | refine ASl.callg (by first | rfl | (simp [*];done)) (by simp [*]) (by kernel_rfl) (hc) ?_)
     refine gV ?_;exact⟨by ((repeat (first | exact Keeps.base _ _ _ _ | (with_reducible exact Keeps.refl _ _ _) | (refine Keeps.put rfl ?_) | (refine Keeps.over' rfl rfl ?_)))),hb2,out++exText es[0],by simp [putE,over],by simp [putE,over],by rw [hR];simp⟩
    ·rw [if_neg h0] at hR;have h0':(0:Int)<(i:Int):=by omega
     have h0'':0<i:=by omega
     refine gV ?_
     (first | refine AOpl.call1 rfl (by first | rfl | (simp [*];done)) (by simp [*]) (by kernel_rfl) (hc) ?_ | refine ASl.callg (by first | rfl | (simp [*];done)) (by simp [*]) (by kernel_rfl) (hc) ?_)
     refine gV ?_;exact⟨by ((repeat (first | exact Keeps.base _ _ _ _ | (with_reducible exact Keeps.refl _ _ _) | (refine Keeps.put rfl ?_) | (refine Keeps.over' rfl rfl ?_)))),hb2,out++[44,32]++exText es[i],by simp [putE,over],by simp [putE,over],by rw [hR];simp⟩
   ·rw [sepR_end hb2,List.append_nil] at hR;clear hn1 ih1 ih2 hE;obtain rfl:R=out:=hR;refine gV ?_
    (refine⟨_,(by simp [*];rfl),?_⟩;(try simp only [packA]))
theorem rt_E' {e:Ex}(h:WfE e)(hs:exSz e≤100000000):FCall1 Tryz.prog paG 21 [.agg (cvE e)] (.str (exText e)):=(rt_both (exSz e) hs).1 e (Nat.le_refl _) h
end
section
open Lx Ax Go.RowKit
attribute [local simp] stepS Ax.stepT Dl.on qstep astep estep rd putE over argE ofV ofS loadA pickCells isAggD faddA fieldA partA iaddA idxA bnd binA intA strA unA convA lenA mapOf lookA findK keyD scalD storeA mupA srcA srcD upd drp Dl.hp Dl.nx CV.cs CV.one buildA placesA fillA zrep tasA ifaceD eqA eqFs eqIs range2 copyA nbeq nble nblt decEq beqI bneI beqS bneS isED Int.ofNat_inj List.getElem?_map List.getElem?_eq_getElem Option.map_some ti_int ti_i64 ti_str ti_bool ti_Exs ti_Ex gd gdB callA resA op1
attribute [local simp] one1 drR drp nu1 nu2 nu3 nu4 nu5 nu6 nu7 nu8 nu9 nu10 nu11 nu12 nu13 bl_len
namespace Lx
/-- A text that fits, or none and the error. -/
def fitT (t:Bytes):Bytes×Nat:=if 65536<t.length then ([],3) else (t,0)
theorem firstLim_one {α:Type}(f:α→Nat)(x:α):firstLim f [x]=f x:=by simp only [firstLim];split <;> simp_all
end Lx
set_option maxRecDepth 10000 in
set_option maxHeartbeats 4000000 in
theorem rt_fit (t:Bytes):FCall1 Tryz.prog paG 20 [.str t,.int .i64 0] (.tup [.str (fitT t).1,.int .i64 ((fitT t).2:Nat)]):=by
 refine FCall.one paG_pu rfl rfl ?_;refine FCall.ofBody Tryz.func20 rfl rfl fun nx=>?_
 unfold fitT
 by_cases h:65536<t.length
 ·rw [if_pos h];have h2:(65536:Int)<(t.length:Int):=by omega
  refine gV ?_
  (refine⟨_,(by simp [*];rfl),?_⟩;(try simp only [packA]))
  rfl
 ·rw [if_neg h];have h2:¬ (65536:Int)<(t.length:Int):=by omega
  refine gV ?_
  (refine⟨_,(by simp [*];rfl),?_⟩;(try simp only [packA]))
  rfl
end
section
open Lx Ax Go.RowKit
attribute [local simp] stepS Ax.stepT Dl.on qstep astep estep rd putE over argE ofV ofS loadA pickCells isAggD faddA fieldA partA iaddA idxA bnd binA intA strA unA convA lenA mapOf lookA findK keyD scalD storeA mupA srcA srcD upd drp Dl.hp Dl.nx CV.cs CV.one buildA placesA fillA zrep tasA ifaceD eqA eqFs eqIs range2 copyA nbeq nble nblt decEq beqI bneI beqS bneS isED Int.ofNat_inj List.getElem?_map List.getElem?_eq_getElem Option.map_some ti_int ti_i64 ti_str ti_bool ti_Exs ti_Ex gd gdB callA resA op1
attribute [local simp] one1 drR drp nu1 nu2 nu3 nu4 nu5 nu6 nu7 nu8 nu9 nu10 nu11 nu12 nu13 bl_len
theorem rows1 (a b c d e:CV):rowsOf [a,b,c,d,e] 0 5 1=[[a,b,c,d,e]]:=rfl
attribute [local simp] rows1
namespace Lx
/-- What ref09 makes of an expression. -/
def exprT9 (e:Ex):Bytes×Nat:=if 32<exDeep e then ([],15) else if exFault e≠0 then ([],exFault e) else fitT (exText e)
end Lx
set_option maxRecDepth 10000 in
set_option maxHeartbeats 16000000 in
theorem rt_Expr0 (ce:List CV)(k n:Int)(o m:Bytes)(ks:List (List CV))(hce:ce=[.int .i64 k,.int .i64 n,.str o,.str m,.lst ks])(hpu:puL ce=true)(dp:Int)(fl:Nat)(T:Bytes)
  (hd:FCall1 Tryz.prog paG 18 [.agg ce] (.int .i64 dp)) (hf:FCall1 Tryz.prog paG 19 [.lst [ce]] (.int .i64 (fl:Int)))
  (hE:fl=0→FCall1 Tryz.prog paG 21 [.agg ce] (.str T)) :
  FCall1 Tryz.prog paG 7 [.agg ce] (if 32<dp then .tup [.str [],.int .i64 15] else if fl≠0 then .tup [.str [],.int .i64 (fl:Int)] else .tup [.str (fitT T).1,.int .i64 ((fitT T).2:Nat)]):=by
 refine FCall.one paG_pu (by simp only [puL,puV,hpu];rfl) (by split;rfl;split <;> rfl) ?_;refine FCall.ofBody Tryz.func7 rfl rfl fun nx=>?_
 subst hce;have hfit:=rt_fit T
 by_cases h0:32<dp
 ·rw [if_pos h0];clear hE hf hfit;refine gV ?_
  (first | refine AOpl.call1 rfl (by first | rfl | (simp [*];done)) (by simp [*]) (by kernel_rfl) (hd) ?_ | refine ASl.callg (by first | rfl | (simp [*];done)) (by simp [*]) (by kernel_rfl) (hd) ?_)
  refine gV ?_
  (refine⟨_,(by simp [*];rfl),?_⟩;(try simp only [packA]))
 ·rw [if_neg h0]
  by_cases h1:fl=0
  ·subst h1;rw [if_neg (by simp)];have hc:=hE rfl;clear hE;refine gV ?_
   (first | refine AOpl.call1 rfl (by first | rfl | (simp [*];done)) (by simp [*]) (by kernel_rfl) (hd) ?_ | refine ASl.callg (by first | rfl | (simp [*];done)) (by simp [*]) (by kernel_rfl) (hd) ?_)
   refine gV ?_;refine AOpl.frzT 9 (b:=nx+1) (cs:=[.int .i64 k,.int .i64 n,.str o,.str m,.lst ks]) (o:=0) (m:=1) (k:=5) (by first | (simp (disch:=omega) [putE,over,ofV,ofS, *];done) | (simp (disch:=omega) [putE,over,ofV,ofS, *];rfl)) (by simp [upd]) (by simp) ?_
   (first | refine AOpl.call1 rfl (by first | rfl | (simp [*];done)) (by simp [*]) (by kernel_rfl) (hf) ?_ | refine ASl.callg (by first | rfl | (simp [*];done)) (by simp [*]) (by kernel_rfl) (hf) ?_)
   refine gV ?_
   (first | refine AOpl.call1 rfl (by first | rfl | (simp [*];done)) (by simp [*]) (by kernel_rfl) (hc) ?_ | refine ASl.callg (by first | rfl | (simp [*];done)) (by simp [*]) (by kernel_rfl) (hc) ?_)
   refine gV ?_
   (first | refine AOpl.call1 rfl (by first | rfl | (simp [*];done)) (by simp [*]) (by kernel_rfl) (hfit) ?_ | refine ASl.callg (by first | rfl | (simp [*];done)) (by simp [*]) (by kernel_rfl) (hfit) ?_)
   refine gV ?_
   (refine⟨_,(by simp [*];rfl),?_⟩;(try simp only [packA]))
  ·rw [if_pos h1];have h2:¬ (fl:Int)=0:=by omega
   clear hE hfit;refine gV ?_
   (first | refine AOpl.call1 rfl (by first | rfl | (simp [*];done)) (by simp [*]) (by kernel_rfl) (hd) ?_ | refine ASl.callg (by first | rfl | (simp [*];done)) (by simp [*]) (by kernel_rfl) (hd) ?_)
   refine gV ?_;refine AOpl.frzT 9 (b:=nx+1) (cs:=[.int .i64 k,.int .i64 n,.str o,.str m,.lst ks]) (o:=0) (m:=1) (k:=5) (by first | (simp (disch:=omega) [putE,over,ofV,ofS, *];done) | (simp (disch:=omega) [putE,over,ofV,ofS, *];rfl)) (by simp [upd]) (by simp) ?_
   (first | refine AOpl.call1 rfl (by first | rfl | (simp [*];done)) (by simp [*]) (by kernel_rfl) (hf) ?_ | refine ASl.callg (by first | rfl | (simp [*];done)) (by simp [*]) (by kernel_rfl) (hf) ?_)
   refine gV ?_
   (refine⟨_,(by simp [*];rfl),?_⟩;(try simp only [packA]))
theorem rt_Expr (d:Nat)(e:Ex)(hl:LenE d e)(hB:ExB d e)(hs:exSz e≤2000000):FCall1 Tryz.prog paG 7 [.agg (cvE e)] (.tup [.str (exprT9 e).1,.int .i64 ((exprT9 e).2:Nat)]):=by
 have hf:=rs_faults d [e] (by simp) (by simpa using hl) (by simpa using hB);have he:exsFault [e]=exFault e:=by rw [exsFault_first];exact firstLim_one _ _
 rw [he] at hf;have h:=rt_Expr0 (cvE e) _ _ _ _ _ (cvE_eq e) (puE e) _ _ (exText e) (rs_depth d e hl) hf fun h0=>rt_E' (wfE_of (numB_of hB) h0) (by omega)
 unfold exprT9
 by_cases h1:32<exDeep e
 ·rw [if_pos h1] at h ⊢;exact h
 ·rw [if_neg h1] at h ⊢
  by_cases h2:exFault e≠0
  ·rw [if_pos h2] at h ⊢;exact h
  ·rw [if_neg h2] at h ⊢;exact h
end
end Go.Proofs.YtmlafcimjhnhhaaGreatDoor
