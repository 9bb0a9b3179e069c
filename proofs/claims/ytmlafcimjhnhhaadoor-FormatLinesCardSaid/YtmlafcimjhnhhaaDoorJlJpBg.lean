/-
  format's method walked.
-/
import Derived.Test.YtmlafcimjhnhhaaDoorJlJpBf
set_option linter.unusedSectionVars false
set_option linter.unusedSimpArgs false
set_option linter.unnecessarySimpa false
set_option linter.unusedVariables false
set_option linter.unusedSimpArgs false
set_option linter.unusedVariables false
namespace Go.Proofs.YtmlafcimjhnhhaaDoor
section
open Lx Ax Go.RowKit
attribute [local simp] stepS Ax.stepT Dl.on qstep astep estep rd putE over argE ofV ofS loadA pickCells isAggD faddA fieldA partA iaddA idxA bnd binA intA strA unA convA lenA mapOf lookA findK keyD scalD storeA mupA srcA srcD upd drp Dl.hp Dl.nx CV.cs CV.one buildA placesA fillA zrep tasA ifaceD eqA eqFs eqIs range2 copyA nbeq nble nblt decEq beqI bneI beqS bneS isED Int.ofNat_inj List.getElem?_map List.getElem?_eq_getElem Option.map_some ti_int ti_i64 ti_str ti_bool ti_u8 ti_Strs ti_Bld ti_Prn ti_Bys ti_Fld ti_Flds ti_Me ti_Sts gd gdB callA resA op1
attribute [local simp] one1 cvF_eq drR drp nu1 nu2 nu3 nu4 nu5 nu6 nu7 nu8 nu9 nu10 nu11 nu12 nu13 bl_len upd_upd wrp1
namespace Lx
theorem parP_eq:∀ (f:Fld) (l:List Fld),parP (f::l)=fldP f++l.flatMap fun f=>[[44,32]]++fldP f
 | f,[]=>by simp [parP]
 | f,g::l=>by rw [parP,parP_eq g l] <;> simp
def parT (es:List Fld)(i:Nat):List Bytes:=if i=0 then parP es else (es.drop i).flatMap fun f=>[[44,32]]++fldP f
theorem parT_step {es:List Fld}{i:Nat}(h:i<es.length):parT es i=(if i=0 then [] else [[44,32]])++fldP es[i]++parT es (i+1):=by
 unfold parT;rw [if_neg (by omega:¬ i+1=0)];split
 ·rename_i h0;subst h0;cases es with
  | nil=>simp at h
  | cons e l=>rw [parP_eq];simp
 ·rw [List.drop_eq_getElem_cons h,List.flatMap_cons]
  try simp
theorem parT_end {es:List Fld}{i:Nat}(h:¬ i<es.length):parT es i=[]:=by
 unfold parT;split
 ·rename_i h0;subst h0;cases es with
  | nil=>rfl
  | cons e l=>simp at h
 ·rw [List.drop_eq_nil_of_le (by omega)];rfl
theorem short_par {es:List Fld}(h:∀ f∈es,f.name.length≤1000∧f.typ.length≤1000):Short (parP es):=by
 have hf:∀ f∈es,Short (fldP f):=fun f hf=>Short.cons (h f hf).1 (Short.cons (by decide) (sh1 (h f hf).2))
 cases es with
 | nil=>exact Short.nil
 | cons e l =>
   rw [parP_eq];refine (hf e List.mem_cons_self).app fun s hs=>?_
   obtain⟨f,hm,hs⟩:=List.mem_flatMap.1 hs;exact (short1 (s:=[44,32])).app (hf f (List.mem_cons_of_mem _ hm)) s hs
end Lx
set_option maxRecDepth 10000 in
set_option maxHeartbeats 16000000 in
theorem fm_m_00 (n:Int)(hn:n≤9223372036854775807){nm:Bytes}(hnm:nm.length≤1000){ps:List Fld}(hpl:ps.length≤9223372036854775807)(hps:∀ f∈ps,f.name.length≤1000∧f.typ.length≤1000){bs:List (List CV)}{psB:List Bytes}(hB:PC 51 [.lst bs,.int .i64 (IntKind.i64.wrap (n+1))] psB)(hsB:Short psB):PC 27 [.agg [.str nm,.bool false,.lst (ps.map cvF),.str [],.lst bs],.int .i64 n] (tbP n++[[100,101,102,32],nm,[40]]++parP ps++[[41]]++[[32,123,10]]++psB++tbP n++[[125,10]]):=by
 intro b c H nx T hT hp;have s0:=PZ.start hp hT (.cells [.str nm,.bool false,.lst (ps.map cvF),.str [],.lst bs]);clear hp hT;simp only [put_app];refine ACall.of_body Tryd.func27 rfl ?_;refine gU ?_;refine s0.call (fm_tabs n hn) (short_tb n) ?_;rintro c1 H1 n1 s1 ⟨x1,_⟩;clear s0;refine gU ?_;refine s1.reg 7 ?_;rintro⟨bl,_⟩;refine gX ?_;refine s1.putX [[100,101,102,32],nm,[40]] (Short.cons (a:=[100,101,102,32]) (by decide) (Short.cons (a:=nm) hnm (Short.cons (a:=[40]) (by decide) Short.nil))) ?_;rintro c2 H2 n2 s2 ⟨x2,_⟩;refine gX ?_;clear s1 x1 bl;refine gU ?_;have hR0:parP ps=[]++parT ps 0:=by simp [parT]
 refine AWp.countO ps.length [6,7,30] 31 (fun i v H1 nx1=>v 30=.int .i64 i∧∃ pre c',parP ps=pre++parT ps i∧PZ b c H nx [(nx,.cells [.str nm,.bool false,.lst (ps.map cvF),.str [],.lst bs])] c' H1 nx1 (put (put (put T (tbP n)) [[100,101,102,32],nm,[40]]) pre)) ⟨by simp [putE,over],[],_,hR0,s2⟩ ?_;clear hR0 s2 x2;rintro i v HL nxL hi hn1 ⟨h30,pre,cL,hR,sL⟩
 by_cases hb:i<ps.length
 ·have hwi:=up1 hb (by omega);rw [parT_step hb] at hR;obtain⟨l1,l2⟩:=hps _ (List.getElem_mem hb);have xL:=sL.o.1.at';have q:=sL.box (.cells [.str ps[i].name,.str ps[i].typ]);have xM:=q.o.2.1.at';clear hn1 hps hB sL
  by_cases h0:i=0
  ·rw [if_pos h0,List.nil_append,← List.append_assoc] at hR;subst h0;refine gU ?_;refine q.reg 9 ?_;rintro⟨bl,bm,_⟩;refine gX ?_;refine q.putX [ps[0].name,[58,32],ps[0].typ] (Short.cons (a:=ps[0].name) l1 (Short.cons (a:=[58,32]) (by decide) (Short.cons (a:=ps[0].typ) l2 Short.nil))) ?_;rintro c3 H3 n3 s3 ⟨x3,y3,_⟩;refine gX ?_;clear q bl bm;refine gU ?_;exact⟨by ((repeat (first | exact Keeps.base _ _ _ _ | (with_reducible exact Keeps.refl _ _ _) | (refine Keeps.put rfl ?_) | (refine Keeps.over' rfl rfl ?_)))),hb,by simp [putE,over],pre++fldP ps[0],_,hR,by rw [put_app];exact s3.tail⟩
  ·rw [if_neg h0] at hR;have h0':(0:Int)<(i:Int):=by omega
   have h0'':0<i:=by omega
   refine gU ?_;refine q.put [[44,32]] (Short.cons (a:=[44,32]) (by decide) Short.nil) ?_;rintro c4 H4 n4 s4 ⟨x4,y4,_⟩;clear q;refine gU ?_;refine s4.reg 9 ?_;rintro⟨bl,bm,_⟩;refine gX ?_;refine s4.putX [ps[i].name,[58,32],ps[i].typ] (Short.cons (a:=ps[i].name) l1 (Short.cons (a:=[58,32]) (by decide) (Short.cons (a:=ps[i].typ) l2 Short.nil))) ?_;rintro c5 H5 n5 s5 ⟨x5,y5,_⟩;refine gX ?_;clear s4 x4 y4 bl bm;refine gU ?_;exact⟨by ((repeat (first | exact Keeps.base _ _ _ _ | (with_reducible exact Keeps.refl _ _ _) | (refine Keeps.put rfl ?_) | (refine Keeps.over' rfl rfl ?_)))),hb,by simp [putE,over],pre++[[44,32]]++fldP ps[i],_,by rw [hR];simp,by rw [put_app,put_app];exact s5.tail⟩
 ·rw [parT_end hb,List.append_nil] at hR;rw [← hR] at sL;have xL:=sL.o.1.at';clear hn1 hps;refine gU ?_;refine sL.put [[41]] (Short.cons (a:=[41]) (by decide) Short.nil) ?_;rintro c6 H6 n6 s6 ⟨x6,_⟩;clear sL xL;refine gU ?_;refine s6.put [[32,123,10]] (Short.cons (a:=[32,123,10]) (by decide) Short.nil) ?_;rintro c7 H7 n7 s7 ⟨x7,_⟩;clear s6 x6;refine gU ?_;refine s7.call (hB) hsB ?_;rintro c8 H8 n8 s8 ⟨x8,_⟩;clear s7 x7;refine gU ?_;refine s8.call (fm_tabs n hn) (short_tb n) ?_;rintro c9 H9 n9 s9 ⟨x9,_⟩;clear s8 x8;refine gU ?_;refine s9.put [[125,10]] (Short.cons (a:=[125,10]) (by decide) Short.nil) ?_;rintro c10 H10 n10 s10 ⟨x10,_⟩;clear s9 x9;refine gU ?_
  (refine⟨_,(by simp [*];rfl),?_⟩;(try simp only [packA]))
  exact⟨rfl,_,s10.p,s10.f⟩
set_option maxRecDepth 10000 in
set_option maxHeartbeats 16000000 in
theorem fm_m_01 (n:Int)(hn:n≤9223372036854775807){nm rs:Bytes}(hnm:nm.length≤1000)(hrs:rs.length≤1000)(hr0:rs≠[]){ps:List Fld}(hpl:ps.length≤9223372036854775807)(hps:∀ f∈ps,f.name.length≤1000∧f.typ.length≤1000){bs:List (List CV)}{psB:List Bytes}(hB:PC 51 [.lst bs,.int .i64 (IntKind.i64.wrap (n+1))] psB)(hsB:Short psB):PC 27 [.agg [.str nm,.bool false,.lst (ps.map cvF),.str rs,.lst bs],.int .i64 n] (tbP n++[[100,101,102,32],nm,[40]]++parP ps++[[41]]++[[58,32],rs]++[[32,123,10]]++psB++tbP n++[[125,10]]):=by
 intro b c H nx T hT hp;have s0:=PZ.start hp hT (.cells [.str nm,.bool false,.lst (ps.map cvF),.str rs,.lst bs]);clear hp hT;simp only [put_app];refine ACall.of_body Tryd.func27 rfl ?_;refine gU ?_;refine s0.call (fm_tabs n hn) (short_tb n) ?_;rintro c1 H1 n1 s1 ⟨x1,_⟩;clear s0;refine gU ?_;refine s1.reg 7 ?_;rintro⟨bl,_⟩;refine gX ?_;refine s1.putX [[100,101,102,32],nm,[40]] (Short.cons (a:=[100,101,102,32]) (by decide) (Short.cons (a:=nm) hnm (Short.cons (a:=[40]) (by decide) Short.nil))) ?_;rintro c2 H2 n2 s2 ⟨x2,_⟩;refine gX ?_;clear s1 x1 bl;refine gU ?_;have hR0:parP ps=[]++parT ps 0:=by simp [parT]
 refine AWp.countO ps.length [6,7,30] 31 (fun i v H1 nx1=>v 30=.int .i64 i∧∃ pre c',parP ps=pre++parT ps i∧PZ b c H nx [(nx,.cells [.str nm,.bool false,.lst (ps.map cvF),.str rs,.lst bs])] c' H1 nx1 (put (put (put T (tbP n)) [[100,101,102,32],nm,[40]]) pre)) ⟨by simp [putE,over],[],_,hR0,s2⟩ ?_;clear hR0 s2 x2;rintro i v HL nxL hi hn1 ⟨h30,pre,cL,hR,sL⟩
 by_cases hb:i<ps.length
 ·have hwi:=up1 hb (by omega);rw [parT_step hb] at hR;obtain⟨l1,l2⟩:=hps _ (List.getElem_mem hb);have xL:=sL.o.1.at';have q:=sL.box (.cells [.str ps[i].name,.str ps[i].typ]);have xM:=q.o.2.1.at';clear hn1 hps hB sL
  by_cases h0:i=0
  ·rw [if_pos h0,List.nil_append,← List.append_assoc] at hR;subst h0;refine gU ?_;refine q.reg 9 ?_;rintro⟨bl,bm,_⟩;refine gX ?_;refine q.putX [ps[0].name,[58,32],ps[0].typ] (Short.cons (a:=ps[0].name) l1 (Short.cons (a:=[58,32]) (by decide) (Short.cons (a:=ps[0].typ) l2 Short.nil))) ?_;rintro c3 H3 n3 s3 ⟨x3,y3,_⟩;refine gX ?_;clear q bl bm;refine gU ?_;exact⟨by ((repeat (first | exact Keeps.base _ _ _ _ | (with_reducible exact Keeps.refl _ _ _) | (refine Keeps.put rfl ?_) | (refine Keeps.over' rfl rfl ?_)))),hb,by simp [putE,over],pre++fldP ps[0],_,hR,by rw [put_app];exact s3.tail⟩
  ·rw [if_neg h0] at hR;have h0':(0:Int)<(i:Int):=by omega
   have h0'':0<i:=by omega
   refine gU ?_;refine q.put [[44,32]] (Short.cons (a:=[44,32]) (by decide) Short.nil) ?_;rintro c4 H4 n4 s4 ⟨x4,y4,_⟩;clear q;refine gU ?_;refine s4.reg 9 ?_;rintro⟨bl,bm,_⟩;refine gX ?_;refine s4.putX [ps[i].name,[58,32],ps[i].typ] (Short.cons (a:=ps[i].name) l1 (Short.cons (a:=[58,32]) (by decide) (Short.cons (a:=ps[i].typ) l2 Short.nil))) ?_;rintro c5 H5 n5 s5 ⟨x5,y5,_⟩;refine gX ?_;clear s4 x4 y4 bl bm;refine gU ?_;exact⟨by ((repeat (first | exact Keeps.base _ _ _ _ | (with_reducible exact Keeps.refl _ _ _) | (refine Keeps.put rfl ?_) | (refine Keeps.over' rfl rfl ?_)))),hb,by simp [putE,over],pre++[[44,32]]++fldP ps[i],_,by rw [hR];simp,by rw [put_app,put_app];exact s5.tail⟩
 ·rw [parT_end hb,List.append_nil] at hR;rw [← hR] at sL;have xL:=sL.o.1.at';clear hn1 hps;refine gU ?_;refine sL.put [[41]] (Short.cons (a:=[41]) (by decide) Short.nil) ?_;rintro c6 H6 n6 s6 ⟨x6,_⟩;clear sL xL;refine gU ?_;refine s6.reg 7 ?_;rintro⟨bl,_⟩;refine gX ?_;refine s6.putX [[58,32],rs] (Short.cons (a:=[58,32]) (by decide) (Short.cons (a:=rs) hrs Short.nil)) ?_;rintro c7 H7 n7 s7 ⟨x7,_⟩;refine gX ?_;clear s6 x6 bl;refine gU ?_;refine s7.put [[32,123,10]] (Short.cons (a:=[32,123,10]) (by decide) Short.nil) ?_;rintro c8 H8 n8 s8 ⟨x8,_⟩;clear s7 x7;refine gU ?_;refine s8.call (hB) hsB ?_;rintro c9 H9 n9 s9 ⟨x9,_⟩;clear s8 x8;refine gU ?_;refine s9.call (fm_tabs n hn) (short_tb n) ?_;rintro c10 H10 n10 s10 ⟨x10,_⟩;clear s9 x9;refine gU ?_;refine s10.put [[125,10]] (Short.cons (a:=[125,10]) (by decide) Short.nil) ?_;rintro c11 H11 n11 s11 ⟨x11,_⟩;clear s10 x10;refine gU ?_
  (refine⟨_,(by simp [*];rfl),?_⟩;(try simp only [packA]))
  exact⟨rfl,_,s11.p,s11.f⟩
set_option maxRecDepth 10000 in
set_option maxHeartbeats 16000000 in
theorem fm_m_10 (n:Int)(hn:n≤9223372036854775807){nm:Bytes}(hnm:nm.length≤1000){ps:List Fld}(hpl:ps.length≤9223372036854775807)(hps:∀ f∈ps,f.name.length≤1000∧f.typ.length≤1000){bs:List (List CV)}{psB:List Bytes}(hB:PC 51 [.lst bs,.int .i64 (IntKind.i64.wrap (n+1))] psB)(hsB:Short psB):PC 27 [.agg [.str nm,.bool true,.lst (ps.map cvF),.str [],.lst bs],.int .i64 n] (tbP n++[[115,116,97,116,105,99,32]]++[[100,101,102,32],nm,[40]]++parP ps++[[41]]++[[32,123,10]]++psB++tbP n++[[125,10]]):=by
 intro b c H nx T hT hp;have s0:=PZ.start hp hT (.cells [.str nm,.bool true,.lst (ps.map cvF),.str [],.lst bs]);clear hp hT;simp only [put_app];refine ACall.of_body Tryd.func27 rfl ?_;refine gU ?_;refine s0.call (fm_tabs n hn) (short_tb n) ?_;rintro c1 H1 n1 s1 ⟨x1,_⟩;clear s0;refine gU ?_;refine s1.put [[115,116,97,116,105,99,32]] (Short.cons (a:=[115,116,97,116,105,99,32]) (by decide) Short.nil) ?_;rintro c2 H2 n2 s2 ⟨x2,_⟩;clear s1 x1;refine gU ?_;refine s2.reg 7 ?_;rintro⟨bl,_⟩;refine gX ?_;refine s2.putX [[100,101,102,32],nm,[40]] (Short.cons (a:=[100,101,102,32]) (by decide) (Short.cons (a:=nm) hnm (Short.cons (a:=[40]) (by decide) Short.nil))) ?_;rintro c3 H3 n3 s3 ⟨x3,_⟩;refine gX ?_;clear s2 x2 bl;refine gU ?_;have hR0:parP ps=[]++parT ps 0:=by simp [parT]
 refine AWp.countO ps.length [6,7,30] 31 (fun i v H1 nx1=>v 30=.int .i64 i∧∃ pre c',parP ps=pre++parT ps i∧PZ b c H nx [(nx,.cells [.str nm,.bool true,.lst (ps.map cvF),.str [],.lst bs])] c' H1 nx1 (put (put (put (put T (tbP n)) [[115,116,97,116,105,99,32]]) [[100,101,102,32],nm,[40]]) pre)) ⟨by simp [putE,over],[],_,hR0,s3⟩ ?_;clear hR0 s3 x3;rintro i v HL nxL hi hn1 ⟨h30,pre,cL,hR,sL⟩
 by_cases hb:i<ps.length
 ·have hwi:=up1 hb (by omega);rw [parT_step hb] at hR;obtain⟨l1,l2⟩:=hps _ (List.getElem_mem hb);have xL:=sL.o.1.at';have q:=sL.box (.cells [.str ps[i].name,.str ps[i].typ]);have xM:=q.o.2.1.at';clear hn1 hps hB sL
  by_cases h0:i=0
  ·rw [if_pos h0,List.nil_append,← List.append_assoc] at hR;subst h0;refine gU ?_;refine q.reg 9 ?_;rintro⟨bl,bm,_⟩;refine gX ?_;refine q.putX [ps[0].name,[58,32],ps[0].typ] (Short.cons (a:=ps[0].name) l1 (Short.cons (a:=[58,32]) (by decide) (Short.cons (a:=ps[0].typ) l2 Short.nil))) ?_;rintro c4 H4 n4 s4 ⟨x4,y4,_⟩;refine gX ?_;clear q bl bm;refine gU ?_;exact⟨by ((repeat (first | exact Keeps.base _ _ _ _ | (with_reducible exact Keeps.refl _ _ _) | (refine Keeps.put rfl ?_) | (refine Keeps.over' rfl rfl ?_)))),hb,by simp [putE,over],pre++fldP ps[0],_,hR,by rw [put_app];exact s4.tail⟩
  ·rw [if_neg h0] at hR;have h0':(0:Int)<(i:Int):=by omega
   have h0'':0<i:=by omega
   refine gU ?_;refine q.put [[44,32]] (Short.cons (a:=[44,32]) (by decide) Short.nil) ?_;rintro c5 H5 n5 s5 ⟨x5,y5,_⟩;clear q;refine gU ?_;refine s5.reg 9 ?_;rintro⟨bl,bm,_⟩;refine gX ?_;refine s5.putX [ps[i].name,[58,32],ps[i].typ] (Short.cons (a:=ps[i].name) l1 (Short.cons (a:=[58,32]) (by decide) (Short.cons (a:=ps[i].typ) l2 Short.nil))) ?_;rintro c6 H6 n6 s6 ⟨x6,y6,_⟩;refine gX ?_;clear s5 x5 y5 bl bm;refine gU ?_;exact⟨by ((repeat (first | exact Keeps.base _ _ _ _ | (with_reducible exact Keeps.refl _ _ _) | (refine Keeps.put rfl ?_) | (refine Keeps.over' rfl rfl ?_)))),hb,by simp [putE,over],pre++[[44,32]]++fldP ps[i],_,by rw [hR];simp,by rw [put_app,put_app];exact s6.tail⟩
 ·rw [parT_end hb,List.append_nil] at hR;rw [← hR] at sL;have xL:=sL.o.1.at';clear hn1 hps;refine gU ?_;refine sL.put [[41]] (Short.cons (a:=[41]) (by decide) Short.nil) ?_;rintro c7 H7 n7 s7 ⟨x7,_⟩;clear sL xL;refine gU ?_;refine s7.put [[32,123,10]] (Short.cons (a:=[32,123,10]) (by decide) Short.nil) ?_;rintro c8 H8 n8 s8 ⟨x8,_⟩;clear s7 x7;refine gU ?_;refine s8.call (hB) hsB ?_;rintro c9 H9 n9 s9 ⟨x9,_⟩;clear s8 x8;refine gU ?_;refine s9.call (fm_tabs n hn) (short_tb n) ?_;rintro c10 H10 n10 s10 ⟨x10,_⟩;clear s9 x9;refine gU ?_;refine s10.put [[125,10]] (Short.cons (a:=[125,10]) (by decide) Short.nil) ?_;rintro c11 H11 n11 s11 ⟨x11,_⟩;clear s10 x10;refine gU ?_
  (refine⟨_,(by simp [*];rfl),?_⟩;(try simp only [packA]))
  exact⟨rfl,_,s11.p,s11.f⟩
set_option maxRecDepth 10000 in
set_option maxHeartbeats 16000000 in
theorem fm_m_11 (n:Int)(hn:n≤9223372036854775807){nm rs:Bytes}(hnm:nm.length≤1000)(hrs:rs.length≤1000)(hr0:rs≠[]){ps:List Fld}(hpl:ps.length≤9223372036854775807)(hps:∀ f∈ps,f.name.length≤1000∧f.typ.length≤1000){bs:List (List CV)}{psB:List Bytes}(hB:PC 51 [.lst bs,.int .i64 (IntKind.i64.wrap (n+1))] psB)(hsB:Short psB):PC 27 [.agg [.str nm,.bool true,.lst (ps.map cvF),.str rs,.lst bs],.int .i64 n] (tbP n++[[115,116,97,116,105,99,32]]++[[100,101,102,32],nm,[40]]++parP ps++[[41]]++[[58,32],rs]++[[32,123,10]]++psB++tbP n++[[125,10]]):=by
 intro b c H nx T hT hp;have s0:=PZ.start hp hT (.cells [.str nm,.bool true,.lst (ps.map cvF),.str rs,.lst bs]);clear hp hT;simp only [put_app];refine ACall.of_body Tryd.func27 rfl ?_;refine gU ?_;refine s0.call (fm_tabs n hn) (short_tb n) ?_;rintro c1 H1 n1 s1 ⟨x1,_⟩;clear s0;refine gU ?_;refine s1.put [[115,116,97,116,105,99,32]] (Short.cons (a:=[115,116,97,116,105,99,32]) (by decide) Short.nil) ?_;rintro c2 H2 n2 s2 ⟨x2,_⟩;clear s1 x1;refine gU ?_;refine s2.reg 7 ?_;rintro⟨bl,_⟩;refine gX ?_;refine s2.putX [[100,101,102,32],nm,[40]] (Short.cons (a:=[100,101,102,32]) (by decide) (Short.cons (a:=nm) hnm (Short.cons (a:=[40]) (by decide) Short.nil))) ?_;rintro c3 H3 n3 s3 ⟨x3,_⟩;refine gX ?_;clear s2 x2 bl;refine gU ?_;have hR0:parP ps=[]++parT ps 0:=by simp [parT]
 refine AWp.countO ps.length [6,7,30] 31 (fun i v H1 nx1=>v 30=.int .i64 i∧∃ pre c',parP ps=pre++parT ps i∧PZ b c H nx [(nx,.cells [.str nm,.bool true,.lst (ps.map cvF),.str rs,.lst bs])] c' H1 nx1 (put (put (put (put T (tbP n)) [[115,116,97,116,105,99,32]]) [[100,101,102,32],nm,[40]]) pre)) ⟨by simp [putE,over],[],_,hR0,s3⟩ ?_;clear hR0 s3 x3;rintro i v HL nxL hi hn1 ⟨h30,pre,cL,hR,sL⟩
 by_cases hb:i<ps.length
 ·have hwi:=up1 hb (by omega);rw [parT_step hb] at hR;obtain⟨l1,l2⟩:=hps _ (List.getElem_mem hb);have xL:=sL.o.1.at';have q:=sL.box (.cells [.str ps[i].name,.str ps[i].typ]);have xM:=q.o.2.1.at';clear hn1 hps hB sL
  by_cases h0:i=0
  ·rw [if_pos h0,List.nil_append,← List.append_assoc] at hR;subst h0;refine gU ?_;refine q.reg 9 ?_;rintro⟨bl,bm,_⟩;refine gX ?_;refine q.putX [ps[0].name,[58,32],ps[0].typ] (Short.cons (a:=ps[0].name) l1 (Short.cons (a:=[58,32]) (by decide) (Short.cons (a:=ps[0].typ) l2 Short.nil))) ?_;rintro c4 H4 n4 s4 ⟨x4,y4,_⟩;refine gX ?_;clear q bl bm;refine gU ?_;exact⟨by ((repeat (first | exact Keeps.base _ _ _ _ | (with_reducible exact Keeps.refl _ _ _) | (refine Keeps.put rfl ?_) | (refine Keeps.over' rfl rfl ?_)))),hb,by simp [putE,over],pre++fldP ps[0],_,hR,by rw [put_app];exact s4.tail⟩
  ·rw [if_neg h0] at hR;have h0':(0:Int)<(i:Int):=by omega
   have h0'':0<i:=by omega
   refine gU ?_;refine q.put [[44,32]] (Short.cons (a:=[44,32]) (by decide) Short.nil) ?_;rintro c5 H5 n5 s5 ⟨x5,y5,_⟩;clear q;refine gU ?_;refine s5.reg 9 ?_;rintro⟨bl,bm,_⟩;refine gX ?_;refine s5.putX [ps[i].name,[58,32],ps[i].typ] (Short.cons (a:=ps[i].name) l1 (Short.cons (a:=[58,32]) (by decide) (Short.cons (a:=ps[i].typ) l2 Short.nil))) ?_;rintro c6 H6 n6 s6 ⟨x6,y6,_⟩;refine gX ?_;clear s5 x5 y5 bl bm;refine gU ?_;exact⟨by ((repeat (first | exact Keeps.base _ _ _ _ | (with_reducible exact Keeps.refl _ _ _) | (refine Keeps.put rfl ?_) | (refine Keeps.over' rfl rfl ?_)))),hb,by simp [putE,over],pre++[[44,32]]++fldP ps[i],_,by rw [hR];simp,by rw [put_app,put_app];exact s6.tail⟩
 ·rw [parT_end hb,List.append_nil] at hR;rw [← hR] at sL;have xL:=sL.o.1.at';clear hn1 hps;refine gU ?_;refine sL.put [[41]] (Short.cons (a:=[41]) (by decide) Short.nil) ?_;rintro c7 H7 n7 s7 ⟨x7,_⟩;clear sL xL;refine gU ?_;refine s7.reg 7 ?_;rintro⟨bl,_⟩;refine gX ?_;refine s7.putX [[58,32],rs] (Short.cons (a:=[58,32]) (by decide) (Short.cons (a:=rs) hrs Short.nil)) ?_;rintro c8 H8 n8 s8 ⟨x8,_⟩;refine gX ?_;clear s7 x7 bl;refine gU ?_;refine s8.put [[32,123,10]] (Short.cons (a:=[32,123,10]) (by decide) Short.nil) ?_;rintro c9 H9 n9 s9 ⟨x9,_⟩;clear s8 x8;refine gU ?_;refine s9.call (hB) hsB ?_;rintro c10 H10 n10 s10 ⟨x10,_⟩;clear s9 x9;refine gU ?_;refine s10.call (fm_tabs n hn) (short_tb n) ?_;rintro c11 H11 n11 s11 ⟨x11,_⟩;clear s10 x10;refine gU ?_;refine s11.put [[125,10]] (Short.cons (a:=[125,10]) (by decide) Short.nil) ?_;rintro c12 H12 n12 s12 ⟨x12,_⟩;clear s11 x11;refine gU ?_
  (refine⟨_,(by simp [*];rfl),?_⟩;(try simp only [packA]))
  exact⟨rfl,_,s12.p,s12.f⟩
end
section
open Lx Ax Go.RowKit
namespace Lx
def meP (n:Int)(m:Me):List Bytes:=tbP n++(if m.static then [[115,116,97,116,105,99,32]] else [])++[[100,101,102,32],m.name,[40]]++parP m.params++[[41]]++(if m.result=[] then [] else [[58,32],m.result])++[[32,123,10]]++stsP (IntKind.i64.wrap (n+1)) m.body++tbP n++[[125,10]]
theorem meP_text (n:Nat)(m:Me)(h:n+1+stsNest m.body≤9223372036854775807):(meP n m).flatten=meText n m:=by
 unfold meP meText;rw [wrap_up (by omega)];have h1:=tbP_text n;have h2:=parP_text m.params;have h3:=stsP_text (n+1) m.body (by omega);generalize n+1=k at h3 ⊢;split <;> split <;> simp [h1,h2,h3]
theorem fld_short {l:List Fld}(h:∀ f∈l,WfF f):∀ f∈l,f.name.length≤1000∧f.typ.length≤1000:=fun f hf=>⟨ident_short (h f hf).1,typ_short (h f hf).2⟩
theorem res_short {r:Bytes}(h:r=[]∨WfT r):r.length≤1000:=by
 rcases h with rfl | h
 ·decide
 ·exact typ_short h
theorem short_meP {n:Int}{m:Me}(h:WfM m):Short (meP n m):=by
 unfold meP;have hb:Short (stsP (IntKind.i64.wrap (n+1)) m.body):=short_stsP fun s hs=>short_stP (h.body s hs) _
 have hp:=short_par (fld_short h.params);have hn:=ident_short h.name;have hr:=res_short h.result;split <;> split <;> (repeat' first | exact short_tb _ | assumption | exact Short.nil | refine Short.app ?_ ?_ | refine Short.cons ?_ ?_ | decide)
end Lx
theorem fm_method (d:Nat)(n:Int)(h9:n≤9223372036854775807)(m:Me)(hw:WfM m)(hl:m.body.length≤9223372036854775807)(hd:∀ s∈m.body,LenS d s)(hp:m.params.length≤9223372036854775807):PC 27 [.agg (cvM m),.int .i64 n] (meP n m):=by
 have bk:PC 51 [.lst (m.body.map cvS),.int .i64 (IntKind.i64.wrap (n+1))] (stsP (IntKind.i64.wrap (n+1)) m.body) :=
  fm_block _ m.body hl (fun s hs=>fm_stmt d _ (wrap_max _) s (hd s hs) (hw.body s hs)) (fun s hs=>short_stP (hw.body s hs) _)
 have sb:Short (stsP (IntKind.i64.wrap (n+1)) m.body):=short_stsP fun s hs=>short_stP (hw.body s hs) _
 have hn:=ident_short hw.name;have hr:=res_short hw.result;have hf:=fld_short hw.params;clear hw;rw [cvM_eq];obtain⟨nm,st,ps,rs,bd⟩:=m;dsimp only at *;unfold meP
 by_cases h:rs=[]
 ·subst h;cases st
  ·simpa using fm_m_00 n h9 hn hp hf bk sb
  ·simpa using fm_m_10 n h9 hn hp hf bk sb
 ·cases st
  ·simpa [h] using fm_m_01 n h9 hn hr h hp hf bk sb
  ·simpa [h] using fm_m_11 n h9 hn hr h hp hf bk sb
end
section
open Lx Ax Go.RowKit
attribute [local simp] stepS Ax.stepT Dl.on qstep astep estep rd putE over argE ofV ofS loadA pickCells isAggD faddA fieldA partA iaddA idxA bnd binA intA strA unA convA lenA mapOf lookA findK keyD scalD storeA mupA srcA srcD upd drp Dl.hp Dl.nx CV.cs CV.one buildA placesA fillA zrep tasA ifaceD eqA eqFs eqIs range2 copyA nbeq nble nblt decEq beqI bneI beqS bneS isED Int.ofNat_inj List.getElem?_map List.getElem?_eq_getElem Option.map_some ti_int ti_i64 ti_str ti_bool ti_u8 ti_Strs ti_Bld ti_Prn ti_Bys ti_Fld ti_Flds ti_Me ti_Mes ti_Sts ti_Cl gd gdB callA resA op1
attribute [local simp] one1 cvF_eq cvM_eq drR drp nu1 nu2 nu3 nu4 nu5 nu6 nu7 nu8 nu9 nu10 nu11 nu12 nu13 bl_len upd_upd wrp1
namespace Lx
def fsP (l:List Fld):List Bytes:=l.flatMap fun f=>[[9,118,97,114,32],f.name,[58,32],f.typ,[59,10]]
def msP (l:List Me):List Bytes:=l.flatMap (meP 1)
theorem fsP_take {l:List Fld}{i:Nat}(h:i<l.length):fsP (l.take (i+1))=fsP (l.take i)++[[9,118,97,114,32],l[i].name,[58,32],l[i].typ,[59,10]]:=by
 unfold fsP;rw [List.take_succ_eq_append_getElem h,List.flatMap_append];simp
theorem msP_take {l:List Me}{i:Nat}(h:i<l.length):msP (l.take (i+1))=msP (l.take i)++meP 1 l[i]:=by
 unfold msP;rw [List.take_succ_eq_append_getElem h,List.flatMap_append];simp
theorem short_fs {l:List Fld}(h:∀ f∈l,f.name.length≤1000∧f.typ.length≤1000):Short (fsP l):=fun s hs=>by
 obtain⟨f,hf,hs⟩:=List.mem_flatMap.1 hs;exact (Short.cons (by decide) (Short.cons (h f hf).1 (Short.cons (by decide) (Short.cons (h f hf).2 (sh1 (by decide))))):Short [[9,118,97,114,32],f.name,[58,32],f.typ,[59,10]]) s hs
theorem short_ms {l:List Me}(h:∀ m∈l,Short (meP 1 m)):Short (msP l):=fun s hs=>by
 obtain⟨f,hf,hs⟩:=List.mem_flatMap.1 hs;exact h f hf s hs
end Lx
set_option maxRecDepth 10000 in
set_option maxHeartbeats 16000000 in
theorem fm_c_0 {nm:Bytes}(hnm:nm.length≤1000){fs:List Fld}{ms:List Me}(hfl:fs.length≤9223372036854775807)(hml:ms.length≤9223372036854775807)(hfs:∀ f∈fs,f.name.length≤1000∧f.typ.length≤1000)(hms:∀ m∈ms,Short (meP 1 m))(hM:∀ m∈ms,PC 27 [.agg (cvM m),.int .i64 1] (meP 1 m)):PC 16 [.agg [.str nm,.str [],.lst (fs.map cvF),.lst (ms.map cvM)]] ([[99,108,97,115,115,32],nm]++[[32,123,10]]++fsP fs++msP ms++[[125,10]]):=by
 intro b c H nx T hT hp;have s0:=PZ.start hp hT (.cells [.str nm,.str [],.lst (fs.map cvF),.lst (ms.map cvM)]);clear hp hT;simp only [put_app];refine ACall.of_body Tryd.func16 rfl ?_;refine gU ?_;refine s0.reg 7 ?_;rintro⟨bl,_⟩;refine gX ?_;refine s0.putX [[99,108,97,115,115,32],nm] (Short.cons (a:=[99,108,97,115,115,32]) (by decide) (Short.cons (a:=nm) hnm Short.nil)) ?_;rintro c1 H1 n1 s1 ⟨x1,_⟩;refine gX ?_;clear s0 bl;refine gU ?_;refine s1.put [[32,123,10]] (Short.cons (a:=[32,123,10]) (by decide) Short.nil) ?_;rintro c2 H2 n2 s2 ⟨x2,_⟩;clear s1 x1;refine gU ?_;refine AWp.countO fs.length [5,33] 34 (fun i v H1 nx1=>v 33=.int .i64 i∧∃ c',PZ b c H nx [(nx,.cells [.str nm,.str [],.lst (fs.map cvF),.lst (ms.map cvM)])] c' H1 nx1 (put (put (put T [[99,108,97,115,115,32],nm]) [[32,123,10]]) (fsP (fs.take i)))) ⟨by simp [putE,over],_,by simpa [fsP,put] using s2⟩ ?_;clear s2 x2;rintro i v HL nxL hi hn1 ⟨h33,cL,sL⟩
 by_cases hb:i<fs.length
 ·have hwi:=up1 hb (by omega);obtain⟨l1,l2⟩:=hfs _ (List.getElem_mem hb);have hsu9:=fsP_take hb;have xL:=sL.o.1.at';have q:=sL.box (.cells [.str fs[i].name,.str fs[i].typ]);have xM:=q.o.2.1.at';clear hn1 hfs hms hM sL;refine gU ?_;refine q.reg 9 ?_;rintro⟨bl,bm,_⟩;refine gX ?_;refine q.putX [[9,118,97,114,32],fs[i].name,[58,32],fs[i].typ,[59,10]] (Short.cons (a:=[9,118,97,114,32]) (by decide) (Short.cons (a:=fs[i].name) l1 (Short.cons (a:=[58,32]) (by decide) (Short.cons (a:=fs[i].typ) l2 (Short.cons (a:=[59,10]) (by decide) Short.nil))))) ?_;rintro c3 H3 n3 s3 ⟨x3,y3,_⟩;refine gX ?_;clear q bl bm;refine gU ?_;exact⟨by ((repeat (first | exact Keeps.base _ _ _ _ | (with_reducible exact Keeps.refl _ _ _) | (refine Keeps.put rfl ?_) | (refine Keeps.over' rfl rfl ?_)))),hb,by simp [putE,over],_,by rw [hsu9,put_app];exact s3.tail⟩
 ·obtain rfl:i=fs.length:=by omega
  rw [List.take_length] at sL;have xL:=sL.o.1.at';clear hn1 hfs;refine gU ?_;refine AWp.countO ms.length [7,50] 51 (fun i v H1 nx1=>v 50=.int .i64 i∧∃ c',PZ b c H nx [(nx,.cells [.str nm,.str [],.lst (fs.map cvF),.lst (ms.map cvM)])] c' H1 nx1 (put (put (put (put T [[99,108,97,115,115,32],nm]) [[32,123,10]]) (fsP fs)) (msP (ms.take i)))) ⟨by simp [putE,over],_,by simpa [msP,put] using sL⟩ ?_;clear sL xL h33 hi hb;rintro i v2 HM nxM hi hn1 ⟨h50,cM,sM⟩
  by_cases hb:i<ms.length
  ·have hwi:=up1 hb (by omega);have hsu9:=msP_take hb;have hc:=hM _ (List.getElem_mem hb);have hs9:=hms _ (List.getElem_mem hb);rw [cvM_eq] at hc;have xM:=sM.o.1.at';have q:=sM.box (.cells [.str ms[i].name,.bool ms[i].static,.lst (ms[i].params.map cvF),.str ms[i].result,.lst (ms[i].body.map cvS)]);clear hn1 hms hM sM;refine gU ?_;refine q.call hc hs9 ?_;rintro cX HX nX sX ⟨xX,_⟩;refine gU ?_;exact⟨by ((repeat (first | exact Keeps.base _ _ _ _ | (with_reducible exact Keeps.refl _ _ _) | (refine Keeps.put rfl ?_) | (refine Keeps.over' rfl rfl ?_)))),hb,by simp [putE,over],_,by rw [hsu9,put_app];exact sX.tail⟩
  ·obtain rfl:i=ms.length:=by omega
   rw [List.take_length] at sM;have xM:=sM.o.1.at';clear hn1 hms hM;refine gU ?_;refine sM.put [[125,10]] (Short.cons (a:=[125,10]) (by decide) Short.nil) ?_;rintro c4 H4 n4 s4 ⟨x4,_⟩;clear sM xM;refine gU ?_
   (refine⟨_,(by simp [*];rfl),?_⟩;(try simp only [packA]))
   exact⟨rfl,_,s4.p,s4.f⟩
set_option maxRecDepth 10000 in
set_option maxHeartbeats 16000000 in
theorem fm_c_1 {nm su:Bytes}(hnm:nm.length≤1000)(hsu:su.length≤1000)(hs0:su≠[]){fs:List Fld}{ms:List Me}(hfl:fs.length≤9223372036854775807)(hml:ms.length≤9223372036854775807)(hfs:∀ f∈fs,f.name.length≤1000∧f.typ.length≤1000)(hms:∀ m∈ms,Short (meP 1 m))(hM:∀ m∈ms,PC 27 [.agg (cvM m),.int .i64 1] (meP 1 m)):PC 16 [.agg [.str nm,.str su,.lst (fs.map cvF),.lst (ms.map cvM)]] ([[99,108,97,115,115,32],nm]++[[32,101,120,116,101,110,100,115,32],su]++[[32,123,10]]++fsP fs++msP ms++[[125,10]]):=by
 intro b c H nx T hT hp;have s0:=PZ.start hp hT (.cells [.str nm,.str su,.lst (fs.map cvF),.lst (ms.map cvM)]);clear hp hT;simp only [put_app];refine ACall.of_body Tryd.func16 rfl ?_;refine gU ?_;refine s0.reg 7 ?_;rintro⟨bl,_⟩;refine gX ?_;refine s0.putX [[99,108,97,115,115,32],nm] (Short.cons (a:=[99,108,97,115,115,32]) (by decide) (Short.cons (a:=nm) hnm Short.nil)) ?_;rintro c1 H1 n1 s1 ⟨x1,_⟩;refine gX ?_;clear s0 bl;refine gU ?_;refine s1.reg 7 ?_;rintro⟨bl,_⟩;refine gX ?_;refine s1.putX [[32,101,120,116,101,110,100,115,32],su] (Short.cons (a:=[32,101,120,116,101,110,100,115,32]) (by decide) (Short.cons (a:=su) hsu Short.nil)) ?_;rintro c2 H2 n2 s2 ⟨x2,_⟩;refine gX ?_;clear s1 x1 bl;refine gU ?_;refine s2.put [[32,123,10]] (Short.cons (a:=[32,123,10]) (by decide) Short.nil) ?_;rintro c3 H3 n3 s3 ⟨x3,_⟩;clear s2 x2;refine gU ?_;refine AWp.countO fs.length [5,33] 34 (fun i v H1 nx1=>v 33=.int .i64 i∧∃ c',PZ b c H nx [(nx,.cells [.str nm,.str su,.lst (fs.map cvF),.lst (ms.map cvM)])] c' H1 nx1 (put (put (put (put T [[99,108,97,115,115,32],nm]) [[32,101,120,116,101,110,100,115,32],su]) [[32,123,10]]) (fsP (fs.take i)))) ⟨by simp [putE,over],_,by simpa [fsP,put] using s3⟩ ?_;clear s3 x3;rintro i v HL nxL hi hn1 ⟨h33,cL,sL⟩
 by_cases hb:i<fs.length
 ·have hwi:=up1 hb (by omega);obtain⟨l1,l2⟩:=hfs _ (List.getElem_mem hb);have hsu9:=fsP_take hb;have xL:=sL.o.1.at';have q:=sL.box (.cells [.str fs[i].name,.str fs[i].typ]);have xM:=q.o.2.1.at';clear hn1 hfs hms hM sL;refine gU ?_;refine q.reg 9 ?_;rintro⟨bl,bm,_⟩;refine gX ?_;refine q.putX [[9,118,97,114,32],fs[i].name,[58,32],fs[i].typ,[59,10]] (Short.cons (a:=[9,118,97,114,32]) (by decide) (Short.cons (a:=fs[i].name) l1 (Short.cons (a:=[58,32]) (by decide) (Short.cons (a:=fs[i].typ) l2 (Short.cons (a:=[59,10]) (by decide) Short.nil))))) ?_;rintro c4 H4 n4 s4 ⟨x4,y4,_⟩;refine gX ?_;clear q bl bm;refine gU ?_;exact⟨by ((repeat (first | exact Keeps.base _ _ _ _ | (with_reducible exact Keeps.refl _ _ _) | (refine Keeps.put rfl ?_) | (refine Keeps.over' rfl rfl ?_)))),hb,by simp [putE,over],_,by rw [hsu9,put_app];exact s4.tail⟩
 ·obtain rfl:i=fs.length:=by omega
  rw [List.take_length] at sL;have xL:=sL.o.1.at';clear hn1 hfs;refine gU ?_;refine AWp.countO ms.length [7,50] 51 (fun i v H1 nx1=>v 50=.int .i64 i∧∃ c',PZ b c H nx [(nx,.cells [.str nm,.str su,.lst (fs.map cvF),.lst (ms.map cvM)])] c' H1 nx1 (put (put (put (put (put T [[99,108,97,115,115,32],nm]) [[32,101,120,116,101,110,100,115,32],su]) [[32,123,10]]) (fsP fs)) (msP (ms.take i)))) ⟨by simp [putE,over],_,by simpa [msP,put] using sL⟩ ?_;clear sL xL h33 hi hb;rintro i v2 HM nxM hi hn1 ⟨h50,cM,sM⟩
  by_cases hb:i<ms.length
  ·have hwi:=up1 hb (by omega);have hsu9:=msP_take hb;have hc:=hM _ (List.getElem_mem hb);have hs9:=hms _ (List.getElem_mem hb);rw [cvM_eq] at hc;have xM:=sM.o.1.at';have q:=sM.box (.cells [.str ms[i].name,.bool ms[i].static,.lst (ms[i].params.map cvF),.str ms[i].result,.lst (ms[i].body.map cvS)]);clear hn1 hms hM sM;refine gU ?_;refine q.call hc hs9 ?_;rintro cX HX nX sX ⟨xX,_⟩;refine gU ?_;exact⟨by ((repeat (first | exact Keeps.base _ _ _ _ | (with_reducible exact Keeps.refl _ _ _) | (refine Keeps.put rfl ?_) | (refine Keeps.over' rfl rfl ?_)))),hb,by simp [putE,over],_,by rw [hsu9,put_app];exact sX.tail⟩
  ·obtain rfl:i=ms.length:=by omega
   rw [List.take_length] at sM;have xM:=sM.o.1.at';clear hn1 hms hM;refine gU ?_;refine sM.put [[125,10]] (Short.cons (a:=[125,10]) (by decide) Short.nil) ?_;rintro c5 H5 n5 s5 ⟨x5,_⟩;clear sM xM;refine gU ?_
   (refine⟨_,(by simp [*];rfl),?_⟩;(try simp only [packA]))
   exact⟨rfl,_,s5.p,s5.f⟩
end
section
open Lx Ax Go.RowKit
namespace Lx
def clP (c:Cl):List Bytes:=[[99,108,97,115,115,32],c.name]++(if c.super=[] then [] else [[32,101,120,116,101,110,100,115,32],c.super])++[[32,123,10]]++fsP c.fields++msP c.methods++[[125,10]]
theorem fsP_text (l:List Fld):(fsP l).flatten=l.flatMap fun f=>[9,118,97,114,32]++fldText f++[59,10]:=by
 unfold fsP
 induction l with
 | nil=>rfl
 | cons f l ih=>rw [List.flatMap_cons,List.flatten_append,ih,List.flatMap_cons];simp [fldText]
theorem msP_text (l:List Me)(h:∀ m∈l,2+stsNest m.body≤9223372036854775807):(msP l).flatten=l.flatMap (meText 1):=by
 unfold msP
 induction l with
 | nil=>rfl
 | cons f l ih=>rw [List.flatMap_cons,List.flatten_append,ih fun m hm=>h m (List.mem_cons_of_mem _ hm),List.flatMap_cons];congr 1;exact meP_text 1 f (by have:=h f List.mem_cons_self;omega)
theorem clP_text (c:Cl)(h:∀ m∈c.methods,2+stsNest m.body≤9223372036854775807):(clP c).flatten=clText c:=by
 unfold clP clText;have h1:=fsP_text c.fields;have h2:=msP_text c.methods h;simp only [List.flatten_append,h1,h2];split <;> simp
theorem short_clP {c:Cl}(h:WfC c):Short (clP c):=by
 unfold clP;have h1:=short_fs (fld_short h.fields);have h2:=short_ms fun m hm=>short_meP (n:=1) (h.methods m hm)
 have hn:=ident_short h.name;have hs:c.super.length≤1000:=by
  rcases h.super with e | e
  ·rw [e];decide
  ·exact ident_short e
 split <;> (repeat' first | assumption | exact Short.nil | refine Short.app ?_ ?_ | refine Short.cons ?_ ?_ | decide)
def soP (l:List Cl):List Bytes:=l.flatMap clP
theorem soP_text (l:List Cl)(h:∀ c∈l,∀ m∈c.methods,2+stsNest m.body≤9223372036854775807):(soP l).flatten=soText l:=by
 unfold soP soText
 induction l with
 | nil=>rfl
 | cons f l ih=>rw [List.flatMap_cons,List.flatten_append,ih fun c hc=>h c (List.mem_cons_of_mem _ hc),List.flatMap_cons,clP_text _ (h f List.mem_cons_self)]
/-! a text is at least as long as its statements are nested -/
theorem nests_len {n:Int}:∀ {l:List St},(∀ s∈l,stNest s≤(stP n s).flatten.length)→stsNest l≤(stsP n l).flatten.length
 | [],_=>by rw [stsNest];exact Nat.zero_le _
 | s::l,h=>by
   have h1:=h s List.mem_cons_self;have h2:=nests_len fun x hx=>h x (List.mem_cons_of_mem _ hx)
   rw [stsNest,stsP,List.flatten_append,List.length_append];omega
theorem nest_len {s:St}(h:WfS s):∀ n,stNest s≤(stP n s).flatten.length:=by
 induction h with
 | var0 | var1 | assign | store | throw | return0 | return1 | call=>intro n;simp only [stNest,stsNest,stP_var0,stP_var1,stP_assign,stP_store,stP_throw,stP_ret0,stP_ret1,stP_call,List.flatten_append,List.flatten_cons,List.length_append,List.length_cons];omega
 | @«if» e he b c hb hc h1 h2 =>
   intro n;have e1:=nests_len (n:=IntKind.i64.wrap (n+1)) fun s hs=>h1 s hs _
   have e2:=nests_len (n:=IntKind.i64.wrap (n+1)) fun s hs=>h2 s hs _
   cases c with
   | nil=>simp only [stNest,stsNest,stP_if0,List.flatten_append,List.flatten_cons,List.length_append,List.length_cons] at *;omega
   | cons s l=>simp only [stNest,stP_if1,List.flatten_append,List.flatten_cons,List.length_append,List.length_cons] at *;omega
 | «while» he hb h1 =>
   intro n;have e1:=nests_len (n:=IntKind.i64.wrap (n+1)) fun s hs=>h1 s hs _
   simp only [stNest,stsNest,stP_while,List.flatten_append,List.flatten_cons,List.length_append,List.length_cons] at *;omega
 | «try» x t hx ht hb hc h1 h2 =>
   intro n;have e1:=nests_len (n:=IntKind.i64.wrap (n+1)) fun s hs=>h1 s hs _
   have e2:=nests_len (n:=IntKind.i64.wrap (n+1)) fun s hs=>h2 s hs _
   simp only [stNest,stP_try,List.flatten_append,List.flatten_cons,List.length_append,List.length_cons] at *;omega
theorem flat_le {α:Type}{f:α→List Bytes}{l:List α}{x:α}(h:x∈l):(f x).flatten.length≤(l.flatMap f).flatten.length:=by
 induction l with
 | nil=>cases h
 | cons a l ih =>
   rw [List.flatMap_cons,List.flatten_append,List.length_append];rcases List.mem_cons.1 h with rfl | h
   ·omega
   ·have:=ih h;omega
theorem me_nest {n:Int}{m:Me}(h:WfM m):stsNest m.body≤(meP n m).flatten.length:=by
 have:=nests_len (n:=IntKind.i64.wrap (n+1)) fun s hs=>nest_len (h.body s hs) _
 unfold meP;simp only [List.flatten_append,List.length_append];omega
theorem so_nest {l:List Cl}(hw:∀ c∈l,WfC c){c:Cl}(hc:c∈l){m:Me}(hm:m∈c.methods):stsNest m.body≤(soP l).flatten.length:=by
 have h1:=me_nest (n:=1) ((hw c hc).methods m hm);have h2:(meP 1 m).flatten.length≤(msP c.methods).flatten.length:=flat_le hm;have h3:(clP c).flatten.length≤(soP l).flatten.length:=flat_le hc;have h4:(msP c.methods).flatten.length≤(clP c).flatten.length:=by unfold clP;simp only [List.flatten_append,List.length_append];omega
 omega
/-- A text that fits is the whole text. -/
theorem soP_fits {l:List Cl}(hw:∀ c∈l,WfC c)(h:(soP l).flatten.length≤65536):(soP l).flatten=soText l:=soP_text l fun c hc m hm=>by have:=so_nest hw hc hm;omega
theorem short_soP {l:List Cl}(h:∀ c∈l,WfC c):Short (soP l):=fun s hs=>by
 obtain⟨f,hf,hs⟩:=List.mem_flatMap.1 hs;exact short_clP (h f hf) s hs
theorem soP_take {l:List Cl}{i:Nat}(h:i<l.length):soP (l.take (i+1))=soP (l.take i)++clP l[i]:=by
 unfold soP;rw [List.take_succ_eq_append_getElem h,List.flatMap_append];simp
end Lx
/-- Lists no longer than an int counts. -/
def LenM (d:Nat)(m:Me):Prop:=m.params.length≤9223372036854775807∧m.body.length≤9223372036854775807∧∀ s∈m.body,LenS d s
def LenC (d:Nat)(c:Cl):Prop:=c.fields.length≤9223372036854775807∧c.methods.length≤9223372036854775807∧∀ m∈c.methods,LenM d m
theorem fm_class (d:Nat)(c:Cl)(hw:WfC c)(hd:LenC d c):PC 16 [.agg (cvC c)] (clP c):=by
 obtain⟨hf,hm,hd⟩:=hd;have hn:=ident_short hw.name;have hs:c.super.length≤1000:=by
  rcases hw.super with e | e
  ·rw [e];decide
  ·exact ident_short e
 have h1:=fld_short hw.fields;have h2:∀ m∈c.methods,Short (meP 1 m):=fun m hm=>short_meP (hw.methods m hm)
 have h3:∀ m∈c.methods,PC 27 [.agg (cvM m),.int .i64 1] (meP 1 m):=fun m hm=>fm_method d 1 (by decide) m (hw.methods m hm) (hd m hm).2.1 (hd m hm).2.2 (hd m hm).1
 clear hw hd;rw [cvC_eq];obtain⟨nm,su,fs,ms⟩:=c;dsimp only at *;unfold clP
 by_cases h:su=[]
 ·subst h;simpa using fm_c_0 hn hf hm h1 h2 h3
 ·simpa [h] using fm_c_1 hn hs h hf hm h1 h2 h3
end
end Go.Proofs.YtmlafcimjhnhhaaDoor
