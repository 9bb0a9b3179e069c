/-
  format's method walked.
-/
import Derived.Test.YtmlafcimjhnhhaaDoorJmJpBh
set_option linter.unusedSectionVars false
set_option linter.unusedSimpArgs false
set_option linter.unnecessarySimpa false
set_option linter.unusedVariables false
set_option linter.unusedSimpArgs false
set_option linter.unusedVariables false
namespace Go.Proofs.YtmlafcimjhnhhaaDoor
section
open Lx Ax Go.RowKit
attribute [local simp] stepS Ax.stepT Dl.on qstep astep estep rd putE over argE ofV ofS loadA pickCells isAggD faddA fieldA partA iaddA idxA bnd binA intA strA unA convA lenA mapOf lookA findK keyD scalD storeA mupA srcA srcD upd drp Dl.hp Dl.nx CV.cs CV.one buildA placesA fillA zrep tasA ifaceD eqA eqFs eqIs range2 copyA nbeq nble nblt decEq beqI bneI beqS bneS isED Int.ofNat_inj List.getElem?_map List.getElem?_eq_getElem Option.map_some ti_int ti_i64 ti_str ti_bool ti_u8 ti_Strs ti_Bld ti_Prn ti_Bys ti_Fld ti_Flds ti_Me ti_Sts gd gdB callA resA op1
attribute [local simp] one1 cvF_eq drR drp nu1 nu2 nu3 nu4 nu5 nu6 nu7 nu8 nu9 nu10 nu11 nu12 nu13 bl_len upd_upd wrp1
namespace Lx
theorem parP_eq:∀ (f:Fld) (l:List Fld),parP (f::l)=fldP f++l.flatMap fun f=>[[44,32]]++fldP f
 | f,[]=>by simp [parP]
 | f,g::l=>by rw [parP,parP_eq g l] <;> simp
def parT (es:List Fld)(i:Nat):List Bytes:=if i=0 then parP es else (es.drop i).flatMap fun f=>[[44,32]]++fldP f
theorem parT_step {es:List Fld}{i:Nat}(h:i<es.length):parT es i=(if i=0 then [] else [[44,32]])++fldP es[i]++parT es (i+1):=by
 unfold parT;rw [if_neg (by omega:¬ i+1=0)];split
 ·rename_i h0;subst h0;cases es with
  | nil=>simp at h
  | cons e l=>rw [parP_eq];simp
 ·rw [List.drop_eq_getElem_cons h,List.flatMap_cons]
  try simp
theorem parT_end {es:List Fld}{i:Nat}(h:¬ i<es.length):parT es i=[]:=by
 unfold parT;split
 ·rename_i h0;subst h0;cases es with
  | nil=>rfl
  | cons e l=>simp at h
 ·rw [List.drop_eq_nil_of_le (by omega)];rfl
end Lx
set_option maxRecDepth 10000 in
set_option maxHeartbeats 16000000 in
theorem fm_m_00 (n:Int)(hn:n≤9223372036854775807){nm:Bytes}(hnm:nm.length≤1000){ps:List Fld}(hpl:ps.length≤9223372036854775807)(hps:∀ f∈ps,f.name.length≤1000∧f.typ.length≤1000){bs:List (List CV)}{psB:List Bytes}(hB:PC 51 [.lst bs,.int .i64 (IntKind.i64.wrap (n+1))] psB)(hsB:Short psB):PC 27 [.agg [.str nm,.bool false,.lst (ps.map cvF),.str [],.lst bs],.int .i64 n] (tbP n++[[100,101,102,32],nm,[40]]++parP ps++[[41]]++[[32,123,10]]++psB++tbP n++[[125,10]]):=by
 intro b c H nx T hT hp;have s0:=PZ.start hp hT (.cells [.str nm,.bool false,.lst (ps.map cvF),.str [],.lst bs]);clear hp hT;simp only [put_app];refine ACall.of_body Tryd.func27 rfl ?_;refine gU ?_;refine s0.call (fm_tabs n hn) (short_tb n) ?_;rintro c1 H1 n1 s1 ⟨x1,_⟩;clear s0;refine gU ?_;refine s1.reg 7 ?_;rintro⟨bl,_⟩;refine gX ?_;refine s1.putX [[100,101,102,32],nm,[40]] (Short.cons (a:=[100,101,102,32]) (by decide) (Short.cons (a:=nm) hnm (Short.cons (a:=[40]) (by decide) Short.nil))) ?_;rintro c2 H2 n2 s2 ⟨x2,_⟩;refine gX ?_;clear s1 x1 bl;refine gU ?_;have hR0:parP ps=[]++parT ps 0:=by simp [parT]
 refine AWp.countO ps.length [6,7,30] 31 (fun i v H1 nx1=>v 30=.int .i64 i∧∃ pre c',parP ps=pre++parT ps i∧PZ b c H nx [(nx,.cells [.str nm,.bool false,.lst (ps.map cvF),.str [],.lst bs])] c' H1 nx1 (put (put (put T (tbP n)) [[100,101,102,32],nm,[40]]) pre)) ⟨by simp [putE,over],[],_,hR0,s2⟩ ?_;clear hR0 s2 x2;rintro i v HL nxL hi hn1 ⟨h30,pre,cL,hR,sL⟩
 by_cases hb:i<ps.length
 ·have hwi:=up1 hb (by omega);rw [parT_step hb] at hR;obtain⟨l1,l2⟩:=hps _ (List.getElem_mem hb);have xL:=sL.o.1.at';have q:=sL.box (.cells [.str ps[i].name,.str ps[i].typ]);have xM:=q.o.2.1.at';clear hn1 hps hB sL
  by_cases h0:i=0
  ·rw [if_pos h0,List.nil_append,← List.append_assoc] at hR;subst h0;refine gU ?_;refine q.reg 9 ?_;rintro⟨bl,bm,_⟩;refine gX ?_;refine q.putX [ps[0].name,[58,32],ps[0].typ] (Short.cons (a:=ps[0].name) l1 (Short.cons (a:=[58,32]) (by decide) (Short.cons (a:=ps[0].typ) l2 Short.nil))) ?_;rintro c3 H3 n3 s3 ⟨x3,y3,_⟩;refine gX ?_;clear q bl bm;refine gU ?_;exact⟨by ((repeat (first | exact Keeps.base _ _ _ _ | (with_reducible exact Keeps.refl _ _ _) | (refine Keeps.put rfl ?_) | (refine Keeps.over' rfl rfl ?_)))),hb,by simp [putE,over],pre++fldP ps[0],_,hR,by rw [put_app];exact s3.tail⟩
  ·rw [if_neg h0] at hR;have h0':(0:Int)<(i:Int):=by omega
   have h0'':0<i:=by omega
   refine gU ?_;refine q.put [[44,32]] (Short.cons (a:=[44,32]) (by decide) Short.nil) ?_;rintro c4 H4 n4 s4 ⟨x4,y4,_⟩;clear q;refine gU ?_;refine s4.reg 9 ?_;rintro⟨bl,bm,_⟩;refine gX ?_;refine s4.putX [ps[i].name,[58,32],ps[i].typ] (Short.cons (a:=ps[i].name) l1 (Short.cons (a:=[58,32]) (by decide) (Short.cons (a:=ps[i].typ) l2 Short.nil))) ?_;rintro c5 H5 n5 s5 ⟨x5,y5,_⟩;refine gX ?_;clear s4 x4 y4 bl bm;refine gU ?_;exact⟨by ((repeat (first | exact Keeps.base _ _ _ _ | (with_reducible exact Keeps.refl _ _ _) | (refine Keeps.put rfl ?_) | (refine Keeps.over' rfl rfl ?_)))),hb,by simp [putE,over],pre++[[44,32]]++fldP ps[i],_,by rw [hR];simp,by rw [put_app,put_app];exact s5.tail⟩
 ·rw [parT_end hb,List.append_nil] at hR;rw [← hR] at sL;have xL:=sL.o.1.at';clear hn1 hps;refine gU ?_;refine sL.put [[41]] (Short.cons (a:=[41]) (by decide) Short.nil) ?_;rintro c6 H6 n6 s6 ⟨x6,_⟩;clear sL xL;refine gU ?_;refine s6.put [[32,123,10]] (Short.cons (a:=[32,123,10]) (by decide) Short.nil) ?_;rintro c7 H7 n7 s7 ⟨x7,_⟩;clear s6 x6;refine gU ?_;refine s7.call (hB) hsB ?_;rintro c8 H8 n8 s8 ⟨x8,_⟩;clear s7 x7;refine gU ?_;refine s8.call (fm_tabs n hn) (short_tb n) ?_;rintro c9 H9 n9 s9 ⟨x9,_⟩;clear s8 x8;refine gU ?_;refine s9.put [[125,10]] (Short.cons (a:=[125,10]) (by decide) Short.nil) ?_;rintro c10 H10 n10 s10 ⟨x10,_⟩;clear s9 x9;refine gU ?_
  (refine⟨_,(by simp [*];rfl),?_⟩;(try simp only [packA]))
  exact⟨rfl,_,s10.p,s10.f⟩
set_option maxRecDepth 10000 in
set_option maxHeartbeats 16000000 in
theorem fm_m_01 (n:Int)(hn:n≤9223372036854775807){nm rs:Bytes}(hnm:nm.length≤1000)(hrs:rs.length≤1000)(hr0:rs≠[]){ps:List Fld}(hpl:ps.length≤9223372036854775807)(hps:∀ f∈ps,f.name.length≤1000∧f.typ.length≤1000){bs:List (List CV)}{psB:List Bytes}(hB:PC 51 [.lst bs,.int .i64 (IntKind.i64.wrap (n+1))] psB)(hsB:Short psB):PC 27 [.agg [.str nm,.bool false,.lst (ps.map cvF),.str rs,.lst bs],.int .i64 n] (tbP n++[[100,101,102,32],nm,[40]]++parP ps++[[41]]++[[58,32],rs]++[[32,123,10]]++psB++tbP n++[[125,10]]):=by
 intro b c H nx T hT hp;have s0:=PZ.start hp hT (.cells [.str nm,.bool false,.lst (ps.map cvF),.str rs,.lst bs]);clear hp hT;simp only [put_app];refine ACall.of_body Tryd.func27 rfl ?_;refine gU ?_;refine s0.call (fm_tabs n hn) (short_tb n) ?_;rintro c1 H1 n1 s1 ⟨x1,_⟩;clear s0;refine gU ?_;refine s1.reg 7 ?_;rintro⟨bl,_⟩;refine gX ?_;refine s1.putX [[100,101,102,32],nm,[40]] (Short.cons (a:=[100,101,102,32]) (by decide) (Short.cons (a:=nm) hnm (Short.cons (a:=[40]) (by decide) Short.nil))) ?_;rintro c2 H2 n2 s2 ⟨x2,_⟩;refine gX ?_;clear s1 x1 bl;refine gU ?_;have hR0:parP ps=[]++parT ps 0:=by simp [parT]
 refine AWp.countO ps.length [6,7,30] 31 (fun i v H1 nx1=>v 30=.int .i64 i∧∃ pre c',parP ps=pre++parT ps i∧PZ b c H nx [(nx,.cells [.str nm,.bool false,.lst (ps.map cvF),.str rs,.lst bs])] c' H1 nx1 (put (put (put T (tbP n)) [[100,101,102,32],nm,[40]]) pre)) ⟨by simp [putE,over],[],_,hR0,s2⟩ ?_;clear hR0 s2 x2;rintro i v HL nxL hi hn1 ⟨h30,pre,cL,hR,sL⟩
 by_cases hb:i<ps.length
 ·have hwi:=up1 hb (by omega);rw [parT_step hb] at hR;obtain⟨l1,l2⟩:=hps _ (List.getElem_mem hb);have xL:=sL.o.1.at';have q:=sL.box (.cells [.str ps[i].name,.str ps[i].typ]);have xM:=q.o.2.1.at';clear hn1 hps hB sL
  by_cases h0:i=0
  ·rw [if_pos h0,List.nil_append,← List.append_assoc] at hR;subst h0;refine gU ?_;refine q.reg 9 ?_;rintro⟨bl,bm,_⟩;refine gX ?_;refine q.putX [ps[0].name,[58,32],ps[0].typ] (Short.cons (a:=ps[0].name) l1 (Short.cons (a:=[58,32]) (by decide) (Short.cons (a:=ps[0].typ) l2 Short.nil))) ?_;rintro c3 H3 n3 s3 ⟨x3,y3,_⟩;refine gX ?_;clear q bl bm;refine gU ?_;exact⟨by ((repeat (first | exact Keeps.base _ _ _ _ | (with_reducible exact Keeps.refl _ _ _) | (refine Keeps.put rfl ?_) | (refine Keeps.over' rfl rfl ?_)))),hb,by simp [putE,over],pre++fldP ps[0],_,hR,by rw [put_app];exact s3.tail⟩
  ·rw [if_neg h0] at hR;have h0':(0:Int)<(i:Int):=by omega
   have h0'':0<i:=by omega
   refine gU ?_;refine q.put [[44,32]] (Short.cons (a:=[44,32]) (by decide) Short.nil) ?_;rintro c4 H4 n4 s4 ⟨x4,y4,_⟩;clear q;refine gU ?_;refine s4.reg 9 ?_;rintro⟨bl,bm,_⟩;refine gX ?_;refine s4.putX [ps[i].name,[58,32],ps[i].typ] (Short.cons (a:=ps[i].name) l1 (Short.cons (a:=[58,32]) (by decide) (Short.cons (a:=ps[i].typ) l2 Short.nil))) ?_;rintro c5 H5 n5 s5 ⟨x5,y5,_⟩;refine gX ?_;clear s4 x4 y4 bl bm;refine gU ?_;exact⟨by ((repeat (first | exact Keeps.base _ _ _ _ | (with_reducible exact Keeps.refl _ _ _) | (refine Keeps.put rfl ?_) | (refine Keeps.over' rfl rfl ?_)))),hb,by simp [putE,over],pre++[[44,32]]++fldP ps[i],_,by rw [hR];simp,by rw [put_app,put_app];exact s5.tail⟩
 ·rw [parT_end hb,List.append_nil] at hR;rw [← hR] at sL;have xL:=sL.o.1.at';clear hn1 hps;refine gU ?_;refine sL.put [[41]] (Short.cons (a:=[41]) (by decide) Short.nil) ?_;rintro c6 H6 n6 s6 ⟨x6,_⟩;clear sL xL;refine gU ?_;refine s6.reg 7 ?_;rintro⟨bl,_⟩;refine gX ?_;refine s6.putX [[58,32],rs] (Short.cons (a:=[58,32]) (by decide) (Short.cons (a:=rs) hrs Short.nil)) ?_;rintro c7 H7 n7 s7 ⟨x7,_⟩;refine gX ?_;clear s6 x6 bl;refine gU ?_;refine s7.put [[32,123,10]] (Short.cons (a:=[32,123,10]) (by decide) Short.nil) ?_;rintro c8 H8 n8 s8 ⟨x8,_⟩;clear s7 x7;refine gU ?_;refine s8.call (hB) hsB ?_;rintro c9 H9 n9 s9 ⟨x9,_⟩;clear s8 x8;refine gU ?_;refine s9.call (fm_tabs n hn) (short_tb n) ?_;rintro c10 H10 n10 s10 ⟨x10,_⟩;clear s9 x9;refine gU ?_;refine s10.put [[125,10]] (Short.cons (a:=[125,10]) (by decide) Short.nil) ?_;rintro c11 H11 n11 s11 ⟨x11,_⟩;clear s10 x10;refine gU ?_
  (refine⟨_,(by simp [*];rfl),?_⟩;(try simp only [packA]))
  exact⟨rfl,_,s11.p,s11.f⟩
set_option maxRecDepth 10000 in
set_option maxHeartbeats 16000000 in
theorem fm_m_10 (n:Int)(hn:n≤9223372036854775807){nm:Bytes}(hnm:nm.length≤1000){ps:List Fld}(hpl:ps.length≤9223372036854775807)(hps:∀ f∈ps,f.name.length≤1000∧f.typ.length≤1000){bs:List (List CV)}{psB:List Bytes}(hB:PC 51 [.lst bs,.int .i64 (IntKind.i64.wrap (n+1))] psB)(hsB:Short psB):PC 27 [.agg [.str nm,.bool true,.lst (ps.map cvF),.str [],.lst bs],.int .i64 n] (tbP n++[[115,116,97,116,105,99,32]]++[[100,101,102,32],nm,[40]]++parP ps++[[41]]++[[32,123,10]]++psB++tbP n++[[125,10]]):=by
 intro b c H nx T hT hp;have s0:=PZ.start hp hT (.cells [.str nm,.bool true,.lst (ps.map cvF),.str [],.lst bs]);clear hp hT;simp only [put_app];refine ACall.of_body Tryd.func27 rfl ?_;refine gU ?_;refine s0.call (fm_tabs n hn) (short_tb n) ?_;rintro c1 H1 n1 s1 ⟨x1,_⟩;clear s0;refine gU ?_;refine s1.put [[115,116,97,116,105,99,32]] (Short.cons (a:=[115,116,97,116,105,99,32]) (by decide) Short.nil) ?_;rintro c2 H2 n2 s2 ⟨x2,_⟩;clear s1 x1;refine gU ?_;refine s2.reg 7 ?_;rintro⟨bl,_⟩;refine gX ?_;refine s2.putX [[100,101,102,32],nm,[40]] (Short.cons (a:=[100,101,102,32]) (by decide) (Short.cons (a:=nm) hnm (Short.cons (a:=[40]) (by decide) Short.nil))) ?_;rintro c3 H3 n3 s3 ⟨x3,_⟩;refine gX ?_;clear s2 x2 bl;refine gU ?_;have hR0:parP ps=[]++parT ps 0:=by simp [parT]
 refine AWp.countO ps.length [6,7,30] 31 (fun i v H1 nx1=>v 30=.int .i64 i∧∃ pre c',parP ps=pre++parT ps i∧PZ b c H nx [(nx,.cells [.str nm,.bool true,.lst (ps.map cvF),.str [],.lst bs])] c' H1 nx1 (put (put (put (put T (tbP n)) [[115,116,97,116,105,99,32]]) [[100,101,102,32],nm,[40]]) pre)) ⟨by simp [putE,over],[],_,hR0,s3⟩ ?_;clear hR0 s3 x3;rintro i v HL nxL hi hn1 ⟨h30,pre,cL,hR,sL⟩
 by_cases hb:i<ps.length
 ·have hwi:=up1 hb (by omega);rw [parT_step hb] at hR;obtain⟨l1,l2⟩:=hps _ (List.getElem_mem hb);have xL:=sL.o.1.at';have q:=sL.box (.cells [.str ps[i].name,.str ps[i].typ]);have xM:=q.o.2.1.at';clear hn1 hps hB sL
  by_cases h0:i=0
  ·rw [if_pos h0,List.nil_append,← List.append_assoc] at hR;subst h0;refine gU ?_;refine q.reg 9 ?_;rintro⟨bl,bm,_⟩;refine gX ?_;refine q.putX [ps[0].name,[58,32],ps[0].typ] (Short.cons (a:=ps[0].name) l1 (Short.cons (a:=[58,32]) (by decide) (Short.cons (a:=ps[0].typ) l2 Short.nil))) ?_;rintro c4 H4 n4 s4 ⟨x4,y4,_⟩;refine gX ?_;clear q bl bm;refine gU ?_;exact⟨by ((repeat (first | exact Keeps.base _ _ _ _ | (with_reducible exact Keeps.refl _ _ _) | (refine Keeps.put rfl ?_) | (refine Keeps.over' rfl rfl ?_)))),hb,by simp [putE,over],pre++fldP ps[0],_,hR,by rw [put_app];exact s4.tail⟩
  ·rw [if_neg h0] at hR;have h0':(0:Int)<(i:Int):=by omega
   have h0'':0<i:=by omega
   refine gU ?_;refine q.put [[44,32]] (Short.cons (a:=[44,32]) (by decide) Short.nil) ?_;rintro c5 H5 n5 s5 ⟨x5,y5,_⟩;clear q;refine gU ?_;refine s5.reg 9 ?_;rintro⟨bl,bm,_⟩;refine gX ?_;refine s5.putX [ps[i].name,[58,32],ps[i].typ] (Short.cons (a:=ps[i].name) l1 (Short.cons (a:=[58,32]) (by decide) (Short.cons (a:=ps[i].typ) l2 Short.nil))) ?_;rintro c6 H6 n6 s6 ⟨x6,y6,_⟩;refine gX ?_;clear s5 x5 y5 bl bm;refine gU ?_;exact⟨by ((repeat (first | exact Keeps.base _ _ _ _ | (with_reducible exact Keeps.refl _ _ _) | (refine Keeps.put rfl ?_) | (refine Keeps.over' rfl rfl ?_)))),hb,by simp [putE,over],pre++[[44,32]]++fldP ps[i],_,by rw [hR];simp,by rw [put_app,put_app];exact s6.tail⟩
 ·rw [parT_end hb,List.append_nil] at hR;rw [← hR] at sL;have xL:=sL.o.1.at';clear hn1 hps;refine gU ?_;refine sL.put [[41]] (Short.cons (a:=[41]) (by decide) Short.nil) ?_;rintro c7 H7 n7 s7 ⟨x7,_⟩;clear sL xL;refine gU ?_;refine s7.put [[32,123,10]] (Short.cons (a:=[32,123,10]) (by decide) Short.nil) ?_;rintro c8 H8 n8 s8 ⟨x8,_⟩;clear s7 x7;refine gU ?_;refine s8.call (hB) hsB ?_;rintro c9 H9 n9 s9 ⟨x9,_⟩;clear s8 x8;refine gU ?_;refine s9.call (fm_tabs n hn) (short_tb n) ?_;rintro c10 H10 n10 s10 ⟨x10,_⟩;clear s9 x9;refine gU ?_;refine s10.put [[125,10]] (Short.cons (a:=[125,10]) (by decide) Short.nil) ?_;rintro c11 H11 n11 s11 ⟨x11,_⟩;clear s10 x10;refine gU ?_
  (refine⟨_,(by simp [*];rfl),?_⟩;(try simp only [packA]))
  exact⟨rfl,_,s11.p,s11.f⟩
set_option maxRecDepth 10000 in
set_option maxHeartbeats 16000000 in
theorem fm_m_11 (n:Int)(hn:n≤9223372036854775807){nm rs:Bytes}(hnm:nm.length≤1000)(hrs:rs.length≤1000)(hr0:rs≠[]){ps:List Fld}(hpl:ps.length≤9223372036854775807)(hps:∀ f∈ps,f.name.length≤1000∧f.typ.length≤1000){bs:List (List CV)}{psB:List Bytes}(hB:PC 51 [.lst bs,.int .i64 (IntKind.i64.wrap (n+1))] psB)(hsB:Short psB):PC 27 [.agg [.str nm,.bool true,.lst (ps.map cvF),.str rs,.lst bs],.int .i64 n] (tbP n++[[115,116,97,116,105,99,32]]++[[100,101,102,32],nm,[40]]++parP ps++[[41]]++[[58,32],rs]++[[32,123,10]]++psB++tbP n++[[125,10]]):=by
 intro b c H nx T hT hp;have s0:=PZ.start hp hT (.cells [.str nm,.bool true,.lst (ps.map cvF),.str rs,.lst bs]);clear hp hT;simp only [put_app];refine ACall.of_body Tryd.func27 rfl ?_;refine gU ?_;refine s0.call (fm_tabs n hn) (short_tb n) ?_;rintro c1 H1 n1 s1 ⟨x1,_⟩;clear s0;refine gU ?_;refine s1.put [[115,116,97,116,105,99,32]] (Short.cons (a:=[115,116,97,116,105,99,32]) (by decide) Short.nil) ?_;rintro c2 H2 n2 s2 ⟨x2,_⟩;clear s1 x1;refine gU ?_;refine s2.reg 7 ?_;rintro⟨bl,_⟩;refine gX ?_;refine s2.putX [[100,101,102,32],nm,[40]] (Short.cons (a:=[100,101,102,32]) (by decide) (Short.cons (a:=nm) hnm (Short.cons (a:=[40]) (by decide) Short.nil))) ?_;rintro c3 H3 n3 s3 ⟨x3,_⟩;refine gX ?_;clear s2 x2 bl;refine gU ?_;have hR0:parP ps=[]++parT ps 0:=by simp [parT]
 refine AWp.countO ps.length [6,7,30] 31 (fun i v H1 nx1=>v 30=.int .i64 i∧∃ pre c',parP ps=pre++parT ps i∧PZ b c H nx [(nx,.cells [.str nm,.bool true,.lst (ps.map cvF),.str rs,.lst bs])] c' H1 nx1 (put (put (put (put T (tbP n)) [[115,116,97,116,105,99,32]]) [[100,101,102,32],nm,[40]]) pre)) ⟨by simp [putE,over],[],_,hR0,s3⟩ ?_;clear hR0 s3 x3;rintro i v HL nxL hi hn1 ⟨h30,pre,cL,hR,sL⟩
 by_cases hb:i<ps.length
 ·have hwi:=up1 hb (by omega);rw [parT_step hb] at hR;obtain⟨l1,l2⟩:=hps _ (List.getElem_mem hb);have xL:=sL.o.1.at';have q:=sL.box (.cells [.str ps[i].name,.str ps[i].typ]);have xM:=q.o.2.1.at';clear hn1 hps hB sL
  by_cases h0:i=0
  ·rw [if_pos h0,List.nil_append,← List.append_assoc] at hR;subst h0;refine gU ?_;refine q.reg 9 ?_;rintro⟨bl,bm,_⟩;refine gX ?_;refine q.putX [ps[0].name,[58,32],ps[0].typ] (Short.cons (a:=ps[0].name) l1 (Short.cons (a:=[58,32]) (by decide) (Short.cons (a:=ps[0].typ) l2 Short.nil))) ?_;rintro c4 H4 n4 s4 ⟨x4,y4,_⟩;refine gX ?_;clear q bl bm;refine gU ?_;exact⟨by ((repeat (first | exact Keeps.base _ _ _ _ | (with_reducible exact Keeps.refl _ _ _) | (refine Keeps.put rfl ?_) | (refine Keeps.over' rfl rfl ?_)))),hb,by simp [putE,over],pre++fldP ps[0],_,hR,by rw [put_app];exact s4.tail⟩
  ·rw [if_neg h0] at hR;have h0':(0:Int)<(i:Int):=by omega
   have h0'':0<i:=by omega
   refine gU ?_;refine q.put [[44,32]] (Short.cons (a:=[44,32]) (by decide) Short.nil) ?_;rintro c5 H5 n5 s5 ⟨x5,y5,_⟩;clear q;refine gU ?_;refine s5.reg 9 ?_;rintro⟨bl,bm,_⟩;refine gX ?_;refine s5.putX [ps[i].name,[58,32],ps[i].typ] (Short.cons (a:=ps[i].name) l1 (Short.cons (a:=[58,32]) (by decide) (Short.cons (a:=ps[i].typ) l2 Short.nil))) ?_;rintro c6 H6 n6 s6 ⟨x6,y6,_⟩;refine gX ?_;clear s5 x5 y5 bl bm;refine gU ?_;exact⟨by ((repeat (first | exact Keeps.base _ _ _ _ | (with_reducible exact Keeps.refl _ _ _) | (refine Keeps.put rfl ?_) | (refine Keeps.over' rfl rfl ?_)))),hb,by simp [putE,over],pre++[[44,32]]++fldP ps[i],_,by rw [hR];simp,by rw [put_app,put_app];exact s6.tail⟩
 ·rw [parT_end hb,List.append_nil] at hR;rw [← hR] at sL;have xL:=sL.o.1.at';clear hn1 hps;refine gU ?_;refine sL.put [[41]] (Short.cons (a:=[41]) (by decide) Short.nil) ?_;rintro c7 H7 n7 s7 ⟨x7,_⟩;clear sL xL;refine gU ?_;refine s7.reg 7 ?_;rintro⟨bl,_⟩;refine gX ?_;refine s7.putX [[58,32],rs] (Short.cons (a:=[58,32]) (by decide) (Short.cons (a:=rs) hrs Short.nil)) ?_;rintro c8 H8 n8 s8 ⟨x8,_⟩;refine gX ?_;clear s7 x7 bl;refine gU ?_;refine s8.put [[32,123,10]] (Short.cons (a:=[32,123,10]) (by decide) Short.nil) ?_;rintro c9 H9 n9 s9 ⟨x9,_⟩;clear s8 x8;refine gU ?_;refine s9.call (hB) hsB ?_;rintro c10 H10 n10 s10 ⟨x10,_⟩;clear s9 x9;refine gU ?_;refine s10.call (fm_tabs n hn) (short_tb n) ?_;rintro c11 H11 n11 s11 ⟨x11,_⟩;clear s10 x10;refine gU ?_;refine s11.put [[125,10]] (Short.cons (a:=[125,10]) (by decide) Short.nil) ?_;rintro c12 H12 n12 s12 ⟨x12,_⟩;clear s11 x11;refine gU ?_
  (refine⟨_,(by simp [*];rfl),?_⟩;(try simp only [packA]))
  exact⟨rfl,_,s12.p,s12.f⟩
end
section
open Lx Ax Go.RowKit
namespace Lx
def meP (n:Int)(m:Me):List Bytes:=tbP n++(if m.static then [[115,116,97,116,105,99,32]] else [])++[[100,101,102,32],m.name,[40]]++parP m.params++[[41]]++(if m.result=[] then [] else [[58,32],m.result])++[[32,123,10]]++stsP (IntKind.i64.wrap (n+1)) m.body++tbP n++[[125,10]]
theorem meP_text (n:Nat)(m:Me)(h:n+1+stsNest m.body≤9223372036854775807):(meP n m).flatten=meText n m:=by
 unfold meP meText;rw [wrap_up (by omega)];have h1:=tbP_text n;have h2:=parP_text m.params;have h3:=stsP_text (n+1) m.body (by omega);generalize n+1=k at h3 ⊢;split <;> split <;> simp [h1,h2,h3]
theorem fld_short {l:List Fld}(h:∀ f∈l,WfF f):∀ f∈l,f.name.length≤1000∧f.typ.length≤1000:=fun f hf=>⟨ident_short (h f hf).1,typ_short (h f hf).2⟩
theorem res_short {r:Bytes}(h:r=[]∨WfT r):r.length≤1000:=by
 rcases h with rfl | h
 ·decide
 ·exact typ_short h
end Lx
theorem fm_method (d:Nat)(n:Int)(h9:n≤9223372036854775807)(m:Me)(hw:WfM m)(hl:m.body.length≤9223372036854775807)(hd:∀ s∈m.body,LenS d s)(hp:m.params.length≤9223372036854775807):PC 27 [.agg (cvM m),.int .i64 n] (meP n m):=by
 have bk:PC 51 [.lst (m.body.map cvS),.int .i64 (IntKind.i64.wrap (n+1))] (stsP (IntKind.i64.wrap (n+1)) m.body) :=
  fm_block _ m.body hl (fun s hs=>fm_stmt d _ (wrap_max _) s (hd s hs) (hw.body s hs)) (fun s hs=>short_stP (hw.body s hs) _)
 have sb:Short (stsP (IntKind.i64.wrap (n+1)) m.body):=short_stsP fun s hs=>short_stP (hw.body s hs) _
 have hn:=ident_short hw.name;have hr:=res_short hw.result;have hf:=fld_short hw.params;clear hw;rw [cvM_eq];obtain⟨nm,st,ps,rs,bd⟩:=m;dsimp only at *;unfold meP
 by_cases h:rs=[]
 ·subst h;cases st
  ·simpa using fm_m_00 n h9 hn hp hf bk sb
  ·simpa using fm_m_10 n h9 hn hp hf bk sb
 ·cases st
  ·simpa [h] using fm_m_01 n h9 hn hr h hp hf bk sb
  ·simpa [h] using fm_m_11 n h9 hn hr h hp hf bk sb
end
section
open Lx Ax Go.RowKit
attribute [local simp] stepS Ax.stepT Dl.on qstep astep estep rd putE over argE ofV ofS loadA pickCells isAggD faddA fieldA partA iaddA idxA bnd binA intA strA unA convA lenA mapOf lookA findK keyD scalD storeA mupA srcA srcD upd drp Dl.hp Dl.nx CV.cs CV.one buildA placesA fillA zrep tasA ifaceD eqA eqFs eqIs range2 copyA nbeq nble nblt decEq beqI bneI beqS bneS isED Int.ofNat_inj List.getElem?_map List.getElem?_eq_getElem Option.map_some ti_int ti_i64 ti_str ti_bool ti_u8 ti_Strs ti_Bld ti_Prn ti_Bys ti_Fld ti_Flds ti_Me ti_Mes ti_Sts ti_Cl gd gdB callA resA op1
attribute [local simp] one1 cvF_eq cvM_eq drR drp nu1 nu2 nu3 nu4 nu5 nu6 nu7 nu8 nu9 nu10 nu11 nu12 nu13 bl_len upd_upd wrp1
namespace Lx
end Lx
end
section
open Lx Ax Go.RowKit
namespace Lx
end Lx
/-- Lists no longer than an int counts. -/
def LenM (d:Nat)(m:Me):Prop:=m.params.length≤9223372036854775807∧m.body.length≤9223372036854775807∧∀ s∈m.body,LenS d s
end
end Go.Proofs.YtmlafcimjhnhhaaDoor
