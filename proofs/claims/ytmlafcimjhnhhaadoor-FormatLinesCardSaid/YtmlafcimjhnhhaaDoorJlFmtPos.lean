/-
  Plain Lean: the tokens of format's texts stand where the layout says.
-/
import Derived.Test.YtmlafcimjhnhhaaDoorJlJpBj
import Derived.Test.YtmlafcimjhnhhaaDoorJlJpAu
set_option linter.unusedSectionVars false
set_option linter.unusedSimpArgs false
set_option linter.unnecessarySimpa false
set_option linter.unusedVariables false
set_option linter.unusedSimpArgs false
set_option linter.unusedVariables false
namespace Go.Proofs.YtmlafcimjhnhhaaDoor
open Lx
namespace Lx
def brI (c:UInt8):Int:=if c=123 then 1 else if c=125 then -1 else 0
/-- Braces opened less braces closed. -/
def brs:Bytes→Int
 | []=>0
 | c::l=>brI c+brs l
theorem brs_app (u v:Bytes):brs (u++v)=brs u+brs v:=by
 induction u with
 | nil=>simp [brs]
 | cons c u ih=>simp [brs,ih];omega
theorem brs_snoc (u:Bytes)(c:UInt8):brs (u++[c])=brs u+brI c:=by rw [brs_app];simp [brs]
theorem brs_pl:∀ {u:Bytes},u.all pgB=true→brs u=0
 | [],_=>rfl
 | c::u,h=>by
   rw [List.all_cons,Bool.and_eq_true] at h;have h1:=h.1;simp only [pgB,Bool.and_eq_true,bne_iff_ne,ne_eq] at h1;simp [brs,brI,h1.1.2,h1.2,brs_pl h.2]
theorem sep_br {c:UInt8}(h:isSep c=true):brI c=0:=by
 have h1:c≠123:=by rintro rfl;revert h;decide
 have h2:c≠125:=by rintro rfl;revert h;decide
 simp [brI,h1,h2]
theorem snoc_inj {u v:Bytes}{c e:UInt8}(h:u++[c]=v++[e]):u=v∧c=e:=by
 have:=List.append_inj' h rfl;exact⟨this.1,by simpa using this.2⟩
/-- What is behind a text in the state σ. -/
def Abs:Sc→Bytes→Prop
 | .ln d k,p=>brs p=d∧(place p).2=k+1∧∀ q c,p=q++[c]→c=10∨c=9
 | .on d,p=>brs p=d∧∃ q c,p=q++[c]∧isSep c=false
 | .sp d,p=>brs p=d∧∃ q c,p=q++[c]++[32]∧isSep c=false
/-- What the statement asks of a sign c behind p. -/
def PosOk (p:Bytes)(c:UInt8):Prop:=((p=[]∨∃ q,p=q++[10]∨p=q++[9])→((place p).2:Int)=brs p-(if c=125 then 1 else 0)+1)∧¬ ∃ q,p=q++[32]++[32]
theorem brn_br {d e:Nat}{c:UInt8}(h:brn d c=some e):(e:Int)=d+brI c:=by
 unfold brn at h;unfold brI;split at h
 ·cases h;rename_i hc;rw [if_pos hc];omega
 ·rename_i h0;split at h
  ·rename_i hc;split at h
   ·cases h
   ·cases h;rw [if_neg h0,if_pos hc];omega
  ·rename_i hc;cases h;rw [if_neg h0,if_neg hc];omega
theorem stp_sound {σ τ:Sc}{p:Bytes}{c:UInt8}(h:Abs σ p)(hs:stp σ c=some τ):Abs τ (p++[c])∧(isSep c=false→PosOk p c):=by
 cases σ with
 | ln d k =>
   obtain⟨h1,h2,h3⟩:=h;simp only [stp] at hs
   by_cases hc9:c=9
   ·rw [if_pos hc9] at hs;subst hc9;cases hs;refine⟨⟨by rw [brs_snoc,h1];simp [brI],by rw [place_snoc,stepLC,if_neg (by decide),h2],fun q c e=>.inr (snoc_inj e).2.symm⟩,fun hf=>absurd hf (by decide)⟩
   ·rw [if_neg hc9] at hs
    by_cases hns:isSep c=true
    ·rw [if_pos hns] at hs;cases hs
    ·rw [if_neg hns] at hs
     by_cases hk:k=(if c=125 then d-1 else d)
     ·rw [if_pos hk] at hs;obtain⟨e,he,rfl⟩:=Option.map_eq_some_iff.1 hs;have hb:=brn_br he;refine⟨⟨by rw [brs_snoc,h1,hb],p,c,rfl,by simpa using hns⟩,fun _=>⟨fun _=>?_,?_⟩⟩
      ·rw [h2,h1,hk]
       by_cases hc:c=125
       ·have hd:d≠0:=by
         rintro rfl;rw [hc] at he;simp [brn] at he
        rw [if_pos hc,if_pos hc];omega
       ·rw [if_neg hc,if_neg hc];omega
      ·rintro⟨q,hq⟩;have:=h3 _ _ hq;revert this;decide
     ·rw [if_neg hk] at hs;cases hs
 | on d =>
   obtain⟨h1,q,c0,rfl,h0⟩:=h;simp only [stp] at hs;split at hs
   ·rename_i hc;subst hc;cases hs;exact⟨⟨by rw [brs_snoc,h1];simp [brI],by rw [place_snoc,stepLC,if_pos rfl],fun q c e=>.inl (snoc_inj e).2.symm⟩,fun hf=>absurd hf (by decide)⟩
   ·split at hs
    ·rename_i hc;subst hc;cases hs;exact⟨⟨by rw [brs_snoc,h1];simp [brI],q,c0,rfl,h0⟩,fun hf=>absurd hf (by decide)⟩
    ·split at hs
     ·cases hs
     ·rename_i hns;obtain⟨e,he,rfl⟩:=Option.map_eq_some_iff.1 hs;have hb:=brn_br he;refine⟨⟨by rw [brs_snoc,h1,hb],_,c,rfl,by simpa using hns⟩,fun _=>⟨?_,?_⟩⟩
      ·rintro (h | ⟨q',h | h⟩)
       ·simp at h
       ·rw [(snoc_inj h).2] at h0;exact absurd h0 (by decide)
       ·rw [(snoc_inj h).2] at h0;exact absurd h0 (by decide)
      ·rintro⟨q',h⟩;rw [(snoc_inj h).2] at h0;exact absurd h0 (by decide)
 | sp d =>
   obtain⟨h1,q,c0,rfl,h0⟩:=h;simp only [stp] at hs;split at hs
   ·cases hs
   ·rename_i hns;obtain⟨e,he,rfl⟩:=Option.map_eq_some_iff.1 hs;have hb:=brn_br he;refine⟨⟨by rw [brs_snoc,h1,hb],_,c,rfl,by simpa using hns⟩,fun _=>⟨?_,?_⟩⟩
    ·rintro (h | ⟨q',h | h⟩)
     ·simp at h
     ·exact absurd (snoc_inj h).2 (by decide)
     ·exact absurd (snoc_inj h).2 (by decide)
    ·rintro⟨q',h⟩;rw [(snoc_inj (snoc_inj h).1).2] at h0;revert h0;decide
theorem run_sound:∀ (l:Bytes) {σ τ:Sc} {p:Bytes},Abs σ p→run σ l=some τ→Abs τ (p++l)∧∀ u c v,l=u++c::v→isSep c=false→PosOk (p++u) c
 | [],σ,τ,p,h,hr=>by
   cases hr;refine⟨by rw [List.append_nil];exact h,fun u c v e=>?_⟩;simp at e
 | c::l,σ,τ,p,h,hr=>by
   rw [run] at hr;obtain⟨ρ,h1,h2⟩:=Option.bind_eq_some_iff.1 hr;obtain⟨h3,h4⟩:=stp_sound h h1;obtain⟨h5,h6⟩:=run_sound l h3 h2;refine⟨by simpa using h5,fun u e v hu hs=>?_⟩;cases u with
   | nil =>
     simp only [List.nil_append,List.cons.injEq] at hu;obtain⟨rfl,rfl⟩:=hu;rw [List.append_nil];exact h4 hs
   | cons a u =>
     simp only [List.cons_append,List.cons.injEq] at hu;obtain⟨rfl,rfl⟩:=hu;have:=h6 u e v rfl hs;simpa using this
/-! tokens -/
theorem oneTok_text {c:UInt8}{r:Bytes}{k m n:Nat}(h:oneTok (c::r)=.ok k m n):((c::r).take m).all pgB=true∨(c::r).take m∈markList:=by
 simp only [oneTok] at h;split at h
 ·simp only [wordTok] at h;split at h
  ·cases h
  ·cases h;exact .inl (all_mono (fun _=>part_pl) (spanOf_take isPart _))
 ·split at h
  ·simp only [numTok] at h;split at h
   ·cases h
   ·split at h
    ·cases h
    ·cases h;exact .inl (all_mono (fun c hc=>part_pl (by simp [isPart,hc])) (spanOf_take isDigit _))
  ·simp only [markTok] at h;split at h
   ·rename_i m' hm;cases h;unfold markLen at hm;obtain⟨x,hx,rfl⟩:=Option.map_eq_some_iff.1 hm;have h1:=List.mem_of_find?_eq_some hx;have h2:=List.find?_some hx;obtain⟨t,ht⟩:=List.isPrefixOf_iff_prefix.1 h2;right;rw [← ht,List.take_left];exact h1
   ·cases h
/-- What a token changes of the depth. -/
def dl (x:Bytes):Int:=if x=[123] then 1 else if x=[125] then -1 else 0
theorem mark_br:∀ x∈markList,brs x=dl x∧(x.headD 0=125↔x=[125]):=by decide
theorem tok_br {c:UInt8}{t l:Bytes}{k n:Nat}(ho:oneTok ((c::t)++l)=.ok k (c::t).length n):brs (c::t)=dl (c::t)∧(c=125↔c::t=[125]):=by
 have e:((c::t)++l).take (c::t).length=c::t:=List.take_left;have h:=oneTok_text (c:=c) (r:=t++l) ho;rw [← List.cons_append,e] at h;rcases h with h | h
 ·have hc:c≠123∧c≠125:=by
   rw [List.all_cons,Bool.and_eq_true] at h;have h1:=h.1;simp only [pgB,Bool.and_eq_true,bne_iff_ne,ne_eq] at h1;exact⟨h1.1.2,h1.2⟩
  refine⟨?_,?_⟩
  ·rw [brs_pl h];unfold dl;rw [if_neg (by intro e;simp only [List.cons.injEq] at e;exact hc.1 e.1),if_neg (by intro e;simp only [List.cons.injEq] at e;exact hc.2 e.1)]
  ·exact⟨fun e=>absurd e hc.2,fun e=>absurd (by simpa using e:c=125∧t=[]).1 hc.2⟩
 ·exact mark_br _ h
/-- Tokens as they stand in s, D braces being open before. -/
def TkAt (s:Bytes):Int→List Tok→Prop
 | _,[]=>True
 | D,t::ts=>(∃ u c x v,s=u++c::(x++v)∧t.pos=u.length∧t.text=c::x∧isSep c=false∧brs u=D∧(c=125↔t.text=[125]))∧TkAt s (D+dl t.text) ts
theorem LxT.posn {l:Bytes}{us:List TT}(h:LxT l us):∀ pre:Bytes,∃ ts q,lexAt false pre.length l=.ok (ts++[⟨5,q,[],0⟩])∧TkAt (pre++l) (brs pre) ts∧ts.length≤l.length:=by
 induction h with
 | nil=>intro pre;exact⟨[],_,lexAt_nil _ _,trivial,Nat.le_refl _⟩
 | @sep c l us hc h ih =>
   intro pre;obtain⟨ts,q,h1,h2,h3⟩:=ih (pre++[c]);rw [List.length_append,brs_snoc,sep_br hc,Int.add_zero,List.append_assoc] at *;exact⟨ts,q,by rw [lexAt_sep hc];exact h1,h2,by simp;omega⟩
 | @tok u c t l us ht hs h47 ho h ih =>
   intro pre;obtain⟨ts,q,h1,h2,h3⟩:=ih (pre++u.text);have hb:brs u.text=dl u.text∧(c=125↔u.text=[125]):=by rw [ht] at ho ⊢;exact tok_br ho
   have hb1:=hb.1;have hb2:=hb.2;rw [List.length_append] at h1;rw [brs_app,hb1,List.append_assoc] at h2;refine⟨⟨u.kind,pre.length,u.text,u.n⟩::ts,q,?_,⟨⟨pre,c,t,l,by rw [ht];rfl,rfl,ht,hs,rfl,hb2⟩,h2⟩,?_⟩
   ·have e:u.text++l=c::(t++l):=by rw [ht];rfl
    have hop:opens c (t++l)=false:=by simp [opens,h47]
    rw [e] at ho ⊢;rw [lexAt_ok hs hop ho];rw [← e,List.drop_left,List.take_left,h1];rfl
   ·rw [List.length_append,ht];simp only [List.length_cons];omega
/-- Open braces before token i. -/
def dsum (ts:List Tok):Int:=(ts.map fun t=>dl t.text).sum
theorem dsum_snoc (ts:List Tok)(t:Tok):dsum (ts++[t])=dsum ts+dl t.text:=by simp [dsum]
theorem dl_le (x:Bytes):-1≤dl x∧dl x≤1:=by unfold dl;split;omega;split <;> omega
theorem dsum_le:∀ ts:List Tok,-(ts.length:Int)≤dsum ts∧dsum ts≤ts.length
 | []=>by simp [dsum]
 | t::ts=>by
   have h1:=dsum_le ts;have h2:=dl_le t.text;have e:dsum (t::ts)=dl t.text+dsum ts:=by simp [dsum]
   rw [e];simp;omega
/-- What the statement asks of a token, D braces being open before. -/
structure LineAt (s:Bytes) (D:Int) (t:Tok):Prop where
 lt:t.pos<s.length
 col:(t.pos=0∨s.getD (t.pos-1) 0=10∨s.getD (t.pos-1) 0=9)→((place (s.take t.pos)).2:Int)=D-(if t.text=[125] then 1 else 0)+1
 one:2≤t.pos→s.getD (t.pos-1) 0=32→s.getD (t.pos-2) 0≠32
theorem TkAt.line {s:Bytes}(hp:∀ u c v,s=u++c::v→isSep c=false→PosOk u c):∀ (ts:List Tok) (D:Int),TkAt s D ts→∀ i (h:i<ts.length),LineAt s (D+dsum (ts.take i)) ts[i]
 | [],_,_,i,h=>by simp at h
 | t::ts,D,hT,i,h=>by
   obtain⟨⟨u,c,x,v,h1,h2,h3,h4,h5,h6⟩,h7⟩:=hT;cases i with
   | zero =>
     obtain⟨p1,p2⟩:=hp _ _ _ h1 h4;have hu:s.take t.pos=u:=by rw [h1,h2,List.take_left]
     have hlast:∀ j,0<j→j≤u.length→s.getD (t.pos-j) 0=u.getD (u.length-j) 0:=fun j h0 hj=>by
      rw [h1,h2];simp only [List.getD_eq_getElem?_getD];rw [List.getElem?_append_left (by omega)]
     have split1:∀ {e:UInt8},1≤u.length→u.getD (u.length-1) 0=e→∃ q,u=q++[e]:=by
      intro e hl he;have hne:u≠[]:=by rintro rfl;simp at hl
      refine⟨u.dropLast,?_⟩;rw [← he];have:=(List.dropLast_concat_getLast hne).symm;rwa [List.getLast_eq_getElem,show u[u.length-1]'(by omega)=u.getD (u.length-1) 0 by rw [List.getD_eq_getElem?_getD,List.getElem?_eq_getElem (by omega)];rfl] at this
     simp only [List.getElem_cons_zero,List.take_zero];have d0:dsum []=0:=rfl;rw [d0,Int.add_zero];refine⟨by rw [h1,h2];simp,fun hb=>?_,fun h2' hb hb2=>?_⟩
     ·rw [hu,← h5];have:=p1 (by
       by_cases h0:t.pos=0
       ·left;exact List.length_eq_zero_iff.1 (by omega)
       ·rcases hb with hb | hb | hb
        ·exact absurd hb h0
        ·rw [hlast 1 (by omega) (by omega)] at hb;obtain⟨q,hq⟩:=split1 (by omega) hb;exact .inr ⟨q,.inl hq⟩
        ·rw [hlast 1 (by omega) (by omega)] at hb;obtain⟨q,hq⟩:=split1 (by omega) hb;exact .inr ⟨q,.inr hq⟩)
      rw [this]
      by_cases hc:c=125
      ·rw [if_pos hc,if_pos (h6.1 hc)]
      ·rw [if_neg hc,if_neg fun e=>hc (h6.2 e)]
     ·rw [hlast 1 (by omega) (by omega)] at hb;rw [hlast 2 (by omega) (by omega)] at hb2;obtain⟨q,hq⟩:=split1 (by omega) hb;apply p2;have hql:q.length=u.length-1:=by rw [hq];simp
      have hne:q≠[]:=by rintro rfl;simp at hql;omega
      refine⟨q.dropLast,?_⟩;have h9:=(List.dropLast_concat_getLast hne).symm;rw [List.getLast_eq_getElem] at h9;have h8:q[q.length-1]'(by have:=List.length_pos_iff.2 hne;omega)=32:=by
       have hlt:q.length-1<q.length:=by have:=List.length_pos_iff.2 hne;omega
       have e1:u[q.length-1]?=q[q.length-1]?:=by rw [hq,List.getElem?_append_left hlt]
       rw [List.getD_eq_getElem?_getD,show u.length-2=q.length-1 by omega,e1,List.getElem?_eq_getElem hlt] at hb2;exact hb2
      rw [h8] at h9;rw [hq];rw [← h9]
   | succ i =>
     have:=TkAt.line hp ts _ h7 i (by simpa using h);simp only [List.getElem_cons_succ,List.take_succ_cons];have e:dsum (t::ts.take i)=dl t.text+dsum (ts.take i):=by simp [dsum]
     rw [e,← Int.add_assoc];exact this
theorem lines_ok {l:List Cl}(hw:∀ c∈l,WfC c)(hl:(soText l).length≤65536):∃ ts q,tokensOf (soText l)=.ok (ts++[⟨5,q,[],0⟩])∧(∀ i (h:i<ts.length),LineAt (soText l) (dsum (ts.take i)) ts[i])∧ts.length≤65536∧(soText l=[]∨∃ p,soText l=p++[10]):=by
 obtain⟨us,g,p⟩:=prog_gr (fun c hc=>clText_gr hc) hw;have hx:LxT (soText l) us:=p.end;obtain⟨ts,q,h1,h2,h3⟩:=hx.posn [];have h0:Abs (.ln 0 0) []:=⟨rfl,rfl,fun q c e=>by simp at e⟩;obtain⟨h4,h5⟩:=run_sound (soText l) h0 (so_ls hw);rw [List.nil_append] at h2 h4;refine⟨ts,q,by unfold tokensOf;rw [if_neg (by omega)];exact h1,fun i hi=>?_,by omega,?_⟩
 ·have:=TkAt.line (s:=soText l) (fun u c v e hs=>by have:=h5 u c v e hs;simpa using this) ts _ h2 i hi;rwa [show brs []=0 from rfl,Int.zero_add] at this
 ·by_cases hn:soText l=[]
  ·exact .inl hn
  ·right;obtain⟨a,b,c⟩:=h4;have hd:=(List.dropLast_concat_getLast hn).symm;rcases c _ _ hd with e | e
   ·exact⟨_,by rw [e] at hd;exact hd⟩
   ·exfalso;rw [e] at hd;rw [hd,place_snoc,stepLC,if_neg (by decide)] at b;simp only at b;have:=(place_le (soText l).dropLast).2.2.1;omega
end Lx
end Go.Proofs.YtmlafcimjhnhhaaDoor
