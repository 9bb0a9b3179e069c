/-
  AX: maps that nobody writes any more are frozen.
-/
import Derived.Test.YtoookjadbhdfhaaDoorTJpAi
import Derived.Test.YtoookjadbhdfhaaDoorTJpAd
import Derived.Test.YtoookjadbhdfhaaDoorTJpAn
import Derived.Test.YtoookjadbhdfhaaDoorTJpAr
set_option linter.unusedSectionVars false
set_option linter.unusedSimpArgs false
set_option linter.unnecessarySimpa false
set_option linter.unusedVariables false
set_option linter.unusedSimpArgs false
set_option linter.unusedVariables false
namespace Go.Proofs.YtoookjadbhdfhaaDoor
section
namespace Ax
/-- A value that speaks of a frozen map. -/
inductive FM (b:Nat) (ks vs:List CV):CV→CV→Prop
 | same (c:CV):FM b ks vs c c
 | any (c:CV):FM b ks vs c .any
 | mp:FM b ks vs (.mp b) (.fmp ks vs)
 | agg (l l':List CV) (hl:l'.length=l.length) (h:∀ j (a:j<l.length) (b':j<l'.length),FM b ks vs l[j] l'[j]):FM b ks vs (.agg l) (.agg l')
 | tup (l l':List CV) (hl:l'.length=l.length) (h:∀ j (a:j<l.length) (b':j<l'.length),FM b ks vs l[j] l'[j]):FM b ks vs (.tup l) (.tup l')
theorem FM.aggs {b:Nat}{ks vs l l':List CV}(hl:l'.length=l.length)(h:∀ j (a:j<l.length) (b':j<l'.length),FM b ks vs l[j] l'[j]):FM b ks vs (.agg l) (.agg l'):=.agg l l' hl h
theorem RV.frzM {M M':Mp}{b g m:Nat}{ks vs:List CV}{en:Array MapEntry}{clock:Nat}(he:Ext M M')(hb:M.bk b=some (g,m))(hz:M'.fz g=some (.map en clock))(hk:RVs M ks (en.toList.map (·.key)))(hv:RVs M vs (en.toList.map (·.val))){c c':CV}(hf:FM b ks vs c c'):∀ {v:Value},RV M c v→RV M' c' v:=by
 induction hf with
 | same c=>intro v h;exact h.ext he
 | any c=>intro v h;exact .any v
 | mp =>
   intro v h;cases h with
   | mp _ g' m' h' =>
     rw [hb] at h';cases h';refine .fmp ks vs g en clock hz ?_ ?_ ?_ ?_
     ·have:=hk.1;simpa using this.symm
     ·have:=hv.1;simpa using this.symm
     ·intro j a d;have:=(hk.2 j a (by simpa using d)).ext he;simpa using this
     ·intro j a d;have:=(hv.2 j a (by simpa using d)).ext he;simpa using this
 | agg l l' hl' _ ih =>
   intro v h;cases h with
   | agg _ vs h1 h2=>exact .agg _ vs (by omega) (fun j a d=>ih j (by omega) a (h2 j (by omega) d))
 | tup l l' hl' _ ih =>
   intro v h;cases h with
   | tup _ vs h1 h2=>exact .tup _ vs (by omega) (fun j a d=>ih j (by omega) a (h2 j (by omega) d))
/-- The state with a map frozen. -/
theorem Rep.freezeM {M:Mp}{H:Heap}{nx:Nat}{w:World}(r:Rep M H nx w){b:Nat}{ks vs:List CV}(hb:H b=some (.map ks vs)) :
  ∃ M',Ext M M'∧Rep M' (drp H b) nx w∧Fr H M nx w (drp H b) M' nx w∧∀ {c c':CV} {v:Value},FM b ks vs c c'→RV M c v→RV M' c' v:=by
 obtain⟨g,m,hm,en,clock,hw,hk,hv⟩:=r.blk b _ hb;obtain⟨r',f'⟩:=r.frz b g m (.map ks vs) (.map en clock) hb hm hw;refine⟨_,f'.ext,r',f',?_⟩;intro c c' v hf hr;exact RV.frzM (en:=en) (clock:=clock) f'.ext hm (by simp) hk hv hf hr
section
variable {P:Program} {G:Nat→CV} {n:Nat} {e e':Env} {H:Heap} {nx:Nat} {Q:AExit→Env→Heap→Nat→Prop} {ops:Array Oper} {os:List Oper} {b:Nat} {ks vs:List CV}
theorem EnvR.frzM {M M':Mp}{a:Act}(v:EnvR M n e a)(he:∀ t,FM b ks vs (e t) (e' t))(h:∀ {c c':CV} {u:Value},FM b ks vs c c'→RV M c u→RV M' c' u):EnvR M' n e' a:=⟨v.1,v.2.1,fun t=>h (he t) (v.2.2 t)⟩
theorem AWp.frzM {c:Code}(hb:H b=some (.map ks vs))(he:∀ t,FM b ks vs (e t) (e' t))(h:AWp P G n c e' (drp H b) nx Q):AWp P G n c e H nx Q:=fun M a w g r v=>by
 obtain⟨M',hx,r',f',hv⟩:=r.freezeM hb;exact wp_mono (h M' a w (g.ext hx) r' (v.frzM he hv)) fun _ _ _ hp=>hp.trans f'
theorem AOps.frzM {l:List Nat}(hb:H b=some (.map ks vs))(he:∀ t,FM b ks vs (e t) (e' t))(h:AOps P G n ops l e' (drp H b) nx Q):AOps P G n ops l e H nx Q:=fun M a w g r v=>by
 obtain⟨M',hx,r',f',hv⟩:=r.freezeM hb;exact wpOps_mono (fun _ _ _ hp=>hp.trans f') l (h M' a w (g.ext hx) r' (v.frzM he hv))
theorem AOpl.frzM (hb:H b=some (.map ks vs))(he:∀ t,FM b ks vs (e t) (e' t))(h:AOpl P G n ops os e' (drp H b) nx Q):AOpl P G n ops os e H nx Q:=fun k hk=>AOps.frzM hb he (h k hk)
end
/-! results -/
inductive FMr (b:Nat) (ks vs:List CV):Res→Res→Prop
 | ret {c c':CV} (h:FM b ks vs c c'):FMr b ks vs (.ret c) (.ret c')
 | pan {c c':CV} (h:FM b ks vs c c'):FMr b ks vs (.pan c) (.pan c')
theorem EndR.frzM {M M':Mp}{b:Nat}{ks vs:List CV}(h:∀ {c c':CV} {v:Value},FM b ks vs c c'→RV M c v→RV M' c' v){r r':Res}(hf:FMr b ks vs r r'){e:Ending}(he:EndR M r e):EndR M' r' e:=by
 cases hf with
 | ret hf=>cases e <;> simp only [EndR] at he ⊢;exact h hf he
 | pan hf=>cases e <;> simp only [EndR] at he ⊢;obtain⟨z,h1,h2⟩:=he;exact⟨z,h1,h hf h2⟩
/-- A function that gives back a value with an own map. -/
theorem FCall.ofBodyM {P:Program}{G:Nat→CV}{f:FuncId}{fn:Func}{c:Code}{args:List CV}{Q:Res→Prop}{n:Nat}(hf:P.funcs[f]?=some fn)(hb:fn.body=some c)(hn:max args.length fn.ntmps=n)
  (h:∀ nx,AWp P G n c (argE args) Heap.no nx (BodyQ P fn fun r H' _=>∃ b ks vs r',H' b=some (.map ks vs)∧FMr b ks vs r r'∧Q r')):FCall P G f args Q:=by
 refine FCall.of fun nx=>?_
 intro M w vs g r v;refine (ACall.of_body hf hb (hn▸h nx) M w vs g r v).mono ?_;rintro e w' ⟨M1,x,H1,n1,a1,a2,a3,b,ks,ws,r',hb',hr,hq⟩;obtain⟨M2,hx,r2,f2,hv⟩:=a2.freezeM hb';exact⟨M2,r',_,n1,EndR.frzM hv hr a1,r2,a3.trans f2,hq⟩
/-! looking up keys that are strings -/
theorem findK_str {d:TypeDesc}(hd:d=.string)(s:List UInt8):∀ (l:List (List UInt8)) (j:Nat),findK d (.str s) (l.map .str) j=some ((l.findIdx? (· == s)).map (·+j))
 | [],j=>rfl
 | a::l,j=>by
   subst hd;have ih:=findK_str rfl s l (j+1);simp only [List.map_cons,findK,scalD,List.findIdx?_cons]
   by_cases h:a=s
   ·subst h;simp
   ·have h1:(s == a)=false:=by simpa using fun e=>h e.symm
    have h2:(a == s)=false:=by simpa using h
    simp only [h1,h2,ih];cases l.findIdx? (· == s) <;> simp;omega
theorem findK_int {k:IntKind}{d:TypeDesc}(hd:∃ k',d=.int k')(s:Int):∀ (l:List Int) (j:Nat),findK d (.int k s) (l.map (.int k)) j=some ((l.findIdx? (· == s)).map (·+j))
 | [],j=>rfl
 | a::l,j=>by
   obtain⟨k',rfl⟩:=hd;have ih:=findK_int (k:=k) (d:=.int k') ⟨k',rfl⟩ s l (j+1);simp only [List.map_cons,findK,scalD,List.findIdx?_cons]
   by_cases h:a=s
   ·subst h;cases hk:decEq k k with
    | isTrue _=>simp
    | isFalse h=>exact absurd rfl h
   ·have h1:(s == a)=false:=by simpa using fun e=>h e.symm
    have h2:(a == s)=false:=by simpa using h
    cases hk:decEq k k with
    | isTrue _ => 
      simp only [h1,h2,ih];cases l.findIdx? (· == s) <;> simp;omega
    | isFalse h=>exact absurd rfl h
end Ax
end
section
namespace Ax
section
variable {P:Program} {H:Heap} {t kt et:TypeId} {ik ie:TI} {x:CV} {vs:List CV}
theorem lookA_str {a b c}(ht:ti P t=some ⟨.map kt et,a,b,c⟩)(hk:ti P kt=some ik)(hs:ik.und=.string)(he:ti P et=some ie){ks:List (List UInt8)}(hm:mapOf H x=some (ks.map .str,vs))(s:List UInt8)(ok:Bool) :
  lookA P H t x (.str s) ok=match ks.findIdx? (· == s) with
   | some q=>(vs[q]?).map fun v=>if ok then .tup [v,.bool true] else v
   | none=>some (if ok then .tup [ofV ie.zero,.bool false] else ofV ie.zero):=by
 have hd:keyD ik.und (.str s)=true:=by rw [hs];rfl
 unfold lookA;simp only [ht,hk,he,hm,hd,findK_str hs];cases ks.findIdx? (· == s) with
 | none=>rfl
 | some q =>
   simp only [Option.map_some,Nat.add_zero];cases vs[q]? <;> rfl
theorem lookA_int {a b c}{k k':IntKind}(ht:ti P t=some ⟨.map kt et,a,b,c⟩)(hk:ti P kt=some ik)(hs:ik.und=.int k')(he:ti P et=some ie){ks:List Int}(hm:mapOf H x=some (ks.map (.int k),vs))(s:Int)(ok:Bool) :
  lookA P H t x (.int k s) ok=match ks.findIdx? (· == s) with
   | some q=>(vs[q]?).map fun v=>if ok then .tup [v,.bool true] else v
   | none=>some (if ok then .tup [ofV ie.zero,.bool false] else ofV ie.zero):=by
 have hd:keyD ik.und (.int k s)=true:=by rw [hs];rfl
 unfold lookA;simp only [ht,hk,he,hm,hd,findK_int (k:=k) ⟨k',hs⟩];cases ks.findIdx? (· == s) with
 | none=>rfl
 | some q =>
   simp only [Option.map_some,Nat.add_zero];cases vs[q]? <;> rfl
theorem mupA_str {a b c}{m:Nat}{v:CV}(ht:ti P t=some ⟨.map kt et,a,b,c⟩)(hk:ti P kt=some ik)(hs:ik.und=.string){ks:List (List UInt8)}(hm:H m=some (.map (ks.map .str) vs))(s:List UInt8)(hn:ks.findIdx? (· == s)=none) :
  mupA P H t (.mp m) (.str s) v=some (.any,.set m (.map ((ks++[s]).map .str) (vs++[v]))):=by
 have hd:keyD ik.und (.str s)=true:=by rw [hs];rfl
 unfold mupA;simp only [ht,hk,hm,hd,findK_str hs,hn,Option.map_none,List.map_append,List.map_cons,List.map_nil]
theorem mupA_int {a b c}{k k':IntKind}{m:Nat}{v:CV}(ht:ti P t=some ⟨.map kt et,a,b,c⟩)(hk:ti P kt=some ik)(hs:ik.und=.int k'){ks:List Int}(hm:H m=some (.map (ks.map (.int k)) vs))(s:Int)(hn:ks.findIdx? (· == s)=none) :
  mupA P H t (.mp m) (.int k s) v=some (.any,.set m (.map ((ks++[s]).map (.int k)) (vs++[v]))):=by
 have hd:keyD ik.und (.int k s)=true:=by rw [hs];rfl
 unfold mupA;simp only [ht,hk,hm,hd,findK_int (k:=k) ⟨k',hs⟩,hn,Option.map_none,List.map_append,List.map_cons,List.map_nil]
/-- Whether a number is in a set, which is a map of truth values. -/
theorem lookA_set {a b c}{k k':IntKind}(ht:ti P t=some ⟨.map kt et,a,b,c⟩)(hk:ti P kt=some ik)(hs:ik.und=.int k')(he:ti P et=some ie)(hz:ofV ie.zero=.bool false){l:List Int}(hm:mapOf H x=some (l.map (.int k),l.map fun _=>.bool true))(s:Int) :
  lookA P H t x (.int k s) false=some (.bool (l.contains s)):=by
 rw [lookA_int ht hk hs he hm s false];cases h:l.findIdx? (· == s) with
 | none =>
   have:l.contains s=false:=by
    rw [List.findIdx?_eq_none_iff] at h;cases hc:l.contains s with
    | false=>rfl
    | true =>
      rw [List.contains_iff_mem] at hc;have:=h s hc;simp at this
   simp only [Bool.false_eq_true,if_false,hz,this]
 | some q =>
   obtain⟨h1,h2,_⟩:=List.findIdx?_eq_some_iff_getElem.mp h;have hm:l.contains s=true:=by
    rw [List.contains_iff_mem];have:l[q]=s:=by simpa using h2
    rw [← this];exact List.getElem_mem h1
   simp [List.getElem?_map,List.getElem?_eq_getElem h1,hm];rw [List.contains_iff_mem] at hm;exact hm
end
end Ax
end
section
namespace Ax
/-- A contract of known result that leaves the memory and the numbers alone. -/
def FRes (P:Program)(G:Nat→CV)(f:FuncId)(args:List CV)(R:Res):Prop:=∀ H nx,ACall P G f args H nx fun r H' nx'=>r=R∧H'=H∧nx'=nx
theorem FCall1.res {P:Program}{G:Nat→CV}{f:FuncId}{args:List CV}{v:CV}(h:FCall1 P G f args v):FRes P G f args (.ret v):=h
theorem FRes.one {P:Program}{G:Nat→CV}{f:FuncId}{args:List CV}{v:CV}(h:FRes P G f args (.ret v)):FCall1 P G f args v:=h
/-- A contract without memory whose values are pure leaves the numbers alone, too. -/
theorem FCall.res {P:Program}{G:Nat→CV}{f:FuncId}{args:List CV}{R:Res}(hG:∀ g,puV (G g)=true)(ha:puL args=true)(hv:R.pu=true)(h:FCall P G f args fun r=>r=R):FRes P G f args R:=by
 intro H nx M w vs g r rv;have h0:=h Heap.no 0;have r0:Rep ⟨M.fz,fun _=>none⟩ Heap.no 0 w:=⟨fun _ _ h=>(by cases h),fun _ _ _ _ _ _ _ h=>(by cases h),fun _ _=>rfl,r.fz,fun _ _ _ _ _ _ h=>(by cases h)⟩;refine (h0 ⟨M.fz,fun _=>none⟩ w vs (RG.swap (M:=M) (M':=⟨M.fz,fun _=>none⟩) (fun _ _ h=>h) g hG) r0 (RVs.swap (M:=M) (M':=⟨M.fz,fun _=>none⟩) (fun _ _ h=>h) rv ha)).mono ?_;rintro e w' ⟨M1,x,H1,nx1,a1,a2,a3,a4,rfl⟩;subst a4;have ni:∀ b k g m,H b=some k→M.bk b=some (g,m)→g<w.heap.size∧w'.heap[g]?=w.heap[g]?∧∀ o,M1.fz g≠some o:=by
  intro b k g m hb hm;have hlt:=r.lt hb hm;refine⟨hlt,a3.kept g hlt (fun ⟨_,_,_,h,_⟩=>by cases h),fun o ho=>?_⟩;rcases a3.fzn g o ho with h1 | ⟨_,_,_,h1,_⟩ | h1
  ·exact r.sep g o b k m h1 hb hm
  ·cases h1
  ·omega
 have he:Ext M ⟨M1.fz,M.bk⟩:=⟨fun x y h=>a3.ext.fz x y h,fun _ _ h=>h⟩;refine⟨⟨M1.fz,M.bk⟩,x,H,nx,EndR.swap (M:=M1) (M':=⟨M1.fz,M.bk⟩) (fun _ _ h=>h) a1 hv,⟨fun b k hb=>?_,r.inj,r.fresh,a2.fz,fun g o b k m hz hb hm=>(ni b k g m hb hm).2.2 o hz⟩,⟨he,a3.os,a3.tape,a3.output,a3.grown,fun g hg _=>a3.kept g hg (fun ⟨_,_,_,h,_⟩=>by cases h),fun _ h=>.inl h,fun _ _=>rfl,Nat.le_refl _,fun g o h=>?_⟩,rfl,rfl,rfl⟩
 ·obtain⟨g,m,h1,h2⟩:=r.blk b k hb;exact⟨g,m,h1,h2.ext he (ni b k g m hb h1).2.1⟩
 ·rcases a3.fzn g o h with h1 | ⟨_,_,_,h1,_⟩ | h1
  ·exact .inl h1
  ·cases h1
  ·exact .inr (.inr h1)
/-- A value whose own blocks are looked at as frozen ones. -/
inductive Ln (H:Heap):CV→CV→Prop
 | same (c:CV):Ln H c c
 | ptr (b o:Nat) (cs cs':List CV) (h:H b=some (.cells cs)) (ho:o≤cs.length) (hl:cs'.length=cs.length) (hr:∀ j (a:j<cs.length) (b':j<cs'.length),Ln H cs[j] cs'[j]):Ln H (.ptr b o) (.rop (cs'.drop o))
 | sl (b o n k:Nat) (cs cs':List CV) (h:H b=some (.cells cs)) (ho:o+n*k≤cs.length) (hl:cs'.length=cs.length) (hr:∀ j (a:j<cs.length) (b':j<cs'.length),Ln H cs[j] cs'[j]):Ln H (.sl b o n k) (.lst (rowsOf cs' o k n))
 | nils:Ln H .nils (.lst [])
 | fn (f:Fn) (a b b':List CV) (hl:b'.length=b.length) (hr:∀ j (x:j<b.length) (y:j<b'.length),Ln H b[j] b'[j]):Ln H (.fn f a b) (.fn f a b')
 | agg (l l':List CV) (hl:l'.length=l.length) (h:∀ j (a:j<l.length) (b':j<l'.length),Ln H l[j] l'[j]):Ln H (.agg l) (.agg l')
def LnL (H:Heap)(l l':List CV):Prop:=l'.length=l.length∧∀ j (_:j<l.length) (_:j<l'.length),Ln H l[j] l'[j]
theorem LnL.nil {H:Heap}:LnL H [] []:=⟨rfl,fun j a=>by simp at a⟩
theorem LnL.cons {H:Heap}{c c':CV}{l l':List CV}(h:Ln H c c')(hs:LnL H l l'):LnL H (c::l) (c'::l'):=⟨by simp [hs.1],fun j x y=>by
 cases j with
 | zero=>exact h
 | succ j=>exact hs.2 j (by simpa using x) (by simpa using y)⟩
theorem LnL.same {H:Heap}(l:List CV):LnL H l l:=⟨rfl,fun _ _ _=>.same _⟩
theorem LnL.append {H:Heap}{l l' m m':List CV}(h:LnL H l l')(h':LnL H m m'):LnL H (l++m) (l'++m'):=by
 refine⟨by simp [h.1,h'.1],fun j a b=>?_⟩
 by_cases hj:j<l.length
 ·rw [List.getElem_append_left hj,List.getElem_append_left (by rw [h.1];exact hj)];exact h.2 j hj (by rw [h.1];exact hj)
 ·rw [List.getElem_append_right (by omega),List.getElem_append_right (by rw [h.1];omega)];have e:j-l'.length=j-l.length:=by rw [h.1]
  simp only [e];exact h'.2 _ (by simp at a;omega) (by rw [h'.1];simp at a;omega)
theorem Ln.ptrL {H:Heap}{b:Nat}{cs cs':List CV}(h:H b=some (.cells cs))(hs:LnL H cs cs'):Ln H (.ptr b 0) (.rop cs'):=.ptr b 0 cs cs' h (Nat.zero_le _) hs.1 hs.2
theorem Ln.fnL {H:Heap}{f:Fn}{a b b':List CV}(hs:LnL H b b'):Ln H (.fn f a b) (.fn f a b'):=.fn f a b b' hs.1 hs.2
theorem Ln.rv {M:Mp}{H:Heap}{nx:Nat}{w:World}(r:Rep M H nx w){c c':CV}(hl:Ln H c c'):∀ {v:Value},RV M c v→RV (M.all H w) c' v:=by
 have he:=Mp.all_ext r;have blk:∀ {b:Nat} {cs:List CV} {g m:Nat},H b=some (.cells cs)→M.bk b=some (g,m)→∃ arr T,(M.all H w).fz g=some (.cells arr T (0,0))∧cs.length≤arr.size∧∀ j (a:j<cs.length) (h:j<arr.size),RV M cs[j] arr[j]:=by
  intro b cs g m hb hm;obtain⟨g',m',hm',arr,T,hw,hs,hr⟩:=r.blk b _ hb;rw [hm] at hm';cases hm';have hl:cs.length≤arr.size:=by have:=hr.1;simp at this;omega
  refine⟨arr,T,?_,hl,fun j a h=>?_⟩
  ·have hi:Im H M g:=⟨b,_,m,hb,hm⟩
   show (open Classical in if Im H M g then w.heap[g]? else M.fz g)=_
   simp only [hi,if_true];exact hw
  ·have:=hr.2 j a (by simp;omega);simpa using this
 induction hl with
 | same c=>intro v h;exact h.ext he
 | nils=>intro v h;cases h;exact .lst0 _ _
 | ptr b o cs cs' hb ho hl _ ih =>
   intro v h;cases h with
   | ptr _ _ g m h =>
     obtain⟨arr,T,hz,hs,hr⟩:=blk hb h;refine .rop _ g o arr T (0,0) hz (by simp;omega) (fun j a d=>?_);rw [List.getElem_drop];exact ih (o+j) (by simp at a;omega) (by simp at a;omega) (hr (o+j) (by simp at a;omega) d)
 | sl b o n k cs cs' hb ho hl _ ih =>
   intro v h;cases h with
   | sl _ _ _ _ g m c h hn hm =>
     obtain⟨arr,T,hz,hs,hr⟩:=blk hb h;refine .lst _ g o n k c arr T (0,0) hz (by simp [rowsOf]) hn (fun x hx=>?_) (by omega) (fun i a j d dd=>?_)
     ·obtain⟨i,hi,rfl⟩:=List.mem_map.mp hx;exact rows_len (cs:=cs') (n:=n) (by omega) (by simpa using hi)
     ·have hi:i<n:=by simpa [rowsOf] using a
      have hj:j<k:=by
       simp only [rowsOf,List.getElem_map,List.getElem_range] at d;rw [rows_len (cs:=cs') (n:=n) (by omega) hi] at d;exact d
      have hlt:=mul_lt_row (k:=k) hi hj;simp only [rowsOf,List.getElem_map,List.getElem_range,List.getElem_take,List.getElem_drop];exact ih (o+i*k+j) (by omega) (by omega) (hr (o+i*k+j) (by omega) dd)
 | fn f a b b' hl _ ih =>
   intro v h;cases h with
   | fn _ _ _ fs cs l1 l2 h1 h2=>exact .fn f a b' fs cs l1 (by rw [l2,hl]) (fun j x y=>(h1 j x y).ext he) (fun j x y=>ih j (by omega) x (h2 j (by omega) y))
 | agg l l' hl _ ih =>
   intro v h;cases h with
   | agg _ vs h1 h2=>exact .agg _ vs (by omega) (fun j a d=>ih j (by omega) a (h2 j (by omega) d))
theorem LnL.rvs {M:Mp}{H:Heap}{nx:Nat}{w:World}(r:Rep M H nx w){l l':List CV}(hl:LnL H l l'){vs:List Value}(h:RVs M l vs):RVs (M.all H w) l' vs:=⟨by rw [h.1,hl.1],fun j a b=>(hl.2 j (by rw [← hl.1];exact a) a).rv r (h.2 j (by rw [← hl.1];exact a) b)⟩
/-- Values that speak of no memory. -/
def sclS:CV→Bool
 | .any | .bool _ | .int _ _ | .str _ | .nilp | .nils | .nilm | .nilf | .nili=>true
 | _=>false
def sclL:List CV→Bool
 | []=>true
 | c::l=>sclS c && sclL l
def scl:CV→Bool
 | .agg l | .tup l | .iface _ (.agg l)=>sclL l
 | c=>sclS c
def Res.scl:Res→Bool
 | .ret v=>Ax.scl v
 | .pan v=>Ax.scl v
theorem RV.sclS {M M':Mp}{c:CV}{v:Value}(h:RV M c v)(hp:Ax.sclS c=true):RV M' c v:=by
 cases h <;> first | (constructor;done) | (exact .str _ _ (by assumption)) | cases hp
theorem RVs.sclL {M M':Mp}:∀ {cs:List CV} {vs:List Value},RVs M cs vs→Ax.sclL cs=true→RVs M' cs vs
 | [],vs,h,_=>by rw [h.nil_inv];exact .nil
 | c::cs,vs,h,hp=>by
   obtain⟨v,vs',rfl,h1,h2⟩:=h.cons_inv;simp only [Ax.sclL,Bool.and_eq_true] at hp;exact .cons (h1.sclS hp.1) (h2.sclL hp.2)
theorem RV.scl {M M':Mp}{c:CV}{v:Value}(h:RV M c v)(hp:Ax.scl c=true):RV M' c v:=by
 have h0:=h;cases h with
 | agg cs vs hl hr=>have:=RVs.sclL (M':=M') ⟨hl,hr⟩ hp;exact .agg _ _ this.1 this.2
 | tup cs vs hl hr=>have:=RVs.sclL (M':=M') ⟨hl,hr⟩ hp;exact .tup _ _ this.1 this.2
 | iface t x v hx =>
   cases hx with
   | agg cs vs hl hr=>have:=RVs.sclL (M':=M') ⟨hl,hr⟩ hp;exact .iface t _ _ (.agg _ _ this.1 this.2)
   | _=>cases hp
 | _=>first | exact h0.sclS hp | cases hp
theorem EndR.scl {M M':Mp}{r:Res}{e:Ending}(h:EndR M r e)(hp:r.scl=true):EndR M' r e:=by
 cases r with
 | ret v=>cases e <;> simp only [EndR] at h ⊢;exact h.scl hp
 | pan v=>cases e <;> simp only [EndR] at h ⊢;obtain⟨z,h1,h2⟩:=h;exact⟨z,h1,h2.scl hp⟩
/-- A contract on frozen arguments used with own blocks: they are only read. -/
theorem FRes.lend {P:Program}{G:Nat→CV}{f:FuncId}{args args':List CV}{R:Res}(hG:∀ g,puV (G g)=true)(h:FRes P G f args' R)(hR:R.scl=true)(hp:puL args'=true){H:Heap}(hl:LnL H args args'):∀ nx,ACall P G f args H nx fun r H' nx'=>r=R∧H'=H∧nx'=nx:=by
 intro nx M w vs g r rv;obtain⟨M0,hM0⟩:∃ M0:Mp,M0=⟨(M.all H w).fz,fun _=>none⟩:=⟨_,rfl⟩;have z0:∀ g x,(M.all H w).fz g=some x→M0.fz g=some x:=fun g x hx=>by rw [hM0];exact hx
 have ra:=(Rep.all r).1;have r0:Rep M0 Heap.no 0 w:=by
  rw [hM0];exact⟨fun _ _ h=>(by cases h),fun _ _ _ _ _ _ _ h=>(by cases h),fun _ _=>rfl,ra.fz,fun _ _ _ _ _ _ h=>(by cases h)⟩
 refine (h Heap.no 0 M0 w vs (RG.swap (M:=M.all H w) (M':=M0) z0 (g.ext (Mp.all_ext r)) hG) r0 (RVs.swap (M:=M.all H w) (M':=M0) z0 (hl.rvs r rv) hp)).mono ?_;rintro e w' ⟨M1,x,H1,nx1,a1,a2,a3,rfl,rfl,rfl⟩;have no:∀ {M':Mp} {g:Nat},¬ Im Heap.no M' g:=fun ⟨_,_,_,h,_⟩=>by cases h
 obtain⟨M2,hM2⟩:∃ M2:Mp,M2=⟨fun g=>open Classical in if Im H M g then M.fz g else M1.fz g,M.bk⟩:=⟨_,rfl⟩;have f0:∀ g,¬ Im H M g→M0.fz g=M.fz g:=fun g hg=>by rw [hM0];show (open Classical in if Im H M g then w.heap[g]? else M.fz g)=_;simp only [hg,if_false]
 have m2n:∀ g,¬ Im H M g→M2.fz g=M1.fz g:=fun g hg=>by rw [hM2];show (open Classical in if Im H M g then M.fz g else M1.fz g)=_;simp only [hg,if_false]
 have m2i:∀ g o,Im H M g→M2.fz g=some o→False:=fun g o hg ho=>by
  rw [hM2] at ho;have:(open Classical in if Im H M g then M.fz g else M1.fz g)=some o:=ho;simp only [hg,if_true] at this;obtain⟨b,k,m,h1,h2⟩:=hg;exact r.sep g o b k m this h1 h2
 have mb:M2.bk=M.bk:=by rw [hM2]
 have he:Ext M M2:=⟨fun x y hx=>by
  have hn:¬ Im H M x:=fun ⟨b,k,m,h1,h2⟩=>r.sep x y b k m hx h1 h2
  rw [m2n x hn];exact a3.ext.fz x y (by rw [f0 x hn];exact hx),fun _ _ h=>by rw [mb];exact h⟩
 refine⟨M2,x,H,nx,a1.scl hR,⟨fun b k hb=>?_,fun b b' k k' g m m' h1 h2 h3 h4=>r.inj b b' k k' g m m' h1 h2 (by rw [← mb];exact h3) (by rw [← mb];exact h4),fun b hb=>by rw [mb];exact r.fresh b hb,fun g o hz=>?_,fun g o b k m hz hb hm=>?_⟩,⟨he,a3.os,a3.tape,a3.output,a3.grown,fun g hg _=>a3.kept g hg no,fun g ⟨b,k,m,h1,h2⟩=>.inl ⟨b,k,m,h1,by rw [← mb];exact h2⟩,fun b _=>by rw [mb],Nat.le_refl _,fun g o hz=>?_⟩,rfl,rfl,rfl⟩
 ·obtain⟨g,m,h1,h2⟩:=r.blk b k hb;exact⟨g,m,by rw [mb];exact h1,h2.ext he (a3.kept g (r.lt hb h1) no)⟩
 ·by_cases hi:Im H M g
  ·exact (m2i g o hi hz).elim
  ·exact a2.fz g o (by rw [← m2n g hi];exact hz)
 ·exact m2i g o ⟨b,k,m,hb,by rw [← mb];exact hm⟩ hz
 ·by_cases hi:Im H M g
  ·exact (m2i g o hi hz).elim
  ·rw [m2n g hi] at hz;rcases a3.fzn g o hz with h1 | h1 | h1
   ·exact .inl (by rw [← f0 g hi];exact h1)
   ·exact (no h1).elim
   ·exact .inr (.inr h1)
/-- The same for a value, with the looks found by steps. -/
theorem FCall1.lend {P:Program}{G:Nat→CV}{f:FuncId}{args args':List CV}{v:CV}(hG:∀ g,puV (G g)=true)(h:FCall1 P G f args' v)(hp:puL args'=true){H:Heap}(hR:Ax.scl v=true:=by rfl)
  (hl:LnL H args args':=by repeat (first | exact LnL.nil | refine LnL.cons ?_ ?_ | exact Ln.same _ | exact Ln.nils | refine Ln.fnL ?_ | refine Ln.ptrL (by simp [upd, *];rfl) ?_)):∀ nx,ACall P G f args H nx fun r H' nx'=>r=.ret v∧H'=H∧nx'=nx:=FRes.lend hG h.res hR hp hl
section
variable {P:Program} {G:Nat→CV} {n:Nat} {e:Env} {H:Heap} {nx:Nat} {Q:AExit→Env→Heap→Nat→Prop} {ops:Array Oper} {os:List Oper} {d:Option Nat} {op:Op} {ty:TypeId} {pos:String} {af:Array Edge} {g:Option (Nat×Bool)}
/-- A call of known result. -/
theorem Xr (hd:okD n d=true)(hg:gd ops e ⟨d,op,ty,pos,af,g⟩=some true){f:FuncId}{args:List CV}(hq:callA (rd G e) op=some (f,args))(he:enters P f=true){v:CV}(hf:∀ nx,ACall P G f args H nx fun r H' nx'=>r=.ret v∧H'=H∧nx'=nx)
  (h:AOpl P G n ops os (putE e d v) H nx Q):AOpl P G n ops (⟨d,op,ty,pos,af,g⟩::os) e H nx Q :=
 AOpl.callG hd hg hq he ((hf nx).mono fun r H' nx' ⟨h1,h2,h3⟩=>by subst h1;subst h2;subst h3;exact h)
/-- A call that panics. -/
theorem AOpl.callP (hd:okD n d=true)(hg:gd ops e ⟨d,op,ty,pos,af,g⟩=some true){f:FuncId}{args:List CV}(hq:callA (rd G e) op=some (f,args))(he:enters P f=true){v:CV}(hf:∀ nx,ACall P G f args H nx fun r H' nx'=>r=.pan v∧H'=H∧nx'=nx)
  (h:Q (.pan v) e H nx):AOpl P G n ops (⟨d,op,ty,pos,af,g⟩::os) e H nx Q :=
 AOpl.callG hd hg hq he ((hf nx).mono fun r H' nx' ⟨h1,h2,h3⟩=>by subst h1;subst h2;subst h3;exact h)
end
/-- A body of known result that leaves the memory and the numbers alone. -/
theorem FRes.ofBody {P:Program}{G:Nat→CV}{f:FuncId}{fn:Func}{c:Code}{args:List CV}{R:Res}{n:Nat}(hG:∀ g,puV (G g)=true)(ha:puL args=true)(hv:R.pu=true)(hf:P.funcs[f]?=some fn)(hb:fn.body=some c)(hn:max args.length fn.ntmps=n)
  (h:∀ nx,AWp P G n c (argE args) Heap.no nx (BodyQ P fn fun r _ _=>r=R)):FRes P G f args R:=FCall.res hG ha hv (FCall.ofBody hf hb hn h)
end Ax
end
section
namespace Ax
theorem OwnL.keep {α:Type}{cv:α→List CV}{k:Nat}{H H':Heap}{nx nx':Nat}{c:CV}{l:List α}(h:OwnL cv k H nx c l)(hn:nx≤nx')(hk:∀ b',b'<nx→c=.sl b' 0 l.length k→H' b'=H b'):OwnL cv k H' nx' c l:=by
 rcases h with⟨h1,h2⟩ | ⟨b,h1,h2,h3⟩
 ·exact .inl ⟨h1,h2⟩
 ·exact .inr ⟨b,h1,by rw [hk b h3 h1];exact h2,by omega⟩
theorem OwnL.updS {α:Type}{cv:α→List CV}{k:Nat}{H:Heap}{nx x:Nat}{c:CV}{l:List α}{kk:CB}(h:OwnL cv k H nx c l)(hx:∀ b',c=.sl b' 0 l.length k→x≠b'):OwnL cv k (Ax.upd H x kk) nx c l :=
 h.keep (Nat.le_refl _) fun b' _ he=>upd_miss _ _ _ _ (fun e=>hx b' he e.symm)
theorem OwnL.isN {α:Type}{cv:α→List CV}{k:Nat}{H:Heap}{nx N:Nat}{l:List α}(hb:H N=some (.cells (l.flatMap cv)))(hn:N<nx)(n:Nat)(hl:n=l.length):OwnL cv k H nx (.sl N 0 n k) l:=.inr ⟨N,by rw [hl],hb,hn⟩
theorem own_row {α:Type}{cv:α→List CV}{k:Nat}{H:Heap}{nx b:Nat}{x:CV}{acc:List α}{kk:CB}(ho:OwnL cv k H nx x acc)(hb:H b=some kk)(hk:kk≠.cells (acc.flatMap cv)):∀ b',x=.sl b' 0 acc.length k→b≠b':=by
 rintro b' rfl rfl;rcases ho with⟨_,h⟩ | ⟨b2,h1,h2,_⟩
 ·cases h
 ·cases h1;rw [hb] at h2;exact hk (by cases h2;rfl)
section
variable {P:Program} {G:Nat→CV} {n:Nat} {e:Env} {H:Heap} {nx:Nat} {Q:AExit→Env→Heap→Nat→Prop} {ops:Array Oper} {os:List Oper} {d:Option Nat} {ty:TypeId} {pos:String} {af:Array Edge} {g:Option (Nat×Bool)}
theorem AOpl.appR {α:Type}{cv:α→List CV}{k:Nat}{t el:TypeId}{s b1:Nat}{z:Value}{i:TI}{so xo:Operand}{c:CV}{l:List α}{x:Nat}(hcv:∀ a,(cv a).length=k)(hone:∀ a,(cv a).all CV.one=true)(ht:ti P t=some ⟨.slice el,s,z,b1⟩)(hi:ti P el=some i)(u:α)
  (ho:OwnL cv k H nx c l) (hn:l.length<1000000000)
  (h:∀ H',H' nx=some (.cells ((l++[u]).flatMap cv))→(∀ b,b<nx→(∀ b',c=.sl b' 0 l.length k→b≠b')→H' b=H b)→AOpl P G n ops os (putE e d (.sl nx 0 (l.length+1) k)) H' (nx+1) Q)
  (hk:i.size=k:=by rfl) (hz:i.zero.cells.size=k:=by rfl) (hk0:0<k:=by omega) (hby:i.bytes≤1000:=by simp) (hd:okD n d=true:=by rfl) (hg:gd ops e ⟨d,.call ⟨.builtin .append,#[so,xo],#[t,t]⟩,ty,pos,af,g⟩=some true:=by (first | rfl | (simp [*];done)))
  (hs:rd G e so=c:=by (first | (simp [*];done) | (simp [*];rfl))) (hx:rd G e xo=.sl x 0 1 k:=by (first | (simp [*];done) | (simp [*];rfl))) (hxb:H x=some (.cells (cv u)):=by (first | (simp [*];done) | (simp [*];rfl))) :
  AOpl P G n ops (⟨d,.call ⟨.builtin .append,#[so,xo],#[t,t]⟩,ty,pos,af,g⟩::os) e H nx Q :=
 AOpl.appRow2 ht hi hk hz hk0 hby hcv hone hd hg hs hx ho hxb hn h
/-- A list that may be nil is held against nil. -/
theorem AOpl.nilU {t el:TypeId}{s b1:Nat}{z:Value}{x:Operand}{t2:TypeId}(ht:ti P t=some ⟨.slice el,s,z,b1⟩)(hx:rd G e x=.lst [])(h:∀ b,AOpl P G n ops os (putE e d (.bool b)) H nx Q)(hd:okD n d=true:=by rfl) :
  AOpl P G n ops (⟨d,.binOp .eql t x (.const (.slice none 0 0)) t2,ty,pos,af,none⟩::os) e H nx Q:=by
 intro k hk;have ho:ops[k]?=some ⟨d,.binOp .eql t x (.const (.slice none 0 0)) t2,ty,pos,af,none⟩:=by
  have:=congrArg List.head? hk;simpa [List.head?_drop] using this
 have hk':ops.toList.drop (k+1)=os:=by
  have:=congrArg List.tail hk;simpa [List.tail_drop] using this
 simp only [List.length_cons,List.range'_succ];intro M a w g r v;have hv:=v.rd g x;rw [hx] at hv;unfold wpOps;simp only [ho,gd_sound (ops:=ops) (o:=⟨d,.binOp .eql t x (.const (.slice none 0 0)) t2,ty,pos,af,none⟩) (e:=e) (b:=true) rfl v,if_true];obtain⟨u,hu⟩:∃ u,a.eval x=u:=⟨_,rfl⟩;rw [hu] at hv;have key:∃ b,(execOp a.eval ⟨d,.binOp .eql t x (.const (.slice none 0 0)) t2,ty,pos,af,none⟩).run P w=.ok (.value (.bool b)) w:=by
  have hund:=(ti_spec ht).1;have eq:∀ (ad:Option Addr) (m c:Nat),(Op.equalIn Op.maxDepth t (.slice ad m c) (.slice none 0 0)).run P w=.ok ad.isNone w:=by
   intro ad m c;cases ad with
   | none=>exact eqs1 9999 hund none m c 0 0
   | some ad=>exact eqs2 9999 hund ad m c 0 0
  have hcst:a.eval (.const (.slice none 0 0))=.slice none 0 0:=rfl;cases hv with
  | lst0 ad c=>exact⟨ad.isNone,by simp [execOp,hu,hcst,eqGuard,binOp,Op.equal,eq]⟩
  | lst _ gg o nn kk c arr T fr h1 hn hc hk0 hl hr=>exact⟨false,by simp [execOp,hu,hcst,eqGuard,binOp,Op.equal,eq]⟩
 obtain⟨b,hb⟩:=key;left;unfold Oper.wp;rw [hb];exact h b (k+1) hk' M _ w g r (v.put (.bool b) (okD_spec hd))
end
end Ax
end
section
namespace Ax
/-- An own list whose block is no older than n0. -/
def OwnG {α:Type}(cv:α→List CV)(k n0:Nat)(H:Heap)(nx:Nat)(c:CV)(l:List α):Prop:=(l=[]∧c=.nils)∨∃ b,c=.sl b 0 l.length k∧H b=some (.cells (l.flatMap cv))∧n0≤b∧b<nx
section
variable {α:Type} {cv:α→List CV} {k n0:Nat} {H:Heap} {nx:Nat} {c:CV} {l:List α}
theorem OwnG.nil:OwnG cv k n0 H nx .nils []:=.inl ⟨rfl,rfl⟩
theorem OwnG.own (h:OwnG cv k n0 H nx c l):OwnL cv k H nx c l:=by
 rcases h with h | ⟨b,h1,h2,_,h4⟩
 ·exact .inl h
 ·exact .inr ⟨b,h1,h2,h4⟩
theorem OwnG.low (h:OwnG cv k n0 H nx c l):∀ b',c=.sl b' 0 l.length k→n0≤b':=by
 rintro b' rfl;rcases h with⟨_,h⟩ | ⟨b,h1,_,h3,_⟩
 ·cases h
 ·cases h1;exact h3
theorem OwnG.keep {H':Heap}{nx':Nat}(h:OwnG cv k n0 H nx c l)(hn:nx≤nx')(hk:∀ b,n0≤b→b<nx→H' b=H b):OwnG cv k n0 H' nx' c l:=by
 rcases h with h | ⟨b,h1,h2,h3,h4⟩
 ·exact .inl h
 ·exact .inr ⟨b,h1,by rw [hk b h3 h4];exact h2,h3,by omega⟩
theorem OwnG.up {nx':Nat}(h:OwnG cv k n0 H nx c l)(hn:nx≤nx'):OwnG cv k n0 H nx' c l:=h.keep hn fun _ _ _=>rfl
theorem OwnG.updN {x:Nat}{kk:CB}(h:OwnG cv k n0 H nx c l)(hx:nx≤x):OwnG cv k n0 (upd H x kk) nx c l:=h.keep (Nat.le_refl _) fun b _ hb=>upd_miss _ _ _ _ (by omega)
theorem OwnG.updL {x:Nat}{kk:CB}(h:OwnG cv k n0 H nx c l)(hx:x<n0):OwnG cv k n0 (upd H x kk) nx c l:=h.keep (Nat.le_refl _) fun b hb _=>upd_miss _ _ _ _ (by omega)
theorem OwnG.isN {N:Nat}(hb:H N=some (.cells (l.flatMap cv)))(h0:n0≤N)(hn:N<nx)(n:Nat)(hl:n=l.length):OwnG cv k n0 H nx (.sl N 0 n k) l:=.inr ⟨N,by rw [hl],hb,h0,hn⟩
end
section
variable {P:Program} {G:Nat→CV} {n:Nat} {e:Env} {H:Heap} {nx:Nat} {Q:AExit→Env→Heap→Nat→Prop} {ops:Array Oper} {os:List Oper} {d:Option Nat} {ty:TypeId} {pos:String} {af:Array Edge} {g:Option (Nat×Bool)}
theorem AOpl.appG {α:Type}{cv:α→List CV}{k n0:Nat}{t el:TypeId}{s b1:Nat}{z:Value}{i:TI}{so xo:Operand}{c:CV}{l:List α}{x:Nat}(hcv:∀ a,(cv a).length=k)(hone:∀ a,(cv a).all CV.one=true)(ht:ti P t=some ⟨.slice el,s,z,b1⟩)(hi:ti P el=some i)(u:α)
  (ho:OwnG cv k n0 H nx c l) (h0:n0≤nx) (hn:l.length<1000000000)
  (h:∀ H',H' nx=some (.cells ((l++[u]).flatMap cv))→(∀ b,b<n0→H' b=H b)→AOpl P G n ops os (putE e d (.sl nx 0 (l.length+1) k)) H' (nx+1) Q)
  (hk:i.size=k:=by rfl) (hz:i.zero.cells.size=k:=by rfl) (hk0:0<k:=by omega) (hby:i.bytes≤1000:=by simp) (hd:okD n d=true:=by rfl) (hg:gd ops e ⟨d,.call ⟨.builtin .append,#[so,xo],#[t,t]⟩,ty,pos,af,g⟩=some true:=by (first | rfl | (simp [*];done)))
  (hs:rd G e so=c:=by (first | (simp [*];done) | (simp [*];rfl))) (hx:rd G e xo=.sl x 0 1 k:=by (first | (simp [*];done) | (simp [*];rfl))) (hxb:H x=some (.cells (cv u)):=by (first | (simp [*];done) | (simp [*];rfl))) :
  AOpl P G n ops (⟨d,.call ⟨.builtin .append,#[so,xo],#[t,t]⟩,ty,pos,af,g⟩::os) e H nx Q :=
 AOpl.appRow2 ht hi hk hz hk0 hby hcv hone hd hg hs hx ho.own hxb hn fun H' h1 h2=>h H' h1 fun b hb=>h2 b (by omega) fun b' hb'=>by have:=ho.low b' hb';omega
theorem WkL.append {l l' m m':List CV}(h:WkL l l')(h':WkL m m'):WkL (l++m) (l'++m'):=by
 refine⟨by simp [h.1,h'.1],fun j a b=>?_⟩
 by_cases hj:j<l.length
 ·rw [List.getElem_append_left hj,List.getElem_append_left (by rw [h.1];exact hj)];exact h.2 j hj (by rw [h.1];exact hj)
 ·rw [List.getElem_append_right (by omega),List.getElem_append_right (by rw [h.1];omega)];have e:j-l'.length=j-l.length:=by rw [h.1]
  simp only [e];exact h'.2 _ (by simp at a;omega) (by rw [h'.1];simp at a;omega)
theorem FVL.append {b:Nat}{cs l l' m m':List CV}(h:FVL b cs l l')(h':FVL b cs m m'):FVL b cs (l++m) (l'++m'):=by
 refine⟨by simp [h.1,h'.1],fun j x y=>?_⟩
 by_cases hj:j<l.length
 ·rw [List.getElem_append_left hj,List.getElem_append_left (by rw [h.1];exact hj)];exact h.2 j hj (by rw [h.1];exact hj)
 ·rw [List.getElem_append_right (by omega),List.getElem_append_right (by rw [h.1];omega)];have e:j-l'.length=j-l.length:=by rw [h.1]
  simp only [e];exact h'.2 _ (by simp at x;omega) (by rw [h'.1];simp at x;omega)
/-- A block of which one cell holds an own list: the list becomes a frozen one. -/
theorem AWp.own2lstG {α:Type}{cv:α→List CV}{k n0 x nx0:Nat}(hk:∀ a,(cv a).length=k)(pre post:List CV){code:Code}{c:CV}{l:List α}(ho:OwnG cv k n0 H nx0 c l)(hx:H x=some (.cells (pre++c::post)))(hxn:x<n0)
  (h:∀ H',H' x=some (.cells (pre++.lst (l.map cv)::post))→(∀ y,y<n0→y≠x→H' y=H y)→AWp P G n code e H' nx Q):AWp P G n code e H nx Q:=by
 rcases ho with⟨rfl,rfl⟩ | ⟨b,rfl,hb,h0,_⟩
 ·exact AWp.wkH hx (WkL.append ⟨rfl,fun _ _ _=>.same _⟩ (.cons .nil ⟨rfl,fun _ _ _=>.same _⟩)) (h _ (upd_hit _ _ _) (fun y _ hy=>upd_miss _ _ _ _ hy))
 ·have hxb:x≠b:=by omega
  refine AWp.frz2 hb hx hxb (cx':=pre++.lst (l.map cv)::post) (FVL.append ⟨rfl,fun _ _ _=>.same _⟩ (.cons ?_ ⟨rfl,fun _ _ _=>.same _⟩)) (h _ (upd_hit _ _ _) (fun y hy hyx=>?_))
  ·have:=FV.sl (b:=b) (cs:=l.flatMap cv) 0 l.length k (by rw [flatMap_len hk];omega);rw [OwnL.frozen hk] at this;exact this
  ·rw [upd_miss _ _ _ _ hyx,drp_miss _ _ _ (by omega)]
/-- A panic of the code's own. -/
theorem AOpl.panic {x:Operand}{t:TypeId}{c:CV}(hx:rd G e x=.iface t c)(h:Q (.pan (.iface t c)) e H nx):AOpl P G n ops (⟨d,.panic x,ty,pos,af,none⟩::os) e H nx Q:=by
 intro k hk;have ho:ops[k]?=some ⟨d,.panic x,ty,pos,af,none⟩:=by
  have:=congrArg List.head? hk;simpa [List.head?_drop] using this
 simp only [List.length_cons,List.range'_succ];exact AOps.panic ho rfl rfl hx h
end
end Ax
end
end Go.Proofs.YtoookjadbhdfhaaDoor
