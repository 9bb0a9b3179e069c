/-
  AX: the closed executor once more, with every value made plain before it is put away (so that the kernel runs it fast).
-/
import Derived.Test.YtmlafcimjhnhhaaDoorJlJpAi
set_option linter.unusedSectionVars false
set_option linter.unusedSimpArgs false
set_option linter.unnecessarySimpa false
set_option linter.unusedVariables false
set_option linter.unusedSimpArgs false
set_option linter.unusedVariables false
namespace Go.Proofs.YtmlafcimjhnhhaaDoor
section
namespace Ax
noncomputable section
/-! making plain -/
def fN {α:Type}(n:Nat)(k:Nat→α):α:=Nat.rec (motive:=fun _=>α) (k 0) (fun m _=>k (Nat.succ m)) n
def fB {α:Type}(b:Bool)(k:Bool→α):α:=Bool.rec (k false) (k true) b
def fI {α:Type}(n:Int)(k:Int→α):α:=Int.rec (motive:=fun _=>α) (fun m=>fN m fun m=>k (Int.ofNat m)) (fun m=>fN m fun m=>k (Int.negSucc m)) n
def fSp {α β:Type}(l:List β)(k:List β→α):α:=List.rec (motive:=fun _=>(List β→α)→α) (fun k=>k []) (fun a _ ih k=>ih fun t=>k (a::t)) l k
theorem fN_eq {α:Type}(n:Nat)(k:Nat→α):fN n k=k n:=by cases n <;> rfl
theorem fB_eq {α:Type}(b:Bool)(k:Bool→α):fB b k=k b:=by cases b <;> rfl
theorem fI_eq {α:Type}(n:Int)(k:Int→α):fI n k=k n:=by
 cases n with
 | ofNat m=>exact fN_eq m fun m=>k (Int.ofNat m)
 | negSucc m=>exact fN_eq m fun m=>k (Int.negSucc m)
theorem fSp_eq {α β:Type}:∀ (l:List β) (k:List β→α),fSp l k=k l
 | [],k=>rfl
 | a::t,k=>fSp_eq t fun t=>k (a::t)
def fW {α:Type}(c:CV)(k:CV→α):α:=match c with
 | .bool b=>fB b fun b=>k (.bool b)
 | .int kk n=>fI n fun n=>k (.int kk n)
 | .str l=>fSp l fun l=>k (.str l)
 | .ptr b o=>fN b fun b=>fN o fun o=>k (.ptr b o)
 | .sl b o n kk=>fN b fun b=>fN o fun o=>fN n fun n=>fN kk fun kk=>k (.sl b o n kk)
 | .mp b=>fN b fun b=>k (.mp b)
 | .any=>k .any
 | .nilp=>k .nilp
 | .nils=>k .nils
 | .nilm=>k .nilm
 | .nilf=>k .nilf
 | .nili=>k .nili
 | .rop cs=>k (.rop cs)
 | .lst rows=>k (.lst rows)
 | .fmp a b=>k (.fmp a b)
 | .fn f a b=>k (.fn f a b)
 | .iface t v=>k (.iface t v)
 | .agg cs=>k (.agg cs)
 | .tup cs=>k (.tup cs)
 | .opt g c=>k (.opt g c)
theorem fW_eq {α:Type}(c:CV)(k:CV→α):fW c k=k c:=by
 cases c <;> simp only [fW,fB_eq,fI_eq,fSp_eq,fN_eq]
def fL {α:Type}(l:List CV)(k:List CV→α):α:=List.rec (motive:=fun _=>(List CV→α)→α) (fun k=>k []) (fun a _ ih k=>fW a fun a=>ih fun t=>k (a::t)) l k
theorem fL_eq {α:Type}:∀ (l:List CV) (k:List CV→α),fL l k=k l
 | [],k=>rfl
 | a::t,k=>by
   show (fW a fun a=>fL t fun t=>k (a::t))=_
   rw [fW_eq,fL_eq]
def fV {α:Type}(c:CV)(k:CV→α):α:=match c with
 | .bool b=>fB b fun b=>k (.bool b)
 | .int kk n=>fI n fun n=>k (.int kk n)
 | .str l=>fSp l fun l=>k (.str l)
 | .ptr b o=>fN b fun b=>fN o fun o=>k (.ptr b o)
 | .sl b o n kk=>fN b fun b=>fN o fun o=>fN n fun n=>fN kk fun kk=>k (.sl b o n kk)
 | .mp b=>fN b fun b=>k (.mp b)
 | .any=>k .any
 | .nilp=>k .nilp
 | .nils=>k .nils
 | .nilm=>k .nilm
 | .nilf=>k .nilf
 | .nili=>k .nili
 | .rop cs=>fSp cs fun cs=>k (.rop cs)
 | .lst rows=>fSp rows fun rows=>k (.lst rows)
 | .fmp a b=>k (.fmp a b)
 | .fn f a b=>fL a fun a=>fL b fun b=>k (.fn f a b)
 | .iface t v=>fW v fun v=>k (.iface t v)
 | .agg cs=>fL cs fun cs=>k (.agg cs)
 | .tup cs=>fL cs fun cs=>k (.tup cs)
 | .opt g c=>k (.opt g c)
theorem fV_eq {α:Type}(c:CV)(k:CV→α):fV c k=k c:=by
 cases c <;> simp only [fV,fB_eq,fI_eq,fSp_eq,fN_eq,fL_eq,fW_eq]
def fC {α:Type}(c:CB)(k:CB→α):α:=match c with
 | .cells cs=>fSp cs fun cs=>k (.cells cs)
 | .map a b=>fL a fun a=>fL b fun b=>k (.map a b)
 | .iter l p=>fSp l fun l=>fN p fun p=>k (.iter l p)
theorem fC_eq {α:Type}(c:CB)(k:CB→α):fC c k=k c:=by cases c <;> simp only [fC,fSp_eq,fL_eq,fN_eq]
def fCn {α:Type}(c:CB)(k:CB→α):α:=match c with
 | .cells cs=>fL cs fun cs=>k (.cells cs)
 | .map a b=>fL a fun a=>fL b fun b=>k (.map a b)
 | .iter l p=>fSp l fun l=>fN p fun p=>k (.iter l p)
theorem fCn_eq {α:Type}(c:CB)(k:CB→α):fCn c k=k c:=by cases c <;> simp only [fCn,fSp_eq,fL_eq,fN_eq]
/-- A trie with one place written. -/
def putK {α β:Type}(f:Nat):Tr α→Nat→Option α→(Tr α→β)→β:=Nat.rec (motive:=fun _=>Tr α→Nat→Option α→(Tr α→β)→β) (fun _ _ _ k=>k .lf)
 (fun _ ih t n x k=>Tr.casesOn (motive:=fun _=>β) t
  (match Nat.beq n 0 with
   | true=>k (.nd .lf x .lf)
   | false=>match Nat.beq (n % 2) 1 with
     | true=>ih .lf (n / 2) x fun l=>k (.nd l none .lf)
     | false=>ih .lf (n / 2-1) x fun r=>k (.nd .lf none r))
  (fun l v r=>match Nat.beq n 0 with
   | true=>k (.nd l x r)
   | false=>match Nat.beq (n % 2) 1 with
     | true=>ih l (n / 2) x fun l=>k (.nd l v r)
     | false=>ih r (n / 2-1) x fun r=>k (.nd l v r))) f
theorem putK_eq {α β:Type}:∀ (f:Nat) (t:Tr α) (n:Nat) (x:Option α) (k:Tr α→β),putK f t n x k=k (Tr.put f t n x)
 | 0,t,n,x,k=>rfl
 | f+1,.lf,n,x,k=>by
   show (match Nat.beq n 0 with
    | true=>k (.nd .lf x .lf)
    | false=>match Nat.beq (n % 2) 1 with
      | true=>putK f .lf (n / 2) x fun l=>k (.nd l none .lf)
      | false=>putK f .lf (n / 2-1) x fun r=>k (.nd .lf none r))=_
   unfold Tr.put;cases Nat.beq n 0 with
   | true=>rfl
   | false=>cases Nat.beq (n % 2) 1 with
     | true=>exact putK_eq f .lf (n / 2) x _
     | false=>exact putK_eq f .lf (n / 2-1) x _
 | f+1,.nd l v r,n,x,k=>by
   show (match Nat.beq n 0 with
    | true=>k (.nd l x r)
    | false=>match Nat.beq (n % 2) 1 with
      | true=>putK f l (n / 2) x fun l=>k (.nd l v r)
      | false=>putK f r (n / 2-1) x fun r=>k (.nd l v r))=_
   unfold Tr.put;cases Nat.beq n 0 with
   | true=>rfl
   | false=>cases Nat.beq (n % 2) 1 with
     | true=>exact putK_eq f l (n / 2) x _
     | false=>exact putK_eq f r (n / 2-1) x _
def setK {β:Type}(e:Tr CV)(d:Option Nat)(c:CV)(k:Tr CV→β):β:=match d with
 | some i=>putK 20 e i (some c) k
 | none=>k e
theorem setK_eq {β:Type}(e:Tr CV)(d:Option Nat)(c:CV)(k:Tr CV→β):setK e d c k=k (setT e d c):=by
 cases d <;> simp only [setK,setT,putK_eq]
def dlK {β:Type}(h:Tr CB)(nx:Nat)(d:Dl)(k:Tr CB→β):β:=match d with
 | .no=>k h
 | .set b kk=>fN b fun b=>fC kk fun kk=>putK 20 h b (some kk) k
 | .mv b kk=>fN b fun b=>fC kk fun kk=>putK 20 h b none fun h=>putK 20 h nx (some kk) k
 | .nw kk=>fCn kk fun kk=>putK 20 h nx (some kk) k
theorem dlK_eq {β:Type}(h:Tr CB)(nx:Nat)(d:Dl)(k:Tr CB→β):dlK h nx d k=k (d.tr h nx):=by
 cases d <;> simp only [dlK,Dl.tr,putK_eq,fC_eq,fCn_eq,fN_eq]
/-- Operations one after the other. -/
def runLS (P:Program)(G:Nat→CV)(call:Call1)(n:Nat)(ops:Array Oper)(l:List Oper):Tr CV→Tr CB→Nat→Option Out:=List.rec (motive:=fun _=>Tr CV→Tr CB→Nat→Option Out)
 (fun e h nx=>some (.normal,e,h,nx))
 (fun o _ ih e h nx=>match gd ops (vw e) o with
  | some b=>match okD n o.dst with
    | true=>match b with
      | false=>setK e o.dst (.tup []) fun e=>ih e h nx
      | true=>match qstep P (hv h) (rd G (vw e)) o.op with
        | some c=>fV c fun c=>setK e o.dst c fun e=>ih e h nx
        | none=>match astep P (rd G (vw e)) nx o.op with
          | some (c,k)=>fV c fun c=>setK e o.dst c fun e=>fCn k fun k=>putK 20 h nx (some k) fun h=>fN (nx+1) fun nx=>ih e h nx
          | none=>match estep P (hv h) nx (rd G (vw e)) o.op with
            | some (c,d)=>fV c fun c=>setK e o.dst c fun e=>dlK h nx d fun h=>fN (d.nx nx) fun nx=>ih e h nx
            | none=>match callA (rd G (vw e)) o.op with
              | some (f,args)=>match enters P f with
                | true=>fN f fun f=>fL args fun args=>match call f args h nx with
                  | some (.ret v,h',nx')=>fV v fun v=>setK e o.dst v fun e=>ih e h' nx'
                  | some (.pan v,h',nx')=>some (.pan v,e,h',nx')
                  | none=>none
                | false=>none
              | none=>match panA (rd G (vw e)) o.op with
                | some v=>some (.pan v,e,h,nx)
                | none=>none
    | false=>none
  | none=>none) l
theorem runLS_eq {P:Program}{G:Nat→CV}{call:Call1}{n:Nat}{ops:Array Oper}:∀ (os:List Oper) (e:Tr CV) (h:Tr CB) (nx:Nat),runLS P G call n ops os e h nx=runL P G call n ops os e h nx
 | [],e,h,nx=>rfl
 | o::os,e,h,nx=>by
   show (match gd ops (vw e) o with
   | some b=>match okD n o.dst with
     | true=>match b with
       | false=>setK e o.dst (.tup []) fun e=>runLS P G call n ops os e h nx
       | true=>match qstep P (hv h) (rd G (vw e)) o.op with
         | some c=>fV c fun c=>setK e o.dst c fun e=>runLS P G call n ops os e h nx
         | none=>match astep P (rd G (vw e)) nx o.op with
           | some (c,k)=>fV c fun c=>setK e o.dst c fun e=>fCn k fun k=>putK 20 h nx (some k) fun h=>fN (nx+1) fun nx=>runLS P G call n ops os e h nx
           | none=>match estep P (hv h) nx (rd G (vw e)) o.op with
             | some (c,d)=>fV c fun c=>setK e o.dst c fun e=>dlK h nx d fun h=>fN (d.nx nx) fun nx=>runLS P G call n ops os e h nx
             | none=>match callA (rd G (vw e)) o.op with
               | some (f,args)=>match enters P f with
                 | true=>fN f fun f=>fL args fun args=>match call f args h nx with
                   | some (.ret v,h',nx')=>fV v fun v=>setK e o.dst v fun e=>runLS P G call n ops os e h' nx'
                   | some (.pan v,h',nx')=>some (.pan v,e,h',nx')
                   | none=>none
                 | false=>none
               | none=>match panA (rd G (vw e)) o.op with
                 | some v=>some (.pan v,e,h,nx)
                 | none=>none
     | false=>none
   | none=>none)=_
   simp only [fV_eq,setK_eq,fCn_eq,putK_eq,fN_eq,dlK_eq,fL_eq,runLS_eq];rfl
/-! drawn regions that look -/
theorem Tr.get_put_same {α:Type}:∀ (f:Nat) (t:Tr α) (n:Nat) (x:Option α),n+1<2 ^ f→(Tr.put f t n x).get n=x
 | 0,t,n,x,h=>by simp at h
 | f+1,t,n,x,h=>by
   have hp:2 ^ (f+1)=2*2 ^ f:=by rw [Nat.pow_succ];omega
   have key:∀ (l:Tr α) (v:Option α) (r:Tr α),(match Nat.beq n 0 with
     | true=>Tr.nd l x r
     | false=>match Nat.beq (n % 2) 1 with
       | true=>Tr.nd (Tr.put f l (n / 2) x) v r
       | false=>Tr.nd l v (Tr.put f r (n / 2-1) x)).get n=x:=by
    intro l v r
    by_cases hn:n=0
    ·subst hn;rfl
    ·rw [beqF hn]
     by_cases h2:n % 2=1
     ·have:Nat.beq (n % 2) 1=true:=by rw [h2];rfl
      simp only [this,Tr.get,beqF hn];exact Tr.get_put_same f l _ x (by omega)
     ·simp only [beqF h2,Tr.get,beqF hn];exact Tr.get_put_same f r _ x (by omega)
   cases t with
   | lf=>exact key .lf none .lf
   | nd l v r=>exact key l v r
theorem Tr.get_put_other {α:Type}:∀ (f:Nat) (t:Tr α) (n:Nat) (x:Option α) (m:Nat),n+1<2 ^ f→m≠n→(Tr.put f t n x).get m=t.get m
 | 0,t,n,x,m,h,hm=>by simp at h
 | f+1,t,n,x,m,h,hm=>by
   have hp:2 ^ (f+1)=2*2 ^ f:=by rw [Nat.pow_succ];omega
   have key:∀ (l:Tr α) (v:Option α) (r:Tr α),(match Nat.beq n 0 with
     | true=>Tr.nd l x r
     | false=>match Nat.beq (n % 2) 1 with
       | true=>Tr.nd (Tr.put f l (n / 2) x) v r
       | false=>Tr.nd l v (Tr.put f r (n / 2-1) x)).get m=(Tr.nd l v r).get m:=by
    intro l v r
    by_cases hn:n=0
    ·subst hn;simp only [Tr.get,beqF hm]
    ·rw [beqF hn]
     by_cases h2:n % 2=1
     ·have:Nat.beq (n % 2) 1=true:=by rw [h2];rfl
      simp only [this,Tr.get]
      by_cases hm0:m=0
      ·subst hm0;rfl
      ·simp only [beqF hm0]
       by_cases hm2:m % 2=1
       ·have e2:Nat.beq (m % 2) 1=true:=by rw [hm2];rfl
        simp only [e2];exact Tr.get_put_other f l _ x _ (by omega) (by omega)
       ·simp only [beqF hm2]
     ·simp only [beqF h2,Tr.get]
      by_cases hm0:m=0
      ·subst hm0;rfl
      ·simp only [beqF hm0]
       by_cases hm2:m % 2=1
       ·have e2:Nat.beq (m % 2) 1=true:=by rw [hm2];rfl
        simp only [e2]
       ·simp only [beqF hm2];exact Tr.get_put_other f r _ x _ (by omega) (by omega)
   cases t with
   | lf =>
     have:=key .lf none .lf;rw [show (Tr.lf:Tr α).get m=(Tr.nd .lf none .lf).get m by
      simp only [Tr.get];split
      ·rfl
      ·split <;> rfl]
     exact this
   | nd l v r=>exact key l v r
theorem vw_set {e:Tr CV}{d:Option Nat}{c:CV}(hd:∀ j,d=some j→j<1000):vw (setT e d c)=putE (vw e) d c:=by
 cases d with
 | none=>rfl
 | some i =>
   have hi:i+1<2 ^ 20:=by have:=hd i rfl;omega
   funext t
   show (match (Tr.put 20 e i (some c)).get t with | some c=>c | none=>.any)=if t=i then c else vw e t
   by_cases ht:t=i
   ·subst ht;rw [Tr.get_put_same 20 e t (some c) hi];simp
   ·rw [Tr.get_put_other 20 e i (some c) t hi ht,if_neg ht];rfl
def runQS (P:Program)(G:Nat→CV)(ops:Array Oper)(h:Tr CB)(l:List Oper):Tr CV→Option (Tr CV):=List.rec (motive:=fun _=>Tr CV→Option (Tr CV))
 (fun e=>some e)
 (fun o _ ih e=>match okD 1000 o.dst with
  | true=>match gd ops (vw e) o with
    | some b=>match b with
      | false=>setK e o.dst (.tup []) fun e=>ih e
      | true=>match qstep P (hv h) (rd G (vw e)) o.op with
        | some c=>fV c fun c=>setK e o.dst c fun e=>ih e
        | none=>none
    | none=>none
  | false=>none) l
theorem runQS_sound {P:Program}{G:Nat→CV}{ops:Array Oper}{h:Tr CB}:∀ (os:List Oper) (e e':Tr CV),runQS P G ops h os e=some e'→∀ j,∃ l,QRun P G (hv h) ops j os (vw e) l (vw e') j
 | [],e,e',hr=>by
   have:some e=some e':=hr;cases this;exact fun j=>⟨[],.nil _ _⟩
 | o::os,e,e',hr=>by
   have hr':(match okD 1000 o.dst with
    | true=>match gd ops (vw e) o with
      | some b=>match b with
        | false=>setK e o.dst (.tup []) fun e=>runQS P G ops h os e
        | true=>match qstep P (hv h) (rd G (vw e)) o.op with
          | some c=>fV c fun c=>setK e o.dst c fun e=>runQS P G ops h os e
          | none=>none
      | none=>none
    | false=>none)=some e':=hr
   simp only [fV_eq,setK_eq] at hr';split at hr'
   case h_2=>cases hr'
   rename_i hd;have hd':=okD_spec hd;split at hr'
   case h_2=>cases hr'
   rename_i b hg;split at hr'
   ·intro j;obtain⟨l,hl⟩:=runQS_sound os _ _ hr' j;rw [vw_set hd'] at hl;exact⟨_,.skip hg hl⟩
   ·split at hr'
    case h_2=>cases hr'
    rename_i c hq;intro j;obtain⟨l,hl⟩:=runQS_sound os _ _ hr' j;rw [vw_set hd'] at hl;exact⟨_,.look c hg hq hl⟩
def fT {α β:Type}(fv:α→(α→β)→β)(t:Tr α)(k:Tr α→β):β:=Tr.rec (motive:=fun _=>(Tr α→β)→β) (fun k=>k .lf)
 (fun _ v _ ihl ihr k=>ihl fun l=>ihr fun r=>match v with
  | some x=>fv x fun x=>k (.nd l (some x) r)
  | none=>k (.nd l none r)) t k
theorem fT_eq {α β:Type}{fv:α→(α→β)→β}(hf:∀ x k,fv x k=k x):∀ (t:Tr α) (k:Tr α→β),fT fv t k=k t
 | .lf,k=>rfl
 | .nd l v r,k=>by
   show (fT fv l fun l=>fT fv r fun r=>match v with
    | some x=>fv x fun x=>k (.nd l (some x) r)
    | none=>k (.nd l none r))=_
   rw [fT_eq hf,fT_eq hf];cases v <;> simp only [hf]
def runDS (P:Program)(G:Nat→CV)(call:Call1)(n:Nat)(ops:Array Oper)(e:Tr CV)(h:Tr CB)(nx:Nat):Option Out :=
 match P.follows .mixedOrders with
 | true=>match stat n ops with
   | true=>match runQS P G ops h ops.toList e with
     | some e'=>fN (nx+ops.size) fun nx=>some (.normal,e',h,nx)
     | none=>match runD P G call n ops e h nx with
       | some (x,e',h',nx')=>fT fV e' fun e'=>fT fC h' fun h'=>fN nx' fun nx'=>some (x,e',h',nx')
       | none=>none
   | false=>match runD P G call n ops e h nx with
     | some (x,e',h',nx')=>fT fV e' fun e'=>fT fC h' fun h'=>fN nx' fun nx'=>some (x,e',h',nx')
     | none=>none
 | false=>none
theorem runDS_sound {P:Program}{G:Nat→CV}{call:Call1}(hc:CallOk P G call){n id:Nat}{ops:Array Oper}{e:Tr CV}{h:Tr CB}{nx:Nat}{x:AExit}{e':Tr CV}{h':Tr CB}{nx':Nat}
  (hr:runDS P G call n ops e h nx=some (x,e',h',nx')):AWp P G n (.region id ops true) (vw e) (hv h) nx (Is x e' h' nx'):=by
 have old:(match runD P G call n ops e h nx with
    | some (x,e',h',nx')=>fT fV e' fun e'=>fT fC h' fun h'=>fN nx' fun nx'=>some (x,e',h',nx')
    | none=>none)=some (x,e',h',nx')→AWp P G n (.region id ops true) (vw e) (hv h) nx (Is x e' h' nx'):=by
  intro hx;simp only [fT_eq fV_eq,fT_eq fC_eq,fN_eq] at hx;split at hx
  ·rename_i hd;cases hx;exact runD_sound hc hd
  ·cases hx
 unfold runDS at hr;split at hr
 case h_2=>cases hr
 rename_i hm;split at hr
 ·rename_i hst;split at hr
  ·rename_i e1 hq;rw [fN_eq] at hr;cases hr;obtain⟨l,hl⟩:=runQS_sound _ _ _ hq 0;exact AWp.regQ hm hst hl ⟨rfl,rfl,rfl,rfl⟩
  ·exact old hr
 ·exact old hr
/-! code, functions -/
def loopS (body:Tr CV→Tr CB→Nat→Option Out)(k:Nat):Tr CV→Tr CB→Nat→Option Out:=Nat.rec (motive:=fun _=>Tr CV→Tr CB→Nat→Option Out) (fun _ _ _=>none)
 (fun _ ih e h nx=>match body e h nx with
  | some (.normal,e',h',nx')=>ih e' h' nx'
  | r=>r) k
theorem loopS_eq {b1 b2:Tr CV→Tr CB→Nat→Option Out}(hb:∀ e h nx,b1 e h nx=b2 e h nx):∀ (k:Nat) (e:Tr CV) (h:Tr CB) (nx:Nat),loopS b1 k e h nx=loopN b2 k e h nx
 | 0,e,h,nx=>rfl
 | k+1,e,h,nx=>by
   show (match b1 e h nx with
   | some (.normal,e',h',nx')=>loopS b1 k e' h' nx'
   | r=>r)=_
   rw [hb]
   show _=(match b2 e h nx with
    | some (.normal,e',h',nx')=>loopN b2 k e' h' nx'
    | r=>r)
   cases b2 e h nx with
   | none=>rfl
   | some x =>
     obtain⟨x,e1,h1,n1⟩:=x;cases x with
     | normal=>exact loopS_eq hb k e1 h1 n1
     | _=>rfl
def runCS (P:Program)(G:Nat→CV)(call:Call1)(lf n:Nat)(c:Code):Tr CV→Tr CB→Nat→Option Out:=Code.rec (motive:=fun _=>Tr CV→Tr CB→Nat→Option Out)
 (fun e h nx=>some (.normal,e,h,nx))
 (fun _ ops d=>Bool.rec (fun e h nx=>runLS P G call n ops ops.toList e h nx) (fun e h nx=>runDS P G call n ops e h nx) d)
 (fun _ _ iha ihb e h nx=>match iha e h nx with
  | some (.normal,e',h',nx')=>ihb e' h' nx'
  | r=>r)
 (fun c _ _ iha ihb e h nx=>match rd G (vw e) c with
  | .bool b=>Bool.rec (ihb e h nx) (iha e h nx) b
  | _=>none)
 (fun id _ ih e h nx=>match ih e h nx with
  | some (.exit i,e',h',nx')=>match Nat.beq i id with
    | true=>some (.normal,e',h',nx')
    | false=>some (.exit i,e',h',nx')
  | r=>r)
 (fun _ ih e h nx=>loopS ih lf e h nx)
 (fun _ _ _ _ _ _ _ _ _=>none)
 (fun id e h nx=>some (.exit id,e,h,nx))
 (fun _ _ _ _ _=>none) (fun _ _ _ _=>none) (fun _ _ _ _=>none)
 (fun e h nx=>some (.ret,e,h,nx))
 (fun _ _ _ _=>none) c
theorem runCS_sound {P:Program}{G:Nat→CV}{call:Call1}(hc:CallOk P G call){lf n:Nat}:∀ (c:Code) (e:Tr CV) (h:Tr CB) (nx:Nat) (x:AExit) (e':Tr CV) (h':Tr CB) (nx':Nat),
  runCS P G call lf n c e h nx=some (x,e',h',nx')→AWp P G n c (vw e) (hv h) nx (Is x e' h' nx')
 | .skip,e,h,nx,x,e',h',nx',hr=>by
   have hr:some (AExit.normal,e,h,nx)=some (x,e',h',nx'):=hr;cases hr;exact AWp.skip ⟨rfl,rfl,rfl,rfl⟩
 | .region id ops false,e,h,nx,x,e',h',nx',hr=>by
   have hr:runLS P G call n ops ops.toList e h nx=some (x,e',h',nx'):=hr;rw [runLS_eq] at hr;refine AWp.region ?_;have:=runL_sound hc ops.toList 0 e h nx x e' h' nx' (by simp) hr;rw [List.range_eq_range'];simpa using this
 | .region id ops true,e,h,nx,x,e',h',nx',hr=>runDS_sound hc hr
 | .seq a b,e,h,nx,x,e',h',nx',hr=>by
   refine AWp.seq ?_;have hr:(match runCS P G call lf n a e h nx with
    | some (.normal,e',h',nx')=>runCS P G call lf n b e' h' nx'
    | r=>r)=some (x,e',h',nx'):=hr
   split at hr
   ·rename_i e1 h1 nx1 ha;refine (runCS_sound hc a e h nx _ _ _ _ ha).mono ?_;rintro x1 e2 H2 nx2 ⟨rfl,rfl,rfl,rfl⟩;exact runCS_sound hc b e1 h1 _ _ _ _ _ hr
   ·rename_i hne;refine (runCS_sound hc a e h nx _ _ _ _ hr).mono ?_;rintro x1 e2 H2 nx2 ⟨rfl,rfl,rfl,rfl⟩;cases x1 with
    | normal=>exact absurd hr (hne _ _ _)
    | exit id=>exact⟨rfl,rfl,rfl,rfl⟩
    | ret=>exact⟨rfl,rfl,rfl,rfl⟩
    | pan v=>exact⟨rfl,rfl,rfl,rfl⟩
 | .cond c a b,e,h,nx,x,e',h',nx',hr=>by
   have hr:(match rd G (vw e) c with
    | .bool t=>Bool.rec (motive:=fun _=>Option Out) (runCS P G call lf n b e h nx) (runCS P G call lf n a e h nx) t
    | _=>none)=some (x,e',h',nx'):=hr
   split at hr
   case h_2=>cases hr
   rename_i t ht;refine AWp.cond ht ?_;cases t
   ·exact runCS_sound hc b e h nx _ _ _ _ hr
   ·exact runCS_sound hc a e h nx _ _ _ _ hr
 | .block id c,e,h,nx,x,e',h',nx',hr=>by
   refine AWp.block ?_;have hr:(match runCS P G call lf n c e h nx with
    | some (.exit i,e',h',nx')=>match Nat.beq i id with
      | true=>some (.normal,e',h',nx')
      | false=>some (.exit i,e',h',nx')
    | r=>r)=some (x,e',h',nx'):=hr
   split at hr
   ·rename_i i e1 h1 nx1 ha;refine (runCS_sound hc c e h nx _ _ _ _ ha).mono ?_;rintro x1 e2 H2 nx2 ⟨rfl,rfl,rfl,rfl⟩;split at hr
    ·rename_i hi;cases hr
     show if i=id then _ else _
     rw [if_pos (beq_eq hi)];exact⟨rfl,rfl,rfl,rfl⟩
    ·rename_i hi;cases hr
     show if i=id then _ else _
     rw [if_neg (fun e=>by subst e;simp at hi)];exact⟨rfl,rfl,rfl,rfl⟩
   ·rename_i hne;refine (runCS_sound hc c e h nx _ _ _ _ hr).mono ?_;rintro x1 e2 H2 nx2 ⟨rfl,rfl,rfl,rfl⟩;cases x1 with
    | exit i=>exact absurd hr (hne _ _ _ _)
    | normal=>exact⟨rfl,rfl,rfl,rfl⟩
    | ret=>exact⟨rfl,rfl,rfl,rfl⟩
    | pan v=>exact⟨rfl,rfl,rfl,rfl⟩
 | .loop c,e,h,nx,x,e',h',nx',hr=>by
   have hr:loopS (fun e h nx=>runCS P G call lf n c e h nx) lf e h nx=some (x,e',h',nx'):=hr;rw [loopS_eq (fun _ _ _=>rfl)] at hr;refine AWp.loop (α:=Nat) (fun k e1 H1 nx1=>∃ te th,e1=vw te∧H1=hv th∧loopN (fun e h nx=>runCS P G call lf n c e h nx) k te th nx1=some (x,e',h',nx')) id lf ⟨e,h,rfl,rfl,hr⟩ ?_;rintro k e1 H1 nx1 ⟨te,th,rfl,rfl,hk⟩;cases k with
   | zero=>cases hk
   | succ k =>
     unfold loopN at hk;split at hk
     ·rename_i e2 h2 nx2 hb;refine (runCS_sound hc c te th nx1 _ _ _ _ hb).mono ?_;rintro x1 e3 H3 nx3 ⟨rfl,rfl,rfl,rfl⟩;exact⟨k,Nat.lt_succ_self k,e2,h2,rfl,rfl,hk⟩
     ·rename_i hne;refine (runCS_sound hc c te th nx1 _ _ _ _ hk).mono ?_;rintro x1 e3 H3 nx3 ⟨rfl,rfl,rfl,rfl⟩;cases x1 with
      | normal=>exact absurd hk (hne _ _ _)
      | exit i=>exact⟨rfl,rfl,rfl,rfl⟩
      | ret=>exact⟨rfl,rfl,rfl,rfl⟩
      | pan v=>exact⟨rfl,rfl,rfl,rfl⟩
 | .exit id,e,h,nx,x,e',h',nx',hr=>by
   have hr:some (AExit.exit id,e,h,nx)=some (x,e',h',nx'):=hr;cases hr;exact AWp.exit ⟨rfl,rfl,rfl,rfl⟩
 | .ret,e,h,nx,x,e',h',nx',hr=>by
   have hr:some (AExit.ret,e,h,nx)=some (x,e',h',nx'):=hr;cases hr;exact AWp.ret ⟨rfl,rfl,rfl,rfl⟩
 | .rangeFunc _ _ _ _,e,h,nx,x,e',h',nx',hr=>by cases hr
 | .scope _,e,h,nx,x,e',h',nx',hr=>by cases hr
 | .label _,e,h,nx,x,e',h',nx',hr=>by cases hr
 | .goto _,e,h,nx,x,e',h',nx',hr=>by cases hr
 | .refuse _,e,h,nx,x,e',h',nx',hr=>by cases hr
def argK {β:Type}(l:List CV):Nat→Tr CV→(Tr CV→β)→β:=List.rec (motive:=fun _=>Nat→Tr CV→(Tr CV→β)→β) (fun _ t k=>k t) (fun c _ ih j t k=>putK 20 t j (some c) fun t=>fN (j+1) fun j=>ih j t k) l
theorem argK_eq {β:Type}:∀ (l:List CV) (j:Nat) (t:Tr CV) (k:Tr CV→β),argK l j t k=k (argT l j t)
 | [],j,t,k=>rfl
 | c::cs,j,t,k=>by
   show (putK 20 t j (some c) fun t=>fN (j+1) fun j=>argK cs j t k)=_
   rw [putK_eq,fN_eq,argK_eq];rfl
/-- A body, run. -/
def bodyS (P:Program)(G:Nat→CV)(call:Call1)(lf:Nat):Call1:=fun f args h nx=>match P.funcs[f]? with
 | some fn=>match fn.body with
   | some c=>argK args 0 .lf fun e=>match runCS P G call lf (max args.length fn.ntmps) c e h nx with
     | some (x,e',h',nx')=>match x with
       | .pan v=>some (.pan v,h',nx')
       | .exit _=>none
       | _=>match resA P (hv h') (vw e') fn.results.toList with
         | some l=>fV (packA l) fun v=>some (.ret v,h',nx')
         | none=>none
     | none=>none
   | none=>none
 | none=>none
theorem bodyS_ok {P:Program}{G:Nat→CV}{call:Call1}{lf:Nat}(ih:CallOk P G call):CallOk P G (bodyS P G call lf):=fun f args h nx r h' nx' hr=>by
 unfold bodyS at hr;simp only [argK_eq,fV_eq] at hr;split at hr
 case h_2=>cases hr
 rename_i fn hfn;split at hr
 case h_2=>cases hr
 rename_i c hb;split at hr
 case h_2=>cases hr
 rename_i x e1 h1 nx1 hx;have key:AWp P G (max args.length fn.ntmps) c (argE args) (hv h) nx (Is x e1 h1 nx1):=AWp.weak (argT_vw args) (Sub.refl _) (runCS_sound ih c _ _ _ _ _ _ _ hx);split at hr
 ·cases hr;refine ACall.of_body hfn hb (key.mono ?_);rintro x1 e2 H2 nx2 ⟨rfl,rfl,rfl,rfl⟩;exact⟨rfl,rfl,rfl⟩
 ·cases hr
 ·rename_i hn1 hn2;split at hr
  case h_2=>cases hr
  rename_i l hl;cases hr;refine ACall.of_body hfn hb (key.mono ?_);rintro x2 e2 H2 nx2 ⟨rfl,rfl,rfl,rfl⟩;cases x2 with
  | normal=>exact⟨l,hl,rfl,rfl,rfl⟩
  | ret=>exact⟨l,hl,rfl,rfl,rfl⟩
  | exit i=>exact absurd rfl (hn2 _)
  | pan v=>exact absurd rfl (hn1 _)
/-- Functions; 'sp' are those with a meaning of their own. -/
def runFS (P:Program)(G:Nat→CV)(sp:Call1→Call1)(lf fuel:Nat):Call1:=Nat.rec (motive:=fun _=>Call1) (fun _ _ _ _=>none)
 (fun _ ih f args h nx=>match sp ih f args h nx with
  | some r=>some r
  | none=>bodyS P G ih lf f args h nx) fuel
theorem runFS_sound {P:Program}{G:Nat→CV}{sp:Call1→Call1}{lf:Nat}(hsp:∀ call,CallOk P G call→CallOk P G (sp call)):∀ fuel,CallOk P G (runFS P G sp lf fuel)
 | 0=>fun f args h nx r h' nx' hr=>by cases hr
 | fuel+1=>fun f args h nx r h' nx' hr=>by
   have ih:=runFS_sound (lf:=lf) hsp fuel;have hr:(match sp (runFS P G sp lf fuel) f args h nx with
    | some r=>some r
    | none=>bodyS P G (runFS P G sp lf fuel) lf f args h nx)=some (r,h',nx'):=hr
   split at hr
   ·rename_i r1 hs;cases hr;exact hsp _ ih _ _ _ _ _ _ _ hs
   ·exact bodyS_ok ih _ _ _ _ _ _ _ hr
end
end Ax
end
section
namespace Ax
/-- A value with all its blocks frozen. -/
def dvV (H:Heap):Nat→CV→CV
 | 0,_=>.any
 | f+1,c=>match c with
   | .ptr b o=>match H b with
     | some (.cells cs)=>match Nat.ble o cs.length with
       | true=>.rop ((cs.drop o).map (dvV H f))
       | false=>.any
     | _=>.any
   | .sl b o n k=>match H b with
     | some (.cells cs)=>match Nat.ble (o+n*k) cs.length with
       | true=>.lst ((rowsOf cs o k n).map fun r=>r.map (dvV H f))
       | false=>.any
     | _=>.any
   | .mp _=>.any
   | .rop cs=>.rop (cs.map (dvV H f))
   | .lst rows=>.lst (rows.map fun r=>r.map (dvV H f))
   | .fmp _ _=>.any
   | .fn g a b=>.fn g (a.map (dvV H f)) (b.map (dvV H f))
   | .iface t v=>.iface t (dvV H f v)
   | .agg cs=>.agg (cs.map (dvV H f))
   | .tup cs=>.tup (cs.map (dvV H f))
   | c=>c
/-- All blocks frozen. -/
noncomputable def Mp.all (M:Mp) (H:Heap) (w:World):Mp:=⟨fun g=>open Classical in if Im H M g then w.heap[g]? else M.fz g,M.bk⟩
theorem Mp.all_ext {M:Mp}{H:Heap}{nx:Nat}{w:World}(r:Rep M H nx w):Ext M (M.all H w):=by
 refine⟨fun g x hx=>?_,fun _ _ h=>h⟩;unfold Mp.all
 by_cases h:Im H M g
 ·obtain⟨b,k,m,h1,h2⟩:=h;exact (r.sep g x b k m hx h1 h2).elim
 ·simp only [h,if_false];exact hx
theorem Rep.all {M:Mp}{H:Heap}{nx:Nat}{w:World}(r:Rep M H nx w):Rep (M.all H w) Heap.no nx w∧Fr H M nx w Heap.no (M.all H w) nx w:=by
 refine⟨⟨fun _ _ h=>(by cases h),fun _ _ _ _ _ _ _ h=>(by cases h),r.fresh,fun g o h=>?_,fun _ _ _ _ _ _ h=>(by cases h)⟩,⟨Mp.all_ext r,rfl,rfl,rfl,Nat.le_refl _,fun _ _ _=>rfl,fun g ⟨_,_,_,h,_⟩=>(by cases h),fun _ _=>rfl,Nat.le_refl _,fun g o h=>?_⟩⟩
 ·unfold Mp.all at h
  by_cases hi:Im H M g
  ·simp only [hi,if_true] at h;exact h
  ·simp only [hi,if_false] at h;exact r.fz g o h
 ·unfold Mp.all at h
  by_cases hi:Im H M g
  ·exact .inr (.inl hi)
  ·simp only [hi,if_false] at h;exact .inl h
theorem rows_len {cs:List CV}{o k n:Nat}(h:o+n*k≤cs.length){i:Nat}(hi:i<n):((cs.drop (o+i*k)).take k).length=k:=by
 have:(i+1)*k≤n*k:=Nat.mul_le_mul_right _ hi;rw [Nat.add_mul] at this;simp;omega
theorem RV.all {M:Mp}{H:Heap}{nx:Nat}{w:World}(r:Rep M H nx w):∀ (f:Nat) (c:CV) (v:Value),RV M c v→RV (M.all H w) (dvV H f c) v:=by
 have he:=Mp.all_ext r;intro f
 induction f with
 | zero=>intro c v _;unfold dvV;exact .any _
 | succ f ih =>
   have lst:∀ {cs:List CV} {vs:List Value},RVs M cs vs→RVs (M.all H w) (cs.map (dvV H f)) vs:=by
    intro cs vs h;exact⟨by simpa using h.1,fun j a b=>by rw [List.getElem_map];exact ih _ _ (h.2 j (by simpa using a) b)⟩
   have blk:∀ {b:Nat} {cs:List CV} {g m:Nat},H b=some (.cells cs)→M.bk b=some (g,m)→∃ arr T,(M.all H w).fz g=some (.cells arr T (0,0))∧cs.length≤arr.size∧∀ j (a:j<cs.length) (h:j<arr.size),RV M cs[j] arr[j]:=by
    intro b cs g m hb hm;obtain⟨g',m',hm',arr,T,hw,hs,hr⟩:=r.blk b _ hb;rw [hm] at hm';cases hm';have hl:cs.length≤arr.size:=by have:=hr.1;simp at this;omega
    refine⟨arr,T,?_,hl,fun j a h=>?_⟩
    ·have hi:Im H M g:=⟨b,_,m,hb,hm⟩
     show (open Classical in if Im H M g then w.heap[g]? else M.fz g)=_
     simp only [hi,if_true];exact hw
    ·have:=hr.2 j a (by simp;omega);simpa using this
   intro c v h;cases h with
   | any v=>unfold dvV;exact .any v
   | bool b=>unfold dvV;exact .bool b
   | int k n=>unfold dvV;exact .int k n
   | str l s h=>unfold dvV;exact .str l s h
   | nilp=>unfold dvV;exact .nilp
   | nils=>unfold dvV;exact .nils
   | nilm=>unfold dvV;exact .nilm
   | nilf=>unfold dvV;exact .nilf
   | nili=>unfold dvV;exact .nili
   | mp b g m h=>unfold dvV;exact .any _
   | fmp=>unfold dvV;exact .any _
   | ptr b o g m h =>
     unfold dvV;dsimp only;split
     ·rename_i cs hb;split
      ·rename_i ho;have ho':=Nat.le_of_ble_eq_true ho;obtain⟨arr,T,hz,hl,hr⟩:=blk hb h;refine .rop _ g o arr T (0,0) hz (by simp;omega) (fun j a d=>?_);rw [List.getElem_map,List.getElem_drop];exact ih _ _ (hr (o+j) (by simp at a;omega) d)
      ·exact .any _
     ·exact .any _
   | sl b o n k g m c h hn hm =>
     unfold dvV;dsimp only;split
     ·rename_i cs hb;split
      ·rename_i ho;have ho':=Nat.le_of_ble_eq_true ho;obtain⟨arr,T,hz,hl,hr⟩:=blk hb h;refine .lst _ g o n k c arr T (0,0) hz (by simp [rowsOf]) hn (fun x hx=>?_) (by omega) (fun i a j d dd=>?_)
       ·obtain⟨x1,h1,rfl⟩:=List.mem_map.mp hx;obtain⟨i,hi,rfl⟩:=List.mem_map.mp h1;rw [List.length_map];exact rows_len ho' (by simpa using hi)
       ·have hi:i<n:=by simpa [rowsOf] using a
        have hj:j<k:=by
         simp only [rowsOf,List.getElem_map,List.getElem_range,List.length_map] at d;rw [rows_len ho' hi] at d;exact d
        have hlt:=mul_lt_row (k:=k) hi hj;simp only [rowsOf,List.getElem_map,List.getElem_range,List.getElem_take,List.getElem_drop];exact ih _ _ (hr (o+i*k+j) (by omega) dd)
      ·exact .any _
     ·exact .any _
   | rop cs g o arr T fr h hl hr =>
     unfold dvV;exact .rop _ g o arr T fr (he.fz _ _ h) (by simpa using hl) (fun j a b=>by rw [List.getElem_map];exact ih _ _ (hr j (by simpa using a) b))
   | lst0 a c=>unfold dvV;exact .lst0 a c
   | lst rows g o n k c arr T fr h hn hc hk hl hr =>
     unfold dvV;refine .lst _ g o n k c arr T fr (he.fz _ _ h) (by simpa using hn) hc (fun x hx=>?_) hl (fun i a j b d=>?_)
     ·obtain⟨x1,h1,rfl⟩:=List.mem_map.mp hx;rw [List.length_map];exact hk x1 h1
     ·simp only [List.getElem_map] at b ⊢;exact ih _ _ (hr i (by simpa using a) j (by simpa using b) d)
   | fn g a b a' b' l1 l2 h1 h2 =>
     unfold dvV;have r1:=lst (cs:=a) (vs:=a') ⟨l1,h1⟩;have r2:=lst (cs:=b) (vs:=b') ⟨l2,h2⟩;exact .fn g _ _ a' b' r1.1 r2.1 r1.2 r2.2
   | iface t x v h=>unfold dvV;exact .iface t _ v (ih _ _ h)
   | agg cs vs hl hr =>
     unfold dvV;have r1:=lst (cs:=cs) (vs:=vs) ⟨hl,hr⟩;exact .agg _ vs r1.1 r1.2
   | tup cs vs hl hr =>
     unfold dvV;have r1:=lst (cs:=cs) (vs:=vs) ⟨hl,hr⟩;exact .tup _ vs r1.1 r1.2
   | opt g c v h1 h0=>unfold dvV;exact (RV.opt g c v h1 h0).ext he
/-- A contract that leaves the memory and the numbers alone. -/
def FCall1 (P:Program)(G:Nat→CV)(f:FuncId)(args:List CV)(v:CV):Prop:=∀ H nx,ACall P G f args H nx fun r H' nx'=>r=.ret v∧H'=H∧nx'=nx
theorem FCall1.f {P:Program}{G:Nat→CV}{f:FuncId}{args:List CV}{v:CV}(h:FCall1 P G f args v):FCall P G f args fun r=>r=.ret v:=fun H nx=>(h H nx).mono fun _ _ _ ⟨a,b,_⟩=>⟨b,a⟩
/-- What a closed run leaves, frozen. -/
theorem FCall1.closed {P:Program}{G:Nat→CV}{call:Call1}(hc:CallOk P G call)(hG:∀ g,puV (G g)=true){f:FuncId}{args:List CV}{v u:CV}{h':Tr CB}{nx':Nat}(ha:puL args=true)(hr:call f args .lf 0=some (.ret v,h',nx'))(fu:Nat)(hu:dvV (hv h') fu v=u)(hp:puV u=true) :
  FCall1 P G f args u:=by
 intro H nx M w vs g r rv;have r0:Rep ⟨M.fz,fun _=>none⟩ Heap.no 0 w:=⟨fun _ _ h=>(by cases h),fun _ _ _ _ _ _ _ h=>(by cases h),fun _ _=>rfl,r.fz,fun _ _ _ _ _ _ h=>(by cases h)⟩;refine (hc f args .lf 0 _ _ _ hr ⟨M.fz,fun _=>none⟩ w vs (RG.swap (M:=M) (M':=⟨M.fz,fun _=>none⟩) (fun _ _ h=>h) g hG) (r0.weak (fun b k h=>by simp [hv,Tr.get] at h)) (RVs.swap (M:=M) (M':=⟨M.fz,fun _=>none⟩) (fun _ _ h=>h) rv ha)).mono ?_;rintro e w' ⟨M1,x,H1,nx1,a1,a2,a3,rfl,rfl,rfl⟩;cases e <;> simp only [EndR] at a1;rename_i val;obtain⟨b1,b2⟩:=a2.all;have hval:=RV.all a2 fu v val a1;rw [hu] at hval;have fno:Fr Heap.no ⟨M.fz,fun _=>none⟩ 0 w Heap.no (M1.all (hv h') w') nx1 w':=by
  have:=a3.trans b2;have e0:hv (.lf:Tr CB)=Heap.no:=rfl;rw [e0] at this;exact this
 -- back beside the caller's blocks
 have hlow:∀ g o,(M1.all (hv h') w').fz g=some o→w'.heap[g]?=some o:=b1.fz;have rr:Rep ⟨(M1.all (hv h') w').fz,M.bk⟩ H nx w'∧Fr H M nx w H ⟨(M1.all (hv h') w').fz,M.bk⟩ nx w':=by
  have ni:∀ b k g m,H b=some k→M.bk b=some (g,m)→g<w.heap.size∧w'.heap[g]?=w.heap[g]?∧∀ o,(M1.all (hv h') w').fz g≠some o:=by
   intro b k g m hb hm;have hlt:=r.lt hb hm;refine⟨hlt,fno.kept g hlt (fun ⟨_,_,_,h,_⟩=>by cases h),fun o ho=>?_⟩;rcases fno.fzn g o ho with h1 | ⟨_,_,_,h1,_⟩ | h1
   ·exact r.sep g o b k m h1 hb hm
   ·cases h1
   ·omega
  have he:Ext M ⟨(M1.all (hv h') w').fz,M.bk⟩:=⟨fun x y h=>fno.ext.fz x y h,fun _ _ h=>h⟩;refine⟨⟨fun b k hb=>?_,r.inj,r.fresh,hlow,fun g o b k m hz hb hm=>(ni b k g m hb hm).2.2 o hz⟩,⟨he,fno.os,fno.tape,fno.output,fno.grown,fun g hg _=>fno.kept g hg (fun ⟨_,_,_,h,_⟩=>by cases h),fun _ h=>.inl h,fun _ _=>rfl,Nat.le_refl _,fun g o h=>?_⟩⟩
  ·obtain⟨g,m,h1,h2⟩:=r.blk b k hb;exact⟨g,m,h1,h2.ext he (ni b k g m hb h1).2.1⟩
  ·rcases fno.fzn g o h with h1 | ⟨_,_,_,h1,_⟩ | h1
   ·exact .inl h1
   ·cases h1
   ·exact .inr (.inr h1)
 exact⟨⟨(M1.all (hv h') w').fz,M.bk⟩,.ret u,H,nx,hval.swap (M:=M1.all (hv h') w') (M':=⟨(M1.all (hv h') w').fz,M.bk⟩) (fun _ _ h=>h) hp,rr.1,rr.2,rfl,rfl,rfl⟩
/-- What a run gives, frozen. -/
def dvOut (x:Option (Res×Tr CB×Nat)):Option CV:=match x with
 | some (.ret v,h,_)=>some (dvV (hv h) 60 v)
 | _=>none
theorem FCall1.run {P:Program}{G:Nat→CV}{call:Call1}(hc:CallOk P G call)(hG:∀ g,puV (G g)=true){f:FuncId}{args:List CV}{u:CV}(ha:puL args=true)(hr:dvOut (call f args .lf 0)=some u)(hp:puV u=true):FCall1 P G f args u:=by
 unfold dvOut at hr;split at hr
 ·rename_i v h n hx;cases hr;exact FCall1.closed hc hG ha hx 60 rfl hp
 ·cases hr
end Ax
end
section
namespace Ax
/-- The operations of a drawn region that are left. -/
def AQl (P:Program)(G:Nat→CV)(H:Heap)(ops:Array Oper)(os:List Oper)(e:Env)(K:Env→Prop):Prop:=∀ j,∃ l e' m,QRun P G H ops j os e l e' m∧K e'
section
variable {P:Program} {G:Nat→CV} {n:Nat} {e:Env} {H:Heap} {nx:Nat} {Q:AExit→Env→Heap→Nat→Prop} {ops:Array Oper} {os:List Oper} {K:Env→Prop}
theorem AQl.nil (h:K e):AQl P G H ops [] e K:=fun j=>⟨[],e,j,.nil j e,h⟩
variable {d:Option Nat} {op:Op} {ty:TypeId} {pos:String} {af:Array Edge} {g:Option (Nat×Bool)}
theorem AQl.stepG (hg:gd ops e ⟨d,op,ty,pos,af,g⟩=some true){c:CV}(hq:qstep P H (rd G e) op=some c)(h:AQl P G H ops os (putE e d c) K):AQl P G H ops (⟨d,op,ty,pos,af,g⟩::os) e K:=fun j=>by
 obtain⟨l,e',m,h1,h2⟩:=h j;exact⟨_,e',m,.look (o:=⟨d,op,ty,pos,af,g⟩) c hg hq h1,h2⟩
theorem AQl.step {c:CV}(hq:qstep P H (rd G e) op=some c)(h:AQl P G H ops os (putE e d c) K):AQl P G H ops (⟨d,op,ty,pos,af,none⟩::os) e K:=AQl.stepG rfl hq h
theorem AQl.pass (hg:gd ops e ⟨d,op,ty,pos,af,g⟩=some false)(h:AQl P G H ops os (putE e d (.tup [])) K):AQl P G H ops (⟨d,op,ty,pos,af,g⟩::os) e K:=fun j=>by
 obtain⟨l,e',m,h1,h2⟩:=h j;exact⟨_,e',m,.skip (o:=⟨d,op,ty,pos,af,g⟩) hg h1,h2⟩
/-- A call that leaves the memory and the numbers alone. -/
theorem AQl.callG (hg:gd ops e ⟨d,op,ty,pos,af,g⟩=some true){f:FuncId}{args:List CV}(hq:callA (rd G e) op=some (f,args))(he:enters P f=true){v:CV}(hf:∀ nx,ACall P G f args H nx fun r H' nx'=>r=.ret v∧H'=H∧nx'=nx)
  (h:AQl P G H ops os (putE e d v) K):AQl P G H ops (⟨d,op,ty,pos,af,g⟩::os) e K:=fun j=>by
 obtain⟨l,e',m,h1,h2⟩:=h (j+1);exact⟨_,e',m,.call (o:=⟨d,op,ty,pos,af,g⟩) v hg hq he hf h1,h2⟩
theorem AQl.call {f:FuncId}{args:List CV}(hq:callA (rd G e) op=some (f,args))(he:enters P f=true){v:CV}(hf:FCall1 P G f args v)(h:AQl P G H ops os (putE e d v) K):AQl P G H ops (⟨d,op,ty,pos,af,none⟩::os) e K:=AQl.callG rfl hq he (hf H) h
theorem AQl.callg (hg:gd ops e ⟨d,op,ty,pos,af,g⟩=some true){f:FuncId}{args:List CV}(hq:callA (rd G e) op=some (f,args))(he:enters P f=true){v:CV}(hf:FCall1 P G f args v)(h:AQl P G H ops os (putE e d v) K):AQl P G H ops (⟨d,op,ty,pos,af,g⟩::os) e K:=AQl.callG hg hq he (hf H) h
/-- A contract without memory whose values are pure leaves the numbers alone, too. -/
theorem FCall.one {f:FuncId}{args:List CV}{v:CV}(hG:∀ g,puV (G g)=true)(ha:puL args=true)(hv:puV v=true)(h:FCall P G f args fun r=>r=.ret v):FCall1 P G f args v:=by
 intro H nx M w vs g r rv;have h0:=h Heap.no 0;have r0:Rep ⟨M.fz,fun _=>none⟩ Heap.no 0 w:=⟨fun _ _ h=>(by cases h),fun _ _ _ _ _ _ _ h=>(by cases h),fun _ _=>rfl,r.fz,fun _ _ _ _ _ _ h=>(by cases h)⟩;refine (h0 ⟨M.fz,fun _=>none⟩ w vs (RG.swap (M:=M) (M':=⟨M.fz,fun _=>none⟩) (fun _ _ h=>h) g hG) r0 (RVs.swap (M:=M) (M':=⟨M.fz,fun _=>none⟩) (fun _ _ h=>h) rv ha)).mono ?_;rintro e w' ⟨M1,x,H1,nx1,a1,a2,a3,a4,rfl⟩;subst a4;have ni:∀ b k g m,H b=some k→M.bk b=some (g,m)→g<w.heap.size∧w'.heap[g]?=w.heap[g]?∧∀ o,M1.fz g≠some o:=by
  intro b k g m hb hm;have hlt:=r.lt hb hm;refine⟨hlt,a3.kept g hlt (fun ⟨_,_,_,h,_⟩=>by cases h),fun o ho=>?_⟩;rcases a3.fzn g o ho with h1 | ⟨_,_,_,h1,_⟩ | h1
  ·exact r.sep g o b k m h1 hb hm
  ·cases h1
  ·omega
 have he:Ext M ⟨M1.fz,M.bk⟩:=⟨fun x y h=>a3.ext.fz x y h,fun _ _ h=>h⟩;refine⟨⟨M1.fz,M.bk⟩,.ret v,H,nx,EndR.swap (M:=M1) (M':=⟨M1.fz,M.bk⟩) (fun _ _ h=>h) a1 hv,⟨fun b k hb=>?_,r.inj,r.fresh,a2.fz,fun g o b k m hz hb hm=>(ni b k g m hb hm).2.2 o hz⟩,⟨he,a3.os,a3.tape,a3.output,a3.grown,fun g hg _=>a3.kept g hg (fun ⟨_,_,_,h,_⟩=>by cases h),fun _ h=>.inl h,fun _ _=>rfl,Nat.le_refl _,fun g o h=>?_⟩,rfl,rfl,rfl⟩
 ·obtain⟨g,m,h1,h2⟩:=r.blk b k hb;exact⟨g,m,h1,h2.ext he (ni b k g m hb h1).2.1⟩
 ·rcases a3.fzn g o h with h1 | ⟨_,_,_,h1,_⟩ | h1
  ·exact .inl h1
  ·cases h1
  ·exact .inr (.inr h1)
theorem range2:List.range 2=[0,1]:=rfl
/-- Arguments of which less is asked. -/
theorem FCall.imp {f:FuncId}{args args':List CV}{R:Res→Prop}(h:∀ M vs,RVs M args vs→RVs M args' vs)(hf:FCall P G f args' R):FCall P G f args R:=fun H nx M w vs g r v=>hf H nx M w vs g r (h M vs v)
theorem RV.nil_lst {M:Mp}{v:Value}(h:RV M .nils v):RV M (.lst []) v:=by cases h;exact .lst0 _ _
/-- A loop that counts up to N. -/
theorem AWp.count {c:Code}(N:Nat)(S:Nat→Env→Heap→Nat→Prop)(h0:S 0 e H nx)
  (round:∀ i e H nx,i≤N→S i e H nx→AWp P G n c e H nx (Then (fun e' H' nx'=>i<N∧S (i+1) e' H' nx') Q)):AWp P G n (.loop c) e H nx Q:=by
 refine AWp.loop (α:=Nat) (fun k e H nx=>k≤N∧S (N-k) e H nx) id N ⟨Nat.le_refl _,by simpa using h0⟩ ?_;rintro k e H nx ⟨hk,hs⟩;refine (round (N-k) e H nx (by omega) hs).mono ?_;intro x e H nx hx;cases x with
 | normal =>
   obtain⟨h1,h2⟩:=hx;exact⟨k-1,by simp only [id];omega,by omega,by rwa [show N-(k-1)=N-k+1 by omega]⟩
 | exit i=>exact hx
 | ret=>exact hx
 | pan v=>exact hx
end
end Ax
end
end Go.Proofs.YtmlafcimjhnhhaaDoor
