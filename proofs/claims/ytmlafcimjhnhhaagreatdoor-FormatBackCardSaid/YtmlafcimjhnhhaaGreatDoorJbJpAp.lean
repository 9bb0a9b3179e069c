/-
  A slice of tokens in memory, read as a list.
-/
import Derived.Test.YtmlafcimjhnhhaaGreatDoorJbJpAo
import Derived.Test.YtmlafcimjhnhhaaGreatDoorJbJpAn
set_option linter.unusedSectionVars false
set_option linter.unusedSimpArgs false
set_option linter.unnecessarySimpa false
set_option linter.unusedVariables false
namespace Go.Proofs.YtmlafcimjhnhhaaGreatDoor
section
open Lx Go.RowKit
/-- A slice value that reads as a list of tokens. -/
def HasToks (w:World)(v:Value)(ts:List Tok):Prop :=
 (v=.slice none 0 0∧ts=[])∨∃ g cap,v=.slice (some ⟨g,0,none⟩) ts.length cap∧ts.length≤maxLen∧∀ i (h:i<ts.length),w.cell? ⟨g,i*4,none⟩=some (.int .i64 (ts[i].kind:Int))∧w.cell? ⟨g,i*4+1,none⟩=some (.int .i64 (ts[i].pos:Int)) ∧
  w.cell? ⟨g,i*4+2,none⟩=some (.string (strOf ts[i].text))∧w.cell? ⟨g,i*4+3,none⟩=some (.int .i64 (ts[i].n:Int))
theorem add_at (g k:Nat):(⟨g,0,none⟩:Addr).add k=⟨g,k,none⟩:=by
 unfold Addr.add;split
 ·rename_i h;rw [h]
 ·simp
theorem toksCells_get (ts:List Tok)(i:Nat)(h:i<ts.length):∀ j,j<4→(toksCells ts)[i*4+j]?=(tokCells ts[i])[j]?:=by
 induction ts generalizing i with
 | nil=>simp at h
 | cons t r ih =>
   intro j hj;have e:toksCells (t::r)=tokCells t++toksCells r:=rfl;have hl:(tokCells t).length=4:=rfl;rw [e];cases i with
   | zero=>rw [List.getElem?_append_left (by omega)];simp
   | succ i =>
     rw [List.getElem?_append_right (by omega),hl,show (i+1)*4+j-4=i*4+j from by omega];exact ih i (by simpa using h) j hj
theorem HasToks.of_own {w:World}{B:Nat}{v:Value}{ts:List Tok}(h:w.ownsRow B 89 4 v ts.length (toksCells ts)):HasToks w v ts:=by
 obtain⟨_,h2⟩:=h;rcases h2 with⟨h3,h4⟩ | ⟨g,cap,cur,hv,hB,hg,hn,hm,hcs,htk⟩
 ·exact .inl ⟨h3,List.length_eq_zero_iff.1 h4⟩
 ·refine .inr ⟨g,cap,hv,by omega,fun i hi=>?_⟩;have key:∀ j,j<4→w.cell? ⟨g,i*4+j,none⟩=(tokCells ts[i])[j]?:=by
   intro j hj;have h5:=toksCells_get ts i hi j hj;rw [← htk,List.getElem?_take_of_lt (by omega)] at h5;rw [← h5];simp [World.cell?,hg]
  exact⟨key 0 (by omega),key 1 (by omega),key 2 (by omega),key 3 (by omega)⟩
theorem HasToks.below {w w':World}{v:Value}{ts:List Tok}(h:HasToks w v ts)(hb:Below w.heap.size w w'):HasToks w' v ts:=by
 rcases h with h | ⟨g,cap,hv,hm,hc⟩
 ·exact .inl h
 ·refine .inr ⟨g,cap,hv,hm,fun i hi=>?_⟩;obtain⟨h0,h1,h2,h3⟩:=hc i hi;have hlt:g<w.heap.size:=World.block_lt_of_cell? w _ h0;exact⟨(hb.cell (p:=⟨g,_,none⟩) hlt).trans h0,(hb.cell (p:=⟨g,_,none⟩) hlt).trans h1,(hb.cell (p:=⟨g,_,none⟩) hlt).trans h2,(hb.cell (p:=⟨g,_,none⟩) hlt).trans h3⟩
theorem HasToks.form {w:World}{v:Value}{ts:List Tok}(h:HasToks w v ts):(ts=[]∧∃ a cap,v=.slice a 0 cap)∨(0<ts.length∧∃ g cap,v=.slice (some ⟨g,0,none⟩) ts.length cap∧ts.length≤maxLen∧∀ i (h:i<ts.length),w.cell? ⟨g,i*4,none⟩=some (.int .i64 (ts[i].kind:Int))∧w.cell? ⟨g,i*4+1,none⟩=some (.int .i64 (ts[i].pos:Int)) ∧
  w.cell? ⟨g,i*4+2,none⟩=some (.string (strOf ts[i].text))∧w.cell? ⟨g,i*4+3,none⟩=some (.int .i64 (ts[i].n:Int))):=by
 rcases h with⟨rfl,rfl⟩ | ⟨g,cap,rfl,hm,hc⟩
 ·exact .inl ⟨rfl,_,_,rfl⟩
 ·cases ts with
  | nil=>exact .inl ⟨rfl,_,_,rfl⟩
  | cons t r=>exact .inr ⟨by simp,g,cap,rfl,hm,hc⟩
end
section
namespace Lx
inductive Ex where
 | mk (kind n:Int) (of name:Bytes) (kids:List Ex)
inductive St where
 | mk (kind:Int) (name typ:Bytes) (exprs:List Ex) (body els:List St)
structure Fld where
 name:Bytes
 typ:Bytes
structure Me where
 name:Bytes
 static:Bool
 params:List Fld
 result:Bytes
 body:List St
structure Cl where
 name:Bytes
 super:Bytes
 fields:List Fld
 methods:List Me
def Ex.kind:Ex→Int | .mk k _ _ _ _=>k
def Ex.n:Ex→Int | .mk _ n _ _ _=>n
def Ex.of:Ex→Bytes | .mk _ _ o _ _=>o
def Ex.name:Ex→Bytes | .mk _ _ _ m _=>m
def Ex.kids:Ex→List Ex | .mk _ _ _ _ ks=>ks
abbrev PR (α:Type):=Except Nat (α×Nat)
def bindP {α β:Type}(r:PR α)(k:α→Nat→PR β):PR β:=match r with
 | .error q=>.error q
 | .ok (a,j)=>k a j
theorem bindP_ok {α β:Type}(a:α)(j:Nat)(k:α→Nat→PR β):bindP (.ok (a,j)) k=k a j:=rfl
section
variable (ts:List Tok)
def tk (i:Nat):Tok:=ts.getD i ⟨5,0,[],0⟩
def isT (i:Nat)(x:Bytes):Bool:=(tk ts i).text == x
def expectP (x:Bytes)(i:Nat):PR Unit:=if isT ts i x then .ok ((),i+1) else .error i
def nameP (i:Nat):PR Bytes:=if (tk ts i).kind=1 then .ok ((tk ts i).text,i+1) else .error i
def typP (i:Nat):PR Bytes:=if isT ts i [105,110,116] then .ok ([105,110,116],i+1) else nameP ts i
def typedP (i:Nat):PR Fld:=bindP (nameP ts i) fun n i=>bindP (expectP ts [58] i) fun _ i=>bindP (typP ts i) fun t i=>.ok (⟨n,t⟩,i)
section
variable (E:Nat→PR Ex)
def argsLoop:Nat→List Ex→Nat→PR (List Ex)
 | 0,_,i=>.error i
 | n+1,acc,i=>if isT ts i [44] then bindP (E (i+1)) fun e j=>argsLoop n (acc++[e]) j else bindP (expectP ts [41] i) fun _ j=>.ok (acc,j)
def argsP (i:Nat):PR (List Ex):=bindP (expectP ts [40] i) fun _ i=>if isT ts i [41] then .ok ([],i+1) else bindP (E i) fun e j=>argsLoop ts E (ts.length+1) [e] j
def namedP (i:Nat):PR (Ex×Nat):=bindP (nameP ts i) fun n i=>if isT ts i [58,58] then bindP (nameP ts (i+1)) fun m i=>bindP (argsP ts E i) fun ks i=>.ok ((.mk 10 0 n m ks,3),i) else .ok ((.mk 3 0 [] n [],1),i)
def unitP (i:Nat)(e:Ex):PR (Ex×Nat):=bindP (expectP ts [40] i) fun _ i=>bindP (expectP ts [41] i) fun _ i=>.ok ((e,0),i)
def minusP (i:Nat):PR (Ex×Nat):=if (tk ts i).kind=3∧(tk ts i).n≠0 then .ok ((.mk 1 (-((tk ts i).n:Int)) [] [] [],0),i+1) else .error i
def parenP (i:Nat):PR (Ex×Nat):=bindP (expectP ts [40] i) fun _ i=>bindP (E i) fun e i=>bindP (expectP ts [41] i) fun _ i=>.ok ((e,0),i)
def atomP (i:Nat):PR (Ex×Nat) :=
 if (tk ts i).kind=1 then namedP ts E i
 else if (tk ts i).kind=3 then .ok ((.mk 1 (tk ts i).n [] [] [],0),i+1)
 else if isT ts i [45] then minusP ts (i+1)
 else if isT ts i [110,117,108,108] then .ok ((.mk 2 0 [] [] [],0),i+1)
 else if isT ts i [116,104,105,115] then .ok ((.mk 4 0 [] [] [],0),i+1)
 else if isT ts i [105,110,112,117,116] then unitP ts (i+1) (.mk 5 0 [] [] [])
 else if isT ts i [110,101,119] then bindP (nameP ts (i+1)) fun n i=>unitP ts i (.mk 7 0 [] n [])
 else parenP ts E i
def postLoop:Nat→Ex→Nat→Nat→PR (Ex×Nat)
 | 0,_,_,i=>.error i
 | n+1,e,sh,i=>if isT ts i [46] then bindP (nameP ts (i+1)) fun m i=>if isT ts i [40] then bindP (argsP ts E i) fun ks i=>postLoop n (.mk 9 0 [] m (e::ks)) 3 i else postLoop n (.mk 8 0 [] m [e]) 2 i else .ok ((e,sh),i)
def postP (i:Nat):PR (Ex×Nat):=bindP (atomP ts E i) fun x i=>postLoop ts E (ts.length+1) x.1 x.2 i
def binE (op:Int)(a b:Ex):Ex:=.mk 6 op [] [] [a,b]
def prodLoop:Nat→Ex→Nat→PR Ex
 | 0,_,i=>.error i
 | n+1,e,i=>if isT ts i [42] then bindP (postP ts E (i+1)) fun x i=>prodLoop n (binE 3 e x.1) i else .ok (e,i)
def prodP (i:Nat):PR Ex:=bindP (postP ts E i) fun x i=>prodLoop ts E (ts.length+1) x.1 i
def sumLoop:Nat→Ex→Nat→PR Ex
 | 0,_,i=>.error i
 | n+1,e,i=>if isT ts i [43] then bindP (prodP ts E (i+1)) fun x i=>sumLoop n (binE 1 e x) i else if isT ts i [45] then bindP (prodP ts E (i+1)) fun x i=>sumLoop n (binE 2 e x) i else .ok (e,i)
def sumP (i:Nat):PR Ex:=bindP (prodP ts E i) fun x i=>sumLoop ts E (ts.length+1) x i
def exprW (i:Nat):PR Ex:=bindP (sumP ts E i) fun e i=>if isT ts i [60] then bindP (sumP ts E (i+1)) fun x i=>.ok (binE 4 e x,i) else if isT ts i [61,61] then bindP (sumP ts E (i+1)) fun x i=>.ok (binE 5 e x,i) else .ok (e,i)
end
def exprP:Nat→Nat→PR Ex
 | 0,i=>.error i
 | f+1,i=>exprW ts (exprP f) i
def exprT (i:Nat):PR Ex:=exprP ts (ts.length+1) i
def condP (i:Nat):PR (List Ex):=bindP (expectP ts [40] i) fun _ i=>bindP (exprT ts i) fun e i=>bindP (expectP ts [41] i) fun _ i=>.ok ([e],i)
def simpleP (i:Nat):PR St:=bindP (postP ts (exprT ts) i) fun x i =>
 if x.2=1∧isT ts i [61] then bindP (exprT ts (i+1)) fun y i=>bindP (expectP ts [59] i) fun _ i=>.ok (.mk 2 x.1.name [] [y] [] [],i)
 else if x.2=2∧isT ts i [61] then bindP (exprT ts (i+1)) fun y i=>bindP (expectP ts [59] i) fun _ i=>.ok (.mk 3 x.1.name [] [x.1.kids.headD (.mk 0 0 [] [] []),y] [] [],i)
 else if x.2=3 then bindP (expectP ts [59] i) fun _ i=>.ok (.mk 9 [] [] [x.1] [] [],i)
 else .error i
section
variable (S:Nat→PR St)
def blockLoop:Nat→List St→Nat→PR (List St)
 | 0,_,i=>.error i
 | n+1,acc,i=>if isT ts i [125] then .ok (acc,i+1) else bindP (S i) fun s j=>blockLoop n (acc++[s]) j
def blockW (i:Nat):PR (List St):=bindP (expectP ts [123] i) fun _ i=>blockLoop ts S (ts.length+1) [] i
end
section
variable (B:Nat→PR (List St))
def varP (i:Nat):PR St:=bindP (typedP ts i) fun f i=>if isT ts i [61] then bindP (exprT ts (i+1)) fun e i=>bindP (expectP ts [59] i) fun _ i=>.ok (.mk 1 f.name f.typ [e] [] [],i) else bindP (expectP ts [59] i) fun _ i=>.ok (.mk 1 f.name f.typ [] [] [],i)
def ifP (i:Nat):PR St:=bindP (condP ts i) fun c i=>bindP (B i) fun b i=>if isT ts i [101,108,115,101] then bindP (B (i+1)) fun e i=>.ok (.mk 4 [] [] c b e,i) else .ok (.mk 4 [] [] c b [],i)
def whileP (i:Nat):PR St:=bindP (condP ts i) fun c i=>bindP (B i) fun b i=>.ok (.mk 5 [] [] c b [],i)
def tryP (i:Nat):PR St:=bindP (B i) fun b i=>bindP (expectP ts [99,97,116,99,104] i) fun _ i=>bindP (expectP ts [40] i) fun _ i=>bindP (typedP ts i) fun f i=>bindP (expectP ts [41] i) fun _ i=>bindP (B i) fun e i=>.ok (.mk 6 f.name f.typ [] b e,i)
def throwP (i:Nat):PR St:=bindP (exprT ts i) fun e i=>bindP (expectP ts [59] i) fun _ i=>.ok (.mk 7 [] [] [e] [] [],i)
def returnP (i:Nat):PR St:=if isT ts i [59] then .ok (.mk 8 [] [] [] [] [],i+1) else bindP (exprT ts i) fun e i=>bindP (expectP ts [59] i) fun _ i=>.ok (.mk 8 [] [] [e] [] [],i)
def stmtW (i:Nat):PR St :=
 if isT ts i [118,97,114] then varP ts (i+1)
 else if isT ts i [105,102] then ifP ts B (i+1)
 else if isT ts i [119,104,105,108,101] then whileP ts B (i+1)
 else if isT ts i [116,114,121] then tryP ts B (i+1)
 else if isT ts i [116,104,114,111,119] then throwP ts (i+1)
 else if isT ts i [114,101,116,117,114,110] then returnP ts (i+1)
 else simpleP ts i
end
def blockP:Nat→Nat→PR (List St)
 | 0,i=>.error i
 | f+1,i=>blockW ts (stmtW ts (blockP f)) i
def blockT (i:Nat):PR (List St):=blockP ts (ts.length+1) i
def fieldP (i:Nat):PR Fld:=bindP (expectP ts [118,97,114] i) fun _ i=>bindP (typedP ts i) fun f i=>bindP (expectP ts [59] i) fun _ i=>.ok (f,i)
def paramsLoop:Nat→List Fld→Nat→PR (List Fld)
 | 0,_,i=>.error i
 | n+1,acc,i=>if isT ts i [44] then bindP (typedP ts (i+1)) fun f j=>paramsLoop n (acc++[f]) j else bindP (expectP ts [41] i) fun _ j=>.ok (acc,j)
def paramsP (i:Nat):PR (List Fld):=if isT ts i [41] then .ok ([],i+1) else bindP (typedP ts i) fun f i=>paramsLoop ts (ts.length+1) [f] i
def resultP (i:Nat):PR Bytes:=if isT ts i [58] then typP ts (i+1) else .ok ([],i)
def methodP (i:Nat):PR Me:=bindP (expectP ts [100,101,102] (if isT ts i [115,116,97,116,105,99] then i+1 else i)) fun _ j=>bindP (nameP ts j) fun n j=>bindP (expectP ts [40] j) fun _ j=>bindP (paramsP ts j) fun ps j=>bindP (resultP ts j) fun r j=>bindP (blockT ts j) fun b j=>.ok (⟨n,isT ts i [115,116,97,116,105,99],ps,r,b⟩,j)
def fieldsLoop:Nat→List Fld→Nat→PR (List Fld)
 | 0,_,i=>.error i
 | n+1,acc,i=>if isT ts i [118,97,114] then bindP (fieldP ts i) fun f j=>fieldsLoop n (acc++[f]) j else .ok (acc,i)
def methodsLoop:Nat→List Me→Nat→PR (List Me)
 | 0,_,i=>.error i
 | n+1,acc,i=>if isT ts i [115,116,97,116,105,99] || isT ts i [100,101,102] then bindP (methodP ts i) fun m j=>methodsLoop n (acc++[m]) j else .ok (acc,i)
def superP (i:Nat):PR Bytes:=if isT ts i [101,120,116,101,110,100,115] then nameP ts (i+1) else .ok ([],i)
def classP (i:Nat):PR Cl:=bindP (expectP ts [99,108,97,115,115] i) fun _ i=>bindP (nameP ts i) fun n i=>bindP (superP ts i) fun s i=>bindP (expectP ts [123] i) fun _ i=>bindP (fieldsLoop ts (ts.length+1) [] i) fun fs i=>bindP (methodsLoop ts (ts.length+1) [] i) fun ms i=>bindP (expectP ts [125] i) fun _ i=>.ok (⟨n,s,fs,ms⟩,i)
def classesLoop:Nat→List Cl→Nat→PR (List Cl)
 | 0,_,i=>.error i
 | n+1,acc,i=>if isT ts i [99,108,97,115,115] then bindP (classP ts i) fun c j=>classesLoop n (acc++[c]) j else .ok (acc,i)
def programP (i:Nat):PR (List Cl):=classesLoop ts (ts.length+1) [] i
end
end Lx
end
section
namespace Lx
theorem bindP_inv {α β:Type}{r:PR α}{k:α→Nat→PR β}{b:β}{j:Nat}(h:bindP r k=.ok (b,j)):∃ a i,r=.ok (a,i)∧k a i=.ok (b,j):=by
 match r,h with
 | .ok (a,i),h=>exact⟨a,i,rfl,h⟩
section
variable {ts:List Tok} {i j:Nat}
theorem expectP_adv {x:Bytes}{a:Unit}(h:expectP ts x i=.ok (a,j)):j=i+1:=by
 unfold expectP at h;split at h
 ·cases h;rfl
 ·cases h
theorem nameP_adv {a:Bytes}(h:nameP ts i=.ok (a,j)):j=i+1:=by
 unfold nameP at h;split at h
 ·cases h;rfl
 ·cases h
theorem typP_adv {a:Bytes}(h:typP ts i=.ok (a,j)):j=i+1:=by
 unfold typP at h;split at h
 ·cases h;rfl
 ·exact nameP_adv h
theorem typedP_adv {a:Fld}(h:typedP ts i=.ok (a,j)):j=i+3:=by
 unfold typedP at h;obtain⟨_,_,h1,h⟩:=bindP_inv h;obtain⟨_,_,h2,h⟩:=bindP_inv h;obtain⟨_,_,h3,h⟩:=bindP_inv h;have:=nameP_adv h1;have:=expectP_adv h2;have:=typP_adv h3;cases h;omega
/-- E reads on wherever it succeeds. -/
def Adv {α:Type}(E:Nat→PR α):Prop:=∀ i a j,E i=.ok (a,j)→i<j
section
variable {E:Nat→PR Ex} (hE:Adv E)
include hE
theorem argsLoop_adv:∀ n acc i r j,argsLoop ts E n acc i=.ok (r,j)→i<j:=by
 intro n
 induction n with
 | zero=>intro acc i r j h;cases h
 | succ n ih =>
   intro acc i r j h;unfold argsLoop at h;split at h
   ·obtain⟨e,k,h1,h⟩:=bindP_inv h;have:=hE _ _ _ h1;have:=ih _ _ _ _ h;omega
   ·obtain⟨_,k,h1,h⟩:=bindP_inv h;have:=expectP_adv h1;cases h;omega
theorem argsP_adv:Adv (argsP ts E):=by
 intro i r j h;unfold argsP at h;obtain⟨_,k,h1,h⟩:=bindP_inv h;have:=expectP_adv h1;split at h
 ·cases h;omega
 ·obtain⟨e,k,h2,h⟩:=bindP_inv h;have:=hE _ _ _ h2;have:=argsLoop_adv hE _ _ _ _ _ h;omega
theorem namedP_adv:Adv (namedP ts E):=by
 intro i r j h;unfold namedP at h;obtain⟨_,k,h1,h⟩:=bindP_inv h;have:=nameP_adv h1;split at h
 ·obtain⟨_,k,h2,h⟩:=bindP_inv h;obtain⟨_,k,h3,h⟩:=bindP_inv h;have:=nameP_adv h2;have:=argsP_adv hE _ _ _ h3;cases h;omega
 ·cases h;omega
omit hE in
theorem unitP_adv {e:Ex}{r:Ex×Nat}(h:unitP ts i e=.ok (r,j)):j=i+2:=by
 unfold unitP at h;obtain⟨_,k,h1,h⟩:=bindP_inv h;obtain⟨_,k,h2,h⟩:=bindP_inv h;have:=expectP_adv h1;have:=expectP_adv h2;cases h;omega
omit hE in
theorem minusP_adv {r:Ex×Nat}(h:minusP ts i=.ok (r,j)):j=i+1:=by
 unfold minusP at h;split at h
 ·cases h;rfl
 ·cases h
theorem parenP_adv:Adv (parenP ts E):=by
 intro i r j h;unfold parenP at h;obtain⟨_,k,h1,h⟩:=bindP_inv h;obtain⟨_,k,h2,h⟩:=bindP_inv h;obtain⟨_,k,h3,h⟩:=bindP_inv h;have:=expectP_adv h1;have:=hE _ _ _ h2;have:=expectP_adv h3;cases h;omega
theorem atomP_adv:Adv (atomP ts E):=by
 intro i r j h;unfold atomP at h;split at h;· exact namedP_adv hE _ _ _ h
 split at h;· cases h;omega
 split at h;· have:=minusP_adv h;omega
 split at h;· cases h;omega
 split at h;· cases h;omega
 split at h;· have:=unitP_adv h;omega
 split at h
 ·obtain⟨_,k,h1,h⟩:=bindP_inv h;have:=nameP_adv h1;have:=unitP_adv h;omega
 ·exact parenP_adv hE _ _ _ h
theorem postLoop_adv:∀ n e sh i r j,postLoop ts E n e sh i=.ok (r,j)→i≤j:=by
 intro n
 induction n with
 | zero=>intro e sh i r j h;cases h
 | succ n ih =>
   intro e sh i r j h;unfold postLoop at h;split at h
   ·obtain⟨m,k,h1,h⟩:=bindP_inv h;have:=nameP_adv h1;split at h
    ·obtain⟨ks,k,h2,h⟩:=bindP_inv h;have:=argsP_adv hE _ _ _ h2;have:=ih _ _ _ _ _ h;omega
    ·have:=ih _ _ _ _ _ h;omega
   ·cases h;omega
theorem postP_adv:Adv (postP ts E):=by
 intro i r j h;unfold postP at h;obtain⟨x,k,h1,h⟩:=bindP_inv h;have:=atomP_adv hE _ _ _ h1;have:=postLoop_adv hE _ _ _ _ _ _ h;omega
theorem prodLoop_adv:∀ n e i r j,prodLoop ts E n e i=.ok (r,j)→i≤j:=by
 intro n
 induction n with
 | zero=>intro e i r j h;cases h
 | succ n ih =>
   intro e i r j h;unfold prodLoop at h;split at h
   ·obtain⟨m,k,h1,h⟩:=bindP_inv h;have:=postP_adv hE _ _ _ h1;have:=ih _ _ _ _ h;omega
   ·cases h;omega
theorem prodP_adv:Adv (prodP ts E):=by
 intro i r j h;unfold prodP at h;obtain⟨x,k,h1,h⟩:=bindP_inv h;have:=postP_adv hE _ _ _ h1;have:=prodLoop_adv hE _ _ _ _ _ h;omega
theorem sumLoop_adv:∀ n e i r j,sumLoop ts E n e i=.ok (r,j)→i≤j:=by
 intro n
 induction n with
 | zero=>intro e i r j h;cases h
 | succ n ih =>
   intro e i r j h;unfold sumLoop at h;split at h
   ·obtain⟨m,k,h1,h⟩:=bindP_inv h;have:=prodP_adv hE _ _ _ h1;have:=ih _ _ _ _ h;omega
   ·split at h
    ·obtain⟨m,k,h1,h⟩:=bindP_inv h;have:=prodP_adv hE _ _ _ h1;have:=ih _ _ _ _ h;omega
    ·cases h;omega
theorem sumP_adv:Adv (sumP ts E):=by
 intro i r j h;unfold sumP at h;obtain⟨x,k,h1,h⟩:=bindP_inv h;have:=prodP_adv hE _ _ _ h1;have:=sumLoop_adv hE _ _ _ _ _ h;omega
theorem exprW_adv:Adv (exprW ts E):=by
 intro i r j h;unfold exprW at h;obtain⟨x,k,h1,h⟩:=bindP_inv h;have:=sumP_adv hE _ _ _ h1;split at h
 ·obtain⟨x,k,h2,h⟩:=bindP_inv h;have:=sumP_adv hE _ _ _ h2;cases h;omega
 ·split at h
  ·obtain⟨x,k,h2,h⟩:=bindP_inv h;have:=sumP_adv hE _ _ _ h2;cases h;omega
  ·cases h;omega
end
theorem exprP_adv:∀ f,Adv (exprP ts f):=by
 intro f
 induction f with
 | zero=>intro i r j h;cases h
 | succ f ih=>exact exprW_adv ih
theorem exprT_adv:Adv (exprT ts):=exprP_adv _
theorem condP_adv:Adv (condP ts):=by
 intro i r j h;unfold condP at h;obtain⟨_,k,h1,h⟩:=bindP_inv h;obtain⟨_,k,h2,h⟩:=bindP_inv h;obtain⟨_,k,h3,h⟩:=bindP_inv h;have:=expectP_adv h1;have:=exprT_adv _ _ _ h2;have:=expectP_adv h3;cases h;omega
theorem simpleP_adv:Adv (simpleP ts):=by
 intro i r j h;unfold simpleP at h;obtain⟨x,k,h1,h⟩:=bindP_inv h;have:=postP_adv exprT_adv _ _ _ h1;split at h
 ·obtain⟨_,k,h2,h⟩:=bindP_inv h;obtain⟨_,k,h3,h⟩:=bindP_inv h;have:=exprT_adv _ _ _ h2;have:=expectP_adv h3;cases h;omega
 split at h
 ·obtain⟨_,k,h2,h⟩:=bindP_inv h;obtain⟨_,k,h3,h⟩:=bindP_inv h;have:=exprT_adv _ _ _ h2;have:=expectP_adv h3;cases h;omega
 split at h
 ·obtain⟨_,k,h3,h⟩:=bindP_inv h;have:=expectP_adv h3;cases h;omega
 ·cases h
theorem blockLoop_adv {S:Nat→PR St}(hS:Adv S):∀ n acc i r j,blockLoop ts S n acc i=.ok (r,j)→i<j:=by
 intro n
 induction n with
 | zero=>intro acc i r j h;cases h
 | succ n ih =>
   intro acc i r j h;unfold blockLoop at h;split at h
   ·cases h;omega
   ·obtain⟨m,k,h1,h⟩:=bindP_inv h;have:=hS _ _ _ h1;have:=ih _ _ _ _ h;omega
theorem blockW_adv {S:Nat→PR St}(hS:Adv S):Adv (blockW ts S):=by
 intro i r j h;unfold blockW at h;obtain⟨_,k,h1,h⟩:=bindP_inv h;have:=expectP_adv h1;have:=blockLoop_adv hS _ _ _ _ _ h;omega
theorem varP_adv:Adv (varP ts):=by
 intro i r j h;unfold varP at h;obtain⟨_,k,h1,h⟩:=bindP_inv h;have:=typedP_adv h1;split at h
 ·obtain⟨_,k,h2,h⟩:=bindP_inv h;obtain⟨_,k,h3,h⟩:=bindP_inv h;have:=exprT_adv _ _ _ h2;have:=expectP_adv h3;cases h;omega
 ·obtain⟨_,k,h3,h⟩:=bindP_inv h;have:=expectP_adv h3;cases h;omega
theorem throwP_adv:Adv (throwP ts):=by
 intro i r j h;unfold throwP at h;obtain⟨_,k,h2,h⟩:=bindP_inv h;obtain⟨_,k,h3,h⟩:=bindP_inv h;have:=exprT_adv _ _ _ h2;have:=expectP_adv h3;cases h;omega
theorem returnP_adv:Adv (returnP ts):=by
 intro i r j h;unfold returnP at h;split at h
 ·cases h;omega
 ·obtain⟨_,k,h2,h⟩:=bindP_inv h;obtain⟨_,k,h3,h⟩:=bindP_inv h;have:=exprT_adv _ _ _ h2;have:=expectP_adv h3;cases h;omega
section
variable {B:Nat→PR (List St)} (hB:Adv B)
include hB
theorem ifP_adv:Adv (ifP ts B):=by
 intro i r j h;unfold ifP at h;obtain⟨_,k,h1,h⟩:=bindP_inv h;obtain⟨_,k,h2,h⟩:=bindP_inv h;have:=condP_adv _ _ _ h1;have:=hB _ _ _ h2;split at h
 ·obtain⟨_,k,h3,h⟩:=bindP_inv h;have:=hB _ _ _ h3;cases h;omega
 ·cases h;omega
theorem whileP_adv:Adv (whileP ts B):=by
 intro i r j h;unfold whileP at h;obtain⟨_,k,h1,h⟩:=bindP_inv h;obtain⟨_,k,h2,h⟩:=bindP_inv h;have:=condP_adv _ _ _ h1;have:=hB _ _ _ h2;cases h;omega
theorem tryP_adv:Adv (tryP ts B):=by
 intro i r j h;unfold tryP at h;obtain⟨_,k,h1,h⟩:=bindP_inv h;obtain⟨_,k,h2,h⟩:=bindP_inv h;obtain⟨_,k,h3,h⟩:=bindP_inv h;obtain⟨_,k,h4,h⟩:=bindP_inv h;obtain⟨_,k,h5,h⟩:=bindP_inv h;obtain⟨_,k,h6,h⟩:=bindP_inv h;have:=hB _ _ _ h1;have:=expectP_adv h2;have:=expectP_adv h3;have:=typedP_adv h4;have:=expectP_adv h5;have:=hB _ _ _ h6;cases h;omega
theorem stmtW_adv:Adv (stmtW ts B):=by
 intro i r j h;unfold stmtW at h;split at h;· have:=varP_adv _ _ _ h;omega
 split at h;· have:=ifP_adv hB _ _ _ h;omega
 split at h;· have:=whileP_adv hB _ _ _ h;omega
 split at h;· have:=tryP_adv hB _ _ _ h;omega
 split at h;· have:=throwP_adv _ _ _ h;omega
 split at h;· have:=returnP_adv _ _ _ h;omega
 exact simpleP_adv _ _ _ h
end
theorem blockP_adv:∀ f,Adv (blockP ts f):=by
 intro f
 induction f with
 | zero=>intro i r j h;cases h
 | succ f ih=>exact blockW_adv (stmtW_adv ih)
theorem blockT_adv:Adv (blockT ts):=blockP_adv _
theorem fieldP_adv {a:Fld}(h:fieldP ts i=.ok (a,j)):j=i+5:=by
 unfold fieldP at h;obtain⟨_,k,h1,h⟩:=bindP_inv h;obtain⟨_,k,h2,h⟩:=bindP_inv h;obtain⟨_,k,h3,h⟩:=bindP_inv h;have:=expectP_adv h1;have:=typedP_adv h2;have:=expectP_adv h3;cases h;omega
theorem paramsLoop_adv:∀ n acc i r j,paramsLoop ts n acc i=.ok (r,j)→i<j:=by
 intro n
 induction n with
 | zero=>intro acc i r j h;cases h
 | succ n ih =>
   intro acc i r j h;unfold paramsLoop at h;split at h
   ·obtain⟨e,k,h1,h⟩:=bindP_inv h;have:=typedP_adv h1;have:=ih _ _ _ _ h;omega
   ·obtain⟨_,k,h1,h⟩:=bindP_inv h;have:=expectP_adv h1;cases h;omega
theorem paramsP_adv:Adv (paramsP ts):=by
 intro i r j h;unfold paramsP at h;split at h
 ·cases h;omega
 ·obtain⟨_,k,h1,h⟩:=bindP_inv h;have:=typedP_adv h1;have:=paramsLoop_adv _ _ _ _ _ h;omega
theorem resultP_adv {a:Bytes}(h:resultP ts i=.ok (a,j)):i≤j:=by
 unfold resultP at h;split at h
 ·have:=typP_adv h;omega
 ·cases h;omega
theorem methodP_adv:Adv (methodP ts):=by
 intro i r j h;unfold methodP at h;obtain⟨_,k,h1,h⟩:=bindP_inv h;obtain⟨_,k,h2,h⟩:=bindP_inv h;obtain⟨_,k,h3,h⟩:=bindP_inv h;obtain⟨_,k,h4,h⟩:=bindP_inv h;obtain⟨_,k,h5,h⟩:=bindP_inv h;obtain⟨_,k,h6,h⟩:=bindP_inv h;have:=expectP_adv h1;have:=nameP_adv h2;have:=expectP_adv h3;have:=paramsP_adv _ _ _ h4;have:=resultP_adv h5;have:=blockT_adv _ _ _ h6;have hi:i≤(if isT ts i [115,116,97,116,105,99] then i+1 else i):=by split <;> omega
 cases h;omega
theorem superP_adv {a:Bytes}(h:superP ts i=.ok (a,j)):i≤j:=by
 unfold superP at h;split at h
 ·have:=nameP_adv h;omega
 ·cases h;omega
theorem fieldsLoop_adv:∀ n acc i r j,fieldsLoop ts n acc i=.ok (r,j)→i≤j:=by
 intro n
 induction n with
 | zero=>intro acc i r j h;cases h
 | succ n ih =>
   intro acc i r j h;unfold fieldsLoop at h;split at h
   ·obtain⟨e,k,h1,h⟩:=bindP_inv h;have:=fieldP_adv h1;have:=ih _ _ _ _ h;omega
   ·cases h;omega
theorem methodsLoop_adv:∀ n acc i r j,methodsLoop ts n acc i=.ok (r,j)→i≤j:=by
 intro n
 induction n with
 | zero=>intro acc i r j h;cases h
 | succ n ih =>
   intro acc i r j h;unfold methodsLoop at h;split at h
   ·obtain⟨e,k,h1,h⟩:=bindP_inv h;have:=methodP_adv _ _ _ h1;have:=ih _ _ _ _ h;omega
   ·cases h;omega
theorem classP_adv:Adv (classP ts):=by
 intro i r j h;unfold classP at h;obtain⟨_,k,h1,h⟩:=bindP_inv h;obtain⟨_,k,h2,h⟩:=bindP_inv h;obtain⟨_,k,h3,h⟩:=bindP_inv h;obtain⟨_,k,h4,h⟩:=bindP_inv h;obtain⟨_,k,h5,h⟩:=bindP_inv h;obtain⟨_,k,h6,h⟩:=bindP_inv h;obtain⟨_,k,h7,h⟩:=bindP_inv h;have:=expectP_adv h1;have:=nameP_adv h2;have:=superP_adv h3;have:=expectP_adv h4;have:=fieldsLoop_adv _ _ _ _ _ h5;have:=methodsLoop_adv _ _ _ _ _ h6;have:=expectP_adv h7;cases h;omega
end
end Lx
end
section
open Lx Go.RowKit
/-- A slice value v that reads as the list l: k cells an item; A: the blocks that may be read. -/
def IsList {α:Type}(A:Nat→Prop)(w:World)(k:Nat)(P:α→List Value→Prop)(l:List α)(v:Value):Prop :=
 l.length≤maxLen∧((l=[]∧∃ a cap,v=.slice a 0 cap)∨∃ g off cap,v=.slice (some ⟨g,off,none⟩) l.length cap∧(A g∧l.length≤cap) ∧
  ∀ i (h:i<l.length),∃ cs:List Value,cs.length=k∧(∀ j,j<k→w.cell? ⟨g,off+(i*k+j),none⟩=cs[j]?)∧P l[i] cs)
def IsEx (A:Nat→Prop)(w:World):Nat→Ex→List Value→Prop
 | 0,_,_=>False
 | d+1,.mk k n o m ks,cs=>∃ v,cs=[.int .i64 k,.int .i64 n,.string (strOf o),.string (strOf m),v]∧IsList A w 5 (IsEx A w d) ks v
def IsSt (A:Nat→Prop)(w:World):Nat→St→List Value→Prop
 | 0,_,_=>False
 | d+1,.mk k nm ty es b el,cs=>∃ v1 v2 v3,cs=[.int .i64 k,.string (strOf nm),.string (strOf ty),v1,v2,v3]∧IsList A w 5 (IsEx A w d) es v1∧IsList A w 6 (IsSt A w d) b v2∧IsList A w 6 (IsSt A w d) el v3
def IsFld (f:Fld)(cs:List Value):Prop:=cs=[.string (strOf f.name),.string (strOf f.typ)]
def IsMe (A:Nat→Prop)(w:World)(d:Nat)(m:Me)(cs:List Value):Prop :=
 ∃ v1 v2,cs=[.string (strOf m.name),.bool m.static,v1,.string (strOf m.result),v2]∧IsList A w 2 IsFld m.params v1∧IsList A w 6 (IsSt A w d) m.body v2
def IsCl (A:Nat→Prop)(w:World)(d:Nat)(c:Cl)(cs:List Value):Prop :=
 ∃ v1 v2,cs=[.string (strOf c.name),.string (strOf c.super),v1,v2]∧IsList A w 2 IsFld c.fields v1∧IsList A w 5 (IsMe A w d) c.methods v2
theorem IsList.mono {α:Type}{A:Nat→Prop}{w:World}{k:Nat}{P Q:α→List Value→Prop}{l:List α}{v:Value}(h:IsList A w k P l v)(hPQ:∀ x∈l,∀ cs,P x cs→Q x cs):IsList A w k Q l v:=by
 obtain⟨hl,h | ⟨g,off,cap,hv,hA,hc⟩⟩:=h
 ·exact⟨hl,.inl h⟩
 ·refine⟨hl,.inr ⟨g,off,cap,hv,hA,fun i hi=>?_⟩⟩;obtain⟨cs,h1,h2,h3⟩:=hc i hi;exact⟨cs,h1,h2,hPQ _ (List.getElem_mem hi) _ h3⟩
/-- The blocks that A lets by are as they were. -/
def KeptA (A:Nat→Prop)(w w':World):Prop:=∀ g,A g→g<w.heap.size→w'.heap[g]?=w.heap[g]?
theorem IsList.kept {α:Type}{A:Nat→Prop}{w w':World}{k:Nat}{P Q:α→List Value→Prop}{l:List α}{v:Value}(hk:KeptA A w w')(hk0:0<k)(h:IsList A w k P l v)(hPQ:∀ x∈l,∀ cs,P x cs→Q x cs):IsList A w' k Q l v:=by
 obtain⟨hl,h | ⟨g,off,cap,hv,hA,hc⟩⟩:=h
 ·exact⟨hl,.inl h⟩
 ·refine⟨hl,.inr ⟨g,off,cap,hv,hA,fun i hi=>?_⟩⟩;obtain⟨cs,h1,h2,h3⟩:=hc i hi;have hlt:g<w.heap.size:=by
   have h4:=h2 0 hk0;have h5:cs[0]?=some cs[0]:=List.getElem?_eq_getElem (by omega);exact World.block_lt_of_cell? w ⟨g,off+(i*k+0),none⟩ (h4.trans h5)
  refine⟨cs,h1,fun j hj=>?_,hPQ _ (List.getElem_mem hi) _ h3⟩;rw [World.cell?_of_block (w:=w) (a:=⟨g,off+(i*k+j),none⟩) (hk g hA.1 hlt)];exact h2 j hj
theorem IsEx.kept {A:Nat→Prop}{w w':World}(hk:KeptA A w w'):∀ (d:Nat) (e:Ex) (cs:List Value),IsEx A w d e cs→IsEx A w' d e cs:=by
 intro d
 induction d with
 | zero=>intro e cs h;exact h
 | succ d ih =>
   intro e cs h;obtain⟨k,n,o,m,ks⟩:=e;obtain⟨v,hv,hl⟩:=h;exact⟨v,hv,hl.kept hk (by omega) fun x _ cs=>ih x cs⟩
theorem IsEx.succ {A:Nat→Prop}{w:World}:∀ (d:Nat) (e:Ex) (cs:List Value),IsEx A w d e cs→IsEx A w (d+1) e cs:=by
 intro d
 induction d with
 | zero=>intro e cs h;exact absurd h (by simp [IsEx])
 | succ d ih =>
   intro e cs h;obtain⟨k,n,o,m,ks⟩:=e;obtain⟨v,hv,hl⟩:=h;exact⟨v,hv,hl.mono fun x _ cs=>ih x cs⟩
theorem IsEx.le {A:Nat→Prop}{w:World}{d d':Nat}(h:d≤d'){e:Ex}{cs:List Value}(he:IsEx A w d e cs):IsEx A w d' e cs:=by
 obtain⟨k,rfl⟩:=Nat.exists_eq_add_of_le h
 induction k with
 | zero=>exact he
 | succ k ih=>exact IsEx.succ _ _ _ (ih (by omega))
theorem IsSt.kept {A:Nat→Prop}{w w':World}(hk:KeptA A w w'):∀ (d:Nat) (e:St) (cs:List Value),IsSt A w d e cs→IsSt A w' d e cs:=by
 intro d
 induction d with
 | zero=>intro e cs h;exact h
 | succ d ih =>
   intro e cs h;obtain⟨k,nm,ty,es,b,el⟩:=e;obtain⟨v1,v2,v3,hv,h1,h2,h3⟩:=h;exact⟨v1,v2,v3,hv,h1.kept hk (by omega) fun x _ cs=>IsEx.kept hk d x cs,h2.kept hk (by omega) fun x _ cs=>ih x cs,h3.kept hk (by omega) fun x _ cs=>ih x cs⟩
theorem IsSt.succ {A:Nat→Prop}{w:World}:∀ (d:Nat) (e:St) (cs:List Value),IsSt A w d e cs→IsSt A w (d+1) e cs:=by
 intro d
 induction d with
 | zero=>intro e cs h;exact absurd h (by simp [IsSt])
 | succ d ih =>
   intro e cs h;obtain⟨k,nm,ty,es,b,el⟩:=e;obtain⟨v1,v2,v3,hv,h1,h2,h3⟩:=h;exact⟨v1,v2,v3,hv,h1.mono fun x _ cs=>IsEx.succ d x cs,h2.mono fun x _ cs=>ih x cs,h3.mono fun x _ cs=>ih x cs⟩
theorem IsSt.le {A:Nat→Prop}{w:World}{d d':Nat}(h:d≤d'){e:St}{cs:List Value}(he:IsSt A w d e cs):IsSt A w d' e cs:=by
 obtain⟨k,rfl⟩:=Nat.exists_eq_add_of_le h
 induction k with
 | zero=>exact he
 | succ k ih=>exact IsSt.succ _ _ _ (ih (by omega))
theorem IsMe.kept {A:Nat→Prop}{w w':World}(hk:KeptA A w w'){d:Nat}{m:Me}{cs:List Value}(h:IsMe A w d m cs):IsMe A w' d m cs:=by
 obtain⟨v1,v2,hv,h1,h2⟩:=h;exact⟨v1,v2,hv,h1.kept hk (by omega) fun _ _ _=>id,h2.kept hk (by omega) fun x _ cs=>IsSt.kept hk d x cs⟩
theorem IsMe.le {A:Nat→Prop}{w:World}{d d':Nat}(hd:d≤d'){m:Me}{cs:List Value}(h:IsMe A w d m cs):IsMe A w d' m cs:=by
 obtain⟨v1,v2,hv,h1,h2⟩:=h;exact⟨v1,v2,hv,h1,h2.mono fun x _ cs=>IsSt.le hd⟩
theorem IsCl.kept {A:Nat→Prop}{w w':World}(hk:KeptA A w w'){d:Nat}{c:Cl}{cs:List Value}(h:IsCl A w d c cs):IsCl A w' d c cs:=by
 obtain⟨v1,v2,hv,h1,h2⟩:=h;exact⟨v1,v2,hv,h1.kept hk (by omega) fun _ _ _=>id,h2.kept hk (by omega) fun x _ cs=>IsMe.kept hk⟩
theorem IsCl.le {A:Nat→Prop}{w:World}{d d':Nat}(hd:d≤d'){c:Cl}{cs:List Value}(h:IsCl A w d c cs):IsCl A w d' c cs:=by
 obtain⟨v1,v2,hv,h1,h2⟩:=h;exact⟨v1,v2,hv,h1,h2.mono fun x _ cs=>IsMe.le hd⟩
theorem IsList.sub {α:Type}{A A':Nat→Prop}{w:World}{k:Nat}{P Q:α→List Value→Prop}{l:List α}{v:Value}(hA:∀ g,A g→g<w.heap.size→A' g)(hk0:0<k)(h:IsList A w k P l v)(hPQ:∀ x∈l,∀ cs,P x cs→Q x cs):IsList A' w k Q l v:=by
 obtain⟨hl,h | ⟨g,off,cap,hv,hAg,hc⟩⟩:=h
 ·exact⟨hl,.inl h⟩
 ·by_cases h0:l=[]
  ·exact⟨hl,.inl ⟨h0,_,cap,by rw [hv,h0];rfl⟩⟩
  ·refine⟨hl,.inr ⟨g,off,cap,hv,?_,fun i hi=>?_⟩⟩
   ·have hpos:0<l.length:=List.length_pos_iff.2 h0;obtain⟨cs,h1,h2,_⟩:=hc 0 hpos;have h5:cs[0]?=some cs[0]:=List.getElem?_eq_getElem (by omega);exact⟨hA g hAg.1 (World.block_lt_of_cell? w ⟨g,off+(0*k+0),none⟩ ((h2 0 hk0).trans h5)),hAg.2⟩
   ·obtain⟨cs,h1,h2,h3⟩:=hc i hi;exact⟨cs,h1,h2,hPQ _ (List.getElem_mem hi) _ h3⟩
theorem IsEx.sub {A A':Nat→Prop}{w:World}(hA:∀ g,A g→g<w.heap.size→A' g):∀ (d:Nat) (e:Ex) (cs:List Value),IsEx A w d e cs→IsEx A' w d e cs:=by
 intro d
 induction d with
 | zero=>intro e cs h;exact h
 | succ d ih =>
   intro e cs h;obtain⟨k,n,o,m,ks⟩:=e;obtain⟨v,hv,hl⟩:=h;exact⟨v,hv,hl.sub hA (by omega) fun x _ cs=>ih x cs⟩
theorem IsSt.sub {A A':Nat→Prop}{w:World}(hA:∀ g,A g→g<w.heap.size→A' g):∀ (d:Nat) (e:St) (cs:List Value),IsSt A w d e cs→IsSt A' w d e cs:=by
 intro d
 induction d with
 | zero=>intro e cs h;exact h
 | succ d ih =>
   intro e cs h;obtain⟨k,nm,ty,es,b,el⟩:=e;obtain⟨v1,v2,v3,hv,h1,h2,h3⟩:=h;exact⟨v1,v2,v3,hv,h1.sub hA (by omega) fun x _ cs=>IsEx.sub hA d x cs,h2.sub hA (by omega) fun x _ cs=>ih x cs,h3.sub hA (by omega) fun x _ cs=>ih x cs⟩
theorem IsMe.sub {A A':Nat→Prop}{w:World}(hA:∀ g,A g→g<w.heap.size→A' g){d:Nat}{m:Me}{cs:List Value}(h:IsMe A w d m cs):IsMe A' w d m cs:=by
 obtain⟨v1,v2,hv,h1,h2⟩:=h;exact⟨v1,v2,hv,h1.sub hA (by omega) fun _ _ _=>id,h2.sub hA (by omega) fun x _ cs=>IsSt.sub hA d x cs⟩
theorem IsCl.sub {A A':Nat→Prop}{w:World}(hA:∀ g,A g→g<w.heap.size→A' g){d:Nat}{c:Cl}{cs:List Value}(h:IsCl A w d c cs):IsCl A' w d c cs:=by
 obtain⟨v1,v2,hv,h1,h2⟩:=h;exact⟨v1,v2,hv,h1.sub hA (by omega) fun _ _ _=>id,h2.sub hA (by omega) fun x _ cs=>IsMe.sub hA⟩
theorem mul_step {i n:Nat}(k:Nat)(h:i<n):i*k+k≤n*k:=by
 have h2:(i+1)*k≤n*k:=Nat.mul_le_mul_right k h;rw [Nat.add_mul,Nat.one_mul] at h2;exact h2
/-- Cells laid one item behind the other. -/
def Flat {α:Type}(k:Nat)(P:α→List Value→Prop)(l:List α)(xs:List Value):Prop:=xs.length=l.length*k∧∀ i (h:i<l.length),P l[i] ((xs.drop (i*k)).take k)
theorem Flat.nil {α:Type}{k:Nat}{P:α→List Value→Prop}:Flat k P [] []:=⟨by simp,fun i h=>by simp at h⟩
theorem Flat.snoc {α:Type}{k:Nat}{P:α→List Value→Prop}{l:List α}{xs:List Value}{x:α}{cs:List Value}(h:Flat k P l xs)(hc:cs.length=k)(hx:P x cs):Flat k P (l++[x]) (xs++cs):=by
 obtain⟨h1,h2⟩:=h;refine⟨by rw [List.length_append,List.length_append,h1,hc];simp [Nat.add_mul],fun i hi=>?_⟩;simp only [List.length_append,List.length_cons,List.length_nil] at hi
 by_cases hlt:i<l.length
 ·rw [List.getElem_append_left hlt];have hle:i*k+k≤l.length*k:=mul_step k hlt;rw [List.drop_append_of_le_length (by omega),List.take_append_of_le_length (by rw [List.length_drop];omega)];exact h2 i hlt
 ·obtain rfl:i=l.length:=by omega
  rw [List.getElem_append_right (by omega),← h1,List.drop_left,← hc,List.take_length];simpa using hx
theorem Flat.mono {α:Type}{k:Nat}{P Q:α→List Value→Prop}{l:List α}{xs:List Value}(h:Flat k P l xs)(hPQ:∀ x cs,P x cs→Q x cs):Flat k Q l xs:=⟨h.1,fun i hi=>hPQ _ _ (h.2 i hi)⟩
/-- A row that is owned, with its cells laid out: a list. -/
theorem IsList.of_own {α:Type}{A:Nat→Prop}{w:World}{B:Nat}{T:TypeId}{k:Nat}{P:α→List Value→Prop}{l:List α}{v:Value}{xs:List Value}(h:w.ownsRow B T k v l.length xs)(hf:Flat k P l xs)(hA:∀ g,B≤g→A g):IsList A w k P l v:=by
 obtain⟨hx,h2⟩:=h;rcases h2 with⟨h3,h4⟩ | ⟨g,cap,cur,hv,hB,hg,hn,hm,hcs,htk⟩
 ·exact⟨by rw [h4];exact Nat.zero_le _,.inl ⟨List.length_eq_zero_iff.1 h4,_,_,h3⟩⟩
 ·refine⟨by omega,.inr ⟨g,0,cap,hv,⟨hA g hB,hn⟩,fun i hi=>⟨(xs.drop (i*k)).take k,?_,fun j hj=>?_,hf.2 i hi⟩⟩⟩
  ·have hle:i*k+k≤l.length*k:=mul_step k hi;rw [List.length_take,List.length_drop,hf.1];omega
  ·have hle:i*k+k≤l.length*k:=mul_step k hi;rw [List.getElem?_take_of_lt hj,List.getElem?_drop,← htk,List.getElem?_take_of_lt (by omega)];simp [World.cell?,hg]
end
end Go.Proofs.YtmlafcimjhnhhaaGreatDoor
