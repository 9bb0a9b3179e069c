/-
  A range over a string, for the lexer: what the runes say of the bytes; the state of the lexer's loop as a plain relation.
-/
import Derived.Test.YtmlafcimjhnhhaaDoorJlJpAn
import Derived.Laws.RangeAny
import Derived.Lib.OthersKept
import Derived.OwnWalk
import Derived.WalkSmall
import Derived.Lib.IndexBytes
set_option linter.unusedSectionVars false
set_option linter.unusedSimpArgs false
set_option linter.unnecessarySimpa false
set_option linter.unusedVariables false
namespace Go.Proofs.YtmlafcimjhnhhaaDoor
section
open Lx Go.RowKit
namespace Lx
theorem sep_of {c:UInt8}{r:Int}(hr:r=c.toNat):isSep c=true↔(r=32∨r=9∨r=13∨r=10):=by
 simp only [isSep,decide_eq_true_eq];omega
end Lx
end
section
open Lx Go.RowKit
def tokCells (t:Tok):List Value:=[.int .i64 t.kind,.int .i64 t.pos,.string (strOf t.text),.int .i64 t.n]
def toksCells (ts:List Tok):List Value:=ts.flatMap tokCells
theorem toksCells_snoc (ts:List Tok)(t:Tok):toksCells (ts++[t])=toksCells ts++tokCells t:=by simp [toksCells]
/-- What a call of Tokens ends in. -/
def LexP (r:LexR)(w:World)(e:Ending)(w':World):Prop :=
 Below w.heap.size w w'∧match r with
  | .error (p,er)=>e=.returned (.tuple #[.slice none 0 0,.int .i64 p,.int .i64 er])
  | .ok ts=>∃ v,e=.returned (.tuple #[v,.int .i64 0,.int .i64 0])∧w'.ownsRow w.heap.size 35 4 v ts.length (toksCells ts)
theorem Tryd.infoTok:(Tryd.prog.info? 35).map (fun i=>(i.zero,i.size,i.bytes))=some (some (.agg #[.int .i64 0,.int .i64 0,.string ⟨#[]⟩,.int .i64 0]),4,40):=by kernel_rfl
theorem grownBy_of_below {w w':World}(h:Below w.heap.size w w'):w.grownBy w' none:=⟨h.os,h.tape,h.output,h.size,fun k hk _=>h.block k hk⟩
theorem own_below {w w':World}{base:Nat}{e:TypeId}{size n:Nat}{v:Value}{xs:List Value}(h:w.ownsRow base e size v n xs)(hb:Below w.heap.size w w'):w'.ownsRow base e size v n xs:=by
 refine h.kept (grownBy_of_below hb) ?_;cases v.ownBlock <;> simp
theorem oneTok_bad_pos {l:Bytes}{e:Nat}(h:oneTok l=.bad e):e=2∨e=3∨e=4:=by
 cases l with
 | nil=>simp [oneTok] at h;omega
 | cons c t =>
   simp only [oneTok] at h
   by_cases h1:isLetter c=true
   ·rw [if_pos h1] at h;simp only [wordTok] at h;split at h
    ·simp at h;omega
    ·cases h
   ·rw [if_neg h1] at h
    by_cases h2:isDigit c=true
    ·rw [if_pos h2] at h;simp only [numTok] at h;split at h
     ·simp at h;omega
     ·split at h
      ·simp at h;omega
      ·cases h
    ·rw [if_neg h2] at h;simp only [markTok] at h;cases hm:markLen (c::t) with
     | none=>rw [hm] at h;simp at h;omega
     | some x=>rw [hm] at h;cases h
theorem cells4_new (w:World)(a b c d:Value)(t:TypeId):∀ j u,[a,b,c,d][j]?=some u→(w.alloc (.cells #[a,b,c,d] t)).cell? ((⟨w.heap.size,0,none⟩:Addr).add j)=some u:=by
 intro j u hj;have e:((⟨w.heap.size,0,none⟩:Addr).add j)=⟨w.heap.size,j,none⟩:=by
  unfold Addr.add;split
  ·rename_i h;rw [h]
  ·simp
 rw [e,World.cell?_alloc_new];simpa using hj
end
section
open Lx Go.RowKit
/-- A slice value that reads as a list of tokens. -/
def HasToks (w:World)(v:Value)(ts:List Tok):Prop :=
 (v=.slice none 0 0∧ts=[])∨∃ g cap,v=.slice (some ⟨g,0,none⟩) ts.length cap∧ts.length≤maxLen∧∀ i (h:i<ts.length),w.cell? ⟨g,i*4,none⟩=some (.int .i64 (ts[i].kind:Int))∧w.cell? ⟨g,i*4+1,none⟩=some (.int .i64 (ts[i].pos:Int)) ∧
  w.cell? ⟨g,i*4+2,none⟩=some (.string (strOf ts[i].text))∧w.cell? ⟨g,i*4+3,none⟩=some (.int .i64 (ts[i].n:Int))
theorem toksCells_get (ts:List Tok)(i:Nat)(h:i<ts.length):∀ j,j<4→(toksCells ts)[i*4+j]?=(tokCells ts[i])[j]?:=by
 induction ts generalizing i with
 | nil=>simp at h
 | cons t r ih =>
   intro j hj;have e:toksCells (t::r)=tokCells t++toksCells r:=rfl;have hl:(tokCells t).length=4:=rfl;rw [e];cases i with
   | zero=>rw [List.getElem?_append_left (by omega)];simp
   | succ i =>
     rw [List.getElem?_append_right (by omega),hl,show (i+1)*4+j-4=i*4+j from by omega];exact ih i (by simpa using h) j hj
theorem HasToks.of_own {w:World}{B:Nat}{v:Value}{ts:List Tok}(h:w.ownsRow B 35 4 v ts.length (toksCells ts)):HasToks w v ts:=by
 obtain⟨_,h2⟩:=h;rcases h2 with⟨h3,h4⟩ | ⟨g,cap,cur,hv,hB,hg,hn,hm,hcs,htk⟩
 ·exact .inl ⟨h3,List.length_eq_zero_iff.1 h4⟩
 ·refine .inr ⟨g,cap,hv,by omega,fun i hi=>?_⟩;have key:∀ j,j<4→w.cell? ⟨g,i*4+j,none⟩=(tokCells ts[i])[j]?:=by
   intro j hj;have h5:=toksCells_get ts i hi j hj;rw [← htk,List.getElem?_take_of_lt (by omega)] at h5;rw [← h5];simp [World.cell?,hg]
  exact⟨key 0 (by omega),key 1 (by omega),key 2 (by omega),key 3 (by omega)⟩
theorem HasToks.below {w w':World}{v:Value}{ts:List Tok}(h:HasToks w v ts)(hb:Below w.heap.size w w'):HasToks w' v ts:=by
 rcases h with h | ⟨g,cap,hv,hm,hc⟩
 ·exact .inl h
 ·refine .inr ⟨g,cap,hv,hm,fun i hi=>?_⟩;obtain⟨h0,h1,h2,h3⟩:=hc i hi;have hlt:g<w.heap.size:=World.block_lt_of_cell? w _ h0;exact⟨(hb.cell (p:=⟨g,_,none⟩) hlt).trans h0,(hb.cell (p:=⟨g,_,none⟩) hlt).trans h1,(hb.cell (p:=⟨g,_,none⟩) hlt).trans h2,(hb.cell (p:=⟨g,_,none⟩) hlt).trans h3⟩
theorem HasToks.form {w:World}{v:Value}{ts:List Tok}(h:HasToks w v ts):(ts=[]∧∃ a cap,v=.slice a 0 cap)∨(0<ts.length∧∃ g cap,v=.slice (some ⟨g,0,none⟩) ts.length cap∧ts.length≤maxLen∧∀ i (h:i<ts.length),w.cell? ⟨g,i*4,none⟩=some (.int .i64 (ts[i].kind:Int))∧w.cell? ⟨g,i*4+1,none⟩=some (.int .i64 (ts[i].pos:Int)) ∧
  w.cell? ⟨g,i*4+2,none⟩=some (.string (strOf ts[i].text))∧w.cell? ⟨g,i*4+3,none⟩=some (.int .i64 (ts[i].n:Int))):=by
 rcases h with⟨rfl,rfl⟩ | ⟨g,cap,rfl,hm,hc⟩
 ·exact .inl ⟨rfl,_,_,rfl⟩
 ·cases ts with
  | nil=>exact .inl ⟨rfl,_,_,rfl⟩
  | cons t r=>exact .inr ⟨by simp,g,cap,rfl,hm,hc⟩
end
section
namespace Lx
inductive Ex where
 | mk (kind n:Int) (of name:Bytes) (kids:List Ex)
inductive St where
 | mk (kind:Int) (name typ:Bytes) (exprs:List Ex) (body els:List St)
structure Fld where
 name:Bytes
 typ:Bytes
structure Me where
 name:Bytes
 static:Bool
 params:List Fld
 result:Bytes
 body:List St
structure Cl where
 name:Bytes
 super:Bytes
 fields:List Fld
 methods:List Me
def Ex.kind:Ex→Int | .mk k _ _ _ _=>k
def Ex.n:Ex→Int | .mk _ n _ _ _=>n
def Ex.of:Ex→Bytes | .mk _ _ o _ _=>o
def Ex.name:Ex→Bytes | .mk _ _ _ m _=>m
def Ex.kids:Ex→List Ex | .mk _ _ _ _ ks=>ks
abbrev PR (α:Type):=Except Nat (α×Nat)
def bindP {α β:Type}(r:PR α)(k:α→Nat→PR β):PR β:=match r with
 | .error q=>.error q
 | .ok (a,j)=>k a j
section
variable (ts:List Tok)
def tk (i:Nat):Tok:=ts.getD i ⟨5,0,[],0⟩
def isT (i:Nat)(x:Bytes):Bool:=(tk ts i).text == x
section
variable (E:Nat→PR Ex)
def binE (op:Int)(a b:Ex):Ex:=.mk 6 op [] [] [a,b]
end
section
variable (S:Nat→PR St)
end
section
variable (B:Nat→PR (List St))
end
end
end Lx
end
section
namespace Lx
section
variable {ts:List Tok} {i j:Nat}
/-- E reads on wherever it succeeds. -/
def Adv {α:Type}(E:Nat→PR α):Prop:=∀ i a j,E i=.ok (a,j)→i<j
section
variable {E:Nat→PR Ex} (hE:Adv E)
include hE
end
section
variable {B:Nat→PR (List St)} (hB:Adv B)
include hB
end
end
end Lx
end
end Go.Proofs.YtmlafcimjhnhhaaDoor
