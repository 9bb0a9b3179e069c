/-
  Statements: values of rules, builds; the rule condition, walked (walks printed by genpar2.py).
-/
import Derived.Test.YtmlafcimjhnhhaaGreatDoorJeParPost
import Derived.Deep.DrawnRows
set_option linter.unusedSectionVars false
set_option linter.unusedSimpArgs false
set_option linter.unnecessarySimpa false
set_option linter.unusedVariables false
namespace Go.Proofs.YtmlafcimjhnhhaaGreatDoor
section
open Lx Go.RowKit
attribute [local go_sem ↓] Go.wp_at_zero Go.wp_at_succ
/-- The value of a rule that gives a statement; a list of statements. -/
def QSt (lo:Nat)(e:St)(r:Value)(w':World):Prop:=∃ (k:Int) (nm ty:ByteArray) (a1:Option Addr) (n1 c1:Nat) (a2:Option Addr) (n2 c2:Nat) (a3:Option Addr) (n3 c3:Nat),r=.agg #[.int .i64 k,.string nm,.string ty,.slice a1 n1 c1,.slice a2 n2 c2,.slice a3 n3 c3]∧(fSt e [.int .i64 k,.string nm,.string ty,.slice a1 n1 c1,.slice a2 n2 c2,.slice a3 n3 c3]).holds (lo≤·) w'
theorem QSt.of {lo:Nat}{e:St}{k:Int}{nm ty:ByteArray}{a1:Option Addr}{n1 c1:Nat}{a2:Option Addr}{n2 c2:Nat}{a3:Option Addr}{n3 c3:Nat}{w':World}(h:(fSt e [.int .i64 k,.string nm,.string ty,.slice a1 n1 c1,.slice a2 n2 c2,.slice a3 n3 c3]).holds (lo≤·) w'):QSt lo e (.agg #[.int .i64 k,.string nm,.string ty,.slice a1 n1 c1,.slice a2 n2 c2,.slice a3 n3 c3]) w':=⟨_,_,_,_,_,_,_,_,_,_,_,_,rfl,h⟩
theorem fEx.parts {A:Nat→Prop}{w:World}{e:Ex}{k n:Int}{o m:ByteArray}{v:Value}(h:(fEx e [.int .i64 k,.int .i64 n,.string o,.string m,v]).holds A w):m=strOf e.name∧(fExs e.kids v).holds A w:=by
 obtain⟨d,h⟩:=h;cases d with
 | zero=>exact absurd h (by simp [IsEx])
 | succ d =>
   obtain⟨k',n',o',m',ks⟩:=e;obtain⟨v',hv,hl⟩:=h;simp only [List.cons.injEq,Value.string.injEq,and_true] at hv;obtain⟨_,_,_,rfl,rfl⟩:=hv;exact⟨rfl,d,hl⟩
/-- Five cells at a place. -/
def fAt (b off:Nat)(a0 a1 a2 a3 a4:Value):Fact:=⟨fun A w=>A b∧w.cell? ⟨b,off,none⟩=some a0∧w.cell? ⟨b,off+1,none⟩=some a1∧w.cell? ⟨b,off+2,none⟩=some a2∧w.cell? ⟨b,off+3,none⟩=some a3∧w.cell? ⟨b,off+4,none⟩=some a4,
 fun _ w w' hk h=>by
  have hl:b<w.heap.size:=World.block_lt_of_cell? w _ h.2.1;have e:∀ o,w'.cell? ⟨b,o,none⟩=w.cell? ⟨b,o,none⟩:=fun o=>World.cell?_of_block (hk b h.1 hl)
  simp only [e];exact h,
 fun _ _ w hs h=>⟨hs b h.1 (World.block_lt_of_cell? w _ h.2.1),h.2⟩⟩
theorem fExs.head {A:Nat→Prop}{w:World}{e:Ex}{a:Option Addr}{l c:Nat}(h:(fExs [e] (.slice a l c)).holds A w):∃ (b off:Nat) (k n:Int) (o m:ByteArray) (a1:Option Addr) (l1 c1:Nat),a=some ⟨b,off,none⟩∧l=1∧(fAt b off (.int .i64 k) (.int .i64 n) (.string o) (.string m) (.slice a1 l1 c1)).holds A w∧(fEx e [.int .i64 k,.int .i64 n,.string o,.string m,.slice a1 l1 c1]).holds A w:=by
 obtain⟨d,_,⟨h0,_⟩ | ⟨b,off,cp,hv,hA,hc⟩⟩:=h
 ·cases h0
 ·simp only [Value.slice.injEq] at hv;obtain⟨rfl,rfl,rfl⟩:=hv;obtain⟨cs,h1,h2,h3⟩:=hc 0 (by simp);simp only [List.getElem_cons_zero] at h3;cases d with
  | zero=>exact absurd h3 (by simp [IsEx])
  | succ d =>
    obtain⟨k,n,o,m,ks⟩:=e;have h3':=h3;obtain⟨v,rfl,hl⟩:=h3;obtain⟨a1,l1,c1,rfl⟩:∃ a1 l1 c1,v=.slice a1 l1 c1:=by
     obtain⟨_,⟨_,a,c,rfl⟩ | ⟨g,off,c,rfl,_⟩⟩:=hl
     ·exact⟨_,_,_,rfl⟩
     ·exact⟨_,_,_,rfl⟩
    refine⟨b,off,k,n,strOf o,strOf m,a1,l1,c1,rfl,rfl,⟨hA.1,?_⟩,d+1,h3'⟩;have g0:=h2 0 (by omega);have g1:=h2 1 (by omega);have g2:=h2 2 (by omega);have g3:=h2 3 (by omega);have g4:=h2 4 (by omega);simp only [Nat.zero_mul,Nat.zero_add,Nat.add_zero] at g0 g1 g2 g3 g4;exact⟨g0,g1,g2,g3,g4⟩
section
variable {pb g cap:Nat} {ts:List Tok} {i:Nat} {w:World}
end
end
section
open Lx Go.RowKit
attribute [local go_sem ↓] Go.wp_at_zero Go.wp_at_succ
section
variable {pb g cap:Nat} {ts:List Tok} {i:Nat} {w:World}
end
end
end Go.Proofs.YtmlafcimjhnhhaaGreatDoor
