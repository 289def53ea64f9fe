/-
  LsJ: packets, measure: evaluated.
-/
import Derived.Test.YtmaddijeiniliaaLsI
namespace Go.Proofs.Ytmaddijeiniliaa.Ls
open Go Go.RowKit Go.Proofs.Ytmaddijeiniliaa.Sy Go.Proofs.Ytmaddijeiniliaa.Cm
set_option linter.unusedVariables false
set_option linter.unusedSimpArgs false
set_option maxRecDepth 100000
set_option maxHeartbeats 1000000
attribute [local irreducible] afn

/-- The number ahead of packet n. -/
def numF (h : Nat → Nat → Int) : Nat → Int
  | 0 => -1
  | n + 1 => numF h n + 1 + brF (h n 0) 4
def pG (h : Nat → Nat → Int) (i j : Nat) : Int := match j with
  | 0 => numF h (i + 1)
  | 1 => brF (h i 1) 1125899906842624
  | _ => 1 + brF (h i 2) 65535
def pB (h : Nat → Nat → Int) (i j : Nat) : Bool := match j with
  | 3 => (h i 2).tmod 2 == 0
  | 4 => true
  | _ => false
def annP (h : Nat → Nat → Int) (len : Nat) : AnnM := ⟨N1, fun x => setN (setN (setN (setN (List.replicate 51 .any) 0 (.view 0 3 0 len)) 3 (.own 900003 x.n)) 4 (iv (numF h x.n))) 5 (iv x.n), fun x => [(900003, some (.orow 33 6 x.n (pk (pG h) (pB h))))], 1000000, fun x => 60 - x.n, [(3, 900003)], [(3, 900003)]⟩
noncomputable def CP (h : Nat → Nat → Int) (len : Nat) : Cfg := ⟨Try.prog, mkT T6, fun f => false, fun f r => match Nat.beq f 19 with
  | true => some (annP h len)
  | _ => none⟩
theorem SP (h : Nat → Nat → Int) (len : Nat) : Sound (CP h len) := ⟨tab_of T6_ok, fun f h => (by cases h), mixed⟩
theorem pks_ev (h : Nat → Nat → Int) (len : Nat) (K : AV → Option Blk → Prop) : (afn (CP h len) 100 19 [.view 0 3 0 len] [(0, some (.row 61 3 len fun i j => .int .i64 (h i j)))] 1 (fun v h _ => K v (blkOf v h))) = (
      ∃ (J : (annP h len).I → Prop), (∃ (i : (annP h len).I), J i ∧ ((some 0 = some 0 ∧ 3 = 3 ∧ 0 = 0 ∧ len = len) ∧ i.n = 0 ∧ Value.int IntKind.i64 (-1) = Value.int IntKind.i64 (numF h i.n) ∧ Value.int IntKind.i64 0 = Value.int IntKind.i64 (↑i.n : Int) ∧ True) ∧ (True ∧ (61 = 61 ∧ 3 = 3 ∧ len = len ∧
  ∀ (i j : Nat), i.succ.le len → j.succ.le 3 → Value.int IntKind.i64 (h i j) = Value.int IntKind.i64 (h i j)) ∧ True) ∧ true = true) ∧ ∀ (i : N1), J i → ifb (decide ((↑i.n : Int) < (↑len : Int))) (ifb (decide ((↑i.n : Int) < 60)) (ifb (decide (0 ≤ (↑i.n : Int) ∧ (↑i.n : Int) < (↑len : Int))) (ifb (decide (0 + (↑i.n : Int).toNat < len)) (ifb (decide (0 ≤ (↑i.n : Int) ∧ (↑i.n : Int) < (↑len : Int)))
  (ifb (decide (0 + (↑i.n : Int).toNat < len)) (ifb (decide (0 ≤ (↑i.n : Int) ∧ (↑i.n : Int) < (↑len : Int))) (ifb (decide (0 + (↑i.n : Int).toNat < len)) (ifb (decide (0 ≤ (↑i.n : Int) ∧ (↑i.n : Int) < (↑len : Int))) (ifb (decide (0 + (↑i.n : Int).toNat < len)) (ifb (true && decide (i.n = i.n) && decide ((i.n + 1) * 32 ≤ 140737488355328)) (∃ (i' : (annP h len).I), (J i' ∧
  (60 - i'.n).succ.le (60 - i.n)) ∧ ((some 0 = some 0 ∧ 3 = 3 ∧ 0 = 0 ∧ len = len) ∧ (some 1000672 = some 1000672 ∧ i.n + 1 = i'.n) ∧ Value.int IntKind.i64 (IntKind.i64.wrap (IntKind.i64.wrap (numF h i.n + 1) + brF (h (0 + (↑i.n : Int).toNat) 0) 4)) = Value.int IntKind.i64 (numF h i'.n) ∧ Value.int IntKind.i64 (IntKind.i64.wrap ((↑i.n : Int) + 1)) = Value.int IntKind.i64 (↑i'.n : Int) ∧ True) ∧
  ((33 = 33 ∧ 6 = 6 ∧ i.n + 1 = i'.n ∧
  ∀ (i_1 j : Nat), i_1.succ.le i'.n → j.succ.le 6 → (if i_1 < i.n then pk (pG h) (pB h) i_1 j else [Value.int IntKind.i64 (IntKind.i64.wrap (IntKind.i64.wrap (numF h i.n + 1) + brF (h (0 + (↑i.n : Int).toNat) 0) 4)), Value.int IntKind.i64 (brF (h (0 + (↑i.n : Int).toNat) 1) 1125899906842624), Value.int IntKind.i64 (IntKind.i64.wrap (1 + brF (h (0 + (↑i.n : Int).toNat) 2) 65535)), Value.bool ((h (0 + (↑i.n : Int).toNat) 2).tmod 2 == 0), Value.bool true, Value.bool false][(i_1 - i.n) * 6 + j]?.getD undef) = pk (pG h) (pB h) i_1 j) ∧
  (61 = 61 ∧ 3 = 3 ∧ len = len ∧ ∀ (i j : Nat), i.succ.le len → j.succ.le 3 → Value.int IntKind.i64 (h i j) = Value.int IntKind.i64 (h i j)) ∧ True) ∧ true = true) False) False) False) False) False) False) False) False) False)
  (K (AV.own 900003 i.n) (some (Blk.orow 33 6 i.n fun (i j : Nat) => match j with | 0 => Value.int IntKind.i64 (pG h i 0) | 1 => Value.int IntKind.i64 (pG h i 1) | 2 => Value.int IntKind.i64 (pG h i 2) | 3 => Value.bool (pB h i 3) | 4 => Value.bool (pB h i 4) | x => Value.bool (pB h i 5))))) (K (AV.own 900003 i.n) (some (Blk.orow 33 6 i.n fun (i j : Nat) => match j with | 0 => Value.int IntKind.i64 (pG h i 0) | 1 => Value.int IntKind.i64 (pG h i 1) | 2 => Value.int IntKind.i64 (pG h i 2) | 3 => Value.bool (pB h i 3) | 4 => Value.bool (pB h i 4) | x => Value.bool (pB h i 5))))) := by
  kernel_rfl
theorem mea_ev (a b : Int) (K : AV → Prop) : (afn C6 100 20 [iv a, iv b] [] 0 (fun v _ _ => K v)) = (
      K (AV.agg [AV.val (Value.int IntKind.i64 (brF a 1099511627776)), AV.val (Value.int IntKind.i64 (min (brF a 1099511627776) (brF b 1099511627776))), AV.val (Value.int IntKind.i64 (brF b 1099511627776)), AV.val (Value.int IntKind.i64 (IntKind.i64.wrap ((brF a 1099511627776).tdiv 2))), AV.val (Value.int IntKind.i64 0)])) := by
  kernel_rfl

end Go.Proofs.Ytmaddijeiniliaa.Ls
