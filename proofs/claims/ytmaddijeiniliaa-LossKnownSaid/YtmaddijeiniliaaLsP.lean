/-
  LsP: LossThree.
-/
import Derived.Test.YtmaddijeiniliaaLsO
namespace Go.Proofs.Ytmaddijeiniliaa.Ls
open Go Go.RowKit Go.Proofs.Ytmaddijeiniliaa.Sy Go.Proofs.Ytmaddijeiniliaa.Cm
set_option linter.unusedVariables false
set_option linter.unusedSimpArgs false
set_option maxRecDepth 100000
set_option maxHeartbeats 1000000
attribute [local irreducible] afn

def gT (i j : Nat) : Int := match j with
  | 0 => i
  | 1 => 5
  | 2 => 1200
  | _ => 0
def bT (i j : Nat) : Bool := false
def annY (N : Nat) (K : Int) : AnnM := ⟨N1, fun x => setN (setN (setN (setN (List.replicate 67 .any) 0 (iv N)) 1 (iv K)) 5 (.own 900005 x.n)) 6 (iv x.n), fun x => [(900005, some (.orow 33 6 x.n (pk gT bT)))], 1000000, fun x => N - x.n, [(5, 900005)], [(5, 900005)]⟩
noncomputable def CY (s : Ls1) (K : Int) : Cfg := ⟨Try.prog, mkM T6 [] (MS s.L s.R (pk s.g1 s.b1) (pk s.g2 s.b2) s.a 0), fun f => false, fun f r => match Nat.beq f 8 with
  | true => some (annY s.N K)
  | _ => none⟩
theorem SY (s : Ls1) (K : Int) : Sound (CY s K) := ⟨tabM_of T6_ok oentries_nil (MS_ok _ _ _ _ _ _), fun f h => (by cases h), mixed⟩
theorem three_ev (s : Ls1) (M K : Int) (x0 x1 : Int) (P : AV → Prop) : (afn (CY s K) 100 8 [iv x0, iv x1] [] 0 (fun v _ _ => P v)) = (
      ∃ (J : (annY s.N K).I → Prop), (∃ (i : (annY s.N K).I), J i ∧ (Value.int IntKind.i64 (brF x0 251) = Value.int IntKind.i64 (↑s.N : Int) ∧ Value.int IntKind.i64 (brF x1 251) = Value.int IntKind.i64 K ∧ i.n = 0 ∧ Value.int IntKind.i64 0 = Value.int IntKind.i64 (↑i.n : Int) ∧ True) ∧ (True ∧ True) ∧ true = true) ∧ ∀ (i : N1), J i → ifb (decide ((↑i.n : Int) < (↑s.N : Int)))
  (ifb (true && decide (i.n = i.n) && decide ((i.n + 1) * 32 ≤ 140737488355328)) (∃ (i' : (annY s.N K).I), (J i' ∧ (s.N - i'.n).succ.le (s.N - i.n)) ∧ (Value.int IntKind.i64 (↑s.N : Int) = Value.int IntKind.i64 (↑s.N : Int) ∧ Value.int IntKind.i64 K = Value.int IntKind.i64 K ∧ (some 1000112 = some 1000112 ∧ i.n + 1 = i'.n) ∧
  Value.int IntKind.i64 (IntKind.i64.wrap ((↑i.n : Int) + 1)) = Value.int IntKind.i64 (↑i'.n : Int) ∧ True) ∧ ((33 = 33 ∧ 6 = 6 ∧ i.n + 1 = i'.n ∧
  ∀ (i_1 j : Nat), i_1.succ.le i'.n → j.succ.le 6 → (if i_1 < i.n then pk gT bT i_1 j else [Value.int IntKind.i64 (↑i.n : Int), Value.int IntKind.i64 5, Value.int IntKind.i64 1200, Value.bool false, Value.bool false, Value.bool false][(i_1 - i.n) * 6 + j]?.getD undef) = pk gT bT i_1 j) ∧ True) ∧ true = true) False)
  (ifb (decide (i.n ≤ i.n) && fdOK s.L s.R (pk s.g1 s.b1) (pk s.g2 s.b2) s.a 0 (pk gT bT) i.n K 5 8000000 1 800 0 0) (ifb (true && decide (0 ≤ min (↑s.N : Int) (max 0 (IntKind.i64.wrap (K - 2)))) && decide (min (↑s.N : Int) (max 0 (IntKind.i64.wrap (K - 2))) ≤ (↑i.n : Int))) (ifb (decide (s.L ≤ s.L) && (decide (0 + ((min (↑s.N : Int) (max 0 (IntKind.i64.wrap
  (K - 2)))).toNat - 0) ≤ i.n) && (isPk s.L (pk s.g1 s.b1) && ((isPk ((min (↑s.N : Int) (max 0 (IntKind.i64.wrap (K - 2)))).toNat - 0) fun (i j : Nat) => pk gT bT (0 + i) j) && decide (s.L ≤ 1000000))))) (ifb (samF (pk (asG (pk s.g1 s.b1)) (asB (pk s.g1 s.b1))) (pk (asG fun (i j : Nat) => pk gT bT (0 + i) j) (asB fun (i j : Nat) => pk gT bT (0 + i) j)) s.L ((min (↑s.N : Int) (max 0 (IntKind.i64.wrap
  (K - 2)))).toNat - 0)) (ifb (decide (0 ≤ min (↑s.N : Int) (max 0 (IntKind.i64.wrap (K - 2)))) && decide (min (↑s.N : Int) (max 0 (IntKind.i64.wrap (K - 2))) ≤ (↑i.n : Int)) && decide ((↑i.n : Int) ≤ (↑i.n : Int))) (ifb (decide (s.R ≤ s.R) && (decide ((min (↑s.N : Int) (max 0 (IntKind.i64.wrap (K - 2)))).toNat + ((↑i.n : Int).toNat - (min (↑s.N : Int) (max 0 (IntKind.i64.wrap
  (K - 2)))).toNat) ≤ i.n) && (isPk s.R (pk s.g2 s.b2) && ((isPk ((↑i.n : Int).toNat - (min (↑s.N : Int) (max 0 (IntKind.i64.wrap (K - 2)))).toNat) fun (i j : Nat) => pk gT bT ((min (↑s.N : Int) (max 0 (IntKind.i64.wrap (K - 2)))).toNat + i) j) && decide (s.R ≤ 1000000)))))
  (ifb (samF (pk (asG (pk s.g2 s.b2)) (asB (pk s.g2 s.b2))) (pk (asG fun (i j : Nat) => pk gT bT ((min (↑s.N : Int) (max 0 (IntKind.i64.wrap (K - 2)))).toNat + i) j) (asB fun (i j : Nat) => pk gT bT ((min (↑s.N : Int) (max 0 (IntKind.i64.wrap (K - 2)))).toNat + i) j)) s.R ((↑i.n : Int).toNat - (min (↑s.N : Int) (max 0 (IntKind.i64.wrap (K - 2)))).toNat))
  (ifb ((s.a == 9000005) == decide (min (↑s.N : Int) (max 0 (IntKind.i64.wrap (K - 2))) < (↑s.N : Int))) (P (AV.val (Value.bool true))) (P (AV.val (Value.bool false)))) (P (AV.val (Value.bool false)))) False) False) (P (AV.val (Value.bool false)))) False) False) False)) := by
  kernel_rfl

end Go.Proofs.Ytmaddijeiniliaa.Ls
