/-
  LsR: LossKnown, evaluated.
-/
import Derived.Test.YtmaddijeiniliaaLsQ
namespace Go.Proofs.Ytmaddijeiniliaa.Ls
open Go Go.RowKit Go.Proofs.Ytmaddijeiniliaa.Sy Go.Proofs.Ytmaddijeiniliaa.Cm
set_option linter.unusedVariables false
set_option linter.unusedSimpArgs false
set_option maxRecDepth 100000
set_option maxHeartbeats 1000000
attribute [local irreducible] afn

noncomputable def gTellsL (q : Nat → Nat → Value) (len : Nat) : List AV → Option (Bool × AV)
  | [.agg [.val (.int .i64 k), .val (.int .i64 n)], .agg [.val (.int .i64 r1), .val (.int .i64 r2), .val (.int .i64 r3), .val (.int .i64 r4), .val (.int .i64 r5)]] => some (isPk len q, bv true)
  | _ => none
theorem eTellsL : EntryOK Try.prog 3 (row1 6 gTellsL) := entry_row1 (ty := 33) (by kernel_rfl) fun q len rest v h => by
  unfold gTellsL at h
  split at h
  · simp only [Option.some.injEq, Prod.mk.injEq] at h
    obtain ⟨h1, rfl⟩ := h
    obtain ⟨C, hs, hp, ha⟩ := tells_is len (asG q) (asB q) _ _ _ _ _ _ _
    exact ⟨rfl, rfl, pk (asG q) (asB q), of_isPk h1, C, hs, hp, 100, ha⟩
  · cases h
def gWaitsL : List AV → Option AV
  | [.agg [.val (.int .i64 r1), .val (.int .i64 r2), .val (.int .i64 r3), .val (.int .i64 r4), .val (.int .i64 r5)]] => some (bv true)
  | _ => none
theorem eWaitsL : EntryOK Try.prog 4 (plain gWaitsL) := entry_of (by kernel_rfl) fun args v h => by
  unfold gWaitsL at h
  split at h
  · cases h
    obtain ⟨C, h1, h2, h3⟩ := waits_is _ _ _ _ _
    exact ⟨rfl, rfl, C, h1, h2, 100, h3⟩
  · cases h
def gM (i j : Nat) : Int := match j with
  | 0 => i
  | 1 => 0
  | 2 => 1
  | _ => 0
def endsL : List Int := [-9223372036854775808, -2, -1, 0, 1, 2, 3, 4, 5, 6, 65535, 65536, 9007199254740991, 9007199254740992, 9223372036854775807]
structure K2 where
  i : Int
  k : Int
def hpK : Hp := [(900001, some (.orow 3 1 15 fun i j => .int .i64 (nthI endsL (i * 1 + j))))]
def tmK : List AV := setN (setN (List.replicate 166 .any) 0 (bv false)) 1 (.own 900001 15)
def one1 : List (Nat × Nat) := [(1, 900001)]
def annK3 : AnnM := ⟨K2, fun x => setN tmK 2 (iv x.i), fun _ => hpK, 1000000, fun x => (15 - x.i).toNat, one1, one1⟩
def annK6 : AnnM := ⟨K2, fun x => setN (setN tmK 2 (iv x.i)) 3 (iv x.k), fun _ => hpK, 1000000, fun x => (15 - x.k).toNat, one1, one1⟩
def annK21 : AnnM := ⟨N1, fun x => setN (setN (setN (List.replicate 166 .any) 0 (bv false)) 5 (.own 900005 x.n)) 6 (iv x.n), fun x => [(900005, some (.orow 33 6 x.n (pk gM bT)))], 1000000, fun x => 257 - x.n, [(5, 900005)], [(5, 900005)]⟩
def inlK : List Nat := [24]
theorem inlK_ok : allN (entersB Try.prog) inlK = true := by kernel_rfl
noncomputable def TK : List (Nat × Entry) := (3, row1 6 gTellsL) :: (4, plain gWaitsL) :: (rowsId, rowsE) :: T6
noncomputable def CK : Cfg := ⟨Try.prog, mkM TK [] M4, fun f => hasN inlK f, fun f r => match Nat.beq f 9, Nat.beq r 3, Nat.beq r 6, Nat.beq r 21 with
  | true, true, _, _ => some annK3
  | true, _, true, _ => some annK6
  | true, _, _, true => some annK21
  | _, _, _, _ => none⟩
theorem SK : Sound CK := ⟨tabM_of (entries_cons eTellsL (entries_cons eWaitsL (entries_cons rowsE_ok T6_ok))) oentries_nil M4_ok, fun f h => entersB_ok (allN_ok inlK_ok f h), mixed⟩
theorem known_ev (P : AV → Prop) : (afn CK 100 9 [] [] 0 (fun v _ _ => P v)) = (
      ∃ (J : annK3.I → Prop), (∃ (i : annK3.I), J i ∧ (Value.bool false = Value.bool false ∧ (some 16 = some 16 ∧ 15 = 15) ∧ Value.int IntKind.i64 0 = Value.int IntKind.i64 i.i ∧ True) ∧ ((3 = 3 ∧ 1 = 1 ∧ 15 = 15 ∧
  ∀ (i j : Nat), i.succ.le 15 → j.succ.le 1 → Value.int IntKind.i64 ([-9223372036854775808, -2, -1, 0, 1, 2, 3, 4, 5, 6, 65535, 65536, 9007199254740991, 9007199254740992, 9223372036854775807][i * 1 + j]?.getD 0) = Value.int IntKind.i64 (endsL[i * 1 + j]?.getD 0)) ∧ True) ∧ true = true) ∧ ∀ (i : K2), J i → ifb (decide (i.i < 15)) (∃ (J_1 : annK6.I → Prop), (∃ (i_1 : annK6.I), J_1 i_1 ∧
  (Value.bool false = Value.bool false ∧ (some 900001 = some 900001 ∧ 15 = 15) ∧ Value.int IntKind.i64 i.i = Value.int IntKind.i64 i_1.i ∧ Value.int IntKind.i64 0 = Value.int IntKind.i64 i_1.k ∧ True) ∧ ((3 = 3 ∧ 1 = 1 ∧ 15 = 15 ∧ ∀ (i j : Nat), i.succ.le 15 → j.succ.le 1 → Value.int IntKind.i64 (endsL[i * 1 + j]?.getD 0) = Value.int IntKind.i64 (endsL[i * 1 + j]?.getD 0)) ∧ True) ∧ true = true) ∧
  ∀ (i_1 : K2), J_1 i_1 → ifb (decide (i_1.k < 15)) (ifb (decide (0 ≤ i_1.i ∧ i_1.i < 15)) (ifb (decide (i_1.i.toNat < 15)) (ifb (decide (0 ≤ i_1.k ∧ i_1.k < 15)) (ifb (decide (i_1.k.toNat < 15))
  (ifb (true && isPk 4 fun (i j : Nat) => [Value.int IntKind.i64 1, Value.int IntKind.i64 0, Value.int IntKind.i64 9, Value.bool false, Value.bool false, Value.bool false, Value.int IntKind.i64 2, Value.int IntKind.i64 100, Value.int IntKind.i64 9, Value.bool false, Value.bool false, Value.bool false, Value.int IntKind.i64 5, Value.int IntKind.i64 200, Value.int IntKind.i64 9, Value.bool false, Value.bool false, Value.bool false, Value.int IntKind.i64 6, Value.int IntKind.i64 300, Value.int IntKind.i64 9, Value.bool false, Value.bool false, Value.bool false][i * 6 + j]?.getD undef)
  (ifb (decide (0 ≤ i_1.i ∧ i_1.i < 15)) (ifb (decide (i_1.i.toNat < 15)) (ifb (decide (0 ≤ i_1.k ∧ i_1.k < 15)) (ifb (decide (i_1.k.toNat < 15)) (ifb (decide (0 ≤ i_1.k ∧ i_1.k < 15)) (ifb (decide (i_1.k.toNat < 15))
  (ifb (true && isPk 4 fun (i j : Nat) => [Value.int IntKind.i64 1, Value.int IntKind.i64 (endsL[i_1.k.toNat * 1 + 0]?.getD 0), Value.int IntKind.i64 9, Value.bool false, Value.bool false, Value.bool false, Value.int IntKind.i64 2, Value.int IntKind.i64 100, Value.int IntKind.i64 9, Value.bool false, Value.bool false, Value.bool false, Value.int IntKind.i64 5, Value.int IntKind.i64 200, Value.int IntKind.i64 9, Value.bool false, Value.bool false, Value.bool false, Value.int IntKind.i64 (endsL[i_1.i.toNat * 1 + 0]?.getD 0), Value.int IntKind.i64 300, Value.int IntKind.i64 9, Value.bool false, Value.bool false, Value.bool false][i * 6 + j]?.getD undef)
  (ifb (decide (0 ≤ i_1.i ∧ i_1.i < 15)) (ifb (decide (i_1.i.toNat < 15)) (ifb (decide (0 ≤ i_1.k ∧ i_1.k < 15)) (ifb (decide (i_1.k.toNat < 15))
  (ifb (true && isPk 4 fun (i j : Nat) => [Value.int IntKind.i64 1, Value.int IntKind.i64 0, Value.int IntKind.i64 9, Value.bool false, Value.bool false, Value.bool false, Value.int IntKind.i64 2, Value.int IntKind.i64 100, Value.int IntKind.i64 9, Value.bool false, Value.bool false, Value.bool false, Value.int IntKind.i64 5, Value.int IntKind.i64 200, Value.int IntKind.i64 (endsL[i_1.i.toNat * 1 + 0]?.getD 0), Value.bool false, Value.bool false, Value.bool false, Value.int IntKind.i64 6, Value.int IntKind.i64 300, Value.int IntKind.i64 9, Value.bool false, Value.bool false, Value.bool false][i * 6 + j]?.getD undef)
  (ifb (decide (0 ≤ i_1.i ∧ i_1.i < 15)) (ifb (decide (i_1.i.toNat < 15)) (ifb (decide (0 ≤ i_1.k ∧ i_1.k < 15)) (ifb (decide (i_1.k.toNat < 15)) (ifb (decide (0 ≤ i_1.i ∧ i_1.i < 15)) (ifb (decide (i_1.i.toNat < 15)) (ifb (decide (0 ≤ i_1.k ∧ i_1.k < 15)) (ifb (decide (i_1.k.toNat < 15)) (ifb (decide (0 ≤ i_1.i ∧ i_1.i < 15)) (ifb (decide (i_1.i.toNat < 15)) (ifb (decide (0 ≤ i_1.k ∧ i_1.k < 15))
  (ifb (decide (i_1.k.toNat < 15)) (ifb (true && isPk 2 fun (i j : Nat) => [Value.int IntKind.i64 1, Value.int IntKind.i64 0, Value.int IntKind.i64 9, Value.bool false, Value.bool false, Value.bool false, Value.int IntKind.i64 2, Value.int IntKind.i64 100, Value.int IntKind.i64 9, Value.bool false, Value.bool false, Value.bool false][i * 6 + j]?.getD undef) (∃ (i' : annK6.I), (J_1 i' ∧
  (15 - i'.k).toNat.succ.le (15 - i_1.k).toNat) ∧ (Value.bool false = Value.bool false ∧ (some 900001 = some 900001 ∧ 15 = 15) ∧ Value.int IntKind.i64 i_1.i = Value.int IntKind.i64 i'.i ∧ Value.int IntKind.i64 (IntKind.i64.wrap (i_1.k + 1)) = Value.int IntKind.i64 i'.k ∧ True) ∧ ((3 = 3 ∧ 1 = 1 ∧ 15 = 15 ∧
  ∀ (i j : Nat), i.succ.le 15 → j.succ.le 1 → Value.int IntKind.i64 (endsL[i * 1 + j]?.getD 0) = Value.int IntKind.i64 (endsL[i * 1 + j]?.getD 0)) ∧ True) ∧
  true = true) False) False) False) False) False) False) False) False) False) False) False) False) False) False) False) False) False) False) False) False) False) False) False) False) False) False) False) False) False) False) (∃ (i' : annK3.I), (J i' ∧ (15 - i'.i).toNat.succ.le (15 - i.i).toNat) ∧ (Value.bool false = Value.bool false ∧ (some 900001 = some 900001 ∧ 15 = 15) ∧
  Value.int IntKind.i64 (IntKind.i64.wrap (i_1.i + 1)) = Value.int IntKind.i64 i'.i ∧ True) ∧ ((3 = 3 ∧ 1 = 1 ∧ 15 = 15 ∧ ∀ (i j : Nat), i.succ.le 15 → j.succ.le 1 → Value.int IntKind.i64 (endsL[i * 1 + j]?.getD 0) = Value.int IntKind.i64 (endsL[i * 1 + j]?.getD 0)) ∧ True) ∧ true = true)) (∃ (J : annK21.I → Prop), (∃ (i : annK21.I), J i ∧ (Value.bool false = Value.bool false ∧ i.n = 0 ∧
  Value.int IntKind.i64 0 = Value.int IntKind.i64 (↑i.n : Int) ∧ True) ∧ (True ∧ True) ∧ true = true) ∧ ∀ (i : N1), J i → ifb (decide ((↑i.n : Int) < 257)) (ifb (true && decide (i.n = i.n) && decide ((i.n + 1) * 32 ≤ 140737488355328)) (∃ (i' : annK21.I), (J i' ∧ (257 - i'.n).succ.le (257 - i.n)) ∧ (Value.bool false = Value.bool false ∧ (some 1000096 = some 1000096 ∧ i.n + 1 = i'.n) ∧
  Value.int IntKind.i64 (IntKind.i64.wrap ((↑i.n : Int) + 1)) = Value.int IntKind.i64 (↑i'.n : Int) ∧ True) ∧ ((33 = 33 ∧ 6 = 6 ∧ i.n + 1 = i'.n ∧
  ∀ (i_1 j : Nat), i_1.succ.le i'.n → j.succ.le 6 → (if i_1 < i.n then pk gM bT i_1 j else [Value.int IntKind.i64 (↑i.n : Int), Value.int IntKind.i64 0, Value.int IntKind.i64 1, Value.bool false, Value.bool false, Value.bool false][(i_1 - i.n) * 6 + j]?.getD undef) = pk gM bT i_1 j) ∧ True) ∧ true = true) False)
  (ifb (true && isPk 1 fun (i j : Nat) => [Value.int IntKind.i64 9007199254740991, Value.int IntKind.i64 9007199254740991, Value.int IntKind.i64 1, Value.bool false, Value.bool false, Value.bool false][i * 6 + j]?.getD undef) (ifb (decide (i.n ≤ i.n) && isPk i.n (pk gM bT)) (ifb (chF (asG (pk gM bT)) i.n == 2) (ifb (true && decide (1 ≤ (↑i.n : Int)) && decide ((↑i.n : Int) ≤ (↑i.n : Int)))
  (ifb (decide (1 + ((↑i.n : Int).toNat - 1) ≤ i.n) && isPk ((↑i.n : Int).toNat - 1) fun (i j : Nat) => pk gM bT (1 + i) j) (ifb (chF (asG fun (i j : Nat) => pk gM bT (1 + i) j) ((↑i.n : Int).toNat - 1) == 0) (ifb (true && isPk 0 fun (x x_1 : Nat) => undef) (ifb (chF (asG fun (x x_1 : Nat) => undef) 0 == 0) (ifb ((if feF (asG fun (i j : Nat) => [Value.int IntKind.i64 9007199254740991, Value.int IntKind.i64 9007199254740991, Value.int IntKind.i64 1, Value.bool false, Value.bool false, Value.bool false][i * 6 + j]?.getD undef) 1 9007199254740991 9007199254740991 8000000 1 800 0 0 = 0 then (9007199254740991 : Int) else 0) == 9007199254740991) (P (AV.val (Value.bool (feF (asG fun (i j : Nat) => [Value.int IntKind.i64 9007199254740991, Value.int IntKind.i64 9007199254740991, Value.int IntKind.i64 1, Value.bool false, Value.bool false, Value.bool false][i * 6 + j]?.getD undef) 1 9007199254740991 9007199254740991 8000000 1 800 0 0 == 0)))) (P (AV.val (Value.bool false)))) (P (AV.val (Value.bool false)))) False) (P (AV.val (Value.bool false)))) False) False) (P (AV.val (Value.bool false)))) False) False))) := by
  kernel_rfl

end Go.Proofs.Ytmaddijeiniliaa.Ls
