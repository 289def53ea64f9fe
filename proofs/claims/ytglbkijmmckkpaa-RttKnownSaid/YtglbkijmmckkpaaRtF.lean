/-
  RtF: RttOrder, RttBounds: what is reached.
-/
import Derived.Test.YtglbkijmmckkpaaRtE
import Derived.Test.YtglbkijmmckkpaaSyH
namespace Go.Proofs.Ytglbkijmmckkpaa.Rt
open Go Go.RowKit Go.Proofs.Ytglbkijmmckkpaa.Sy Go.Proofs.Ytglbkijmmckkpaa.Cm
set_option linter.unusedVariables false
set_option linter.unusedSimpArgs false

structure N1 where
  n : Nat
structure N3 where
  N : Nat
  q : Nat → Nat → Int
  n : Nat
  u : Int
  v : Int
/-- What is brought. -/
def bq (g : Nat → Nat → Int) (held : Bool) (a b : Nat) : Int := match b with
  | 0 => brF (g a 0) 9007199254740992
  | 1 => match held with
    | true => brF (g a 1) 9007199254740992
    | false => 0
  | _ => brF (g a 2) 9007199254740992
def annBr (g : Nat → Nat → Int) (len : Nat) (held : Bool) : AnnM := ⟨N1, fun x => setN (setN (setN (setN (List.replicate 51 .any) 0 (.view 0 3 0 len)) 1 (bv held)) 5 (.own 500000 x.n)) 6 (iv x.n), fun x => [(500000, some (.orow 32 3 x.n fun a b => .int .i64 (bq g held a b)))], 600000, fun x => 60 - x.n, [(5, 500000)], [(5, 500000)]⟩

noncomputable def CB (g : Nat → Nat → Int) (len : Nat) (held : Bool) : Cfg := ⟨Try.prog, mkT T3, fun f => hasN inl0 f, fun f r => match Nat.beq f 20 with
  | true => some (annBr g len held)
  | _ => none⟩
theorem brought_ev (g : Nat → Nat → Int) (len : Nat) (held : Bool) (K : AV → Option Blk → Prop) : (afn (CB g len held) 100 20 [.view 0 3 0 len, bv held] [(0, some (.row 32 3 len fun i j => .int .i64 (g i j)))] 1 (fun v h _ => K v (blkOf v h))) = (
      ∃ (J : (annBr g len held).I → Prop), (∃ (i : (annBr g len held).I), J i ∧ ((some 0 = some 0 ∧ 3 = 3 ∧ 0 = 0 ∧ len = len) ∧ Value.bool held = Value.bool held ∧ i.n = 0 ∧ Value.int IntKind.i64 0 = Value.int IntKind.i64 (↑i.n : Int) ∧ True) ∧ (True ∧ (32 = 32 ∧ 3 = 3 ∧ len = len ∧ ∀ (i j : Nat), i.succ.le len → j.succ.le 3 → Value.int IntKind.i64 (g i j) = Value.int IntKind.i64 (g i j)) ∧ True) ∧
  true = true) ∧ ∀ (i : N1), J i → ifb (decide ((↑i.n : Int) < (↑len : Int))) (ifb (decide ((↑i.n : Int) < 60)) (ifb (decide (0 ≤ (↑i.n : Int) ∧ (↑i.n : Int) < (↑len : Int))) (ifb (decide (0 + (↑i.n : Int).toNat < len)) (ifb (decide (0 ≤ (↑i.n : Int) ∧ (↑i.n : Int) < (↑len : Int))) (ifb (decide (0 + (↑i.n : Int).toNat < len)) (ifb held (ifb (decide (0 ≤ (↑i.n : Int) ∧ (↑i.n : Int) < (↑len : Int)))
  (ifb (decide (0 + (↑i.n : Int).toNat < len)) (ifb (true && decide (i.n = i.n) && decide ((i.n + 1) * 24 ≤ 140737488355328)) (∃ (i' : (annBr g len held).I), (J i' ∧ (60 - i'.n).succ.le (60 - i.n)) ∧ ((some 0 = some 0 ∧ 3 = 3 ∧ 0 = 0 ∧ len = len) ∧ Value.bool held = Value.bool held ∧ (some 600560 = some 600560 ∧ i.n + 1 = i'.n) ∧
  Value.int IntKind.i64 (IntKind.i64.wrap ((↑i.n : Int) + 1)) = Value.int IntKind.i64 (↑i'.n : Int) ∧ True) ∧ ((32 = 32 ∧ 3 = 3 ∧ i.n + 1 = i'.n ∧
  ∀ (i_1 j : Nat), i_1.succ.le i'.n → j.succ.le 3 → (if i_1 < i.n then Value.int IntKind.i64 (bq g held i_1 j) else [Value.int IntKind.i64 (brF (g (0 + (↑i.n : Int).toNat) 0) 9007199254740992), Value.int IntKind.i64 (brF (g (0 + (↑i.n : Int).toNat) 1) 9007199254740992), Value.int IntKind.i64 (brF (g (0 + (↑i.n : Int).toNat) 2) 9007199254740992)][(i_1 - i.n) * 3 + j]?.getD undef) = Value.int IntKind.i64 (bq g held i_1 j)) ∧
  (32 = 32 ∧ 3 = 3 ∧ len = len ∧ ∀ (i j : Nat), i.succ.le len → j.succ.le 3 → Value.int IntKind.i64 (g i j) = Value.int IntKind.i64 (g i j)) ∧ True) ∧ true = true) False) False) False) (ifb (true && decide (i.n = i.n) && decide ((i.n + 1) * 24 ≤ 140737488355328)) (∃ (i' : (annBr g len held).I), (J i' ∧ (60 - i'.n).succ.le (60 - i.n)) ∧ ((some 0 = some 0 ∧ 3 = 3 ∧ 0 = 0 ∧ len = len) ∧
  Value.bool held = Value.bool held ∧ (some 600432 = some 600432 ∧ i.n + 1 = i'.n) ∧ Value.int IntKind.i64 (IntKind.i64.wrap ((↑i.n : Int) + 1)) = Value.int IntKind.i64 (↑i'.n : Int) ∧ True) ∧ ((32 = 32 ∧ 3 = 3 ∧ i.n + 1 = i'.n ∧
  ∀ (i_1 j : Nat), i_1.succ.le i'.n → j.succ.le 3 → (if i_1 < i.n then Value.int IntKind.i64 (bq g held i_1 j) else [Value.int IntKind.i64 (brF (g (0 + (↑i.n : Int).toNat) 0) 9007199254740992), Value.int IntKind.i64 0, Value.int IntKind.i64 (brF (g (0 + (↑i.n : Int).toNat) 2) 9007199254740992)][(i_1 - i.n) * 3 + j]?.getD undef) = Value.int IntKind.i64 (bq g held i_1 j)) ∧ (32 = 32 ∧ 3 = 3 ∧
  len = len ∧ ∀ (i j : Nat), i.succ.le len → j.succ.le 3 → Value.int IntKind.i64 (g i j) = Value.int IntKind.i64 (g i j)) ∧ True) ∧ true = true) False)) False) False) False) False) (ifb ((↑i.n : Int) == 0) (ifb (true && decide (i.n = i.n) && decide ((i.n + 1) * 24 ≤ 140737488355328))
  (K (AV.own 600224 (i.n + 1)) (some (Blk.orow 32 3 (i.n + 1) fun (a b : Nat) => if a < i.n then Value.int IntKind.i64 (bq g held a b) else [Value.int IntKind.i64 5, Value.int IntKind.i64 0, Value.int IntKind.i64 1][(a - i.n) * 3 + b]?.getD undef))) False) (K (AV.own 500000 i.n) (some (Blk.orow 32 3 i.n fun (a b : Nat) => Value.int IntKind.i64 (bq g held a b)))))) (ifb ((↑i.n : Int) == 0)
  (ifb (true && decide (i.n = i.n) && decide ((i.n + 1) * 24 ≤ 140737488355328)) (K (AV.own 600192 (i.n + 1)) (some (Blk.orow 32 3 (i.n + 1) fun (a b : Nat) => if a < i.n then Value.int IntKind.i64 (bq g held a b) else [Value.int IntKind.i64 5, Value.int IntKind.i64 0, Value.int IntKind.i64 1][(a - i.n) * 3 + b]?.getD undef))) False) (K (AV.own 500000 i.n) (some (Blk.orow 32 3 i.n fun (a b : Nat) => Value.int IntKind.i64 (bq g held a b)))))) := by
  kernel_rfl

/-! RttOrder -/
def brN (len : Nat) : Nat := if len = 0 then 1 else min len 60
def brQ (g : Nat → Nat → Int) (len : Nat) (held : Bool) (a b : Nat) : Int := if len = 0 then (match b with
  | 0 => 5
  | 1 => 0
  | _ => 1) else bq g held a b
noncomputable def gBr (q : Nat → Nat → Value) (len : Nat) : List AV → Option (Bool × TypeId × Nat × Nat × (Nat → Nat → Value))
  | [.val (.bool held)] => some (isNs len 3 q, 32, 3, brN len, fun a b => .int .i64 (brQ (asN q) len held a b))
  | _ => none
def lq (h : Nat → Nat → Int) (m : Nat) (q : Nat → Nat → Int) (a b : Nat) : Int := match b with
  | 0 => match decide (0 < m) with
    | true => q a 0 + brF (h (a % m) 0) (9007199254740992 - q a 0)
    | false => q a 0
  | b => q a b
def annLo (N : Nat) (q : Nat → Nat → Int) (h : Nat → Nat → Int) (m : Nat) : AnnM := ⟨N1, fun x => setN (setN (setN (setN (setN (List.replicate 77 .any) 0 (.own 700000 N)) 1 (.view 1 1 0 m)) 4 (bv false)) 5 (.own 700001 x.n)) 6 (iv x.n), fun x => [(700000, some (.orow 32 3 N fun a b => .int .i64 (q a b))), (700001, some (.orow 32 3 x.n fun a b => .int .i64 (lq h m q a b)))], 800000, fun x => N - x.n, [(0, 700000), (5, 700001)], [(0, 700000), (5, 700001)]⟩
noncomputable def T6 : List (Nat × Entry) := (19, rowEntry 3 gRun) :: T3
noncomputable def O6 : List (Nat × OEntry) := [(20, rowO 3 gBr)]
noncomputable def CO (g : Nat → Nat → Int) (len : Nat) (h : Nat → Nat → Int) (m : Nat) (N : Nat) (q : Nat → Nat → Int) : Cfg := ⟨Try.prog, mkO T6 O6, fun f => hasN inl0 f, fun f r => match Nat.beq f 6 with
  | true => some (annLo N q h m)
  | _ => none⟩
theorem order_ev (g : Nat → Nat → Int) (len : Nat) (h : Nat → Nat → Int) (m : Nat) (N : Nat) (q : Nat → Nat → Int) (K : AV → Prop) : (afn (CO g len h m N q) 100 6 [.view 0 3 0 len, .view 1 1 0 m] [(0, some (.row 32 3 len fun i j => .int .i64 (g i j))), (1, some (.row 3 1 m fun i j => .int .i64 (h i j)))] 2 (fun v _ _ => K v)) = (
      ifb (decide (0 + len ≤ len) && isNs len 3 fun (i j : Nat) => Value.int IntKind.i64 (g (0 + i) j)) (∃ (J : (annLo N q h m).I → Prop), (∃ (i : (annLo N q h m).I), J i ∧ ((some 34 = some 34 ∧ brN len = N) ∧ (some 1 = some 1 ∧ 1 = 1 ∧ 0 = 0 ∧ m = m) ∧ Value.bool false = Value.bool false ∧ i.n = 0 ∧ Value.int IntKind.i64 0 = Value.int IntKind.i64 (↑i.n : Int) ∧ True) ∧ ((32 = 32 ∧ 3 = 3 ∧ brN len = N ∧
  ∀ (i j : Nat), i.succ.le N → j.succ.le 3 → Value.int IntKind.i64 (brQ (asN fun (i j : Nat) => Value.int IntKind.i64 (g (0 + i) j)) len false i j) = Value.int IntKind.i64 (q i j)) ∧ True ∧ (32 = 32 ∧ 3 = 3 ∧ len = len ∧ ∀ (i j : Nat), i.succ.le len → j.succ.le 3 → Value.int IntKind.i64 (g i j) = Value.int IntKind.i64 (g i j)) ∧ (3 = 3 ∧ 1 = 1 ∧ m = m ∧
  ∀ (i j : Nat), i.succ.le m → j.succ.le 1 → Value.int IntKind.i64 (h i j) = Value.int IntKind.i64 (h i j)) ∧ True) ∧ true = true) ∧ ∀ (i : N1), J i → ifb (decide ((↑i.n : Int) < (↑N : Int))) (ifb (decide (0 ≤ (↑i.n : Int) ∧ (↑i.n : Int) < (↑N : Int))) (ifb (decide ((↑i.n : Int).toNat < N)) (ifb (decide (0 < (↑m : Int))) (ifb ((↑m : Int) != 0) (ifb (decide (0 ≤ (↑i.n : Int).tmod (↑m : Int) ∧
  (↑i.n : Int).tmod (↑m : Int) < (↑m : Int))) (ifb (decide (0 + ((↑i.n : Int).tmod (↑m : Int)).toNat < m)) (ifb (decide (0 < IntKind.i64.wrap (9007199254740992 - q (↑i.n : Int).toNat 0)) && decide (IntKind.i64.wrap (9007199254740992 - q (↑i.n : Int).toNat 0) ≤ 9223372036854775807)) (ifb (true && decide (i.n = i.n) && decide ((i.n + 1) * 24 ≤ 140737488355328)) (∃ (i' : (annLo N q h m).I), (J i' ∧
  (N - i'.n).succ.le (N - i.n)) ∧ ((some 700000 = some 700000 ∧ N = N) ∧ (some 1 = some 1 ∧ 1 = 1 ∧ 0 = 0 ∧ m = m) ∧ Value.bool false = Value.bool false ∧ (some 800512 = some 800512 ∧ i.n + 1 = i'.n) ∧ Value.int IntKind.i64 (IntKind.i64.wrap ((↑i.n : Int) + 1)) = Value.int IntKind.i64 (↑i'.n : Int) ∧ True) ∧ ((32 = 32 ∧ 3 = 3 ∧ N = N ∧
  ∀ (i j : Nat), i.succ.le N → j.succ.le 3 → Value.int IntKind.i64 (q i j) = Value.int IntKind.i64 (q i j)) ∧ (32 = 32 ∧ 3 = 3 ∧ i.n + 1 = i'.n ∧
  ∀ (i_1 j : Nat), i_1.succ.le i'.n → j.succ.le 3 → (if i_1 < i.n then Value.int IntKind.i64 (lq h m q i_1 j) else [Value.int IntKind.i64 (IntKind.i64.wrap (q (↑i.n : Int).toNat 0 + brF (h (0 + ((↑i.n : Int).tmod (↑m : Int)).toNat) 0) (IntKind.i64.wrap (9007199254740992 - q (↑i.n : Int).toNat 0)))), Value.int IntKind.i64 (q (↑i.n : Int).toNat 1), Value.int IntKind.i64 (q (↑i.n : Int).toNat 2)][(i_1 - i.n) * 3 + j]?.getD undef) = Value.int IntKind.i64 (lq h m q i_1 j)) ∧
  (32 = 32 ∧ 3 = 3 ∧ len = len ∧ ∀ (i j : Nat), i.succ.le len → j.succ.le 3 → Value.int IntKind.i64 (g i j) = Value.int IntKind.i64 (g i j)) ∧ (3 = 3 ∧ 1 = 1 ∧ m = m ∧ ∀ (i j : Nat), i.succ.le m → j.succ.le 1 → Value.int IntKind.i64 (h i j) = Value.int IntKind.i64 (h i j)) ∧ True) ∧ true = true) False) False) False) False) False)
  (ifb (true && decide (i.n = i.n) && decide ((i.n + 1) * 24 ≤ 140737488355328)) (∃ (i' : (annLo N q h m).I), (J i' ∧ (N - i'.n).succ.le (N - i.n)) ∧ ((some 700000 = some 700000 ∧ N = N) ∧ (some 1 = some 1 ∧ 1 = 1 ∧ 0 = 0 ∧ m = m) ∧ Value.bool false = Value.bool false ∧ (some 800256 = some 800256 ∧ i.n + 1 = i'.n) ∧
  Value.int IntKind.i64 (IntKind.i64.wrap ((↑i.n : Int) + 1)) = Value.int IntKind.i64 (↑i'.n : Int) ∧ True) ∧ ((32 = 32 ∧ 3 = 3 ∧ N = N ∧ ∀ (i j : Nat), i.succ.le N → j.succ.le 3 → Value.int IntKind.i64 (q i j) = Value.int IntKind.i64 (q i j)) ∧ (32 = 32 ∧ 3 = 3 ∧ i.n + 1 = i'.n ∧
  ∀ (i_1 j : Nat), i_1.succ.le i'.n → j.succ.le 3 → (if i_1 < i.n then Value.int IntKind.i64 (lq h m q i_1 j) else [Value.int IntKind.i64 (q (↑i.n : Int).toNat 0), Value.int IntKind.i64 (q (↑i.n : Int).toNat 1), Value.int IntKind.i64 (q (↑i.n : Int).toNat 2)][(i_1 - i.n) * 3 + j]?.getD undef) = Value.int IntKind.i64 (lq h m q i_1 j)) ∧ (32 = 32 ∧ 3 = 3 ∧ len = len ∧
  ∀ (i j : Nat), i.succ.le len → j.succ.le 3 → Value.int IntKind.i64 (g i j) = Value.int IntKind.i64 (g i j)) ∧ (3 = 3 ∧ 1 = 1 ∧ m = m ∧ ∀ (i j : Nat), i.succ.le m → j.succ.le 1 → Value.int IntKind.i64 (h i j) = Value.int IntKind.i64 (h i j)) ∧ True) ∧ true = true) False)) False) False) (ifb ((isNs N 3 fun (a b : Nat) => Value.int IntKind.i64 (q a b)) && decide (N ≤ 1000000) && decide (N ≤ N))
  (ifb ((isNs i.n 3 fun (a b : Nat) => Value.int IntKind.i64 (lq h m q a b)) && decide (i.n ≤ 1000000) && decide (i.n ≤ i.n)) (ifb ((runS (asN fun (a b : Nat) => Value.int IntKind.i64 (q a b)) N).snd == 0) (ifb ((runS (asN fun (a b : Nat) => Value.int IntKind.i64 (lq h m q a b)) i.n).snd == 0)
  (ifb (decide ((runS (asN fun (a b : Nat) => Value.int IntKind.i64 (q a b)) N).fst.c ≤ (runS (asN fun (a b : Nat) => Value.int IntKind.i64 (lq h m q a b)) i.n).fst.c)) (ifb (decide ((runS (asN fun (a b : Nat) => Value.int IntKind.i64 (q a b)) N).fst.b ≤ (runS (asN fun (a b : Nat) => Value.int IntKind.i64 (lq h m q a b)) i.n).fst.b)) (K (AV.val (Value.bool true))) (K (AV.val (Value.bool false))))
  (K (AV.val (Value.bool false)))) (K (AV.val (Value.bool false)))) (K (AV.val (Value.bool false)))) False) False)) False) := by
  kernel_rfl

/-! RttBounds -/
structure N4 where
  n : Nat
  u : Int
  v : Int
def annBo (N : Nat) (q : Nat → Nat → Int) : AnnM := ⟨N4, fun x => setN (setN (setN (setN (setN (List.replicate 116 .any) 0 (.own 700000 N)) 2 (bv false)) 3 (iv x.u)) 4 (iv x.v)) 5 (iv x.n), fun x => [(700000, some (.orow 32 3 N fun a b => .int .i64 (q a b)))], 800000, fun x => N - x.n, [(0, 700000)], [(0, 700000)]⟩
noncomputable def CBo (N : Nat) (q : Nat → Nat → Int) : Cfg := ⟨Try.prog, mkO T6 O6, fun f => hasN inl0 f, fun f r => match Nat.beq f 9 with
  | true => some (annBo N q)
  | _ => none⟩
theorem bounds_ev (g : Nat → Nat → Int) (len : Nat) (N : Nat) (q : Nat → Nat → Int) (K : AV → Prop) : (afn (CBo N q) 100 9 [.view 0 3 0 len] [(0, some (.row 32 3 len fun i j => .int .i64 (g i j)))] 1 (fun v _ _ => K v)) = (
      ifb (decide (0 + len ≤ len) && isNs len 3 fun (i j : Nat) => Value.int IntKind.i64 (g (0 + i) j)) (ifb (decide ((0 : Int) ≤ 0 ∧ 0 < (↑(brN len) : Int))) (ifb (decide (0 < brN len)) (ifb (decide ((0 : Int) ≤ 0 ∧ 0 < (↑(brN len) : Int))) (ifb (decide (0 < brN len)) (∃ (J : (annBo N q).I → Prop), (∃ (i : (annBo N q).I), J i ∧ ((some 65 = some 65 ∧ brN len = N) ∧ Value.bool false = Value.bool false ∧
  Value.int IntKind.i64 (brQ (asN fun (i j : Nat) => Value.int IntKind.i64 (g (0 + i) j)) len true 0 0) = Value.int IntKind.i64 i.u ∧ Value.int IntKind.i64 (brQ (asN fun (i j : Nat) => Value.int IntKind.i64 (g (0 + i) j)) len true 0 0) = Value.int IntKind.i64 i.v ∧ Value.int IntKind.i64 0 = Value.int IntKind.i64 (↑i.n : Int) ∧ True) ∧ ((32 = 32 ∧ 3 = 3 ∧ brN len = N ∧
  ∀ (i j : Nat), i.succ.le N → j.succ.le 3 → Value.int IntKind.i64 (brQ (asN fun (i j : Nat) => Value.int IntKind.i64 (g (0 + i) j)) len true i j) = Value.int IntKind.i64 (q i j)) ∧ (32 = 32 ∧ 3 = 3 ∧ len = len ∧ ∀ (i j : Nat), i.succ.le len → j.succ.le 3 → Value.int IntKind.i64 (g i j) = Value.int IntKind.i64 (g i j)) ∧ True) ∧ true = true) ∧
  ∀ (i : N4), J i → ifb (decide ((↑i.n : Int) < (↑N : Int))) (ifb (decide (0 ≤ (↑i.n : Int) ∧ (↑i.n : Int) < (↑N : Int))) (ifb (decide ((↑i.n : Int).toNat < N)) (ifb (decide (0 ≤ (↑i.n : Int) ∧ (↑i.n : Int) < (↑N : Int))) (ifb (decide ((↑i.n : Int).toNat < N)) (ifb (true && decide (0 ≤ IntKind.i64.wrap ((↑i.n : Int) + 1)) && decide (IntKind.i64.wrap ((↑i.n : Int) + 1) ≤ (↑N : Int)))
  (ifb ((isNs ((IntKind.i64.wrap ((↑i.n : Int) + 1)).toNat - 0) 3 fun (i j : Nat) => Value.int IntKind.i64 (q (0 + i) j)) && decide ((IntKind.i64.wrap ((↑i.n : Int) + 1)).toNat - 0 ≤ 1000000) && decide (0 + ((IntKind.i64.wrap ((↑i.n : Int) + 1)).toNat - 0) ≤ N)) (ifb (!(runS (asN fun (i j : Nat) => Value.int IntKind.i64 (q (0 + i) j)) ((IntKind.i64.wrap ((↑i.n : Int) + 1)).toNat - 0)).snd == 0)
  (K (AV.val (Value.bool false))) (ifb ((runS (asN fun (i j : Nat) => Value.int IntKind.i64 (q (0 + i) j)) ((IntKind.i64.wrap ((↑i.n : Int) + 1)).toNat - 0)).fst.b != min i.u (q (↑i.n : Int).toNat 0)) (K (AV.val (Value.bool false))) (ifb (decide (0 ≤ (↑i.n : Int) ∧ (↑i.n : Int) < (↑N : Int))) (ifb (decide ((↑i.n : Int).toNat < N))
  (ifb ((runS (asN fun (i j : Nat) => Value.int IntKind.i64 (q (0 + i) j)) ((IntKind.i64.wrap ((↑i.n : Int) + 1)).toNat - 0)).fst.a != q (↑i.n : Int).toNat 0) (K (AV.val (Value.bool false))) (ifb (decide ((0 : Int) ≤ 0 ∧ 0 < (↑N : Int))) (ifb (decide (0 < N)) (ifb ((runS (asN fun (i j : Nat) => Value.int IntKind.i64 (q (0 + i) j)) ((IntKind.i64.wrap ((↑i.n : Int) + 1)).toNat - 0)).fst.e != q 0 2)
  (K (AV.val (Value.bool false))) (ifb (decide ((runS (asN fun (i j : Nat) => Value.int IntKind.i64 (q (0 + i) j)) ((IntKind.i64.wrap ((↑i.n : Int) + 1)).toNat - 0)).fst.c < min i.u (q (↑i.n : Int).toNat 0))) (K (AV.val (Value.bool false)))
  (ifb (decide (max i.v (q (↑i.n : Int).toNat 0) < (runS (asN fun (i j : Nat) => Value.int IntKind.i64 (q (0 + i) j)) ((IntKind.i64.wrap ((↑i.n : Int) + 1)).toNat - 0)).fst.c)) (K (AV.val (Value.bool false))) (ifb (decide ((runS (asN fun (i j : Nat) => Value.int IntKind.i64 (q (0 + i) j)) ((IntKind.i64.wrap ((↑i.n : Int) + 1)).toNat - 0)).fst.d < 0)) (K (AV.val (Value.bool false)))
  (ifb (decide (max i.v (q (↑i.n : Int).toNat 0) < (runS (asN fun (i j : Nat) => Value.int IntKind.i64 (q (0 + i) j)) ((IntKind.i64.wrap ((↑i.n : Int) + 1)).toNat - 0)).fst.d)) (K (AV.val (Value.bool false)))
  (ifb (ckF (runS (asN fun (i j : Nat) => Value.int IntKind.i64 (q (0 + i) j)) ((IntKind.i64.wrap ((↑i.n : Int) + 1)).toNat - 0)).fst.a (runS (asN fun (i j : Nat) => Value.int IntKind.i64 (q (0 + i) j)) ((IntKind.i64.wrap ((↑i.n : Int) + 1)).toNat - 0)).fst.b (runS (asN fun (i j : Nat) => Value.int IntKind.i64 (q (0 + i) j)) ((IntKind.i64.wrap ((↑i.n : Int) + 1)).toNat - 0)).fst.c (runS (asN fun (i j : Nat) => Value.int IntKind.i64 (q (0 + i) j)) ((IntKind.i64.wrap ((↑i.n : Int) + 1)).toNat - 0)).fst.d (runS (asN fun (i j : Nat) => Value.int IntKind.i64 (q (0 + i) j)) ((IntKind.i64.wrap ((↑i.n : Int) + 1)).toNat - 0)).fst.e != 0)
  (K (AV.val (Value.bool false))) (ifb (decide (0 ≤ (↑i.n : Int) ∧ (↑i.n : Int) < (↑N : Int))) (ifb (decide ((↑i.n : Int).toNat < N))
  (ifb (greatF (runS (asN fun (i j : Nat) => Value.int IntKind.i64 (q (0 + i) j)) ((IntKind.i64.wrap ((↑i.n : Int) + 1)).toNat - 0)).fst.a (runS (asN fun (i j : Nat) => Value.int IntKind.i64 (q (0 + i) j)) ((IntKind.i64.wrap ((↑i.n : Int) + 1)).toNat - 0)).fst.b (runS (asN fun (i j : Nat) => Value.int IntKind.i64 (q (0 + i) j)) ((IntKind.i64.wrap ((↑i.n : Int) + 1)).toNat - 0)).fst.c (runS (asN fun (i j : Nat) => Value.int IntKind.i64 (q (0 + i) j)) ((IntKind.i64.wrap ((↑i.n : Int) + 1)).toNat - 0)).fst.d (runS (asN fun (i j : Nat) => Value.int IntKind.i64 (q (0 + i) j)) ((IntKind.i64.wrap ((↑i.n : Int) + 1)).toNat - 0)).fst.e != max (runS (asN fun (i j : Nat) => Value.int IntKind.i64 (q (0 + i) j)) ((IntKind.i64.wrap ((↑i.n : Int) + 1)).toNat - 0)).fst.c (q (↑i.n : Int).toNat 0))
  (K (AV.val (Value.bool false))) (∃ (i' : (annBo N q).I), (J i' ∧ (N - i'.n).succ.le (N - i.n)) ∧ ((some 700000 = some 700000 ∧ N = N) ∧ Value.bool false = Value.bool false ∧ Value.int IntKind.i64 (min i.u (q (↑i.n : Int).toNat 0)) = Value.int IntKind.i64 i'.u ∧ Value.int IntKind.i64 (max i.v (q (↑i.n : Int).toNat 0)) = Value.int IntKind.i64 i'.v ∧
  Value.int IntKind.i64 (IntKind.i64.wrap ((↑i.n : Int) + 1)) = Value.int IntKind.i64 (↑i'.n : Int) ∧ True) ∧ ((32 = 32 ∧ 3 = 3 ∧ N = N ∧ ∀ (i j : Nat), i.succ.le N → j.succ.le 3 → Value.int IntKind.i64 (q i j) = Value.int IntKind.i64 (q i j)) ∧ (32 = 32 ∧ 3 = 3 ∧ len = len ∧ ∀ (i j : Nat), i.succ.le len → j.succ.le 3 → Value.int IntKind.i64 (g i j) = Value.int IntKind.i64 (g i j)) ∧ True) ∧
  true = true)) False) False))))))) False) False)) False) False))) False) False) False) False) False) False) (K (AV.val (Value.bool true)))) False) False) False) False) False) := by
  kernel_rfl

end Go.Proofs.Ytglbkijmmckkpaa.Rt
