/-
  RtK: RttKnown: what is reached.
-/
import Derived.Test.YtglbkijmmckkpaaRtH
namespace Go.Proofs.Ytglbkijmmckkpaa.Rt
open Go Go.RowKit Go.Proofs.Ytglbkijmmckkpaa.Sy Go.Proofs.Ytglbkijmmckkpaa.Cm
set_option linter.unusedVariables false
set_option linter.unusedSimpArgs false
attribute [local irreducible] afn

def gTells : List AV → Option AV
  | [.agg [.val (.int .i64 a), .val (.int .i64 b), .val (.int .i64 c), .val (.int .i64 d), .val (.int .i64 e)], .val (.int .i64 f), .agg [.val (.int .i64 x), .val (.int .i64 y), .val (.int .i64 z)]] => some (bv true)
  | _ => none
set_option maxRecDepth 20000 in
theorem eTells : EntryOK Try.prog 8 (plain gTells) := entry_closed S3 (by kernel_rfl) fun args v h => by
  unfold gTells at h
  split at h
  · cases h; exact ⟨rfl, rfl, 100, tells_is _ _ _ _ _ _ _ _ _⟩
  · cases h
def gHolds : List AV → Option AV
  | [.val (.int .i64 a), .val (.int .i64 b), .val (.bool c)] => some (bv true)
  | _ => none
set_option maxRecDepth 20000 in
theorem eHolds : EntryOK Try.prog 3 (plain gHolds) := entry_closed S3 (by kernel_rfl) fun args v h => by
  unfold gHolds at h
  split at h
  · cases h; exact ⟨rfl, rfl, 100, holds_is _ _ _⟩
  · cases h

def endsL : List Int := [-9223372036854775808, -2, -1, 0, 1, 999999, 1000000, 60000000000, 60000000001, 9007199254740991, 9007199254740992, 9223372036854775807]
def goodL : List Int := [0, 0, 1000000, 500000, -1, 0, 0, 1000001, 500000, -1, 9, 5, 7, 3, 0, 9007199254740991, 9007199254740991, 9007199254740991, 9007199254740991, 9007199254740991, 0, 0, 0, 0, 0]
structure K4 where
  i : Int
  k : Int
  n : Int
  m : Int
  q : Nat → Nat → Int
def hpK : Hp := [(100000, some (.orow 3 1 12 fun i j => .int .i64 (nthI endsL (i * 1 + j)))), (100001, some (.orow 27 5 5 fun i j => .int .i64 (nthI goodL (i * 5 + j))))]
def hpL (q : Nat → Nat → Int) : Hp := (100002, some (.orow 27 5 6 fun i j => .int .i64 (q i j))) :: hpK
def tmK : List AV := setN (setN (setN (List.replicate 174 .any) 0 (bv false)) 1 (.own 100000 12)) 2 (.own 100001 5)
def two : List (Nat × Nat) := [(1, 100000), (2, 100001)]
def three : List (Nat × Nat) := [(1, 100000), (2, 100001), (5, 100002)]
def ann4 : AnnM := ⟨K4, fun x => setN tmK 3 (iv x.i), fun _ => hpK, 200000, fun x => (5 - x.i).toNat, two, two⟩
def ann7 : AnnM := ⟨K4, fun x => setN (setN tmK 3 (iv x.i)) 4 (iv x.k), fun _ => hpK, 200000, fun x => (12 - x.k).toNat, two, two⟩
def ann12 : AnnM := ⟨K4, fun x => setN (setN (setN (setN tmK 3 (iv x.i)) 4 (iv x.k)) 5 (.own 100002 6)) 6 (iv x.n), fun x => hpL x.q, 200000, fun x => (6 - x.n).toNat, three, three⟩
def ann15 : AnnM := ⟨K4, fun x => setN (setN (setN (setN (setN tmK 3 (iv x.i)) 4 (iv x.k)) 5 (.own 100002 6)) 6 (iv x.n)) 7 (iv x.m), fun x => hpL x.q, 200000, fun x => (12 - x.m).toNat, three, three⟩
def ann20 : AnnM := ⟨K4, fun x => setN tmK 8 (iv x.i), fun _ => hpK, 200000, fun x => (12 - x.i).toNat, two, two⟩
def ann23 : AnnM := ⟨K4, fun x => setN (setN tmK 8 (iv x.i)) 9 (iv x.k), fun _ => hpK, 200000, fun x => (12 - x.k).toNat, two, two⟩
noncomputable def T7 : List (Nat × Entry) := (8, plain gTells) :: (3, plain gHolds) :: (rowsId, rowsE) :: T3
def annsK (r : Nat) : Option An := match Nat.beq r 4, Nat.beq r 7, Nat.beq r 12, Nat.beq r 15, Nat.beq r 20, Nat.beq r 23 with
  | true, _, _, _, _, _ => some ann4
  | _, true, _, _, _, _ => some ann7
  | _, _, true, _, _, _ => some ann12
  | _, _, _, true, _, _ => some ann15
  | _, _, _, _, true, _ => some ann20
  | _, _, _, _, _, true => some ann23
  | _, _, _, _, _, _ => none
noncomputable def CK : Cfg := ⟨Try.prog, mkT T7, fun f => hasN inl0 f, fun f r => match Nat.beq f 10 with
  | true => annsK r
  | false => none⟩
theorem SK : Sound CK := ⟨tab_of (entries_cons eTells (entries_cons eHolds (entries_cons rowsE_ok T3_ok))), fun f h => entersB_ok (allN_ok inl0_ok f h), mixed⟩
theorem known_ev (K : AV → Prop) : (afn CK 100 10 [] [] 0 (fun v _ _ => K v)) = (
      ∃ (J : ann4.I → Prop), (∃ (i : ann4.I), J i ∧ (Value.bool false = Value.bool false ∧ (some 16 = some 16 ∧ 12 = 12) ∧ (some 128 = some 128 ∧ 5 = 5) ∧ Value.int IntKind.i64 0 = Value.int IntKind.i64 i.i ∧ True) ∧ ((3 = 3 ∧ 1 = 1 ∧ 12 = 12 ∧
  ∀ (i j : Nat), i.succ.le 12 → j.succ.le 1 → Value.int IntKind.i64 ([-9223372036854775808, -2, -1, 0, 1, 999999, 1000000, 60000000000, 60000000001, 9007199254740991, 9007199254740992, 9223372036854775807][i * 1 + j]?.getD 0) = Value.int IntKind.i64 (endsL[i * 1 + j]?.getD 0)) ∧ (27 = 27 ∧ 5 = 5 ∧ 5 = 5 ∧
  ∀ (i j : Nat), i.succ.le 5 → j.succ.le 5 → Value.int IntKind.i64 ([0, 0, 1000000, 500000, -1, 0, 0, 1000001, 500000, -1, 9, 5, 7, 3, 0, 9007199254740991, 9007199254740991, 9007199254740991, 9007199254740991, 9007199254740991, 0, 0, 0, 0, 0][i * 5 + j]?.getD 0) = Value.int IntKind.i64 (goodL[i * 5 + j]?.getD 0)) ∧ True) ∧ true = true) ∧
  ∀ (i : K4), J i → ifb (decide (i.i < 5)) (∃ (J_1 : ann7.I → Prop), (∃ (i_1 : ann7.I), J_1 i_1 ∧ (Value.bool false = Value.bool false ∧ (some 100000 = some 100000 ∧ 12 = 12) ∧ (some 100001 = some 100001 ∧ 5 = 5) ∧ Value.int IntKind.i64 i.i = Value.int IntKind.i64 i_1.i ∧ Value.int IntKind.i64 0 = Value.int IntKind.i64 i_1.k ∧ True) ∧ ((3 = 3 ∧ 1 = 1 ∧ 12 = 12 ∧
  ∀ (i j : Nat), i.succ.le 12 → j.succ.le 1 → Value.int IntKind.i64 (endsL[i * 1 + j]?.getD 0) = Value.int IntKind.i64 (endsL[i * 1 + j]?.getD 0)) ∧ (27 = 27 ∧ 5 = 5 ∧ 5 = 5 ∧ ∀ (i j : Nat), i.succ.le 5 → j.succ.le 5 → Value.int IntKind.i64 (goodL[i * 5 + j]?.getD 0) = Value.int IntKind.i64 (goodL[i * 5 + j]?.getD 0)) ∧ True) ∧ true = true) ∧ ∀ (i_1 : K4), J_1 i_1 → ifb (decide (i_1.k < 12))
  (ifb (decide (0 ≤ i_1.i ∧ i_1.i < 5)) (ifb (decide (i_1.i.toNat < 5)) (ifb (decide (0 ≤ i_1.i ∧ i_1.i < 5)) (ifb (decide (i_1.i.toNat < 5)) (ifb (decide (0 ≤ i_1.i ∧ i_1.i < 5)) (ifb (decide (i_1.i.toNat < 5)) (ifb (decide (0 ≤ i_1.i ∧ i_1.i < 5)) (ifb (decide (i_1.i.toNat < 5)) (ifb (decide (0 ≤ i_1.i ∧ i_1.i < 5)) (ifb (decide (i_1.i.toNat < 5)) (ifb (decide (0 ≤ i_1.i ∧ i_1.i < 5))
  (ifb (decide (i_1.i.toNat < 5)) (ifb (decide (0 ≤ i_1.k ∧ i_1.k < 12)) (ifb (decide (i_1.k.toNat < 12)) (ifb (decide (0 ≤ i_1.k ∧ i_1.k < 12)) (ifb (decide (i_1.k.toNat < 12)) (ifb (decide (0 ≤ i_1.k ∧ i_1.k < 12)) (ifb (decide (i_1.k.toNat < 12)) (ifb (decide (0 ≤ i_1.k ∧ i_1.k < 12)) (ifb (decide (i_1.k.toNat < 12)) (ifb (decide (0 ≤ i_1.k ∧ i_1.k < 12))
  (ifb (decide (i_1.k.toNat < 12)) (∃ (J : ann12.I → Prop), (∃ (i : ann12.I), J i ∧ (Value.bool false = Value.bool false ∧ (some 100000 = some 100000 ∧ 12 = 12) ∧ (some 100001 = some 100001 ∧ 5 = 5) ∧ Value.int IntKind.i64 i_1.i = Value.int IntKind.i64 i.i ∧ Value.int IntKind.i64 i_1.k = Value.int IntKind.i64 i.k ∧ (some 200448 = some 200448 ∧ 6 = 6) ∧
  Value.int IntKind.i64 0 = Value.int IntKind.i64 i.n ∧ True) ∧ ((27 = 27 ∧ 5 = 5 ∧ 6 = 6 ∧ ∀ (i_2 j : Nat), i_2.succ.le 6 → j.succ.le 5 → (if i_2 = 5 ∧ 4 ≤ j ∧ j < 5 then [Value.int IntKind.i64 (endsL[i_1.k.toNat * 1 + 0]?.getD 0)][j - 4]?.getD undef else if i_2 = 4 ∧ 3 ≤ j ∧ j < 4 then [Value.int IntKind.i64 (endsL[i_1.k.toNat * 1 + 0]?.getD 0)][j - 3]?.getD undef else if i_2 = 3 ∧ 2 ≤ j ∧
  j < 3 then [Value.int IntKind.i64 (endsL[i_1.k.toNat * 1 + 0]?.getD 0)][j - 2]?.getD undef else if i_2 = 2 ∧ 1 ≤ j ∧ j < 2 then [Value.int IntKind.i64 (endsL[i_1.k.toNat * 1 + 0]?.getD 0)][j - 1]?.getD undef else if i_2 = 1 ∧ 0 ≤ j ∧
  j < 1 then [Value.int IntKind.i64 (endsL[i_1.k.toNat * 1 + 0]?.getD 0)][j - 0]?.getD undef else Value.int IntKind.i64 ([goodL[i_1.i.toNat * 5 + 0]?.getD 0, goodL[i_1.i.toNat * 5 + 1]?.getD 0, goodL[i_1.i.toNat * 5 + 2]?.getD 0, goodL[i_1.i.toNat * 5 + 3]?.getD 0, goodL[i_1.i.toNat * 5 + 4]?.getD 0, goodL[i_1.i.toNat * 5 + 0]?.getD 0, goodL[i_1.i.toNat * 5 + 1]?.getD 0, goodL[i_1.i.toNat * 5 + 2]?.getD 0, goodL[i_1.i.toNat * 5 + 3]?.getD 0, goodL[i_1.i.toNat * 5 + 4]?.getD 0, goodL[i_1.i.toNat * 5 + 0]?.getD 0, goodL[i_1.i.toNat * 5 + 1]?.getD 0, goodL[i_1.i.toNat * 5 + 2]?.getD 0, goodL[i_1.i.toNat * 5 + 3]?.getD 0, goodL[i_1.i.toNat * 5 + 4]?.getD 0, goodL[i_1.i.toNat * 5 + 0]?.getD 0, goodL[i_1.i.toNat * 5 + 1]?.getD 0, goodL[i_1.i.toNat * 5 + 2]?.getD 0, goodL[i_1.i.toNat * 5 + 3]?.getD 0, goodL[i_1.i.toNat * 5 + 4]?.getD 0, goodL[i_1.i.toNat * 5 + 0]?.getD 0, goodL[i_1.i.toNat * 5 + 1]?.getD 0, goodL[i_1.i.toNat * 5 + 2]?.getD 0, goodL[i_1.i.toNat * 5 + 3]?.getD 0, goodL[i_1.i.toNat * 5 + 4]?.getD 0, goodL[i_1.i.toNat * 5 + 0]?.getD 0, goodL[i_1.i.toNat * 5 + 1]?.getD 0, goodL[i_1.i.toNat * 5 + 2]?.getD 0, goodL[i_1.i.toNat * 5 + 3]?.getD 0, goodL[i_1.i.toNat * 5 + 4]?.getD 0][i_2 * 5 + j]?.getD 0)) = Value.int IntKind.i64 (i.q i_2 j)) ∧
  (3 = 3 ∧ 1 = 1 ∧ 12 = 12 ∧ ∀ (i j : Nat), i.succ.le 12 → j.succ.le 1 → Value.int IntKind.i64 (endsL[i * 1 + j]?.getD 0) = Value.int IntKind.i64 (endsL[i * 1 + j]?.getD 0)) ∧ (27 = 27 ∧ 5 = 5 ∧ 5 = 5 ∧ ∀ (i j : Nat), i.succ.le 5 → j.succ.le 5 → Value.int IntKind.i64 (goodL[i * 5 + j]?.getD 0) = Value.int IntKind.i64 (goodL[i * 5 + j]?.getD 0)) ∧ True) ∧ true = true) ∧
  ∀ (i : K4), J i → ifb (decide (i.n < 6)) (∃ (J_2 : ann15.I → Prop), (∃ (i_2 : ann15.I), J_2 i_2 ∧ (Value.bool false = Value.bool false ∧ (some 100000 = some 100000 ∧ 12 = 12) ∧ (some 100001 = some 100001 ∧ 5 = 5) ∧ Value.int IntKind.i64 i.i = Value.int IntKind.i64 i_2.i ∧ Value.int IntKind.i64 i.k = Value.int IntKind.i64 i_2.k ∧ (some 100002 = some 100002 ∧ 6 = 6) ∧
  Value.int IntKind.i64 i.n = Value.int IntKind.i64 i_2.n ∧ Value.int IntKind.i64 0 = Value.int IntKind.i64 i_2.m ∧ True) ∧ ((27 = 27 ∧ 5 = 5 ∧ 6 = 6 ∧ ∀ (i_3 j : Nat), i_3.succ.le 6 → j.succ.le 5 → Value.int IntKind.i64 (i.q i_3 j) = Value.int IntKind.i64 (i_2.q i_3 j)) ∧ (3 = 3 ∧ 1 = 1 ∧ 12 = 12 ∧
  ∀ (i j : Nat), i.succ.le 12 → j.succ.le 1 → Value.int IntKind.i64 (endsL[i * 1 + j]?.getD 0) = Value.int IntKind.i64 (endsL[i * 1 + j]?.getD 0)) ∧ (27 = 27 ∧ 5 = 5 ∧ 5 = 5 ∧ ∀ (i j : Nat), i.succ.le 5 → j.succ.le 5 → Value.int IntKind.i64 (goodL[i * 5 + j]?.getD 0) = Value.int IntKind.i64 (goodL[i * 5 + j]?.getD 0)) ∧ True) ∧ true = true) ∧ ∀ (i_2 : K4), J_2 i_2 → ifb (decide (i_2.m < 12))
  (ifb (decide (0 ≤ i_2.n ∧ i_2.n < 6)) (ifb (decide (i_2.n.toNat < 6)) (ifb (decide (0 ≤ i_2.k ∧ i_2.k < 12)) (ifb (decide (i_2.k.toNat < 12)) (ifb (decide (0 ≤ i_2.m ∧ i_2.m < 12)) (ifb (decide (i_2.m.toNat < 12)) (ifb (decide (0 ≤ i_2.n ∧ i_2.n < 6)) (ifb (decide (i_2.n.toNat < 6)) (ifb (decide (0 ≤ i_2.m ∧ i_2.m < 12)) (ifb (decide (i_2.m.toNat < 12)) (ifb (decide (0 ≤ i_2.m ∧ i_2.m < 12))
  (ifb (decide (i_2.m.toNat < 12)) (ifb (decide (0 ≤ i_2.k ∧ i_2.k < 12)) (ifb (decide (i_2.k.toNat < 12)) (∃ (i' : ann15.I), (J_2 i' ∧ (12 - i'.m).toNat.succ.le (12 - i_2.m).toNat) ∧ (Value.bool false = Value.bool false ∧ (some 100000 = some 100000 ∧ 12 = 12) ∧ (some 100001 = some 100001 ∧ 5 = 5) ∧ Value.int IntKind.i64 i_2.i = Value.int IntKind.i64 i'.i ∧
  Value.int IntKind.i64 i_2.k = Value.int IntKind.i64 i'.k ∧ (some 100002 = some 100002 ∧ 6 = 6) ∧ Value.int IntKind.i64 i_2.n = Value.int IntKind.i64 i'.n ∧ Value.int IntKind.i64 (IntKind.i64.wrap (i_2.m + 1)) = Value.int IntKind.i64 i'.m ∧ True) ∧ ((27 = 27 ∧ 5 = 5 ∧ 6 = 6 ∧ ∀ (i j : Nat), i.succ.le 6 → j.succ.le 5 → Value.int IntKind.i64 (i_2.q i j) = Value.int IntKind.i64 (i'.q i j)) ∧ (3 = 3 ∧
  1 = 1 ∧ 12 = 12 ∧ ∀ (i j : Nat), i.succ.le 12 → j.succ.le 1 → Value.int IntKind.i64 (endsL[i * 1 + j]?.getD 0) = Value.int IntKind.i64 (endsL[i * 1 + j]?.getD 0)) ∧ (27 = 27 ∧ 5 = 5 ∧ 5 = 5 ∧ ∀ (i j : Nat), i.succ.le 5 → j.succ.le 5 → Value.int IntKind.i64 (goodL[i * 5 + j]?.getD 0) = Value.int IntKind.i64 (goodL[i * 5 + j]?.getD 0)) ∧ True) ∧
  true = true) False) False) False) False) False) False) False) False) False) False) False) False) False) False) (∃ (i' : ann12.I), (J i' ∧ (6 - i'.n).toNat.succ.le (6 - i.n).toNat) ∧ (Value.bool false = Value.bool false ∧ (some 100000 = some 100000 ∧ 12 = 12) ∧ (some 100001 = some 100001 ∧ 5 = 5) ∧ Value.int IntKind.i64 i_2.i = Value.int IntKind.i64 i'.i ∧
  Value.int IntKind.i64 i_2.k = Value.int IntKind.i64 i'.k ∧ (some 100002 = some 100002 ∧ 6 = 6) ∧ Value.int IntKind.i64 (IntKind.i64.wrap (i_2.n + 1)) = Value.int IntKind.i64 i'.n ∧ True) ∧ ((27 = 27 ∧ 5 = 5 ∧ 6 = 6 ∧ ∀ (i j : Nat), i.succ.le 6 → j.succ.le 5 → Value.int IntKind.i64 (i_2.q i j) = Value.int IntKind.i64 (i'.q i j)) ∧ (3 = 3 ∧ 1 = 1 ∧ 12 = 12 ∧
  ∀ (i j : Nat), i.succ.le 12 → j.succ.le 1 → Value.int IntKind.i64 (endsL[i * 1 + j]?.getD 0) = Value.int IntKind.i64 (endsL[i * 1 + j]?.getD 0)) ∧ (27 = 27 ∧ 5 = 5 ∧ 5 = 5 ∧ ∀ (i j : Nat), i.succ.le 5 → j.succ.le 5 → Value.int IntKind.i64 (goodL[i * 5 + j]?.getD 0) = Value.int IntKind.i64 (goodL[i * 5 + j]?.getD 0)) ∧ True) ∧ true = true)) (∃ (i' : ann7.I), (J_1 i' ∧
  (12 - i'.k).toNat.succ.le (12 - i_1.k).toNat) ∧ (Value.bool false = Value.bool false ∧ (some 100000 = some 100000 ∧ 12 = 12) ∧ (some 100001 = some 100001 ∧ 5 = 5) ∧ Value.int IntKind.i64 i.i = Value.int IntKind.i64 i'.i ∧ Value.int IntKind.i64 (IntKind.i64.wrap (i.k + 1)) = Value.int IntKind.i64 i'.k ∧ True) ∧ ((3 = 3 ∧ 1 = 1 ∧ 12 = 12 ∧
  ∀ (i j : Nat), i.succ.le 12 → j.succ.le 1 → Value.int IntKind.i64 (endsL[i * 1 + j]?.getD 0) = Value.int IntKind.i64 (endsL[i * 1 + j]?.getD 0)) ∧ (27 = 27 ∧ 5 = 5 ∧ 5 = 5 ∧ ∀ (i j : Nat), i.succ.le 5 → j.succ.le 5 → Value.int IntKind.i64 (goodL[i * 5 + j]?.getD 0) = Value.int IntKind.i64 (goodL[i * 5 + j]?.getD 0)) ∧ True) ∧
  true = true)) False) False) False) False) False) False) False) False) False) False) False) False) False) False) False) False) False) False) False) False) False) False) (∃ (i' : ann4.I), (J i' ∧ (5 - i'.i).toNat.succ.le (5 - i.i).toNat) ∧ (Value.bool false = Value.bool false ∧ (some 100000 = some 100000 ∧ 12 = 12) ∧ (some 100001 = some 100001 ∧ 5 = 5) ∧
  Value.int IntKind.i64 (IntKind.i64.wrap (i_1.i + 1)) = Value.int IntKind.i64 i'.i ∧ True) ∧ ((3 = 3 ∧ 1 = 1 ∧ 12 = 12 ∧ ∀ (i j : Nat), i.succ.le 12 → j.succ.le 1 → Value.int IntKind.i64 (endsL[i * 1 + j]?.getD 0) = Value.int IntKind.i64 (endsL[i * 1 + j]?.getD 0)) ∧ (27 = 27 ∧ 5 = 5 ∧ 5 = 5 ∧
  ∀ (i j : Nat), i.succ.le 5 → j.succ.le 5 → Value.int IntKind.i64 (goodL[i * 5 + j]?.getD 0) = Value.int IntKind.i64 (goodL[i * 5 + j]?.getD 0)) ∧ True) ∧ true = true)) (∃ (J : ann20.I → Prop), (∃ (i : ann20.I), J i ∧ (Value.bool false = Value.bool false ∧ (some 100000 = some 100000 ∧ 12 = 12) ∧ (some 100001 = some 100001 ∧ 5 = 5) ∧ Value.int IntKind.i64 0 = Value.int IntKind.i64 i.i ∧ True) ∧
  ((3 = 3 ∧ 1 = 1 ∧ 12 = 12 ∧ ∀ (i j : Nat), i.succ.le 12 → j.succ.le 1 → Value.int IntKind.i64 (endsL[i * 1 + j]?.getD 0) = Value.int IntKind.i64 (endsL[i * 1 + j]?.getD 0)) ∧ (27 = 27 ∧ 5 = 5 ∧ 5 = 5 ∧ ∀ (i j : Nat), i.succ.le 5 → j.succ.le 5 → Value.int IntKind.i64 (goodL[i * 5 + j]?.getD 0) = Value.int IntKind.i64 (goodL[i * 5 + j]?.getD 0)) ∧ True) ∧ true = true) ∧
  ∀ (i : K4), J i → ifb (decide (i.i < 12)) (∃ (J_1 : ann23.I → Prop), (∃ (i_1 : ann23.I), J_1 i_1 ∧ (Value.bool false = Value.bool false ∧ (some 100000 = some 100000 ∧ 12 = 12) ∧ (some 100001 = some 100001 ∧ 5 = 5) ∧ Value.int IntKind.i64 i.i = Value.int IntKind.i64 i_1.i ∧ Value.int IntKind.i64 0 = Value.int IntKind.i64 i_1.k ∧ True) ∧ ((3 = 3 ∧ 1 = 1 ∧ 12 = 12 ∧
  ∀ (i j : Nat), i.succ.le 12 → j.succ.le 1 → Value.int IntKind.i64 (endsL[i * 1 + j]?.getD 0) = Value.int IntKind.i64 (endsL[i * 1 + j]?.getD 0)) ∧ (27 = 27 ∧ 5 = 5 ∧ 5 = 5 ∧ ∀ (i j : Nat), i.succ.le 5 → j.succ.le 5 → Value.int IntKind.i64 (goodL[i * 5 + j]?.getD 0) = Value.int IntKind.i64 (goodL[i * 5 + j]?.getD 0)) ∧ True) ∧ true = true) ∧ ∀ (i_1 : K4), J_1 i_1 → ifb (decide (i_1.k < 12))
  (ifb (decide (0 ≤ i_1.i ∧ i_1.i < 12)) (ifb (decide (i_1.i.toNat < 12)) (ifb (decide (0 ≤ i_1.k ∧ i_1.k < 12)) (ifb (decide (i_1.k.toNat < 12)) (ifb (decide (0 ≤ i_1.i ∧ i_1.i < 12)) (ifb (decide (i_1.i.toNat < 12)) (ifb (decide (0 ≤ i_1.k ∧ i_1.k < 12)) (ifb (decide (i_1.k.toNat < 12)) (∃ (i' : ann23.I), (J_1 i' ∧ (12 - i'.k).toNat.succ.le (12 - i_1.k).toNat) ∧
  (Value.bool false = Value.bool false ∧ (some 100000 = some 100000 ∧ 12 = 12) ∧ (some 100001 = some 100001 ∧ 5 = 5) ∧ Value.int IntKind.i64 i_1.i = Value.int IntKind.i64 i'.i ∧ Value.int IntKind.i64 (IntKind.i64.wrap (i_1.k + 1)) = Value.int IntKind.i64 i'.k ∧ True) ∧ ((3 = 3 ∧ 1 = 1 ∧ 12 = 12 ∧
  ∀ (i j : Nat), i.succ.le 12 → j.succ.le 1 → Value.int IntKind.i64 (endsL[i * 1 + j]?.getD 0) = Value.int IntKind.i64 (endsL[i * 1 + j]?.getD 0)) ∧ (27 = 27 ∧ 5 = 5 ∧ 5 = 5 ∧ ∀ (i j : Nat), i.succ.le 5 → j.succ.le 5 → Value.int IntKind.i64 (goodL[i * 5 + j]?.getD 0) = Value.int IntKind.i64 (goodL[i * 5 + j]?.getD 0)) ∧ True) ∧
  true = true) False) False) False) False) False) False) False) False) (∃ (i' : ann20.I), (J i' ∧ (12 - i'.i).toNat.succ.le (12 - i.i).toNat) ∧ (Value.bool false = Value.bool false ∧ (some 100000 = some 100000 ∧ 12 = 12) ∧ (some 100001 = some 100001 ∧ 5 = 5) ∧ Value.int IntKind.i64 (IntKind.i64.wrap (i_1.i + 1)) = Value.int IntKind.i64 i'.i ∧ True) ∧ ((3 = 3 ∧ 1 = 1 ∧ 12 = 12 ∧
  ∀ (i j : Nat), i.succ.le 12 → j.succ.le 1 → Value.int IntKind.i64 (endsL[i * 1 + j]?.getD 0) = Value.int IntKind.i64 (endsL[i * 1 + j]?.getD 0)) ∧ (27 = 27 ∧ 5 = 5 ∧ 5 = 5 ∧ ∀ (i j : Nat), i.succ.le 5 → j.succ.le 5 → Value.int IntKind.i64 (goodL[i * 5 + j]?.getD 0) = Value.int IntKind.i64 (goodL[i * 5 + j]?.getD 0)) ∧ True) ∧ true = true)) (K (AV.val (Value.bool true))))) := by
  kernel_rfl

end Go.Proofs.Ytglbkijmmckkpaa.Rt
