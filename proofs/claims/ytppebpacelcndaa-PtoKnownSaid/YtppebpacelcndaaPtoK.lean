/-
  PtoK: PtoKnown: the closed statement, round by round.
-/
import Derived.Test.YtppebpacelcndaaPtoE
namespace Go.Proofs.Ytppebpacelcndaa.Pto
open Go Go.RowKit Go.Proofs.Ytppebpacelcndaa.Sy
set_option linter.unusedVariables false
set_option linter.unusedSimpArgs false

def gTells : List AV → Option AV
  | [.agg [.val (.int .i64 a), .val (.int .i64 b), .val (.int .i64 c), .val (.int .i64 d), .val (.int .i64 e)], .val (.int .i64 s), .val (.int .i64 x)] => some (bv true)
  | _ => none
theorem eTells : EntryOK Try.prog 3 (plain gTells) := entry_closed S4 (by kernel_rfl) fun args v h => by
  unfold gTells at h
  split at h
  · cases h; exact ⟨rfl, rfl, 100, tells_is _ _ _ _ _ _ _⟩
  · cases h
def gBacks : List AV → Option AV
  | [.val (.int .i64 a), .val (.int .i64 b), .val (.int .i64 c)] => some (bv true)
  | _ => none
theorem eBacks : EntryOK Try.prog 4 (plain gBacks) := entry_closed S4 (by kernel_rfl) fun args v h => by
  unfold gBacks at h
  split at h
  · cases h; exact ⟨rfl, rfl, 100, backs_is _ _ _⟩
  · cases h

def endsL : List Int := [-9223372036854775808, -2, -1, 0, 1, 2, 3, 10, 52, 53, 60, 63, 64, 1000000, 9007199254740991, 9007199254740992, 9223372036854775807]
def measL : List Int := [0, 0, 0, 0, 0, 0, 0, 0, 0, -1, 0, 0, 1000000, 500000, -1, 0, 0, 60000000000, 30000000000, -1, 1, 1, 1, 250000, 0, 1, 1, 1, 250001, 0, 9007199254740991, 0, 9007199254740991, 9007199254740991, 9007199254740991, 1, 2, 3, 0, 0]
structure K1 where
  i : Int
structure K2 where
  i : Int
  k : Int
structure K3 where
  i : Int
  k : Int
  n : Int
def hpK : Hp := [(16, some (.orow 3 1 17 fun i j => .int .i64 (nthI endsL (i * 1 + j)))), (176, some (.orow 23 5 8 fun i j => .int .i64 (nthI measL (i * 5 + j))))]
def tmK : List AV := setN (setN (setN (List.replicate 72 .any) 0 (bv false)) 1 (.own 16 17)) 2 (.own 176 8)
def sK (id : Nat) : Option Nat := match Nat.beq id 16 || Nat.beq id 176 with
  | true => some id
  | false => none
def annK1 : AnnE := ⟨K1, fun x => ⟨setN tmK 3 (iv x.i), hpK, 1000, 0⟩, fun x => (17 - x.i).toNat, sK, sK⟩
def annK2 : AnnE := ⟨K2, fun x => ⟨setN (setN tmK 3 (iv x.i)) 4 (iv x.k), hpK, 1000, 0⟩, fun x => (17 - x.k).toNat, sK, sK⟩
def annK3 : AnnE := ⟨K3, fun x => ⟨setN (setN (setN tmK 3 (iv x.i)) 4 (iv x.k)) 5 (iv x.n), hpK, 1000, 0⟩, fun x => (17 - x.n).toNat, sK, sK⟩
def annK4 : AnnE := ⟨K3, fun x => ⟨setN (setN (setN tmK 3 (iv x.i)) 4 (iv x.k)) 6 (iv x.n), hpK, 1000, 0⟩, fun x => (17 - x.n).toNat, sK, sK⟩
noncomputable def T6 : List (Nat × Entry) := (3, plain gTells) :: (4, plain gBacks) :: (rowsId, rowsE) :: T4
noncomputable def CK : Cfg := ⟨Try.prog, mkT T6, fun f => hasN inl0 f, fun f r => match Nat.beq f 9 with
  | true => match Nat.beq r 4, Nat.beq r 7, Nat.beq r 10, Nat.beq r 15 with
    | true, _, _, _ => some annK1
    | _, true, _, _ => some annK2
    | _, _, true, _ => some annK3
    | _, _, _, true => some annK4
    | _, _, _, _ => none
  | false => none⟩
theorem SK : Sound CK := ⟨tab_of (entries_cons eTells (entries_cons eBacks (entries_cons rowsE_ok T4_ok))), fun f h => entersB_ok (allN_ok inl0_ok f h), mixed⟩
theorem known_ev (K : AV → Prop) : (afn CK 100 9 [] [] 0 (fun v _ _ => K v)) = (
      ∃ (J : annK1.I → Prop),
        (∃ (i : annK1.I),
            J i ∧
              (Value.bool false = Value.bool false ∧
                  (some 16 = some 16 ∧ 17 = 17) ∧
                    (some 176 = some 176 ∧ 8 = 8) ∧ Value.int IntKind.i64 0 = Value.int IntKind.i64 i.i ∧ True) ∧
                ((3 = 3 ∧
                      1 = 1 ∧
                        17 = 17 ∧
                          ∀ (i j : Nat),
                            i.succ.le 17 →
                              j.succ.le 1 →
                                Value.int IntKind.i64
                                    ([-9223372036854775808, -2, -1, 0, 1, 2, 3, 10, 52, 53, 60, 63, 64, 1000000,
                                            9007199254740991, 9007199254740992, 9223372036854775807][i * 1 + j]?.getD
                                      0) =
                                  Value.int IntKind.i64 (endsL[i * 1 + j]?.getD 0)) ∧
                    (23 = 23 ∧
                        5 = 5 ∧
                          8 = 8 ∧
                            ∀ (i j : Nat),
                              i.succ.le 8 →
                                j.succ.le 5 →
                                  Value.int IntKind.i64
                                      ([0, 0, 0, 0, 0, 0, 0, 0, 0, -1, 0, 0, 1000000, 500000, -1, 0, 0, 60000000000,
                                              30000000000, -1, 1, 1, 1, 250000, 0, 1, 1, 1, 250001, 0, 9007199254740991, 0,
                                              9007199254740991, 9007199254740991, 9007199254740991, 1, 2, 3, 0,
                                              0][i * 5 + j]?.getD
                                        0) =
                                    Value.int IntKind.i64 (measL[i * 5 + j]?.getD 0)) ∧
                      True) ∧
                  Side annK1.s0 0 0 1000) ∧
          ∀ (i : K1),
            J i →
              ifb (decide (i.i < 17))
                (∃ (J_1 : annK2.I → Prop),
                  (∃ (i_1 : annK2.I),
                      J_1 i_1 ∧
                        (Value.bool false = Value.bool false ∧
                            (some 16 = some 16 ∧ 17 = 17) ∧
                              (some 176 = some 176 ∧ 8 = 8) ∧
                                Value.int IntKind.i64 i.i = Value.int IntKind.i64 i_1.i ∧
                                  Value.int IntKind.i64 0 = Value.int IntKind.i64 i_1.k ∧ True) ∧
                          ((3 = 3 ∧
                                1 = 1 ∧
                                  17 = 17 ∧
                                    ∀ (i j : Nat),
                                      i.succ.le 17 →
                                        j.succ.le 1 →
                                          Value.int IntKind.i64 (endsL[i * 1 + j]?.getD 0) =
                                            Value.int IntKind.i64 (endsL[i * 1 + j]?.getD 0)) ∧
                              (23 = 23 ∧
                                  5 = 5 ∧
                                    8 = 8 ∧
                                      ∀ (i j : Nat),
                                        i.succ.le 8 →
                                          j.succ.le 5 →
                                            Value.int IntKind.i64 (measL[i * 5 + j]?.getD 0) =
                                              Value.int IntKind.i64 (measL[i * 5 + j]?.getD 0)) ∧
                                True) ∧
                            Side annK2.s0 0 0 1000) ∧
                    ∀ (i_1 : K2),
                      J_1 i_1 →
                        ifb (decide (i_1.k < 17))
                          (∃ (J : annK3.I → Prop),
                            (∃ (i : annK3.I),
                                J i ∧
                                  (Value.bool false = Value.bool false ∧
                                      (some 16 = some 16 ∧ 17 = 17) ∧
                                        (some 176 = some 176 ∧ 8 = 8) ∧
                                          Value.int IntKind.i64 i_1.i = Value.int IntKind.i64 i.i ∧
                                            Value.int IntKind.i64 i_1.k = Value.int IntKind.i64 i.k ∧
                                              Value.int IntKind.i64 0 = Value.int IntKind.i64 i.n ∧ True) ∧
                                    ((3 = 3 ∧
                                          1 = 1 ∧
                                            17 = 17 ∧
                                              ∀ (i j : Nat),
                                                i.succ.le 17 →
                                                  j.succ.le 1 →
                                                    Value.int IntKind.i64 (endsL[i * 1 + j]?.getD 0) =
                                                      Value.int IntKind.i64 (endsL[i * 1 + j]?.getD 0)) ∧
                                        (23 = 23 ∧
                                            5 = 5 ∧
                                              8 = 8 ∧
                                                ∀ (i j : Nat),
                                                  i.succ.le 8 →
                                                    j.succ.le 5 →
                                                      Value.int IntKind.i64 (measL[i * 5 + j]?.getD 0) =
                                                        Value.int IntKind.i64 (measL[i * 5 + j]?.getD 0)) ∧
                                          True) ∧
                                      Side annK3.s0 0 0 1000) ∧
                              ∀ (i : K3),
                                J i →
                                  ifb (decide (i.n < 17))
                                    (ifb (decide (0 ≤ i.i ∧ i.i < 17))
                                      (ifb (decide (i.i.toNat < 17))
                                        (ifb (decide (0 ≤ i.k ∧ i.k < 17))
                                          (ifb (decide (i.k.toNat < 17))
                                            (ifb (decide (0 ≤ i.n ∧ i.n < 17))
                                              (ifb (decide (i.n.toNat < 17))
                                                (∃ (i' : annK3.I),
                                                  (J i' ∧ (17 - i'.n).toNat.succ.le (17 - i.n).toNat) ∧
                                                    (Value.bool false = Value.bool false ∧
                                                        (some 16 = some 16 ∧ 17 = 17) ∧
                                                          (some 176 = some 176 ∧ 8 = 8) ∧
                                                            Value.int IntKind.i64 i.i = Value.int IntKind.i64 i'.i ∧
                                                              Value.int IntKind.i64 i.k = Value.int IntKind.i64 i'.k ∧
                                                                Value.int IntKind.i64 (IntKind.i64.wrap (i.n + 1)) =
                                                                    Value.int IntKind.i64 i'.n ∧
                                                                  True) ∧
                                                      ((3 = 3 ∧
                                                            1 = 1 ∧
                                                              17 = 17 ∧
                                                                ∀ (i j : Nat),
                                                                  i.succ.le 17 →
                                                                    j.succ.le 1 →
                                                                      Value.int IntKind.i64 (endsL[i * 1 + j]?.getD 0) =
                                                                        Value.int IntKind.i64 (endsL[i * 1 + j]?.getD 0)) ∧
                                                          (23 = 23 ∧
                                                              5 = 5 ∧
                                                                8 = 8 ∧
                                                                  ∀ (i j : Nat),
                                                                    i.succ.le 8 →
                                                                      j.succ.le 5 →
                                                                        Value.int IntKind.i64 (measL[i * 5 + j]?.getD 0) =
                                                                          Value.int IntKind.i64 (measL[i * 5 + j]?.getD 0)) ∧
                                                            True) ∧
                                                        Side annK3.s1 0 0 1000)
                                                False)
                                              False)
                                            False)
                                          False)
                                        False)
                                      False)
                                    (∃ (J : annK4.I → Prop),
                                      (∃ (i_2 : annK4.I),
                                          J i_2 ∧
                                            (Value.bool false = Value.bool false ∧
                                                (some 16 = some 16 ∧ 17 = 17) ∧
                                                  (some 176 = some 176 ∧ 8 = 8) ∧
                                                    Value.int IntKind.i64 i.i = Value.int IntKind.i64 i_2.i ∧
                                                      Value.int IntKind.i64 i.k = Value.int IntKind.i64 i_2.k ∧
                                                        Value.int IntKind.i64 0 = Value.int IntKind.i64 i_2.n ∧ True) ∧
                                              ((3 = 3 ∧
                                                    1 = 1 ∧
                                                      17 = 17 ∧
                                                        ∀ (i j : Nat),
                                                          i.succ.le 17 →
                                                            j.succ.le 1 →
                                                              Value.int IntKind.i64 (endsL[i * 1 + j]?.getD 0) =
                                                                Value.int IntKind.i64 (endsL[i * 1 + j]?.getD 0)) ∧
                                                  (23 = 23 ∧
                                                      5 = 5 ∧
                                                        8 = 8 ∧
                                                          ∀ (i j : Nat),
                                                            i.succ.le 8 →
                                                              j.succ.le 5 →
                                                                Value.int IntKind.i64 (measL[i * 5 + j]?.getD 0) =
                                                                  Value.int IntKind.i64 (measL[i * 5 + j]?.getD 0)) ∧
                                                    True) ∧
                                                Side annK4.s0 0 0 1000) ∧
                                        ∀ (i : K3),
                                          J i →
                                            ifb (decide (i.n < 8))
                                              (ifb (decide (0 ≤ i.n ∧ i.n < 8))
                                                (ifb (decide (i.n.toNat < 8))
                                                  (ifb (decide (0 ≤ i.i ∧ i.i < 17))
                                                    (ifb (decide (i.i.toNat < 17))
                                                      (ifb (decide (0 ≤ i.k ∧ i.k < 17))
                                                        (ifb (decide (i.k.toNat < 17))
                                                          (∃ (i' : annK4.I),
                                                            (J i' ∧ (17 - i'.n).toNat.succ.le (17 - i.n).toNat) ∧
                                                              (Value.bool false = Value.bool false ∧
                                                                  (some 16 = some 16 ∧ 17 = 17) ∧
                                                                    (some 176 = some 176 ∧ 8 = 8) ∧
                                                                      Value.int IntKind.i64 i.i = Value.int IntKind.i64 i'.i ∧
                                                                        Value.int IntKind.i64 i.k =
                                                                            Value.int IntKind.i64 i'.k ∧
                                                                          Value.int IntKind.i64 (IntKind.i64.wrap (i.n + 1)) =
                                                                              Value.int IntKind.i64 i'.n ∧
                                                                            True) ∧
                                                                ((3 = 3 ∧
                                                                      1 = 1 ∧
                                                                        17 = 17 ∧
                                                                          ∀ (i j : Nat),
                                                                            i.succ.le 17 →
                                                                              j.succ.le 1 →
                                                                                Value.int IntKind.i64
                                                                                    (endsL[i * 1 + j]?.getD 0) =
                                                                                  Value.int IntKind.i64
                                                                                    (endsL[i * 1 + j]?.getD 0)) ∧
                                                                    (23 = 23 ∧
                                                                        5 = 5 ∧
                                                                          8 = 8 ∧
                                                                            ∀ (i j : Nat),
                                                                              i.succ.le 8 →
                                                                                j.succ.le 5 →
                                                                                  Value.int IntKind.i64
                                                                                      (measL[i * 5 + j]?.getD 0) =
                                                                                    Value.int IntKind.i64
                                                                                      (measL[i * 5 + j]?.getD 0)) ∧
                                                                      True) ∧
                                                                  Side annK4.s1 0 0 1000)
                                                          False)
                                                        False)
                                                      False)
                                                    False)
                                                  False)
                                                False)
                                              (∃ (i' : annK2.I),
                                                (J_1 i' ∧ (17 - i'.k).toNat.succ.le (17 - i_1.k).toNat) ∧
                                                  (Value.bool false = Value.bool false ∧
                                                      (some 16 = some 16 ∧ 17 = 17) ∧
                                                        (some 176 = some 176 ∧ 8 = 8) ∧
                                                          Value.int IntKind.i64 i.i = Value.int IntKind.i64 i'.i ∧
                                                            Value.int IntKind.i64 (IntKind.i64.wrap (i.k + 1)) =
                                                                Value.int IntKind.i64 i'.k ∧
                                                              True) ∧
                                                    ((3 = 3 ∧
                                                          1 = 1 ∧
                                                            17 = 17 ∧
                                                              ∀ (i j : Nat),
                                                                i.succ.le 17 →
                                                                  j.succ.le 1 →
                                                                    Value.int IntKind.i64 (endsL[i * 1 + j]?.getD 0) =
                                                                      Value.int IntKind.i64 (endsL[i * 1 + j]?.getD 0)) ∧
                                                        (23 = 23 ∧
                                                            5 = 5 ∧
                                                              8 = 8 ∧
                                                                ∀ (i j : Nat),
                                                                  i.succ.le 8 →
                                                                    j.succ.le 5 →
                                                                      Value.int IntKind.i64 (measL[i * 5 + j]?.getD 0) =
                                                                        Value.int IntKind.i64 (measL[i * 5 + j]?.getD 0)) ∧
                                                          True) ∧
                                                      Side annK2.s1 0 0 1000)))
                          (∃ (i' : annK1.I),
                            (J i' ∧ (17 - i'.i).toNat.succ.le (17 - i.i).toNat) ∧
                              (Value.bool false = Value.bool false ∧
                                  (some 16 = some 16 ∧ 17 = 17) ∧
                                    (some 176 = some 176 ∧ 8 = 8) ∧
                                      Value.int IntKind.i64 (IntKind.i64.wrap (i_1.i + 1)) = Value.int IntKind.i64 i'.i ∧
                                        True) ∧
                                ((3 = 3 ∧
                                      1 = 1 ∧
                                        17 = 17 ∧
                                          ∀ (i j : Nat),
                                            i.succ.le 17 →
                                              j.succ.le 1 →
                                                Value.int IntKind.i64 (endsL[i * 1 + j]?.getD 0) =
                                                  Value.int IntKind.i64 (endsL[i * 1 + j]?.getD 0)) ∧
                                    (23 = 23 ∧
                                        5 = 5 ∧
                                          8 = 8 ∧
                                            ∀ (i j : Nat),
                                              i.succ.le 8 →
                                                j.succ.le 5 →
                                                  Value.int IntKind.i64 (measL[i * 5 + j]?.getD 0) =
                                                    Value.int IntKind.i64 (measL[i * 5 + j]?.getD 0)) ∧
                                      True) ∧
                                  Side annK1.s1 0 0 1000))
                (K (AV.val (Value.bool true)))) := by
  kernel_rfl

theorem sideK : Side sK 0 0 1000 := by
  refine ⟨rfl, fun _ h => by omega, fun id h => ?_, fun i j x hi hj => ?_⟩
  · unfold sK
    split
    · rename_i hq
      simp only [Bool.or_eq_true] at hq
      rcases hq with hq | hq
      · have := nbeq.1 hq; omega
      · have := nbeq.1 hq; omega
    · rfl
  · unfold sK at hi hj
    split at hi
    · split at hj
      · cases hi; cases hj; rfl
      · cases hj
    · cases hi
theorem inR_yes {i : Int} {n : Int} (h : 0 ≤ i ∧ i < n) : decide (0 ≤ i ∧ i < n) = true := decide_eq_true h
theorem fall' {n i : Int} (h : i < n) : (n - (i + 1)).toNat.succ.le (n - i).toNat := fall h
theorem known_is : afn CK 100 9 [] [] 0 (fun v _ _ => v = bv true) := by
  rw [known_ev (fun v => v = bv true)]
  refine ⟨fun x => 0 ≤ x.i ∧ x.i ≤ 17, ⟨⟨0⟩, by decide, (by repeat' first | exact trivial | exact sideK | exact vi_eq (wr (by omega) (by omega)) | rfl | (intro _ _ _ _; rfl) | constructor)⟩, fun x hx => ?_⟩
  refine ifb_of (fun h1 => ?_) fun _ => rfl
  have h1 := of_decide_eq_true h1
  refine ⟨fun y => y.i = x.i ∧ 0 ≤ y.k ∧ y.k ≤ 17, ⟨⟨x.i, 0⟩, ⟨rfl, by simp, by simp⟩, (by repeat' first | exact trivial | exact sideK | exact vi_eq (wr (by omega) (by omega)) | rfl | (intro _ _ _ _; rfl) | constructor)⟩, fun y hy => ?_⟩
  refine ifb_of (fun h2 => ?_) fun h2 => ⟨⟨y.i + 1⟩, ⟨⟨show 0 ≤ y.i + 1 by omega, show y.i + 1 ≤ 17 by omega⟩, by rw [hy.1]; exact fall h1⟩, (by repeat' first | exact trivial | exact sideK | exact vi_eq (wr (by omega) (by omega)) | rfl | (intro _ _ _ _; rfl) | constructor)⟩
  have h2 := of_decide_eq_true h2
  refine ⟨fun z => z.i = x.i ∧ z.k = y.k ∧ 0 ≤ z.n ∧ z.n ≤ 17, ⟨⟨y.i, y.k, 0⟩, ⟨hy.1, rfl, by simp, by simp⟩, (by repeat' first | exact trivial | exact sideK | exact vi_eq (wr (by omega) (by omega)) | rfl | (intro _ _ _ _; rfl) | constructor)⟩, fun z hz => ?_⟩
  refine ifb_of (fun h3 => ?_) fun h3 => ⟨fun u => u.i = x.i ∧ u.k = y.k ∧ 0 ≤ u.n ∧ u.n ≤ 8, ⟨⟨z.i, z.k, 0⟩, ⟨hz.1, hz.2.1, by simp, by simp⟩, (by repeat' first | exact trivial | exact sideK | exact vi_eq (wr (by omega) (by omega)) | rfl | (intro _ _ _ _; rfl) | constructor)⟩, fun u hu => ?_⟩
  · have h3 := of_decide_eq_true h3
    refine ifb_pos (decide_eq_true (by omega)) (ifb_pos (decide_eq_true (by omega)) (ifb_pos (decide_eq_true (by omega)) (ifb_pos (decide_eq_true (by omega)) (ifb_pos (decide_eq_true (by omega)) (ifb_pos (decide_eq_true (by omega)) ?_)))))
    exact ⟨⟨z.i, z.k, z.n + 1⟩, ⟨⟨hz.1, hz.2.1, show 0 ≤ z.n + 1 by omega, show z.n + 1 ≤ 17 by omega⟩, fall h3⟩, (by repeat' first | exact trivial | exact sideK | exact vi_eq (wr (by omega) (by omega)) | rfl | (intro _ _ _ _; rfl) | constructor)⟩
  · refine ifb_of (fun h4 => ?_) fun h4 => ⟨⟨u.i, u.k + 1⟩, ⟨⟨hu.1, show 0 ≤ u.k + 1 by omega, show u.k + 1 ≤ 17 by omega⟩, by rw [hu.2.1]; exact fall h2⟩, (by repeat' first | exact trivial | exact sideK | exact vi_eq (wr (by omega) (by omega)) | rfl | (intro _ _ _ _; rfl) | constructor)⟩
    have h4 := of_decide_eq_true h4
    refine ifb_pos (decide_eq_true (by omega)) (ifb_pos (decide_eq_true (by omega)) (ifb_pos (decide_eq_true (by omega)) (ifb_pos (decide_eq_true (by omega)) (ifb_pos (decide_eq_true (by omega)) (ifb_pos (decide_eq_true (by omega)) ?_)))))
    exact ⟨⟨u.i, u.k, u.n + 1⟩, ⟨⟨hu.1, hu.2.1, show 0 ≤ u.n + 1 by omega, show u.n + 1 ≤ 8 by omega⟩, fall (by omega)⟩, (by repeat' first | exact trivial | exact sideK | exact vi_eq (wr (by omega) (by omega)) | rfl | (intro _ _ _ _; rfl) | constructor)⟩

end Go.Proofs.Ytppebpacelcndaa.Pto
