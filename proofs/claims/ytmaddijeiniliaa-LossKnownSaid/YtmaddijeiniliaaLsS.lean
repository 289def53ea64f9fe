/-
  LsS: LossKnown.
-/
import Derived.Test.YtmaddijeiniliaaLsR
namespace Go.Proofs.Ytmaddijeiniliaa.Ls
open Go Go.RowKit Go.Proofs.Ytmaddijeiniliaa.Sy Go.Proofs.Ytmaddijeiniliaa.Cm
set_option linter.unusedVariables false
set_option linter.unusedSimpArgs false
set_option maxRecDepth 100000
set_option maxHeartbeats 1000000
attribute [local irreducible] afn

theorem isPk4 (a b c d e f g h k l m n : Int) : isPk 4 (fun (i j : Nat) => [Value.int IntKind.i64 a, Value.int IntKind.i64 b, Value.int IntKind.i64 c, Value.bool false, Value.bool false, Value.bool false, Value.int IntKind.i64 d, Value.int IntKind.i64 e, Value.int IntKind.i64 f, Value.bool false, Value.bool false, Value.bool false, Value.int IntKind.i64 g, Value.int IntKind.i64 h, Value.int IntKind.i64 k, Value.bool false, Value.bool false, Value.bool false, Value.int IntKind.i64 l, Value.int IntKind.i64 m, Value.int IntKind.i64 n, Value.bool false, Value.bool false, Value.bool false][i * 6 + j]?.getD undef) = true := isPk_yes fun i j hi hj => by
  have hi : i = 0 ∨ i = 1 ∨ i = 2 ∨ i = 3 := by omega
  have hj : j = 0 ∨ j = 1 ∨ j = 2 ∨ j = 3 ∨ j = 4 ∨ j = 5 := by omega
  rcases hi with rfl | rfl | rfl | rfl <;> rcases hj with rfl | rfl | rfl | rfl | rfl | rfl <;> rfl
theorem isPk2 (a b c d e f : Int) : isPk 2 (fun (i j : Nat) => [Value.int IntKind.i64 a, Value.int IntKind.i64 b, Value.int IntKind.i64 c, Value.bool false, Value.bool false, Value.bool false, Value.int IntKind.i64 d, Value.int IntKind.i64 e, Value.int IntKind.i64 f, Value.bool false, Value.bool false, Value.bool false][i * 6 + j]?.getD undef) = true := isPk_yes fun i j hi hj => by
  have hi : i = 0 ∨ i = 1 := by omega
  have hj : j = 0 ∨ j = 1 ∨ j = 2 ∨ j = 3 ∨ j = 4 ∨ j = 5 := by omega
  rcases hi with rfl | rfl <;> rcases hj with rfl | rfl | rfl | rfl | rfl | rfl <;> rfl
theorem isPk1 (a b c : Int) : isPk 1 (fun (i j : Nat) => [Value.int IntKind.i64 a, Value.int IntKind.i64 b, Value.int IntKind.i64 c, Value.bool false, Value.bool false, Value.bool false][i * 6 + j]?.getD undef) = true := isPk_yes fun i j hi hj => by
  have hi : i = 0 := by omega
  have hj : j = 0 ∨ j = 1 ∨ j = 2 ∨ j = 3 ∨ j = 4 ∨ j = 5 := by omega
  rcases hi with rfl
  rcases hj with rfl | rfl | rfl | rfl | rfl | rfl <;> rfl
theorem isPk0 (q : Nat → Nat → Value) : isPk 0 q = true := isPk_yes fun i j hi _ => absurd hi (Nat.not_lt_zero i)
theorem beqI {a b : Int} (h : a = b) : (a == b) = true := by rw [h]; exact beq_self_eq_true b
theorem chM : chF (asG (pk gM bT)) 257 = 2 := chF_no fun h => absurd h.1 (by decide)
theorem chM1 : chF (asG fun (i j : Nat) => pk gM bT (1 + i) j) 256 = 0 := by
  rw [chF_congr (g' := fun i => gM (1 + i)) (fun i j hj => by
    have hj : j = 0 ∨ j = 1 ∨ j = 2 := by omega
    rcases hj with rfl | rfl | rfl <;> rfl)]
  refine chF_yes ⟨by decide, fun i hi => ?_⟩
  have hl : lastF (fun i => gM (1 + i)) i ≤ (i : Int) := by
    cases i with
    | zero =>
      show (-1 : Int) ≤ ((0 : Nat) : Int)
      omega
    | succ i =>
      show ((1 + i : Nat) : Int) ≤ ((i + 1 : Nat) : Int)
      omega
  unfold okP
  show lastF (fun i => gM (1 + i)) i < ((1 + i : Nat) : Int) ∧ ((1 + i : Nat) : Int) ≤ _ ∧ ((0 : Int) ≤ 0 ∧ (0 : Int) ≤ _) ∧ (1 : Int) ≤ 1 ∧ (1 : Int) ≤ _
  omega
theorem ch0 (g : Nat → Nat → Int) : chF g 0 = 0 := chF_yes ⟨by decide, fun i hi => absurd hi (Nat.not_lt_zero i)⟩
theorem fe1 : feF (asG fun (i j : Nat) => [Value.int IntKind.i64 9007199254740991, Value.int IntKind.i64 9007199254740991, Value.int IntKind.i64 1, Value.bool false, Value.bool false, Value.bool false][i * 6 + j]?.getD undef) 1 9007199254740991 9007199254740991 8000000 1 800 0 0 = 0 := by
  have h1 : chF (asG fun (i j : Nat) => [Value.int IntKind.i64 9007199254740991, Value.int IntKind.i64 9007199254740991, Value.int IntKind.i64 1, Value.bool false, Value.bool false, Value.bool false][i * 6 + j]?.getD undef) 1 = 0 := chF_yes ⟨by decide, fun i hi => by
    have hi : i = 0 := by omega
    subst hi
    unfold okP
    show (-1 : Int) < 9007199254740991 ∧ (9007199254740991 : Int) ≤ _ ∧ ((0 : Int) ≤ 9007199254740991 ∧ (9007199254740991 : Int) ≤ _) ∧ (1 : Int) ≤ 1 ∧ (1 : Int) ≤ _
    omega⟩
  unfold feF
  have h4 : isN 9007199254740991 = true := by decide
  rw [if_neg (by rw [h1]; simp), if_neg (by rw [h4]; simp)]
  exact ckT
theorem inR15 {i : Int} (h0 : 0 ≤ i) (h1 : i < 15) : decide (0 ≤ i ∧ i < 15) = true := decide_eq_true ⟨h0, h1⟩
theorem inN15 {i : Int} (h0 : 0 ≤ i) (h1 : i < 15) : decide (i.toNat < 15) = true := decide_eq_true (by omega)
theorem fall15 {i : Int} (h0 : 0 ≤ i) (h1 : i < 15) : (15 - (i + 1)).toNat.succ.le (15 - i).toNat := by
  show (15 - (i + 1)).toNat + 1 ≤ (15 - i).toNat
  omega

theorem known_is : ∃ C, Sound C ∧ C.P = Try.prog ∧ afn C 100 9 [] [] 0 (fun v _ _ => v = bv true) := ⟨CK, SK, rfl, by
  rw [known_ev (fun v => v = bv true)]
  refine ⟨fun x => 0 ≤ x.i ∧ x.i ≤ 15, ⟨⟨0, 0⟩, by decide, ⟨rfl, ⟨rfl, rfl⟩, rfl, trivial⟩, ⟨⟨rfl, rfl, rfl, fun _ _ _ _ => rfl⟩, trivial⟩, rfl⟩, fun x hx => ?_⟩
  refine ifb_of (fun h1 => ?_) fun _ => ?_
  · have h1 := of_decide_eq_true h1
    refine ⟨fun y => y.i = x.i ∧ 0 ≤ y.k ∧ y.k ≤ 15, ⟨⟨x.i, 0⟩, ⟨rfl, by simp, by simp⟩, ⟨rfl, ⟨rfl, rfl⟩, rfl, rfl, trivial⟩, ⟨⟨rfl, rfl, rfl, fun _ _ _ _ => rfl⟩, trivial⟩, rfl⟩, fun y hy => ?_⟩
    have hi0 : 0 ≤ y.i := by rw [hy.1]; exact hx.1
    have hi1 : y.i < 15 := by rw [hy.1]; exact h1
    refine ifb_of (fun h2 => ?_) fun h2 => ⟨⟨y.i + 1, 0⟩, ⟨⟨show 0 ≤ y.i + 1 by omega, show y.i + 1 ≤ 15 by omega⟩, by rw [← hy.1]; exact fall15 hi0 hi1⟩, ⟨rfl, ⟨rfl, rfl⟩, vi_eq (wr (by omega) (by omega)), trivial⟩, ⟨⟨rfl, rfl, rfl, fun _ _ _ _ => rfl⟩, trivial⟩, rfl⟩
    have h2 := of_decide_eq_true h2
    repeat' first
      | refine ifb_pos (inR15 hi0 hi1) ?_
      | refine ifb_pos (inN15 hi0 hi1) ?_
      | refine ifb_pos (inR15 hy.2.1 h2) ?_
      | refine ifb_pos (inN15 hy.2.1 h2) ?_
      | refine ifb_pos (band rfl (isPk4 _ _ _ _ _ _ _ _ _ _ _ _)) ?_
      | refine ifb_pos (band rfl (isPk2 _ _ _ _ _ _)) ?_
      | fail
    exact ⟨⟨y.i, y.k + 1⟩, ⟨⟨hy.1, show 0 ≤ y.k + 1 by omega, show y.k + 1 ≤ 15 by omega⟩, fall15 hy.2.1 h2⟩, ⟨rfl, ⟨rfl, rfl⟩, rfl, vi_eq (wr (by omega) (by omega)), trivial⟩, ⟨⟨rfl, rfl, rfl, fun _ _ _ _ => rfl⟩, trivial⟩, rfl⟩
  · refine ⟨fun x => x.n ≤ 257, ⟨⟨0⟩, Nat.zero_le _, ?_⟩, ?_⟩
    · repeat' first | exact trivial | exact rfl | (intro _ _ _ _; rfl) | (intro _ _ _ _; trivial) | refine ⟨?_, ?_⟩ | fail
    rintro ⟨n⟩ hn
    have hn : n ≤ 257 := hn
    dsimp only
    refine ifb_of (fun h5 => ?_) fun h5 => ?_
    · have h5 : (n : Int) < 257 := of_decide_eq_true h5
      have hle : (257 - (n + 1)).succ.le (257 - n) := less n 257 (by omega)
      have hvs := vi_succ (n := n) (by omega)
      refine ifb_pos (by simp; omega) ⟨⟨n + 1⟩, ⟨show n + 1 ≤ 257 by omega, hle⟩, ?_⟩
      have step : ∀ i j : Nat, i.succ.le (n + 1) → j.succ.le 6 → (if i < n then pk gM bT i j else [Value.int IntKind.i64 (n : Int), Value.int IntKind.i64 0, Value.int IntKind.i64 1, Value.bool false, Value.bool false, Value.bool false][(i - n) * 6 + j]?.getD undef) = pk gM bT i j := by
        intro i j hi hj
        have hi : i < n + 1 := hi
        have hj : j < 6 := hj
        by_cases hlt : i < n
        · rw [if_pos hlt]
        · have ei : i = n := by omega
          rw [if_neg hlt, ei, Nat.sub_self, Nat.zero_mul, Nat.zero_add]
          match j, hj with
          | 0, _ => rfl
          | 1, _ => rfl
          | 2, _ => rfl
          | 3, _ => rfl
          | 4, _ => rfl
          | 5, _ => rfl
      repeat' first | exact trivial | exact step | exact hvs | exact rfl | (intro _ _ _ _; rfl) | (intro _ _ _ _; trivial) | refine ⟨?_, ?_⟩ | fail
    · have h5 : ¬ (n : Int) < 257 := of_decide_eq_false h5
      have en : n = 257 := by omega
      subst en
      rw [fe1]
      refine ifb_pos (band rfl (isPk1 _ _ _)) (ifb_pos (band (decide_eq_true (Nat.le_refl _)) (isPk_pk _ _ _)) (ifb_pos (beqI chM) (ifb_pos (by decide) (ifb_pos (band (by decide) (isPk_pk _ (fun i => gM (1 + i)) (fun i => bT (1 + i)))) (ifb_pos (beqI chM1) (ifb_pos (band rfl (isPk0 _)) (ifb_pos (beqI (ch0 _)) (ifb_pos (by decide) ?_))))))))
      rfl⟩

end Go.Proofs.Ytmaddijeiniliaa.Ls
