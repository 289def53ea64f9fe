/-
  LsQ: LossThree.
-/
import Derived.Test.YtmaddijeiniliaaLsP
namespace Go.Proofs.Ytmaddijeiniliaa.Ls
open Go Go.RowKit Go.Proofs.Ytmaddijeiniliaa.Sy Go.Proofs.Ytmaddijeiniliaa.Cm
set_option linter.unusedVariables false
set_option linter.unusedSimpArgs false
set_option maxRecDepth 100000
set_option maxHeartbeats 1000000
attribute [local irreducible] afn

theorem band {a b : Bool} (h : a = true) (h' : b = true) : (a && b) = true := by rw [h, h']; rfl
theorem sam_sub {l : List Nat} {c m : Nat} (h1 : l.length = m) (h : ∀ i, i < l.length → ix l i = c + i) :
    samF (pk (asG (pk (fun i => gT (ix l i)) (fun i => bT (ix l i)))) (asB (pk (fun i => gT (ix l i)) (fun i => bT (ix l i))))) (pk (asG fun i j => pk gT bT (c + i) j) (asB fun i j => pk gT bT (c + i) j)) l.length m = true :=
  samF_yes ⟨h1, fun i j hi hj => by
    have e := h i hi
    match j, hj with
    | 0, _ =>
      show Value.int .i64 (gT (ix l i) 0) = Value.int .i64 (gT (c + i) 0)
      rw [e]
    | 1, _ => rfl
    | 2, _ => rfl
    | 3, _ => rfl
    | 4, _ => rfl
    | 5, _ => rfl⟩
theorem lsT {K : Int} {W : Nat} (hW : W = (K - 2).toNat) (m : Nat) : (lsL gT K 5 9000000 m).length = min m W ∧ (∀ i, i < min m W → ix (lsL gT K 5 9000000 m) i = i) ∧ (rsL gT K 5 9000000 m).length = m - W ∧ ∀ i, i < m - W → ix (rsL gT K 5 9000000 m) i = W + i := by
  induction m with
  | zero => exact ⟨by simp [lsL], fun i hi => absurd hi (by omega), by simp [rsL], fun i hi => absurd hi (by omega)⟩
  | succ m ih =>
    obtain ⟨h1, h2, h3, h4⟩ := ih
    by_cases hm : m < W
    · have hl : lostP gT K 5 9000000 m = true := decide_eq_true (show (m : Int) ≤ K ∧ (3 ≤ K - (m : Int) ∨ (5 : Int) + 9000000 ≤ 5) by omega)
      rw [(ls_yes hl).1, (ls_yes hl).2]
      refine ⟨by rw [List.length_append, h1]; simp; omega, fun i hi => ?_, by omega, fun i hi => absurd hi (by omega)⟩
      by_cases e : i < m
      · rw [ix_app_lt (by omega)]
        exact h2 i (by omega)
      · have e : i = (lsL gT K 5 9000000 m).length := by omega
        have e' : m = i := by omega
        rw [e, ix_app_end, ← e, e']
    · have hl : lostP gT K 5 9000000 m = false := decide_eq_false (show ¬ ((m : Int) ≤ K ∧ (3 ≤ K - (m : Int) ∨ (5 : Int) + 9000000 ≤ 5)) by omega)
      rw [(ls_no hl).1, (ls_no hl).2]
      refine ⟨by omega, fun i hi => h2 i (by omega), by rw [List.length_append, h3]; simp; omega, fun i hi => ?_⟩
      by_cases e : i < m - W
      · rw [ix_app_lt (by omega)]
        exact h4 i e
      · have e : i = (rsL gT K 5 9000000 m).length := by omega
        have e' : m = W + i := by omega
        rw [e, ix_app_end, ← e, e']
theorem gT_ok {N : Nat} (h : N ≤ 256) : okL gT N := by
  refine ⟨by omega, fun i hi => ?_⟩
  have hl : lastF gT i = (i : Int) - 1 := by
    cases i with
    | zero => rfl
    | succ i =>
      show (i : Int) = ((i + 1 : Nat) : Int) - 1
      omega
  unfold okP
  rw [hl]
  show (i : Int) - 1 < (i : Int) ∧ (i : Int) ≤ _ ∧ ((0 : Int) ≤ 5 ∧ (5 : Int) ≤ _) ∧ (1 : Int) ≤ 1200 ∧ (1200 : Int) ≤ _
  omega
theorem ckT : ckF 8000000 1 800 0 0 = 0 := ckF_yes (by unfold ckP ckO; omega)
theorem wtT : wtF 8000000 1 800 0 0 = 9000000 := by
  unfold wtF
  rw [if_pos ckT]
  omega

theorem three_is (x0 x1 : Int) : ∃ C, Sound C ∧ C.P = Try.prog ∧ afn C 100 8 [iv x0, iv x1] [] 0 (fun v _ _ => v = bv true) := by
  have hx0 := brF_lo x0 (b := 251) (by omega)
  have hx1 := brF_lo x1 (b := 251) (by omega)
  obtain ⟨N, hN⟩ : ∃ N : Nat, brF x0 251 = (N : Int) := ⟨(brF x0 251).toNat, by omega⟩
  have hN250 : N ≤ 250 := by omega
  have hfd := find_ok bT (gT_ok (show N ≤ 256 by omega)) (k := brF x1 251) (n := 5) (by omega) (by omega) ckT
  rw [wtT] at hfd
  obtain ⟨W, hW⟩ : ∃ W : Nat, W = (brF x1 251 - 2).toNat := ⟨_, rfl⟩
  obtain ⟨h1, h2, h3, h4⟩ := lsT hW N
  have hwr : IntKind.i64.wrap (brF x1 251 - 2) = brF x1 251 - 2 := wr (by omega) (by omega)
  refine ⟨_, SY ⟨N, gT, bT, 0, 0, 0, 0, (lsL gT (brF x1 251) 5 9000000 N).length, (rsL gT (brF x1 251) 5 9000000 N).length, fun i => gT (ix (lsL gT (brF x1 251) 5 9000000 N) i), fun i => bT (ix (lsL gT (brF x1 251) 5 9000000 N) i), fun i => gT (ix (rsL gT (brF x1 251) 5 9000000 N) i), fun i => bT (ix (rsL gT (brF x1 251) 5 9000000 N) i), atF gT (brF x1 251) 5 9000000 N, 0⟩ (brF x1 251), rfl, (three_ev _ 0 _ x0 x1 (fun v => v = bv true)).mpr ?_⟩
  dsimp only
  simp only [hwr, hN]
  have hmin : (min (N : Int) (max 0 (brF x1 251 - 2))).toNat = min N W := by omega
  have hat := at_spec (g := gT) (k := brF x1 251) (n := 5) (w := 9000000) N fun i _ => by
    show 0 ≤ (5 : Int) + 9000000 ∧ (5 : Int) + 9000000 ≤ _
    omega
  generalize brF x1 251 = K at *
  have hfin : (atF gT K 5 9000000 N == 9000005) = decide (min (N : Int) (max 0 (K - 2)) < (N : Int)) := by
    rcases hat with ⟨ha, hno⟩ | ⟨i, hi, hl, hk, ha, _⟩
    · rw [ha]
      refine (decide_eq_false fun hlt => ?_).symm
      have hWN : W < N := by omega
      refine hno W hWN (decide_eq_false ?_) ?_
      · show ¬ ((W : Int) ≤ K ∧ (3 ≤ K - (W : Int) ∨ (5 : Int) + 9000000 ≤ 5))
        omega
      · show (W : Int) ≤ K
        omega
    · rw [ha]
      have hk : (i : Int) ≤ K := hk
      have hl : ¬ ((i : Int) ≤ K ∧ (3 ≤ K - (i : Int) ∨ (5 : Int) + 9000000 ≤ 5)) := of_decide_eq_false hl
      exact (decide_eq_true (by omega)).symm
  clear hat
  refine ⟨fun x => x.n ≤ N, ⟨⟨0⟩, Nat.zero_le _, ?_⟩, ?_⟩
  · repeat' first | exact trivial | exact rfl | (intro _ _ _ _; rfl) | (intro _ _ _ _; trivial) | refine ⟨?_, ?_⟩ | fail
  rintro ⟨n⟩ hn
  have hn : n ≤ N := hn
  dsimp only
  refine ifb_of (fun h5 => ?_) fun h5 => ?_
  · have h5 : (n : Int) < (N : Int) := of_decide_eq_true h5
    have hle : (N - (n + 1)).succ.le (N - n) := less n N (by omega)
    have hvs := vi_succ (n := n) (by omega)
    refine ifb_pos (by simp; omega) ⟨⟨n + 1⟩, ⟨show n + 1 ≤ N by omega, hle⟩, ?_⟩
    have step : ∀ i j : Nat, i.succ.le (n + 1) → j.succ.le 6 → (if i < n then pk gT bT i j else [Value.int IntKind.i64 (n : Int), Value.int IntKind.i64 5, Value.int IntKind.i64 1200, Value.bool false, Value.bool false, Value.bool false][(i - n) * 6 + j]?.getD undef) = pk gT bT i j := by
      intro i j hi hj
      have hi : i < n + 1 := hi
      have hj : j < 6 := hj
      by_cases hlt : i < n
      · rw [if_pos hlt]
      · have ei : i = n := by omega
        rw [if_neg hlt, ei, Nat.sub_self, Nat.zero_mul, Nat.zero_add]
        match j, hj with
        | 0, _ => rfl
        | 1, _ => rfl
        | 2, _ => rfl
        | 3, _ => rfl
        | 4, _ => rfl
        | 5, _ => rfl
    repeat' first | exact trivial | exact step | exact hvs | exact rfl | (intro _ _ _ _; rfl) | (intro _ _ _ _; trivial) | refine ⟨?_, ?_⟩ | fail
  · have h5 : ¬ (n : Int) < (N : Int) := of_decide_eq_false h5
    have en : n = N := by omega
    subst en
    rw [hfd, hmin, hfin]
    refine ifb_pos (by simp) (ifb_pos (by simp; omega) (ifb_pos (band (decide_eq_true (Nat.le_refl _)) (band (decide_eq_true (by omega)) (band (isPk_pk _ _ _) (band (isPk_pk _ (fun i => gT (0 + i)) (fun i => bT (0 + i))) (decide_eq_true (by omega)))))) (ifb_pos (sam_sub (by omega) fun i hi => by rw [h2 i (by omega)]; omega) (ifb_pos (by simp; omega) (ifb_pos (band (decide_eq_true (Nat.le_refl _)) (band (decide_eq_true (by omega)) (band (isPk_pk _ _ _) (band (isPk_pk _ (fun i => gT (min n W + i)) (fun i => bT (min n W + i))) (decide_eq_true (by omega)))))) (ifb_pos (sam_sub (by omega) fun i hi => by rw [h4 i (by omega)]; omega) (ifb_pos (by simp) trivial)))))))

end Go.Proofs.Ytmaddijeiniliaa.Ls
