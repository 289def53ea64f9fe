/-
  LsI: LossWaits, LossTells.
-/
import Derived.Test.YtmaddijeiniliaaLsH
namespace Go.Proofs.Ytmaddijeiniliaa.Ls
open Go Go.RowKit Go.Proofs.Ytmaddijeiniliaa.Sy Go.Proofs.Ytmaddijeiniliaa.Cm
set_option linter.unusedVariables false
set_option linter.unusedSimpArgs false
set_option maxRecDepth 100000
set_option maxHeartbeats 1000000
attribute [local irreducible] afn

theorem waits_is (a b c d e : Int) : ∃ C, Sound C ∧ C.P = Try.prog ∧ afn C 100 4 [rv a b c d e] [] 0 (fun v _ _ => v = bv true) := ⟨C6, S6, rfl, by
  rw [waits_ev a b c d e (fun v => v = bv true)]
  exact ifb_pos (by simp) rfl⟩

theorem rowAt_pk {w : World} {p : Option (Nat × Nat × Nat)} {len : Nat} {g : Nat → Nat → Int} {bb : Nat → Nat → Bool} (h : RowAt w p 6 len (rowF [some .i64, some .i64, some .i64, none, none, none] g bb)) : RowAt w p 6 len (pk g bb) := by
  intro b o c hp
  refine ⟨(h b o c hp).1, fun i j hi hj => ?_⟩
  have h1 := (h b o c hp).2 i j hi hj
  match j, hj with
  | 0, _ => exact h1
  | 1, _ => exact h1
  | 2, _ => exact h1
  | 3, _ => exact h1
  | 4, _ => exact h1
  | 5, _ => exact h1
theorem isPk_pk (len : Nat) (g : Nat → Nat → Int) (b : Nat → Nat → Bool) : isPk len (fun i j => pk g b i j) = true := isPk_yes fun i j _ hj => by
  match j, hj with
  | 0, _ => rfl
  | 1, _ => rfl
  | 2, _ => rfl
  | 3, _ => rfl
  | 4, _ => rfl
  | 5, _ => rfl
theorem isPk_sub (len : Nat) (g : Nat → Nat → Int) (b : Nat → Nat → Bool) (l : List Nat) : isPk len (subQ g b l) = true := isPk_yes fun i j _ hj => by
  match j, hj with
  | 0, _ => rfl
  | 1, _ => rfl
  | 2, _ => rfl
  | 3, _ => rfl
  | 4, _ => rfl
  | 5, _ => rfl
theorem find_some (q : Nat → Nat → Value) (len : Nat) (hq : isPk len q = true) (k n r1 r2 r3 r4 r5 : Int) : ∃ L R q1 q2 a e, gFind q len [iv k, iv n, rv r1 r2 r3 r4 r5] = some (true, 33, 6, (L, q1), (R, q2), [.int .i64 a, .int .i64 e]) ∧ L ≤ len ∧ R ≤ len ∧ isPk L q1 = true ∧ isPk R q2 = true := by
  refine ⟨if feF (asG q) len k n r1 r2 r3 r4 r5 = 0 then (lsL (asG q) k n (wtF r1 r2 r3 r4 r5) len).length else 0, if feF (asG q) len k n r1 r2 r3 r4 r5 = 0 then (rsL (asG q) k n (wtF r1 r2 r3 r4 r5) len).length else 0, subQ (asG q) (asB q) (lsL (asG q) k n (wtF r1 r2 r3 r4 r5) len), subQ (asG q) (asB q) (rsL (asG q) k n (wtF r1 r2 r3 r4 r5) len), if feF (asG q) len k n r1 r2 r3 r4 r5 = 0 then atF (asG q) k n (wtF r1 r2 r3 r4 r5) len else 0, feF (asG q) len k n r1 r2 r3 r4 r5, ?_, ?_, ?_, isPk_sub _ _ _ _, isPk_sub _ _ _ _⟩
  · show some (isPk len q, _) = _
    rw [hq]
  · split
    · exact (ls_len len).1
    · omega
  · split
    · exact (ls_len len).2
    · omega
theorem fdOK_yes {L R : Nat} {q1 q2 : Nat → Nat → Value} {a e : Int} {q : Nat → Nat → Value} {len : Nat} {k n r1 r2 r3 r4 r5 : Int} (h : gFind q len [iv k, iv n, rv r1 r2 r3 r4 r5] = some (true, 33, 6, (L, q1), (R, q2), [.int .i64 a, .int .i64 e])) : fdOK L R q1 q2 a e q len k n r1 r2 r3 r4 r5 = true :=
  @decide_eq_true _ (Classical.propDecidable _) h
theorem wr_zero (q : Nat → Nat → Value) (i j : Nat) : q i j = wrQ q 0 i j := (if_neg (by omega)).symm
theorem wr_step (q : Nat → Nat → Value) (n i j : Nat) : (if i = ((n : Nat) : Int).toNat ∧ 0 ≤ j ∧ j < 1 then [Value.int IntKind.i64 (-1)][j - 0]?.getD undef else wrQ q n i j) = wrQ q (n + 1) i j := by
  have e : ((n : Nat) : Int).toNat = n := by omega
  rw [e]
  unfold wrQ
  by_cases h : i = n ∧ 0 ≤ j ∧ j < 1
  · have hj : j = 0 := by omega
    subst hj
    rw [if_pos h, if_pos (by omega)]
    rfl
  · rw [if_neg h]
    by_cases h2 : i < n ∧ j = 0
    · rw [if_pos h2, if_pos (by omega)]
    · rw [if_neg h2, if_neg (by omega)]
theorem tells_is (len : Nat) (g : Nat → Nat → Int) (b : Nat → Nat → Bool) (k n r1 r2 r3 r4 r5 : Int) : ∃ C, Sound C ∧ C.P = Try.prog ∧ afn C 100 3 [.view 0 6 0 len, .agg [iv k, iv n], rv r1 r2 r3 r4 r5] [(0, some (.row 33 6 len (pk g b)))] 1 (fun v _ _ => v = bv true) := by
  generalize hM : (min (len : Int) 260).toNat = M
  have hM0 : M ≤ 260 ∧ M ≤ len := by omega
  have hM2 : (min (M : Int) 260).toNat = M := by omega
  obtain ⟨L, R, q1, q2, a, e, hF, hL, hR, hp1, hp2⟩ := find_some (fun i j => pk g b i j) M (isPk_pk M g b) k n r1 r2 r3 r4 r5
  refine ⟨_, ST M L R (fun i j => pk g b i j) q1 q2 a e, rfl, ?_⟩
  rw [tells_ev M L R (fun i j => pk g b i j) q1 q2 a e len (pk g b) k n r1 r2 r3 r4 r5 (fun v => v = bv true)]
  simp only [Nat.sub_zero, Nat.zero_add, hM, hM2]
  have hf := fdOK_yes hF
  have hpk := isPk_pk M g b
  refine ifb_pos (by simp; omega) (ifb_pos (by simp; omega) (ifb_pos (by simp; omega) (ifb_pos (by simp; omega) (ifb_pos (by rw [hf]; simp) (ifb_pos (by rw [hf]; simp) (ifb_pos (by rw [hp1]; simp; omega) ?_))))))
  refine ifb_neg (by rw [samF_yes ⟨rfl, fun _ _ _ _ => rfl⟩]; rfl) (ifb_pos (by rw [hp2]; simp; omega) (ifb_neg (by rw [samF_yes ⟨rfl, fun _ _ _ _ => rfl⟩]; rfl) (ifb_neg (by simp) (ifb_neg (by simp) (ifb_pos (by rw [hpk]; simp) (ifb_pos (by rw [hpk]; simp) (ifb_neg (by simp) ?_)))))))
  refine ⟨fun x => x.n ≤ L, ⟨⟨0⟩, Nat.zero_le _, ?_⟩, ?_⟩
  · repeat' first | exact trivial | exact rfl | (intro i j _ _; exact wr_zero q1 i j) | (intro _ _ _ _; rfl) | (intro _ _ _ _; trivial) | refine ⟨?_, ?_⟩ | fail
  rintro ⟨x⟩ hx
  have hx : x ≤ L := hx
  refine ifb_of (fun h1 => ?_) fun h1 => ?_
  · have h1 : (x : Int) < (L : Int) := of_decide_eq_true h1
    refine ifb_pos (decide_eq_true (by dsimp only; omega)) (ifb_pos (decide_eq_true (by dsimp only; omega)) ⟨⟨x + 1⟩, ⟨show x + 1 ≤ L by omega, less x L (by omega)⟩, ?_⟩)
    repeat' first | exact trivial | exact vi_succ (by omega) | exact rfl | (intro i j _ _; exact wr_step q1 x i j) | (intro _ _ _ _; rfl) | (intro _ _ _ _; trivial) | refine ⟨?_, ?_⟩ | fail
  refine ⟨fun x => x.n ≤ R, ⟨⟨0⟩, Nat.zero_le _, ?_⟩, ?_⟩
  · repeat' first | exact trivial | exact rfl | (intro i j _ _; exact wr_zero q2 i j) | (intro _ _ _ _; rfl) | (intro _ _ _ _; trivial) | refine ⟨?_, ?_⟩ | fail
  rintro ⟨y⟩ hy
  have hy : y ≤ R := hy
  refine ifb_of (fun h2 => ?_) fun h2 => ?_
  · have h2 : (y : Int) < (R : Int) := of_decide_eq_true h2
    refine ifb_pos (decide_eq_true (by dsimp only; omega)) (ifb_pos (decide_eq_true (by dsimp only; omega)) ⟨⟨y + 1⟩, ⟨show y + 1 ≤ R by omega, less y R (by omega)⟩, ?_⟩)
    repeat' first | exact trivial | exact vi_succ (by omega) | exact rfl | (intro i j _ _; exact wr_step q2 y i j) | (intro _ _ _ _; rfl) | (intro _ _ _ _; trivial) | refine ⟨?_, ?_⟩ | fail
  exact ifb_pos (by rw [hpk]; simp; omega) (ifb_pos (samF_yes ⟨rfl, fun _ _ _ _ => rfl⟩) trivial)

end Go.Proofs.Ytmaddijeiniliaa.Ls
