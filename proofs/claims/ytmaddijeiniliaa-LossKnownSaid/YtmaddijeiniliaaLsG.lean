/-
  LsG: packets that are the same, as entries; works, LossWaits and LossTells, evaluated.
-/
import Derived.Test.YtmaddijeiniliaaLsF
namespace Go.Proofs.Ytmaddijeiniliaa.Ls
open Go Go.RowKit Go.Proofs.Ytmaddijeiniliaa.Sy Go.Proofs.Ytmaddijeiniliaa.Cm
set_option linter.unusedVariables false
set_option linter.unusedSimpArgs false
set_option maxRecDepth 100000
set_option maxHeartbeats 1000000
attribute [local irreducible] afn

noncomputable def samF (q r : Nat → Nat → Value) (n m : Nat) : Bool := @decide (n = m ∧ ∀ i j, i < n → j < 6 → q i j = r i j) (Classical.propDecidable _)
theorem samF_yes {q r : Nat → Nat → Value} {n m : Nat} (h : n = m ∧ ∀ i j, i < n → j < 6 → q i j = r i j) : samF q r n m = true := @decide_eq_true _ (Classical.propDecidable _) h
theorem samF_no {q r : Nat → Nat → Value} {n m : Nat} (h : ¬ (n = m ∧ ∀ i j, i < n → j < 6 → q i j = r i j)) : samF q r n m = false := @decide_eq_false _ (Classical.propDecidable _) h
theorem pk_eq {g g' : Nat → Nat → Int} {b b' : Nat → Nat → Bool} {i : Nat} : (g i 0 == g' i 0 && (g i 1 == g' i 1 && (g i 2 == g' i 2 && (b i 3 == b' i 3 && (b i 4 == b' i 4 && (b i 5 == b' i 5 && true)))))) = true ↔ ∀ j, j < 6 → pk g b i j = pk g' b' i j := by
  simp only [Bool.and_eq_true, beq_iff_eq, and_true]
  constructor
  · rintro ⟨h0, h1, h2, h3, h4, h5⟩ j hj
    match j, hj with
    | 0, _ => exact vi_eq h0
    | 1, _ => exact vi_eq h1
    | 2, _ => exact vi_eq h2
    | 3, _ => exact congrArg Value.bool h3
    | 4, _ => exact congrArg Value.bool h4
    | 5, _ => exact congrArg Value.bool h5
  · intro h
    have h0 := h 0 (by omega)
    have h1 := h 1 (by omega)
    have h2 := h 2 (by omega)
    have h3 := h 3 (by omega)
    have h4 := h 4 (by omega)
    have h5 := h 5 (by omega)
    simp only [pk] at h0 h1 h2 h3 h4 h5
    injection h0 with _ h0
    injection h1 with _ h1
    injection h2 with _ h2
    injection h3 with h3
    injection h4 with h4
    injection h5 with h5
    exact ⟨h0, h1, h2, h3, h4, h5⟩
theorem same_both (n m : Nat) (g g' : Nat → Nat → Int) (b b' : Nat → Nat → Bool) (x : Nat) (hx : x ≤ n) (hnm : n = m) (hok : ∀ i, i < x → ∀ j, j < 6 → pk g b i j = pk g' b' i j) (hn : n ≤ 1000000) {T : Prop}
    (hT : x < n → (∀ j, j < 6 → pk g b x j = pk g' b' x j) → T) :
    ifb (decide ((x : Int) < (n : Int))) (ifb (decide (0 ≤ (x : Int) ∧ (x : Int) < (n : Int))) (ifb (decide (x < n)) (ifb (decide (0 ≤ (x : Int) ∧ (x : Int) < (m : Int))) (ifb (decide (x < m))
      (ifb (!(g x 0 == g' x 0 && (g x 1 == g' x 1 && (g x 2 == g' x 2 && (b x 3 == b' x 3 && (b x 4 == b' x 4 && (b x 5 == b' x 5 && true))))))) (AV.val (Value.bool false) = bv (samF (pk g b) (pk g' b') n m)) T) False) False) False) False)
      (AV.val (Value.bool true) = bv (samF (pk g b) (pk g' b') n m)) := by
  refine ifb_of (fun h1 => ?_) fun h1 => ?_
  · have h1 := of_decide_eq_true h1
    refine ifb_pos (decide_eq_true (by omega)) (ifb_pos (decide_eq_true (by omega)) (ifb_pos (decide_eq_true (by omega)) (ifb_pos (decide_eq_true (by omega)) (ifb_of (fun h2 => ?_) fun h2 => ?_))))
    · rw [samF_no fun h => ?_]
      have := pk_eq.2 (fun j hj => h.2 x j (by omega) hj)
      rw [this] at h2
      cases h2
    · exact hT (by omega) (pk_eq.1 (by simpa using h2))
  · have h1 := of_decide_eq_false h1
    rw [samF_yes ⟨hnm, fun i j hi hj => hok i (by omega) j hj⟩]
theorem same_is (n m : Nat) (g g' : Nat → Nat → Int) (b b' : Nat → Nat → Bool) (hn : n ≤ 1000000) : afn (CS n m) 100 13 [.view 0 6 0 n, .view 1 6 0 m] [(0, some (.row 33 6 n (pk g b))), (1, some (.row 33 6 m (pk g' b')))] 2 (fun v _ _ => v = bv (samF (pk g b) (pk g' b') n m)) := by
  rw [same_ev n m g g' b b' (fun v => v = bv (samF (pk g b) (pk g' b') n m))]
  refine ifb_of (fun h => ?_) fun h => ?_
  · rw [samF_no fun h1 => ?_]
    rw [h1.1] at h
    simp at h
  have hnm : n = m := by
    have h : (n : Int) = (m : Int) := by simpa using h
    omega
  refine ⟨fun x => x.n ≤ n ∧ ∀ i, i < x.n → ∀ j, j < 6 → pk g b i j = pk g' b' i j, ⟨⟨0⟩, ⟨Nat.zero_le _, fun i hi => absurd hi (Nat.not_lt_zero _)⟩, ?_⟩, ?_⟩
  · repeat' first | exact trivial | exact rfl | (intro _ _ _ _; rfl) | refine ⟨?_, ?_⟩
  rintro ⟨x⟩ ⟨hx, hok⟩
  have e : 0 + ((x : Nat) : Int).toNat = x := by omega
  dsimp only at hx hok ⊢
  rw [e]
  refine same_both n m g g' b b' x hx hnm hok hn fun h1 h2 => ⟨⟨x + 1⟩, ⟨⟨h1, fun i hi => ?_⟩, less x n h1⟩, ?_⟩
  · by_cases ei : i = x
    · rw [ei]; exact h2
    · exact hok i (by have : i < x + 1 := hi; omega)
  · repeat' first | exact trivial | exact vi_succ (by omega) | exact rfl | (intro _ _ _ _; rfl) | refine ⟨?_, ?_⟩
theorem lsame_is (n m : Nat) (g g' : Nat → Nat → Int) (b b' : Nat → Nat → Bool) (hn : n ≤ 1000000) : afn (CS n m) 100 22 [.view 0 6 0 n, .view 1 6 0 m] [(0, some (.row 33 6 n (pk g b))), (1, some (.row 33 6 m (pk g' b')))] 2 (fun v _ _ => v = bv (samF (pk g b) (pk g' b') n m)) := by
  rw [lsame_ev n m g g' b b' (fun v => v = bv (samF (pk g b) (pk g' b') n m))]
  refine ifb_of (fun h => ?_) fun h => ?_
  · rw [samF_no fun h1 => ?_]
    rw [h1.1] at h
    simp at h
  have hnm : n = m := by
    have h : (n : Int) = (m : Int) := by simpa using h
    omega
  refine ⟨fun x => x.n ≤ n ∧ ∀ i, i < x.n → ∀ j, j < 6 → pk g b i j = pk g' b' i j, ⟨⟨0⟩, ⟨Nat.zero_le _, fun i hi => absurd hi (Nat.not_lt_zero _)⟩, ?_⟩, ?_⟩
  · repeat' first | exact trivial | exact rfl | (intro _ _ _ _; rfl) | refine ⟨?_, ?_⟩
  rintro ⟨x⟩ ⟨hx, hok⟩
  have e : 0 + ((x : Nat) : Int).toNat = x := by omega
  dsimp only at hx hok ⊢
  rw [e]
  refine same_both n m g g' b b' x hx hnm hok hn fun h1 h2 => ⟨⟨x + 1⟩, ⟨⟨h1, fun i hi => ?_⟩, less x n h1⟩, ?_⟩
  · by_cases ei : i = x
    · rw [ei]; exact h2
    · exact hok i (by have : i < x + 1 := hi; omega)
  · repeat' first | exact trivial | exact vi_succ (by omega) | exact rfl | (intro _ _ _ _; rfl) | refine ⟨?_, ?_⟩
noncomputable def gSame (q : Nat → Nat → Value) (n : Nat) (r : Nat → Nat → Value) (m : Nat) : List AV → Option (Bool × AV)
  | [] => some (isPk n q && (isPk m r && decide (n ≤ 1000000)), bv (samF (pk (asG q) (asB q)) (pk (asG r) (asB r)) n m))
  | _ => none
theorem eSame : EntryOK Try.prog 13 (row2 6 6 gSame) := entry_row2 (ty := 33) (ty' := 33) (by kernel_rfl) fun q len r m rest v h => by
  unfold gSame at h
  split at h
  · simp only [Option.some.injEq, Prod.mk.injEq, Bool.and_eq_true, decide_eq_true_eq] at h
    obtain ⟨⟨h1, h2, h3⟩, rfl⟩ := h
    exact ⟨rfl, rfl, pk (asG q) (asB q), pk (asG r) (asB r), of_isPk h1, of_isPk h2, CS len m, SS _ _, rfl, 100, same_is len m _ _ _ _ h3⟩
  · cases h
theorem eLSame : EntryOK Try.prog 22 (row2 6 6 gSame) := entry_row2 (ty := 33) (ty' := 33) (by kernel_rfl) fun q len r m rest v h => by
  unfold gSame at h
  split at h
  · simp only [Option.some.injEq, Prod.mk.injEq, Bool.and_eq_true, decide_eq_true_eq] at h
    obtain ⟨⟨h1, h2, h3⟩, rfl⟩ := h
    exact ⟨rfl, rfl, pk (asG q) (asB q), pk (asG r) (asB r), of_isPk h1, of_isPk h2, CS len m, SS _ _, rfl, 100, lsame_is len m _ _ _ _ h3⟩
  · cases h

/-! works -/
noncomputable def M4 : List (Nat × MEntry) := [(11, rowM 6 gFind), (12, rowM 6 gFind)]
theorem M4_ok : ∀ k e, (k, e) ∈ M4 → MEntryOK Try.prog k e := mentries_cons eFind (mentries_cons eRFind mentries_nil)
def inlW : List Nat := [11, 27, 38, 39, 40, 14, 30, 31, 42, 32, 24, 22]
theorem inlW_ok : allN (entersB Try.prog) inlW = true := by kernel_rfl
theorem steady_ev (K : AV → Prop) : (afn C3 100 23 [] [] 0 (fun v _ _ => K v)) = (
      K (AV.agg [AV.val (Value.int IntKind.i64 8000000), AV.val (Value.int IntKind.i64 1), AV.val (Value.int IntKind.i64 800), AV.val (Value.int IntKind.i64 0), AV.val (Value.int IntKind.i64 0)])) := by
  kernel_rfl
def gSteady : List AV → Option AV
  | [] => some (rv 8000000 1 800 0 0)
  | _ => none
theorem steady_is : ∃ C, Sound C ∧ C.P = Try.prog ∧ ∃ n, afn C n 23 [] [] 0 (fun v _ _ => v = rv 8000000 1 800 0 0) := ⟨C3, S3, rfl, 100, by
  rw [steady_ev (fun v => v = rv 8000000 1 800 0 0)]⟩
theorem eSteady : EntryOK Try.prog 23 (plain gSteady) := entry_of (by kernel_rfl) fun args v h => by
  unfold gSteady at h
  split at h
  · cases h; exact ⟨rfl, rfl, steady_is⟩
  · cases h
noncomputable def T5 : List (Nat × Entry) := (37, gDue) :: (23, plain gSteady) :: T3
theorem T5_ok : ∀ k e, (k, e) ∈ T5 → EntryOK Try.prog k e := entries_cons eDue1 (entries_cons eSteady T3_ok)
noncomputable def CW : Cfg := ⟨Try.prog, mkM T5 [] M4, fun f => hasN inlW f, fun _ _ => none⟩
theorem SW : Sound CW := ⟨tabM_of T5_ok oentries_nil M4_ok, fun f h => entersB_ok (allN_ok inlW_ok f h), mixed⟩
theorem works_ev (K : AV → Prop) : (afn CW 100 16 [] [] 0 (fun v _ _ => K v)) = (
      ifb (true && isPk 2 fun (i j : Nat) => [Value.int IntKind.i64 2, Value.int IntKind.i64 100, Value.int IntKind.i64 9, Value.bool false, Value.bool false, Value.bool false, Value.int IntKind.i64 1, Value.int IntKind.i64 0, Value.int IntKind.i64 9, Value.bool false, Value.bool false, Value.bool false][i * 6 + j]?.getD undef)
  (ifb (feF (asG fun (i j : Nat) => [Value.int IntKind.i64 2, Value.int IntKind.i64 100, Value.int IntKind.i64 9, Value.bool false, Value.bool false, Value.bool false, Value.int IntKind.i64 1, Value.int IntKind.i64 0, Value.int IntKind.i64 9, Value.bool false, Value.bool false, Value.bool false][i * 6 + j]?.getD undef) 2 5 0 8000000 1 800 0 0 == 2) (K (AV.val (Value.bool true))) (K (AV.val (Value.bool false)))) False) := by
  kernel_rfl

end Go.Proofs.Ytmaddijeiniliaa.Ls
