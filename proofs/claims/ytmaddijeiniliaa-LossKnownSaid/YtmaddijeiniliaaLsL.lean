/-
  LsL: what Find tells of packets that were made; LossParts.
-/
import Derived.Test.YtmaddijeiniliaaLsK
namespace Go.Proofs.Ytmaddijeiniliaa.Ls
open Go Go.RowKit Go.Proofs.Ytmaddijeiniliaa.Sy Go.Proofs.Ytmaddijeiniliaa.Cm
set_option linter.unusedVariables false
set_option linter.unusedSimpArgs false
set_option maxRecDepth 100000
set_option maxHeartbeats 1000000
attribute [local irreducible] afn

theorem asG_pk' (g : Nat → Nat → Int) (b : Nat → Nat → Bool) : ∀ i j, j < 3 → asG (pk g b) i j = g i j := by
  intro i j hj
  match j, hj with
  | 0, _ => rfl
  | 1, _ => rfl
  | 2, _ => rfl
theorem lostP_congr {g g' : Nat → Nat → Int} (h : ∀ i j, j < 3 → g i j = g' i j) (k n w : Int) : lostP g k n w = lostP g' k n w := by
  funext i
  unfold lostP
  rw [h i 0 (by omega), h i 1 (by omega)]
theorem lsL_congr {g g' : Nat → Nat → Int} (h : ∀ i j, j < 3 → g i j = g' i j) (k n w : Int) (m : Nat) : lsL g k n w m = lsL g' k n w m ∧ rsL g k n w m = rsL g' k n w m := by
  unfold lsL rsL
  rw [lostP_congr h]
  exact ⟨rfl, rfl⟩
theorem atF_congr {g g' : Nat → Nat → Int} (h : ∀ i j, j < 3 → g i j = g' i j) (k n w : Int) (m : Nat) : atF g k n w m = atF g' k n w m := by
  induction m with
  | zero => rfl
  | succ m ih =>
    unfold atF
    rw [lostP_congr h, ih, h m 0 (by omega), h m 1 (by omega)]
theorem subQ_as (g : Nat → Nat → Int) (b : Nat → Nat → Bool) (l : List Nat) : subQ (asG (pk g b)) (asB (pk g b)) l = pk (fun i => g (ix l i)) (fun i => b (ix l i)) := by
  funext i j
  match j with
  | 0 => rfl
  | 1 => rfl
  | 2 => rfl
  | 3 => rfl
  | 4 => rfl
  | j + 5 => rfl
/-- Of packets that may be, in the range, Find answers; so. -/
theorem find_ok {g : Nat → Nat → Int} (b : Nat → Nat → Bool) {N : Nat} {k n r1 r2 r3 r4 r5 : Int} (hg : okL g N) (hk : -1 ≤ k ∧ k ≤ 9007199254740991) (hn : 0 ≤ n ∧ n ≤ 9007199254740991) (hr : ckF r1 r2 r3 r4 r5 = 0) :
    fdOK (lsL g k n (wtF r1 r2 r3 r4 r5) N).length (rsL g k n (wtF r1 r2 r3 r4 r5) N).length (pk (fun i => g (ix (lsL g k n (wtF r1 r2 r3 r4 r5) N) i)) (fun i => b (ix (lsL g k n (wtF r1 r2 r3 r4 r5) N) i))) (pk (fun i => g (ix (rsL g k n (wtF r1 r2 r3 r4 r5) N) i)) (fun i => b (ix (rsL g k n (wtF r1 r2 r3 r4 r5) N) i)))
      (atF g k n (wtF r1 r2 r3 r4 r5) N) 0 (pk g b) N k n r1 r2 r3 r4 r5 = true := by
  refine fdOK_yes ?_
  have h1 : chF (asG (pk g b)) N = 0 := by rw [chF_congr (asG_pk' g b), chF_yes hg]
  have hE : feF (asG (pk g b)) N k n r1 r2 r3 r4 r5 = 0 := by
    unfold feF
    have h4 : isN n = true := decide_eq_true hn
    rw [if_neg (by rw [h1]; simp), if_neg (by rw [h4]; simp; omega), hr]
  have hp : isPk N (pk g b) = true := isPk_pk N g b
  show some (isPk N (pk g b), _) = _
  rw [hp, hE, if_pos rfl, if_pos rfl, if_pos rfl, subQ_as, subQ_as, (lsL_congr (asG_pk' g b) k n _ N).1, (lsL_congr (asG_pk' g b) k n _ N).2, atF_congr (asG_pk' g b)]

section
variable {g : Nat → Nat → Int} {k n w : Int}
theorem ls_sum (m : Nat) : (lsL g k n w m).length + (rsL g k n w m).length = m := by
  induction m with
  | zero => rfl
  | succ m ih =>
    cases h : lostP g k n w m
    · rw [(ls_no h).1, (ls_no h).2]
      simp
      omega
    · rw [(ls_yes h).1, (ls_yes h).2]
      simp
      omega
theorem ls_at {m N : Nat} (h : lostP g k n w m = true) (hm : m < N) : (lsL g k n w m).length < (lsL g k n w N).length ∧ ix (lsL g k n w N) (lsL g k n w m).length = m := by
  induction N with
  | zero => omega
  | succ N ih =>
    by_cases e : m = N
    · subst e
      rw [(ls_yes h).1]
      exact ⟨by simp, ix_app_end⟩
    · obtain ⟨h1, h2⟩ := ih (by omega)
      cases hN : lostP g k n w N
      · rw [(ls_no hN).1]
        exact ⟨h1, h2⟩
      · rw [(ls_yes hN).1]
        exact ⟨by simp; omega, by rw [ix_app_lt h1]; exact h2⟩
theorem rs_at {m N : Nat} (h : lostP g k n w m = false) (hm : m < N) : (rsL g k n w m).length < (rsL g k n w N).length ∧ ix (rsL g k n w N) (rsL g k n w m).length = m := by
  induction N with
  | zero => omega
  | succ N ih =>
    by_cases e : m = N
    · subst e
      rw [(ls_no h).2]
      exact ⟨by simp, ix_app_end⟩
    · obtain ⟨h1, h2⟩ := ih (by omega)
      cases hN : lostP g k n w N
      · rw [(ls_no hN).2]
        exact ⟨by simp; omega, by rw [ix_app_lt h1]; exact h2⟩
      · rw [(ls_yes hN).2]
        exact ⟨h1, h2⟩
end

theorem pG_ok (h : Nat → Nat → Int) (len : Nat) : okL (pG h) (min len 60) := by
  refine ⟨by omega, fun i hi => ?_⟩
  have hl : lastF (pG h) i = numF h i := by
    cases i with
    | zero => rfl
    | succ i => rfl
  have h1 := numF_lo h (i + 1)
  have h2 := brF_lo (h i 0) (b := 4) (by omega)
  have h3 := brF_lo (h i 1) (b := 1125899906842624) (by omega)
  have h4 := brF_lo (h i 2) (b := 65535) (by omega)
  have e : numF h (i + 1) = numF h i + 1 + brF (h i 0) 4 := rfl
  unfold okP
  rw [hl]
  show numF h i < numF h (i + 1) ∧ numF h (i + 1) ≤ _ ∧ (0 ≤ brF (h i 1) 1125899906842624 ∧ brF (h i 1) 1125899906842624 ≤ _) ∧ 1 ≤ 1 + brF (h i 2) 65535 ∧ 1 + brF (h i 2) 65535 ≤ 65535
  omega
/-- The law's measure. -/
theorem mea_ok (m0 m1 : Int) : ckF (brF m0 1099511627776) (min (brF m0 1099511627776) (brF m1 1099511627776)) (brF m1 1099511627776) (brF m0 1099511627776 / 2) 0 = 0 ∧
    wtF (brF m0 1099511627776) (min (brF m0 1099511627776) (brF m1 1099511627776)) (brF m1 1099511627776) (brF m0 1099511627776 / 2) 0 = max 1000000 (9 * max (brF m1 1099511627776) (brF m0 1099511627776) / 8) := by
  have h0 := brF_lo m0 (b := 1099511627776) (by omega)
  have h1 := brF_lo m1 (b := 1099511627776) (by omega)
  have hc : ckF (brF m0 1099511627776) (min (brF m0 1099511627776) (brF m1 1099511627776)) (brF m1 1099511627776) (brF m0 1099511627776 / 2) 0 = 0 := ckF_yes (by unfold ckP ckO; omega)
  refine ⟨hc, ?_⟩
  unfold wtF
  rw [if_pos hc]
  omega

theorem parts_is (h : Nat → Nat → Int) (len : Nat) (x0 x1 m0 m1 : Int) : ∃ C, Sound C ∧ C.P = Try.prog ∧ afn C 100 5 [.view 0 3 0 len, .agg [iv x0, iv x1], .agg [iv m0, iv m1]] [(0, some (.row 61 3 len fun i j => .int .i64 (h i j)))] 1 (fun v _ _ => v = bv true) := by
  have hx0 := brF_lo x0 (b := 260) (by omega)
  have hx1 := brF_lo x1 (b := 2251799813685248) (by omega)
  obtain ⟨hck, hwt⟩ := mea_ok m0 m1
  have hr1 := brF_lo m0 (b := 1099511627776) (by omega)
  have hr3 := brF_lo m1 (b := 1099511627776) (by omega)
  have hmo : meaOK (brF m0 1099511627776) (min (brF m0 1099511627776) (brF m1 1099511627776)) (brF m1 1099511627776) (brF m0 1099511627776 / 2) m0 m1 = true := decide_eq_true ⟨rfl, rfl, rfl, rfl⟩
  have hg := pG_ok h len
  have hfd := find_ok (pB h) hg (k := brF x0 260 - 1) (n := brF x1 2251799813685248) (by omega) (by omega) hck
  have hpk := pkOK_yes h len
  rw [hwt] at hfd
  have hN60 : min len 60 ≤ 60 := by omega
  generalize hN : min len 60 = N at *
  generalize hr2 : min (brF m0 1099511627776) (brF m1 1099511627776) = r2 at *
  generalize hr4 : brF m0 1099511627776 / 2 = r4 at *
  generalize hw : max 1000000 (9 * max (brF m1 1099511627776) (brF m0 1099511627776) / 8) = w at *
  have hwr : IntKind.i64.wrap (brF x0 260 - 1) = brF x0 260 - 1 := wr (by omega) (by omega)
  generalize hK : brF x0 260 - 1 = k at *
  generalize hT : brF x1 2251799813685248 = n at *
  generalize hR1 : brF m0 1099511627776 = r1 at *
  generalize hR3 : brF m1 1099511627776 = r3 at *
  have hpG : ∀ i, 0 ≤ pG h i 0 ∧ pG h i 0 ≤ 4 * i + 3 ∧ 0 ≤ pG h i 1 ∧ pG h i 1 < 1125899906842624 := fun i => by
    have h1 := numF_lo h (i + 1)
    have h1' := numF_lo h i
    have h2 := brF_lo (h i 0) (b := 4) (by omega)
    have h3 := brF_lo (h i 1) (b := 1125899906842624) (by omega)
    have e : numF h (i + 1) = numF h i + 1 + brF (h i 0) 4 := rfl
    show 0 ≤ numF h (i + 1) ∧ numF h (i + 1) ≤ _ ∧ 0 ≤ brF (h i 1) 1125899906842624 ∧ brF (h i 1) 1125899906842624 < _
    omega
  generalize hGG : pG h = g at *
  generalize hBB : pB h = b at *
  refine ⟨_, SL ⟨N, g, b, r1, r2, r3, r4, (lsL g k n w N).length, (rsL g k n w N).length, fun i => g (ix (lsL g k n w N) i), fun i => b (ix (lsL g k n w N) i), fun i => g (ix (rsL g k n w N) i), fun i => b (ix (rsL g k n w N) i), atF g k n w N, 0⟩ k n (fun m => (lsL g k n w m).length) (fun m => (rsL g k n w m).length), rfl, (parts_ev _ k n _ _ h len x0 x1 m0 m1 (fun v => v = bv true)).mpr ?_⟩
  dsimp only
  simp only [Nat.zero_add]
  rw [hT, hK, hwr, hpk, hmo, hfd]
  have hsum := ls_sum (g := g) (k := k) (n := n) (w := w) N
  refine ifb_pos (by simp) (ifb_pos rfl (ifb_pos (by simp) (ifb_neg (by simp) (ifb_neg (by rw [wr (by omega) (by omega)]; simp; omega) ?_))))
  refine ⟨fun x => x.n ≤ N, ⟨⟨0⟩, Nat.zero_le _, ?_⟩, ?_⟩
  · repeat' first | exact trivial | exact rfl | (intro _ _ _ _; rfl) | (intro _ _ _ _; trivial) | refine ⟨?_, ?_⟩ | fail
  rintro ⟨m⟩ hm
  have hm : m ≤ N := hm
  have hpm := hpG m
  have em : ((m : Nat) : Int).toNat = m := by omega
  have ea : (((lsL g k n w m).length : Nat) : Int).toNat = (lsL g k n w m).length := by omega
  have eb : (((rsL g k n w m).length : Nat) : Int).toNat = (rsL g k n w m).length := by omega
  have hlen := ls_len (g := g) (k := k) (n := n) (w := w) m
  dsimp only
  rw [em, ea, eb]
  refine ifb_of (fun h1 => ?_) fun h1 => ?_
  · have h1 : (m : Int) < (N : Int) := of_decide_eq_true h1
    have v1 : IntKind.i64.wrap (9 * max r3 r1) = 9 * max r3 r1 := wr (by omega) (by omega)
    have v2 : IntKind.i64.wrap (9 * max r3 r1 - 7) = 9 * max r3 r1 - 7 := wr (by omega) (by omega)
    have v3 : IntKind.i64.wrap (n - g m 1) = n - g m 1 := wr (by omega) (by omega)
    have v4 : IntKind.i64.wrap (8 * (n - g m 1)) = 8 * (n - g m 1) := wr (by omega) (by omega)
    have v5 : IntKind.i64.wrap (k - g m 0) = k - g m 0 := wr (by omega) (by omega)
    have hvs := vi_succ (n := m) (by omega)
    have hle := less m N (by omega)
    have hmj : m + 1 ≤ N := by omega
    simp only [v1, v2, v3, v4, v5, ifb_ite, decide_eq_true_eq, Bool.not_eq_true', decide_eq_false_iff_not]
    cases hl : lostP g k n w m
    · have hnl : ¬ (g m 0 ≤ k ∧ (3 ≤ k - g m 0 ∨ g m 1 + w ≤ n)) := of_decide_eq_false hl
      obtain ⟨hr, hix⟩ := rs_at hl (show m < N by omega)
      rw [hix]
      have hcmp : (g m 0 == g m 0 && (g m 1 == g m 1 && (g m 2 == g m 2 && (b m 3 == b m 3 && (b m 4 == b m 4 && (b m 5 == b m 5 && true)))))) = true := by simp
      have s1 : Value.int IntKind.i64 ((lsL g k n w m).length : Int) = Value.int IntKind.i64 ((lsL g k n w (m + 1)).length : Int) := by rw [(ls_no hl).1]
      have s2 : Value.int IntKind.i64 (IntKind.i64.wrap (((rsL g k n w m).length : Int) + 1)) = Value.int IntKind.i64 ((rsL g k n w (m + 1)).length : Int) := by
        rw [(ls_no hl).2, List.length_append]
        exact vi_succ (by omega)
      repeat' first | rw [if_pos (by omega)] | rw [if_neg (by omega)] | rw [if_pos hcmp] | refine ite_in (fun _ => ?_) (fun _ => ?_) | fail
      all_goals first | (exfalso; omega) | skip
      all_goals refine ⟨⟨m + 1⟩, ⟨hmj, hle⟩, ?_⟩
      all_goals repeat' first | exact trivial | exact s1 | exact s2 | exact hvs | exact rfl | (intro _ _ _ _; rfl) | (intro _ _ _ _; trivial) | refine ⟨?_, ?_⟩ | fail
    · have hnl : g m 0 ≤ k ∧ (3 ≤ k - g m 0 ∨ g m 1 + w ≤ n) := of_decide_eq_true hl
      obtain ⟨hr, hix⟩ := ls_at hl (show m < N by omega)
      rw [hix]
      have hcmp : (g m 0 == g m 0 && (g m 1 == g m 1 && (g m 2 == g m 2 && (b m 3 == b m 3 && (b m 4 == b m 4 && (b m 5 == b m 5 && true)))))) = true := by simp
      have s1 : Value.int IntKind.i64 (IntKind.i64.wrap (((lsL g k n w m).length : Int) + 1)) = Value.int IntKind.i64 ((lsL g k n w (m + 1)).length : Int) := by
        rw [(ls_yes hl).1, List.length_append]
        exact vi_succ (by omega)
      have s2 : Value.int IntKind.i64 ((rsL g k n w m).length : Int) = Value.int IntKind.i64 ((rsL g k n w (m + 1)).length : Int) := by rw [(ls_yes hl).2]
      repeat' first | rw [if_pos (by omega)] | rw [if_neg (by omega)] | rw [if_pos hcmp] | refine ite_in (fun _ => ?_) (fun _ => ?_) | fail
      all_goals first | (exfalso; omega) | skip
      all_goals refine ⟨⟨m + 1⟩, ⟨hmj, hle⟩, ?_⟩
      all_goals repeat' first | exact trivial | exact s1 | exact s2 | exact hvs | exact rfl | (intro _ _ _ _; rfl) | (intro _ _ _ _; trivial) | refine ⟨?_, ?_⟩ | fail
  · have h1 : ¬ (m : Int) < (N : Int) := of_decide_eq_false h1
    have e : m = N := by omega
    subst e
    exact ifb_pos (by simp) (bv_eq (by simp))

end Go.Proofs.Ytmaddijeiniliaa.Ls
