/-
  LsO: LossTimer.
-/
import Derived.Test.YtmaddijeiniliaaLsN
namespace Go.Proofs.Ytmaddijeiniliaa.Ls
open Go Go.RowKit Go.Proofs.Ytmaddijeiniliaa.Sy Go.Proofs.Ytmaddijeiniliaa.Cm
set_option linter.unusedVariables false
set_option linter.unusedSimpArgs false
set_option maxRecDepth 100000
set_option maxHeartbeats 1000000
attribute [local irreducible] afn

section
variable {g : Nat → Nat → Int} {k n w : Int}
theorem at_spec (N : Nat) (hlt : ∀ i, i < N → 0 ≤ g i 1 + w ∧ g i 1 + w ≤ 9007199254740991) :
    (atF g k n w N = -1 ∧ ∀ i, i < N → lostP g k n w i = false → ¬ g i 0 ≤ k) ∨
    (∃ i, i < N ∧ lostP g k n w i = false ∧ g i 0 ≤ k ∧ atF g k n w N = g i 1 + w ∧ ∀ j, j < N → lostP g k n w j = false → g j 0 ≤ k → atF g k n w N ≤ g j 1 + w) := by
  induction N with
  | zero => exact .inl ⟨rfl, fun i hi => absurd hi (Nat.not_lt_zero i)⟩
  | succ m ih =>
    have ih := ih fun i hi => hlt i (by omega)
    have hm := hlt m (by omega)
    have emin : min (g m 1 + w) 9007199254740991 = g m 1 + w := by omega
    unfold atF
    rw [emin]
    cases hl : lostP g k n w m
    · rw [if_neg (by simp)]
      by_cases hk : g m 0 ≤ k
      · rcases ih with ⟨ha, hno⟩ | ⟨i, hi, h1, h2, h3, h4⟩
        · rw [if_pos ⟨hk, .inl ha⟩]
          refine .inr ⟨m, by omega, hl, hk, rfl, fun j hj h5 h6 => ?_⟩
          by_cases e : j = m
          · subst e
            omega
          · exact absurd h6 (hno j (by omega) h5)
        · by_cases hlt2 : g m 1 + w < atF g k n w m
          · rw [if_pos ⟨hk, .inr hlt2⟩]
            refine .inr ⟨m, by omega, hl, hk, rfl, fun j hj h5 h6 => ?_⟩
            by_cases e : j = m
            · subst e
              omega
            · have := h4 j (by omega) h5 h6
              omega
          · have hi2 := hlt i (by omega)
            rw [if_neg (by omega)]
            refine .inr ⟨i, by omega, h1, h2, h3, fun j hj h5 h6 => ?_⟩
            by_cases e : j = m
            · subst e
              omega
            · exact h4 j (by omega) h5 h6
      · rw [if_neg (fun h => hk h.1)]
        rcases ih with ⟨ha, hno⟩ | ⟨i, hi, h1, h2, h3, h4⟩
        · refine .inl ⟨ha, fun j hj h5 => ?_⟩
          by_cases e : j = m
          · subst e
            exact hk
          · exact hno j (by omega) h5
        · refine .inr ⟨i, by omega, h1, h2, h3, fun j hj h5 h6 => ?_⟩
          by_cases e : j = m
          · subst e
            exact absurd h6 hk
          · exact h4 j (by omega) h5 h6
    · rw [if_pos rfl]
      rcases ih with ⟨ha, hno⟩ | ⟨i, hi, h1, h2, h3, h4⟩
      · refine .inl ⟨ha, fun j hj h5 => ?_⟩
        by_cases e : j = m
        · subst e
          rw [hl] at h5
          cases h5
        · exact hno j (by omega) h5
      · refine .inr ⟨i, by omega, h1, h2, h3, fun j hj h5 h6 => ?_⟩
        by_cases e : j = m
        · subst e
          rw [hl] at h5
          cases h5
        · exact h4 j (by omega) h5 h6
theorem ls_same {n' : Int} (N : Nat) (h : ∀ i, i < N → lostP g k n' w i = lostP g k n w i) : lsL g k n' w N = lsL g k n w N ∧ rsL g k n' w N = rsL g k n w N ∧ atF g k n' w N = atF g k n w N := by
  induction N with
  | zero => exact ⟨rfl, rfl, rfl⟩
  | succ m ih =>
    obtain ⟨h1, h2, h3⟩ := ih fun i hi => h i (by omega)
    have hm := h m (by omega)
    refine ⟨?_, ?_, ?_⟩
    · cases hl : lostP g k n w m
      · rw [(ls_no hl).1, (ls_no (hm.trans hl)).1, h1]
      · rw [(ls_yes hl).1, (ls_yes (hm.trans hl)).1, h1]
    · cases hl : lostP g k n w m
      · rw [(ls_no hl).2, (ls_no (hm.trans hl)).2, h2]
      · rw [(ls_yes hl).2, (ls_yes (hm.trans hl)).2, h2]
    · unfold atF
      rw [hm, h3]
theorem ls_more {n' : Int} (hn : n ≤ n') (N : Nat) : (lsL g k n w N).length ≤ (lsL g k n' w N).length ∧ ((∃ i, i < N ∧ lostP g k n w i = false ∧ lostP g k n' w i = true) → (lsL g k n w N).length < (lsL g k n' w N).length) := by
  induction N with
  | zero => exact ⟨Nat.le_refl _, fun ⟨i, hi, _⟩ => absurd hi (Nat.not_lt_zero i)⟩
  | succ m ih =>
    obtain ⟨h1, h2⟩ := ih
    cases hl : lostP g k n w m
    · cases hl' : lostP g k n' w m
      · rw [(ls_no hl).1, (ls_no hl').1]
        refine ⟨h1, fun ⟨i, hi, ha, hb⟩ => h2 ⟨i, ?_, ha, hb⟩⟩
        by_cases e : i = m
        · subst e
          rw [hl'] at hb
          cases hb
        · omega
      · rw [(ls_no hl).1, (ls_yes hl').1, List.length_append]
        exact ⟨by simp; omega, fun _ => by simp; omega⟩
    · have hl' : lostP g k n' w m = true := lost_mono (Int.le_refl k) hn hl
      rw [(ls_yes hl).1, (ls_yes hl').1, List.length_append, List.length_append]
      refine ⟨by simp; omega, fun ⟨i, hi, ha, hb⟩ => ?_⟩
      have := h2 ⟨i, (by
        by_cases e : i = m
        · subst e
          rw [hl] at ha
          cases ha
        · omega), ha, hb⟩
      simp
      omega
theorem rs_mem {N i : Nat} (h : i < (rsL g k n w N).length) : ix (rsL g k n w N) i < N ∧ lostP g k n w (ix (rsL g k n w N) i) = false := by
  have hm : (rsL g k n w N)[i] ∈ rsL g k n w N := List.getElem_mem h
  rw [ix_get h]
  generalize (rsL g k n w N)[i] = x at *
  unfold rsL at hm
  rw [List.mem_filter] at hm
  obtain ⟨a, b⟩ := hm
  rw [List.mem_range] at a
  exact ⟨a, by simpa using b⟩
end

theorem timer_is (h : Nat → Nat → Int) (len : Nat) (x0 x1 x2 m0 m1 : Int) : ∃ C, Sound C ∧ C.P = Try.prog ∧ afn C 100 7 [.view 0 3 0 len, .agg [iv x0, iv x1, iv x2], .agg [iv m0, iv m1]] [(0, some (.row 61 3 len fun i j => .int .i64 (h i j)))] 1 (fun v _ _ => v = bv true) := by
  have hx0 := brF_lo x0 (b := 260) (by omega)
  have hx1 := brF_lo x1 (b := 2251799813685248) (by omega)
  have hm0 := brF_lo m0 (b := 1099511627776) (by omega)
  have hm1 := brF_lo m1 (b := 1099511627776) (by omega)
  obtain ⟨hck, hwt⟩ := mea_ok m0 m1
  have hmo : meaOK (brF m0 1099511627776) (min (brF m0 1099511627776) (brF m1 1099511627776)) (brF m1 1099511627776) (brF m0 1099511627776 / 2) m0 m1 = true := decide_eq_true ⟨rfl, rfl, rfl, rfl⟩
  have hg := pG_ok h len
  have hfd : ∀ n : Int, 0 ≤ n → n ≤ 9007199254740991 → _ := fun n hn hn' => find_ok (pB h) hg (k := brF x0 260 - 1) (n := n) (by omega) ⟨hn, hn'⟩ hck
  have hpk := pkOK_yes h len
  rw [hwt] at hfd
  have hN60 : min len 60 ≤ 60 := by omega
  have hwr : IntKind.i64.wrap (brF x0 260 - 1) = brF x0 260 - 1 := wr (by omega) (by omega)
  have hw1 : max 1000000 (9 * max (brF m1 1099511627776) (brF m0 1099511627776) / 8) ≤ 1236950581248 := by omega
  have hw0 : 1000000 ≤ max 1000000 (9 * max (brF m1 1099511627776) (brF m0 1099511627776) / 8) := by omega
  generalize hw : max 1000000 (9 * max (brF m1 1099511627776) (brF m0 1099511627776) / 8) = w at *
  have hlt : ∀ i, i < min len 60 → 0 ≤ pG h i 1 + w ∧ pG h i 1 + w ≤ 9007199254740991 := fun i _ => by
    have h3 := brF_lo (h i 1) (b := 1125899906842624) (by omega)
    show 0 ≤ brF (h i 1) 1125899906842624 + w ∧ brF (h i 1) 1125899906842624 + w ≤ _
    omega
  refine ⟨_, SR ⟨min len 60, pG h, pB h, brF m0 1099511627776, min (brF m0 1099511627776) (brF m1 1099511627776), brF m1 1099511627776, brF m0 1099511627776 / 2, fun k n => (lsL (pG h) k n w (min len 60)).length, fun k n => (rsL (pG h) k n w (min len 60)).length, fun k n i => pG h (ix (lsL (pG h) k n w (min len 60)) i), fun k n i => pB h (ix (lsL (pG h) k n w (min len 60)) i), fun k n i => pG h (ix (rsL (pG h) k n w (min len 60)) i), fun k n i => pB h (ix (rsL (pG h) k n w (min len 60)) i), fun k n => atF (pG h) k n w (min len 60)⟩, rfl, (timer_ev _ h len x0 x1 x2 m0 m1 (fun v => v = bv true)).mpr ?_⟩
  dsimp only
  simp only [Nat.zero_add, hwr]
  rw [hpk, hmo, hfd _ hx1.1 (by omega)]
  generalize brF x0 260 - 1 = k at *
  generalize hn : brF x1 2251799813685248 = n at *
  generalize min len 60 = N at *
  generalize pG h = g at *
  have hrs := (ls_len (g := g) (k := k) (n := n) (w := w) N).2
  have hls := (ls_len (g := g) (k := k) (n := n) (w := w) N).1
  refine ifb_pos (by simp) (ifb_pos rfl (ifb_pos (by simp) ?_))
  rcases at_spec (k := k) (n := n) N hlt with ⟨ha, hno⟩ | ⟨i, hi, h1, h2, ha, hall⟩
  · refine ifb_pos (by rw [ha]; rfl) (ifb_of (fun _ => trivial) fun hR => ?_)
    have hR : ¬ ((rsL g k n w N).length : Int) = 0 := by simpa using hR
    have hR0 : 0 < (rsL g k n w N).length := by omega
    obtain ⟨ra, rb⟩ := rs_mem hR0
    have rc := hno _ ra rb
    exact ifb_pos (decide_eq_true (by omega)) (ifb_pos (decide_eq_true hR0) (ifb_pos (decide_eq_true (by omega)) trivial))
  · have hli := of_decide_eq_false h1
    have hti := hlt i hi
    have hna : n < g i 1 + w := by omega
    have e1 : IntKind.i64.wrap (atF g k n w N - n) = atF g k n w N - n := wr (by omega) (by omega)
    have hb := brF_lo x2 (b := atF g k n w N - n) (by omega)
    have e2 : IntKind.i64.wrap (n + brF x2 (atF g k n w N - n)) = n + brF x2 (atF g k n w N - n) := wr (by omega) (by omega)
    simp only [e1, e2]
    generalize brF x2 (atF g k n w N - n) = d at *
    have hsame : ∀ j, j < N → lostP g k (n + d) w j = lostP g k n w j := fun j hj => by
      cases hl : lostP g k n w j
      · have hlj := of_decide_eq_false hl
        refine decide_eq_false fun hc => ?_
        have := hall j hj hl hc.1
        omega
      · exact lost_mono (Int.le_refl k) (by omega) hl
    obtain ⟨q1, q2, q3⟩ := ls_same N hsame
    have hmore := (ls_more (g := g) (k := k) (w := w) (show n ≤ atF g k n w N by omega) N).2 ⟨i, hi, h1, by
      unfold lostP
      exact decide_eq_true ⟨h2, .inr (by omega)⟩⟩
    rw [hfd (n + d) (by omega) (by omega), hfd (atF g k n w N) (by omega) (by omega)]
    simp only [q1, q2, q3]
    refine ifb_neg (by simp; omega) (ifb_neg (decide_eq_false (by omega)) (ifb_neg (decide_eq_false (by omega)) (ifb_pos (by simp; omega) (ifb_pos (by simp) (ifb_pos (by simp) (ifb_pos (by simp [isPk_pk]; omega) (ifb_pos (samF_yes ⟨rfl, fun _ _ _ _ => rfl⟩) (ifb_pos (by simp) (ifb_pos (decide_eq_true (by omega)) ?_)))))))))
    rcases at_spec (k := k) (n := atF g k n w N) N hlt with ⟨hb', _⟩ | ⟨j, hj, h5, h6, hb', _⟩
    · exact ifb_pos (by rw [hb']; rfl) trivial
    · have hlj := of_decide_eq_false h5
      exact ifb_neg (by rw [hb']; have := hlt j hj; simp; omega) (ifb_pos (decide_eq_true (by omega)) trivial)

end Go.Proofs.Ytmaddijeiniliaa.Ls
