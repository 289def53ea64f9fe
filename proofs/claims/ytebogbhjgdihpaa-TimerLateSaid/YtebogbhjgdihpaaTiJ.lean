/-
  TiJ: TimerFirst, TimerArmed.
-/
import Derived.Test.YtebogbhjgdihpaaTiI2
namespace Go.Proofs.Ytebogbhjgdihpaa.Pto
open Go Go.RowKit Go.Proofs.Ytebogbhjgdihpaa.Sy
set_option linter.unusedVariables false
set_option linter.unusedSimpArgs false
set_option maxRecDepth 100000
set_option maxHeartbeats 400000

theorem spM_bits (x : Rw) : (bt x.b 2 = true → 0 ≤ (spM x).l) ∧ (bt x.b 2 = false → (spM x).l = -1) ∧ (bt x.b 4 = true → 0 < (spM x).m) ∧ (bt x.b 4 = false → (spM x).m = 0) := by
  have h1 := brF_lo x.l (b := 1125899906842624) (by omega)
  have h3 := brF_lo x.m (b := 256) (by omega)
  unfold spM
  refine ⟨fun h => ?_, fun h => ?_, fun h => ?_, fun h => ?_⟩ <;> dsimp only <;> rw [h]
  · exact h1.1
  · rfl
  · show 0 < 1 + brF x.m 256
    omega
  · rfl
theorem u1 : bt 1 1 = true ∧ bt 1 2 = false ∧ bt 1 4 = false := ⟨by kernel_rfl, by kernel_rfl, by kernel_rfl⟩
theorem beq_yes {a b : Int} (h : a = b) : (a == b) = true := by rw [h]; simp

theorem first_law (x : Rw) (n : Int) : ((bits BinOp.and IntKind.i64 (brF x.b 8) 6 == 0) = true → (pickF (madeF x x x 1 n) mz).k = 0 ∨ (pickF (madeF x x x 1 n) mz).s = 1) ∧
    ((bits BinOp.and IntKind.i64 (brF x.b 8) 6 == 0) = false → 0 < (pickF (madeF x x x 1 n) mz).k ∧ (pickF (madeF x x x 1 n) mz).s = 0) := by
  have hF := made_ok x x x 1 n
  have P := hok_of hF ck_mz
  have hb := bt_tab x.b
  have hs := spM_bits x
  have hlo := lo_spec hF
  have hpb := pb_spec hF wt0 wt1 wt2 (by decide) (by decide) (by decide)
  have ex : (madeF x x x 1 n).x = spM x := rfl
  have ey : (madeF x x x 1 n).y = spM x := rfl
  have ez : (madeF x x x 1 n).z = spM x := rfl
  have ed : (madeF x x x 1 n).d = false := u1.2.1
  have ep : (madeF x x x 1 n).p = false := u1.2.2
  have ec : (madeF x x x 1 n).c = true := u1.1
  generalize madeF x x x 1 n = F at *
  rw [ex, ey, ez] at hlo hpb
  constructor
  · intro h6
    have h2 : (spM x).l = -1 ∧ (spM x).m = 0 := by
      rcases hb with ⟨a, b, c, _⟩ | ⟨a, b, c, _⟩ | ⟨a, b, c, _⟩ | ⟨a, b, c, _⟩
      · exact ⟨hs.2.1 a, hs.2.2.2 b⟩
      all_goals (rw [c] at h6; cases h6)
    have hl3 : lo3 F = d0 := by
      rcases hlo with h | ⟨h, s, _, h3, _⟩
      · exact h.2
      · exfalso; omega
    have hp3 : pb3 F mz = d0 := by
      rcases hpb with h | ⟨h, s, t, _, _, h3, _⟩
      · exact h.2
      · exfalso; omega
    have e := pick_ls (r := mz) P (by rw [hl3]; rfl) ed (by rw [hp3]; rfl)
    rw [e]
    unfold lsTF
    rw [if_neg (by rw [ex, ey, ez, ep]; simp; omega), ex, ey]
    by_cases hk : (spM x).k = true
    · rw [if_pos hk]; exact .inr rfl
    · rw [if_neg hk, if_neg hk]; exact .inl rfl
  · intro h6
    have h2 : 0 ≤ (spM x).l ∨ ((spM x).l = -1 ∧ 0 < (spM x).m) := by
      rcases hb with ⟨a, b, c, _⟩ | ⟨a, b, c, _⟩ | ⟨a, b, c, _⟩ | ⟨a, b, c, _⟩
      · rw [c] at h6; cases h6
      · exact .inl (hs.1 a)
      · exact .inr ⟨hs.2.1 a, hs.2.2.1 b⟩
      · exact .inl (hs.1 a)
    rcases hlo with ⟨h, hl3⟩ | ⟨h, s, hl3, h3, h4⟩
    · have hl : (lo3 F).t = -1 := by rw [hl3]; rfl
      rcases hpb with ⟨h5, hp3⟩ | ⟨h5, s, t, hp3, h6, h7, h8, h9, h10, h11, h12⟩
      · -- something is under way
        exfalso
        have h7 := h5
        unfold ar3 ar2 ar1 at h7
        simp only [Bool.or_eq_false_iff, decide_eq_false_iff_not, ex] at h7
        have h8 : (spM x).l = -1 := by
          unfold la3 la2 la1 laF at h
          rw [ex, ey, ez] at h
          rcases h2 with h2 | h2
          · repeat' first | omega | split at h
          · exact h2.1
        omega
      · have h13 : s = 0 := by omega
        subst h13
        rw [pick_pb (r := mz) P hl ed (by rw [hp3]; dsimp only; omega), hp3]
        exact ⟨(by show (0 : Int) < 2; decide), rfl⟩
    · have h13 : s = 0 := by omega
      subst h13
      rw [pick_lo (r := mz) P (.inl (by rw [hl3]; dsimp only; omega)), hl3]
      exact ⟨(by show (0 : Int) < 1; decide), rfl⟩
theorem first_is (b l t m n : Int) : ∃ C, Sound C ∧ C.P = Try.prog ∧ afn C 100 3 [.agg [iv b, iv l, iv t, iv m], iv n] [] 0 (fun v _ _ => v = bv true) := ⟨C7 (madeF ⟨b, l, t, m⟩ ⟨b, l, t, m⟩ ⟨b, l, t, m⟩ 1 n), S7 _, rfl, by
  have h := first_law ⟨b, l, t, m⟩ n
  have := first_ev (madeF ⟨b, l, t, m⟩ ⟨b, l, t, m⟩ ⟨b, l, t, m⟩ 1 n) ⟨b, l, t, m⟩ n (fun v => v = bv true)
  refine this.mpr ?_
  clear this
  refine ifb_pos (decide_eq_true rfl) ?_
  refine ifb_of (fun h6 => ?_) fun h6 => ?_
  · rcases h.1 h6 with h7 | h7
    · exact ifb_pos (beq_yes h7) rfl
    · exact ifb_of (fun _ => rfl) fun _ => ifb_pos (beq_yes h7) rfl
  · have h7 := h.2 h6
    exact ifb_pos (decide_eq_true h7.1) (ifb_pos (beq_yes h7.2) rfl)⟩

end Go.Proofs.Ytebogbhjgdihpaa.Pto
