/-
  RtL: RttKnown: the closed statement, round by round.
-/
import Derived.Test.YtglbkijmmckkpaaRtK
namespace Go.Proofs.Ytglbkijmmckkpaa.Rt
open Go Go.RowKit Go.Proofs.Ytglbkijmmckkpaa.Sy Go.Proofs.Ytglbkijmmckkpaa.Cm
set_option linter.unusedVariables false
set_option linter.unusedSimpArgs false
set_option maxRecDepth 20000
set_option maxHeartbeats 1000000

theorem inR5 {i : Int} (h0 : 0 ≤ i) (h1 : i < 5) : decide (0 ≤ i ∧ i < 5) = true := decide_eq_true ⟨h0, h1⟩
theorem inN5 {i : Int} (h0 : 0 ≤ i) (h1 : i < 5) : decide (i.toNat < 5) = true := decide_eq_true (by omega)
theorem inR6 {i : Int} (h0 : 0 ≤ i) (h1 : i < 6) : decide (0 ≤ i ∧ i < 6) = true := decide_eq_true ⟨h0, h1⟩
theorem inN6 {i : Int} (h0 : 0 ≤ i) (h1 : i < 6) : decide (i.toNat < 6) = true := decide_eq_true (by omega)
theorem inR12 {i : Int} (h0 : 0 ≤ i) (h1 : i < 12) : decide (0 ≤ i ∧ i < 12) = true := decide_eq_true ⟨h0, h1⟩
theorem inN12 {i : Int} (h0 : 0 ≤ i) (h1 : i < 12) : decide (i.toNat < 12) = true := decide_eq_true (by omega)
theorem falls {n i : Int} (h0 : 0 ≤ i) (h1 : i < n) : (n - (i + 1)).toNat.succ.le (n - i).toNat := by
  show (n - (i + 1)).toNat + 1 ≤ (n - i).toNat
  omega
def z0 : Nat → Nat → Int := fun _ _ => 0
/-- The measures with one field of each at an end. -/
def qK (i k : Int) (a j : Nat) : Int := match decide (a = j + 1) with
  | true => endsL[k.toNat * 1 + 0]?.getD 0
  | false => goodL[i.toNat * 5 + j]?.getD 0
theorem known_is : ∃ C, Sound C ∧ C.P = Try.prog ∧ afn C 100 10 [] [] 0 (fun v _ _ => v = bv true) := ⟨CK, SK, rfl, by
  rw [known_ev (fun v => v = bv true)]
  refine ⟨fun x => 0 ≤ x.i ∧ x.i ≤ 5, ⟨⟨0, 0, 0, 0, z0⟩, by decide, ⟨rfl, ⟨rfl, rfl⟩, ⟨rfl, rfl⟩, rfl, trivial⟩, ⟨⟨rfl, rfl, rfl, fun _ _ _ _ => rfl⟩, ⟨rfl, rfl, rfl, fun _ _ _ _ => rfl⟩, trivial⟩, rfl⟩, fun x hx => ?_⟩
  refine ifb_of (fun h1 => ?_) fun _ => ?_
  · have h1 := of_decide_eq_true h1
    refine ⟨fun y => y.i = x.i ∧ 0 ≤ y.k ∧ y.k ≤ 12, ⟨⟨x.i, 0, 0, 0, z0⟩, ⟨rfl, by simp, by simp⟩, ⟨rfl, ⟨rfl, rfl⟩, ⟨rfl, rfl⟩, rfl, rfl, trivial⟩, ⟨⟨rfl, rfl, rfl, fun _ _ _ _ => rfl⟩, ⟨rfl, rfl, rfl, fun _ _ _ _ => rfl⟩, trivial⟩, rfl⟩, fun y hy => ?_⟩
    have hi0 : 0 ≤ y.i := by rw [hy.1]; exact hx.1
    have hi1 : y.i < 5 := by rw [hy.1]; exact h1
    refine ifb_of (fun h2 => ?_) fun h2 => ⟨⟨y.i + 1, 0, 0, 0, z0⟩, ⟨⟨show 0 ≤ y.i + 1 by omega, show y.i + 1 ≤ 5 by omega⟩, by rw [← hy.1]; exact falls hi0 hi1⟩, ⟨rfl, ⟨rfl, rfl⟩, ⟨rfl, rfl⟩, vi_eq (wr (by omega) (by omega)), trivial⟩, ⟨⟨rfl, rfl, rfl, fun _ _ _ _ => rfl⟩, ⟨rfl, rfl, rfl, fun _ _ _ _ => rfl⟩, trivial⟩, rfl⟩
    have h2 := of_decide_eq_true h2
    repeat' first
      | refine ifb_pos (inR5 hi0 hi1) ?_
      | refine ifb_pos (inN5 hi0 hi1) ?_
      | refine ifb_pos (inR12 hy.2.1 h2) ?_
      | refine ifb_pos (inN12 hy.2.1 h2) ?_
    refine ⟨fun z => z.i = x.i ∧ z.k = y.k ∧ 0 ≤ z.n ∧ z.n ≤ 6, ⟨⟨y.i, y.k, 0, 0, qK y.i y.k⟩, ⟨hy.1, rfl, by simp, by simp⟩, ⟨rfl, ⟨rfl, rfl⟩, ⟨rfl, rfl⟩, rfl, rfl, ⟨rfl, rfl⟩, rfl, trivial⟩, ⟨⟨rfl, rfl, rfl, fun a j ha hj => ?_⟩, ⟨rfl, rfl, rfl, fun _ _ _ _ => rfl⟩, ⟨rfl, rfl, rfl, fun _ _ _ _ => rfl⟩, trivial⟩, rfl⟩, fun z hz => ?_⟩
    · have ha : a < 6 := ha
      have hj : j < 5 := hj
      match a, ha, j, hj with
      | 0, _, 0, _ => rfl
      | 0, _, 1, _ => rfl
      | 0, _, 2, _ => rfl
      | 0, _, 3, _ => rfl
      | 0, _, 4, _ => rfl
      | 1, _, 0, _ => rfl
      | 1, _, 1, _ => rfl
      | 1, _, 2, _ => rfl
      | 1, _, 3, _ => rfl
      | 1, _, 4, _ => rfl
      | 2, _, 0, _ => rfl
      | 2, _, 1, _ => rfl
      | 2, _, 2, _ => rfl
      | 2, _, 3, _ => rfl
      | 2, _, 4, _ => rfl
      | 3, _, 0, _ => rfl
      | 3, _, 1, _ => rfl
      | 3, _, 2, _ => rfl
      | 3, _, 3, _ => rfl
      | 3, _, 4, _ => rfl
      | 4, _, 0, _ => rfl
      | 4, _, 1, _ => rfl
      | 4, _, 2, _ => rfl
      | 4, _, 3, _ => rfl
      | 4, _, 4, _ => rfl
      | 5, _, 0, _ => rfl
      | 5, _, 1, _ => rfl
      | 5, _, 2, _ => rfl
      | 5, _, 3, _ => rfl
      | 5, _, 4, _ => rfl
    have hzk0 : 0 ≤ z.k := by rw [hz.2.1]; exact hy.2.1
    have hzk1 : z.k < 12 := by rw [hz.2.1]; exact h2
    refine ifb_of (fun h3 => ?_) fun h3 => ⟨⟨z.i, z.k + 1, 0, 0, z0⟩, ⟨⟨hz.1, show 0 ≤ z.k + 1 by omega, show z.k + 1 ≤ 12 by omega⟩, by rw [← hz.2.1]; exact falls hzk0 hzk1⟩, ⟨rfl, ⟨rfl, rfl⟩, ⟨rfl, rfl⟩, rfl, vi_eq (wr (by omega) (by omega)), trivial⟩, ⟨⟨rfl, rfl, rfl, fun _ _ _ _ => rfl⟩, ⟨rfl, rfl, rfl, fun _ _ _ _ => rfl⟩, trivial⟩, rfl⟩
    have h3 := of_decide_eq_true h3
    refine ⟨fun u => u.i = x.i ∧ u.k = y.k ∧ u.n = z.n ∧ 0 ≤ u.m ∧ u.m ≤ 12, ⟨⟨z.i, z.k, z.n, 0, z.q⟩, ⟨hz.1, hz.2.1, rfl, by simp, by simp⟩, ⟨rfl, ⟨rfl, rfl⟩, ⟨rfl, rfl⟩, rfl, rfl, ⟨rfl, rfl⟩, rfl, rfl, trivial⟩, ⟨⟨rfl, rfl, rfl, fun _ _ _ _ => rfl⟩, ⟨rfl, rfl, rfl, fun _ _ _ _ => rfl⟩, ⟨rfl, rfl, rfl, fun _ _ _ _ => rfl⟩, trivial⟩, rfl⟩, fun u hu => ?_⟩
    have hun0 : 0 ≤ u.n := by rw [hu.2.2.1]; exact hz.2.2.1
    have hun1 : u.n < 6 := by rw [hu.2.2.1]; exact h3
    have huk0 : 0 ≤ u.k := by rw [hu.2.1]; exact hy.2.1
    have huk1 : u.k < 12 := by rw [hu.2.1]; exact h2
    refine ifb_of (fun h4 => ?_) fun h4 => ⟨⟨u.i, u.k, u.n + 1, 0, u.q⟩, ⟨⟨hu.1, hu.2.1, show 0 ≤ u.n + 1 by omega, show u.n + 1 ≤ 6 by omega⟩, by rw [← hu.2.2.1]; exact falls hun0 hun1⟩, ⟨rfl, ⟨rfl, rfl⟩, ⟨rfl, rfl⟩, rfl, rfl, ⟨rfl, rfl⟩, vi_eq (wr (by omega) (by omega)), trivial⟩, ⟨⟨rfl, rfl, rfl, fun _ _ _ _ => rfl⟩, ⟨rfl, rfl, rfl, fun _ _ _ _ => rfl⟩, ⟨rfl, rfl, rfl, fun _ _ _ _ => rfl⟩, trivial⟩, rfl⟩
    have h4 := of_decide_eq_true h4
    repeat' first
      | refine ifb_pos (inR6 hun0 hun1) ?_
      | refine ifb_pos (inN6 hun0 hun1) ?_
      | refine ifb_pos (inR12 huk0 huk1) ?_
      | refine ifb_pos (inN12 huk0 huk1) ?_
      | refine ifb_pos (inR12 hu.2.2.2.1 h4) ?_
      | refine ifb_pos (inN12 hu.2.2.2.1 h4) ?_
    exact ⟨⟨u.i, u.k, u.n, u.m + 1, u.q⟩, ⟨⟨hu.1, hu.2.1, hu.2.2.1, show 0 ≤ u.m + 1 by omega, show u.m + 1 ≤ 12 by omega⟩, falls hu.2.2.2.1 h4⟩, ⟨rfl, ⟨rfl, rfl⟩, ⟨rfl, rfl⟩, rfl, rfl, ⟨rfl, rfl⟩, rfl, vi_eq (wr (by omega) (by omega)), trivial⟩, ⟨⟨rfl, rfl, rfl, fun _ _ _ _ => rfl⟩, ⟨rfl, rfl, rfl, fun _ _ _ _ => rfl⟩, ⟨rfl, rfl, rfl, fun _ _ _ _ => rfl⟩, trivial⟩, rfl⟩
  · refine ⟨fun x => 0 ≤ x.i ∧ x.i ≤ 12, ⟨⟨0, 0, 0, 0, z0⟩, by decide, ⟨rfl, ⟨rfl, rfl⟩, ⟨rfl, rfl⟩, rfl, trivial⟩, ⟨⟨rfl, rfl, rfl, fun _ _ _ _ => rfl⟩, ⟨rfl, rfl, rfl, fun _ _ _ _ => rfl⟩, trivial⟩, rfl⟩, fun x hx => ?_⟩
    refine ifb_of (fun h1 => ?_) fun _ => rfl
    have h1 := of_decide_eq_true h1
    refine ⟨fun y => y.i = x.i ∧ 0 ≤ y.k ∧ y.k ≤ 12, ⟨⟨x.i, 0, 0, 0, z0⟩, ⟨rfl, by simp, by simp⟩, ⟨rfl, ⟨rfl, rfl⟩, ⟨rfl, rfl⟩, rfl, rfl, trivial⟩, ⟨⟨rfl, rfl, rfl, fun _ _ _ _ => rfl⟩, ⟨rfl, rfl, rfl, fun _ _ _ _ => rfl⟩, trivial⟩, rfl⟩, fun y hy => ?_⟩
    have hi0 : 0 ≤ y.i := by rw [hy.1]; exact hx.1
    have hi1 : y.i < 12 := by rw [hy.1]; exact h1
    refine ifb_of (fun h2 => ?_) fun h2 => ⟨⟨y.i + 1, 0, 0, 0, z0⟩, ⟨⟨show 0 ≤ y.i + 1 by omega, show y.i + 1 ≤ 12 by omega⟩, by rw [← hy.1]; exact falls hi0 hi1⟩, ⟨rfl, ⟨rfl, rfl⟩, ⟨rfl, rfl⟩, vi_eq (wr (by omega) (by omega)), trivial⟩, ⟨⟨rfl, rfl, rfl, fun _ _ _ _ => rfl⟩, ⟨rfl, rfl, rfl, fun _ _ _ _ => rfl⟩, trivial⟩, rfl⟩
    have h2 := of_decide_eq_true h2
    repeat' first
      | refine ifb_pos (inR12 hi0 hi1) ?_
      | refine ifb_pos (inN12 hi0 hi1) ?_
      | refine ifb_pos (inR12 hy.2.1 h2) ?_
      | refine ifb_pos (inN12 hy.2.1 h2) ?_
    exact ⟨⟨y.i, y.k + 1, 0, 0, z0⟩, ⟨⟨hy.1, show 0 ≤ y.k + 1 by omega, show y.k + 1 ≤ 12 by omega⟩, falls hy.2.1 h2⟩, ⟨rfl, ⟨rfl, rfl⟩, ⟨rfl, rfl⟩, rfl, vi_eq (wr (by omega) (by omega)), trivial⟩, ⟨⟨rfl, rfl, rfl, fun _ _ _ _ => rfl⟩, ⟨rfl, rfl, rfl, fun _ _ _ _ => rfl⟩, trivial⟩, rfl⟩⟩

end Go.Proofs.Ytglbkijmmckkpaa.Rt
