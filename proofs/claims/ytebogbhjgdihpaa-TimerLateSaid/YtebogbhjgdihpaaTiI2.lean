/-
  TiI2: what is under way, as told.
-/
import Derived.Test.YtebogbhjgdihpaaTiI
namespace Go.Proofs.Ytebogbhjgdihpaa.Pto
open Go Go.RowKit Go.Proofs.Ytebogbhjgdihpaa.Sy
set_option linter.unusedVariables false
set_option linter.unusedSimpArgs false
set_option maxRecDepth 100000
set_option maxHeartbeats 400000

theorem pr_clean {d d' : Dd} (s : Int) (ok : Bool) {p : Sp} {w v : Int} (hp : p.t = -1 ∧ p.m = 0 ∨ 0 ≤ p.t ∧ p.t < 2251799813685248 ∧ 1 ≤ p.m ∧ p.m ≤ 256) (hw : w = v) (hv : 0 ≤ v ∧ v ≤ 4503599627370496) (h : d = d') :
    ((p.m = 0 ∨ ok = false) ∧ prF d s ok p w = d') ∨ (0 < p.m ∧ ok = true ∧ 0 ≤ p.t ∧ (d'.t = -1 ∨ p.t + v < d'.t) ∧ prF d s ok p w = ⟨2, s, p.t + v⟩) ∨ (0 < p.m ∧ ok = true ∧ d'.t ≠ -1 ∧ d'.t ≤ p.t + v ∧ prF d s ok p w = d') := by
  subst hw
  have hd : 0 ≤ p.t → p.t < 2251799813685248 → dueF p.t w = p.t + w := fun h1 h2 => due_add h1 hv.1 (by omega)
  rcases pr_cases s ok p w h with ⟨h1, e⟩ | ⟨h1, h2, e⟩ | ⟨h1, h2, e⟩
  · refine .inl ⟨?_, e⟩
    cases ok
    · exact .inr rfl
    · simp only [and_true] at h1
      exact .inl (by omega)
  · rw [hd (by omega) (by omega)] at h2 e
    exact .inr (.inl ⟨by omega, h1.2.2, by omega, h2, e⟩)
  · rw [hd (by omega) (by omega)] at h2
    exact .inr (.inr ⟨by omega, h1.2.2, by omega, by omega, e⟩)
theorem pb_spec {f : Fa} (hf : okF f) {r : Me} {w0 w1 w2 : Int} (e0 : wtF r 0 = w0) (e1 : wtF r 1 = w1) (e2 : wtF r 2 = w2) (b0 : 0 ≤ w0 ∧ w0 ≤ 4503599627370496) (b1 : 0 ≤ w1 ∧ w1 ≤ 4503599627370496) (b2 : 0 ≤ w2 ∧ w2 ≤ 4503599627370496) :
    (ar3 f = false ∧ pb3 f r = d0) ∨ (ar3 f = true ∧ ∃ s t, pb3 f r = ⟨2, s, t⟩ ∧ 0 ≤ t ∧ (s = 0 ∧ 0 < f.x.m ∧ t = f.x.t + w0 ∨ s = 1 ∧ 0 < f.y.m ∧ t = f.y.t + w1 ∨ s = 2 ∧ 0 < f.z.m ∧ f.c = true ∧ t = f.z.t + w2) ∧
      (0 < f.x.m → t ≤ f.x.t + w0) ∧ (0 < f.y.m → t ≤ f.y.t + w1) ∧ (0 < f.z.m → f.c = true → t ≤ f.z.t + w2) ∧ (s = 1 → f.x.m = 0 ∨ t < f.x.t + w0) ∧ (s = 2 → (f.x.m = 0 ∨ t < f.x.t + w0) ∧ (f.y.m = 0 ∨ t < f.y.t + w1))) := by
  obtain ⟨hx, hy, hz, hn⟩ := hf
  have har : ar3 f = (decide (0 < f.x.m) || decide (0 < f.y.m) || (decide (0 < f.z.m) && f.c)) := rfl
  rcases pr_clean (d' := ⟨0, 0, -1⟩) 0 true hx.2 e0 b0 (rfl : d0 = _) with ⟨a1, p1⟩ | ⟨a1, o1, c1, q1, p1⟩ | ⟨a1, o1, q1, r1, p1⟩ <;>
  rcases pr_clean 1 true hy.2 e1 b1 p1 with ⟨a2, p2⟩ | ⟨a2, o2, c2, q2, p2⟩ | ⟨a2, o2, q2, r2, p2⟩ <;>
  rcases pr_clean 2 f.c hz.2 e2 b2 p2 with ⟨a3, p3⟩ | ⟨a3, o3, c3, q3, p3⟩ | ⟨a3, o3, q3, r3, p3⟩ <;>
  clear hx hy hz <;>
  (try dsimp only at q1) <;> (try dsimp only at q2) <;> (try dsimp only at q3) <;> (try dsimp only at r2) <;> (try dsimp only at r3) <;>
  first | (exfalso; omega) | skip
  all_goals have p3 : pb3 f r = _ := p3
  all_goals rw [p3, har]
  all_goals clear p1 p2 p3 har e0 e1 e2
  all_goals try simp only [reduceCtorEq, or_false] at a1
  all_goals try simp only [reduceCtorEq, or_false] at a2
  all_goals cases hc : f.c
  all_goals try rw [hc] at a3
  all_goals try rw [hc] at o3
  all_goals try simp only [reduceCtorEq, or_false, or_true] at a3
  all_goals try simp only [reduceCtorEq] at o3
  all_goals simp only [Bool.false_eq_true, and_false, and_true, false_and, false_implies, implies_true, true_implies, true_and, or_false, Bool.and_false, Bool.and_true, Bool.or_false]
  all_goals first
    | exact .inl ⟨by simp; omega, rfl⟩
    | exact .inr ⟨by simp; omega, 0, _, rfl, by omega, by omega, by omega, by omega, by omega, by omega, by omega⟩
    | exact .inr ⟨by simp; omega, 1, _, rfl, by omega, by omega, by omega, by omega, by omega, by omega, by omega⟩
    | exact .inr ⟨by simp; omega, 2, _, rfl, by omega, by omega, by omega, by omega, by omega, by omega, by omega⟩
    | exact .inr ⟨by simp; omega, 0, _, rfl, by omega, by omega, by omega, by omega, by omega, by omega⟩
    | exact .inr ⟨by simp; omega, 1, _, rfl, by omega, by omega, by omega, by omega, by omega, by omega⟩
    | exact .inr ⟨by simp; omega, 2, _, rfl, by omega, by omega, by omega, by omega, by omega, by omega⟩

end Go.Proofs.Ytebogbhjgdihpaa.Pto
