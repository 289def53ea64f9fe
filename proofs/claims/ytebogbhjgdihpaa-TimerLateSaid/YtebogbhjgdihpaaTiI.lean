/-
  TiI: why the timer's laws hold: what is picked of facts that were made.
-/
import Derived.Test.YtebogbhjgdihpaaTiH
namespace Go.Proofs.Ytebogbhjgdihpaa.Pto
open Go Go.RowKit Go.Proofs.Ytebogbhjgdihpaa.Sy
set_option linter.unusedVariables false
set_option linter.unusedSimpArgs false
set_option maxRecDepth 100000
set_option maxHeartbeats 400000

def okS (s : Sp) : Prop := (s.l = -1 ∨ 0 ≤ s.l ∧ s.l < 1125899906842624) ∧ (s.t = -1 ∧ s.m = 0 ∨ 0 ≤ s.t ∧ s.t < 2251799813685248 ∧ 1 ≤ s.m ∧ s.m ≤ 256)
def okF (f : Fa) : Prop := okS f.x ∧ okS f.y ∧ okS f.z ∧ 0 ≤ f.n ∧ f.n < 2251799813685248
theorem spM_ok (x : Rw) : okS (spM x) := by
  have h1 := brF_lo x.l (b := 1125899906842624) (by omega)
  have h2 := brF_lo x.t (b := 1125899906842624) (by omega)
  have h3 := brF_lo x.m (b := 256) (by omega)
  unfold okS spM
  dsimp only
  constructor
  · split
    · exact .inr h1
    · exact .inl rfl
  · split
    · exact .inr ⟨h2.1, by omega, by omega, by omega⟩
    · exact .inl ⟨rfl, rfl⟩
theorem made_ok (x y z : Rw) (u n : Int) : okF (madeF x y z u n) := ⟨spM_ok x, spM_ok y, spM_ok z, (brF_lo n (b := 1125899906842624) (by omega)).1, Int.lt_trans (brF_lo n (b := 1125899906842624) (by omega)).2 (by decide)⟩
theorem bt_tab (b : Int) : (bt b 2 = false ∧ bt b 4 = false ∧ (bits BinOp.and IntKind.i64 (brF b 8) 6 == 0) = true ∧ brF b 8 < 2) ∨ (bt b 2 = true ∧ bt b 4 = false ∧ (bits BinOp.and IntKind.i64 (brF b 8) 6 == 0) = false ∧ brF b 8 < 4) ∨
    (bt b 2 = false ∧ bt b 4 = true ∧ (bits BinOp.and IntKind.i64 (brF b 8) 6 == 0) = false ∧ 4 ≤ brF b 8) ∨ (bt b 2 = true ∧ bt b 4 = true ∧ (bits BinOp.and IntKind.i64 (brF b 8) 6 == 0) = false ∧ 4 ≤ brF b 8) := by
  unfold bt
  have h := brF_lo b (b := 8) (by omega)
  generalize brF b 8 = B at *
  have hB : B = 0 ∨ B = 1 ∨ B = 2 ∨ B = 3 ∨ B = 4 ∨ B = 5 ∨ B = 6 ∨ B = 7 := by omega
  rcases hB with rfl | rfl | rfl | rfl | rfl | rfl | rfl | rfl
  · exact .inl ⟨by kernel_rfl, by kernel_rfl, by kernel_rfl, by decide⟩
  · exact .inl ⟨by kernel_rfl, by kernel_rfl, by kernel_rfl, by decide⟩
  · exact .inr (.inl ⟨by kernel_rfl, by kernel_rfl, by kernel_rfl, by decide⟩)
  · exact .inr (.inl ⟨by kernel_rfl, by kernel_rfl, by kernel_rfl, by decide⟩)
  · exact .inr (.inr (.inl ⟨by kernel_rfl, by kernel_rfl, by kernel_rfl, by decide⟩))
  · exact .inr (.inr (.inl ⟨by kernel_rfl, by kernel_rfl, by kernel_rfl, by decide⟩))
  · exact .inr (.inr (.inr ⟨by kernel_rfl, by kernel_rfl, by kernel_rfl, by decide⟩))
  · exact .inr (.inr (.inr ⟨by kernel_rfl, by kernel_rfl, by kernel_rfl, by decide⟩))
theorem may_ok {f : Fa} (h : okF f) : mayF f = true := by
  obtain ⟨hx, hy, hz, hn⟩ := h
  unfold okS at hx hy hz
  unfold mayF spF isT isN
  simp only [Bool.and_eq_true, decide_eq_true_eq]
  omega
theorem ck_mz : ckF mz.a mz.b mz.c mz.d mz.e = 0 := by kernel_rfl
theorem hok_of {f : Fa} {r : Me} (h : okF f) (hr : ckF r.a r.b r.c r.d r.e = 0) : ¬ (mayF f = false ∨ ckF r.a r.b r.c r.d r.e ≠ 0) := by
  rw [may_ok h, hr]
  simp
theorem due_add {t w : Int} (h0 : 0 ≤ t) (h1 : 0 ≤ w) (h2 : t + w ≤ 9007199254740991) : dueF t w = t + w := by
  unfold dueF
  rw [if_pos (by omega)]
  unfold tm
  omega
theorem wt0 : wtF mz 0 = 6400000 := by kernel_rfl
theorem wt1 : wtF mz 1 = 6400000 := by kernel_rfl
theorem wt2 : wtF mz 2 = 16400000 := by kernel_rfl

/-! what may be lost -/
theorem la_step {d : Dd} (s : Int) {l : Int} (hl : l = -1 ∨ 0 ≤ l ∧ l < 1125899906842624) (hd : d.t = -1 ∨ 0 ≤ d.t) : laF d.t l = (lsF d s l).t ∧ ((lsF d s l).t = -1 ∨ 0 ≤ (lsF d s l).t) := by
  unfold laF
  rcases ls_cases (d := d) s l rfl with ⟨h, e⟩ | ⟨h, e⟩
  · rw [e, if_pos (by omega)]
    exact ⟨rfl, .inr (by dsimp only; omega)⟩
  · rw [e, if_neg (by omega)]
    exact ⟨rfl, hd⟩
theorem lo_spec {f : Fa} (hf : okF f) : (la3 f = -1 ∧ lo3 f = d0) ∨ (0 ≤ la3 f ∧ ∃ s, lo3 f = ⟨1, s, la3 f⟩ ∧ (s = 0 ∧ f.x.l = la3 f ∨ s = 1 ∧ f.y.l = la3 f ∨ s = 2 ∧ f.z.l = la3 f) ∧ (s = 0 ∨ f.x.l = -1 ∨ la3 f < f.x.l)) := by
  obtain ⟨hx, hy, hz, hn⟩ := hf
  have h1 := la_step (d := d0) 0 hx.1 (.inl rfl)
  have e1 : la1 f = (lo1 f).t := h1.1
  have h2 := la_step (d := lo1 f) 1 hy.1 h1.2
  have e2 : la2 f = (lo2 f).t := by unfold la2; rw [e1]; exact h2.1
  have h3 := la_step (d := lo2 f) 2 hz.1 h2.2
  have e3 : la3 f = (lo3 f).t := by unfold la3; rw [e2]; exact h3.1
  have hx := hx.1
  have hy := hy.1
  have hz := hz.1
  rw [e3]
  rcases ls_cases (d' := ⟨0, 0, -1⟩) 0 f.x.l (rfl : d0 = _) with ⟨a1, p1⟩ | ⟨a1, p1⟩ <;>
  rcases ls_cases 1 f.y.l p1 with ⟨a2, p2⟩ | ⟨a2, p2⟩ <;>
  rcases ls_cases 2 f.z.l p2 with ⟨a3, p3⟩ | ⟨a3, p3⟩ <;>
  dsimp only at a1 a2 a3 <;>
  first | (exfalso; omega) | skip
  all_goals
    have p3 : lo3 f = _ := p3
    rw [p3]
    dsimp only
  all_goals first
    | exact .inl ⟨rfl, rfl⟩
    | exact .inr ⟨by omega, 0, rfl, .inl ⟨rfl, rfl⟩, .inl rfl⟩
    | exact .inr ⟨by omega, 1, rfl, .inr (.inl ⟨rfl, rfl⟩), by omega⟩
    | exact .inr ⟨by omega, 2, rfl, .inr (.inr ⟨rfl, rfl⟩), by omega⟩

/-! what is under way -/

end Go.Proofs.Ytebogbhjgdihpaa.Pto
