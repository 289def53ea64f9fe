/-
  TiD: Pick and its reference answer alike: the rounds.
-/
import Derived.Test.YtebogbhjgdihpaaTiC
namespace Go.Proofs.Ytebogbhjgdihpaa.Pto
open Go Go.RowKit Go.Proofs.Ytebogbhjgdihpaa.Sy
set_option linter.unusedVariables false
set_option linter.unusedSimpArgs false
set_option maxRecDepth 100000
set_option maxHeartbeats 4000000

theorem pick_bad {f : Fa} {r : Me} (h : mayF f = false ∨ ckF r.a r.b r.c r.d r.e ≠ 0) : pickF f r = d0 := if_pos h
theorem pick_lo {f : Fa} {r : Me} (h : ¬ (mayF f = false ∨ ckF r.a r.b r.c r.d r.e ≠ 0)) (h1 : (lo3 f).t ≠ -1 ∨ f.d = true) : pickF f r = lo3 f := by
  unfold pickF
  rw [if_neg h, if_pos h1]
theorem pick_pb {f : Fa} {r : Me} (h : ¬ (mayF f = false ∨ ckF r.a r.b r.c r.d r.e ≠ 0)) (h1 : (lo3 f).t = -1) (h2 : f.d = false) (h3 : (pb3 f r).t ≠ -1) : pickF f r = pb3 f r := by
  unfold pickF
  rw [if_neg h, if_neg (by rw [h1, h2]; simp), if_pos h3]
theorem pick_ls {f : Fa} {r : Me} (h : ¬ (mayF f = false ∨ ckF r.a r.b r.c r.d r.e ≠ 0)) (h1 : (lo3 f).t = -1) (h2 : f.d = false) (h3 : (pb3 f r).t = -1) : pickF f r = lsTF f r := by
  unfold pickF
  rw [if_neg h, if_neg (by rw [h1, h2]; simp), if_neg (by rw [h3]; simp)]
theorem dv_mk {d : Dd} {k s t : Int} (h : d = ⟨k, s, t⟩) : AV.agg [iv k, iv s, iv t] = dv d := by rw [h]
theorem lsF_none {d : Dd} {s t : Int} (h : (lsF d s t).t = -1) : lsF d s t = d := by
  unfold lsF at h ⊢
  by_cases hc : t ≠ -1 ∧ (d.t = -1 ∨ t < d.t)
  · rw [if_pos hc] at h
    exact absurd h hc.1
  · rw [if_neg hc]
theorem lo3_none {f : Fa} (h : (lo3 f).t = -1) : lo3 f = d0 := by
  have h2 : lo3 f = lo2 f := lsF_none h
  rw [h2] at h ⊢
  have h1 : lo2 f = lo1 f := lsF_none h
  rw [h1] at h ⊢
  exact lsF_none h
theorem prF_none {d : Dd} {s w : Int} {ok : Bool} {p : Sp} (hp : p.t = -1 ∨ 0 ≤ p.t ∧ p.t ≤ 9007199254740991) (h : (prF d s ok p w).t = -1) : prF d s ok p w = d := by
  unfold prF at h ⊢
  by_cases hc : p.m ≠ 0 ∧ p.t ≠ -1 ∧ ok = true
  · rw [if_pos hc] at h ⊢
    by_cases hd : d.t = -1 ∨ dueF p.t w < d.t
    · rw [if_pos hd] at h
      have h' : dueF p.t w = -1 := h
      unfold dueF at h'
      rw [if_pos (by omega)] at h'
      have := tm_lo (p.t + tm w)
      omega
    · rw [if_neg hd]
  · rw [if_neg hc]
theorem pb3_none {f : Fa} {r : Me} (hx : f.x.t = -1 ∨ 0 ≤ f.x.t ∧ f.x.t ≤ 9007199254740991) (hy : f.y.t = -1 ∨ 0 ≤ f.y.t ∧ f.y.t ≤ 9007199254740991) (hz : f.z.t = -1 ∨ 0 ≤ f.z.t ∧ f.z.t ≤ 9007199254740991) (h : (pb3 f r).t = -1) : pb3 f r = d0 := by
  have h2 : pb3 f r = pb2 f r := prF_none hz h
  rw [h2] at h ⊢
  have h1 : pb2 f r = pb1 f r := prF_none hy h
  rw [h1] at h ⊢
  exact prF_none hx h
theorem spF_ok {s : Sp} (h : spF s = true) : (s.l = -1 ∨ 0 ≤ s.l ∧ s.l ≤ 9007199254740991) ∧ (s.t = -1 ∨ 0 ≤ s.t ∧ s.t ≤ 9007199254740991) ∧ 0 ≤ s.m ∧ s.m ≤ 256 := by
  unfold spF isT at h
  simp only [Bool.and_eq_true, decide_eq_true_eq] at h
  omega
theorem due_lo {a : Int} (w : Int) (h : a = -1 ∨ 0 ≤ a ∧ a ≤ 9007199254740991) : a = -1 ∨ 0 ≤ dueF a w ∧ dueF a w ≤ 9007199254740991 := by
  rcases h with h | h
  · exact .inl h
  · unfold dueF
    rw [if_pos h]
    exact .inr ⟨tm_lo _, tm_hi _⟩
theorem mayF_ok {f : Fa} (h : mayF f = true) : spF f.x = true ∧ spF f.y = true ∧ spF f.z = true ∧ 0 ≤ f.n ∧ f.n ≤ 9007199254740991 := by
  unfold mayF isN at h
  simp only [Bool.and_eq_true, decide_eq_true_eq] at h
  exact ⟨h.1.1.1, h.1.1.2, h.1.2, h.2⟩

theorem pr_cases {d d' : Dd} (s : Int) (ok : Bool) (p : Sp) (w : Int) (h : d = d') : (¬ (p.m ≠ 0 ∧ p.t ≠ -1 ∧ ok = true) ∧ prF d s ok p w = d') ∨ ((p.m ≠ 0 ∧ p.t ≠ -1 ∧ ok = true) ∧ (d'.t = -1 ∨ dueF p.t w < d'.t) ∧ prF d s ok p w = ⟨2, s, dueF p.t w⟩) ∨
    ((p.m ≠ 0 ∧ p.t ≠ -1 ∧ ok = true) ∧ ¬ (d'.t = -1 ∨ dueF p.t w < d'.t) ∧ prF d s ok p w = d') := by
  subst h
  unfold prF
  by_cases h1 : p.m ≠ 0 ∧ p.t ≠ -1 ∧ ok = true
  · by_cases h2 : d.t = -1 ∨ dueF p.t w < d.t
    · exact .inr (.inl ⟨h1, h2, by rw [if_pos h1, if_pos h2]⟩)
    · exact .inr (.inr ⟨h1, h2, by rw [if_pos h1, if_neg h2]⟩)
  · exact .inl ⟨h1, by rw [if_neg h1]⟩
theorem ls_cases {d d' : Dd} (s t : Int) (h : d = d') : ((t ≠ -1 ∧ (d'.t = -1 ∨ t < d'.t)) ∧ lsF d s t = ⟨1, s, t⟩) ∨ (¬ (t ≠ -1 ∧ (d'.t = -1 ∨ t < d'.t)) ∧ lsF d s t = d') := by
  subst h
  unfold lsF
  by_cases h1 : t ≠ -1 ∧ (d.t = -1 ∨ t < d.t)
  · exact .inl ⟨h1, by rw [if_pos h1]⟩
  · exact .inr ⟨h1, by rw [if_neg h1]⟩

theorem pick_is (f : Fa) (r : Me) : afn (CP f r) 100 16 [fv f, rv r.a r.b r.c r.d r.e, iv r.x, iv r.q, iv r.m] [] 0 (fun v _ _ => v = dv (pickF f r)) := by
  rw [pick_ev f r (fun v => v = dv (pickF f r))]
  refine ifb_of (fun hm => ?_) fun hm => ifb_of (fun hc => ?_) fun hc => ?_
  · exact dv_mk (pick_bad (.inl (by simpa using hm)))
  · exact dv_mk (pick_bad (.inr (by simpa using hc)))
  have hm : mayF f = true := by simpa using hm
  have hok : ¬ (mayF f = false ∨ ckF r.a r.b r.c r.d r.e ≠ 0) := by
    rintro (h | h)
    · rw [hm] at h; cases h
    · simp only [bne_eq_false_iff_eq] at hc
      exact h hc
  obtain ⟨hx, hy, hz, hn⟩ := mayF_ok hm
  have hx := spF_ok hx
  have hy := spF_ok hy
  have hz := spF_ok hz
  have hX := due_lo (wtF r 0) hx.2.1
  have hY := due_lo (wtF r 1) hy.2.1
  have hZ := due_lo (wtF r 2) hz.2.1
  have hN0 := due_lo (wtF r 0) (.inr hn)
  have hN1 := due_lo (wtF r 1) (.inr hn)
  clear hm hc
  simp only [ifb_ite, and_true, true_and, true_implies, decide_eq_true_eq, bne_iff_ne, beq_iff_eq, Bool.not_eq_true', Bool.eq_false_iff, ne_eq, ite_not]
  refine ⟨?_, ?_, ?_, ?_⟩
  · rcases ls_cases (d' := ⟨0, 0, -1⟩) 0 f.x.l (rfl : d0 = _) with ⟨a1, p1⟩ | ⟨a1, p1⟩ <;>
    rcases ls_cases 1 f.y.l p1 with ⟨a2, p2⟩ | ⟨a2, p2⟩ <;>
    rcases ls_cases 2 f.z.l p2 with ⟨a3, p3⟩ | ⟨a3, p3⟩ <;>
    dsimp only at a1 a2 a3 <;>
    first | (exfalso; omega) | skip
    all_goals
      have p3 : lo3 f = _ := p3
      repeat' first | rw [if_pos (by omega)] | rw [if_neg (by omega)] | refine ite_in (fun _ => ?_) (fun _ => ?_)
    all_goals first
      | exact dv_mk ((pick_lo hok (.inl (by rw [p3]; dsimp only; omega))).trans p3)
      | (refine decide_eq_true ?_; rw [p3]; done)
  · intro h0
    have h0 : (lo3 f).t = -1 := of_decide_eq_true h0
    refine ite_in (fun hd => ?_) (fun hd => ?_)
    · exact dv_mk (by rw [pick_lo hok (.inr hd)]; exact lo3_none h0)
    · have hd : f.d = false := by simpa using hd
      rcases pr_cases (d' := ⟨0, 0, -1⟩) 0 true f.x (wtF r 0) (rfl : d0 = _) with ⟨a1, p1⟩ | ⟨a1, q1, p1⟩ | ⟨a1, q1, p1⟩ <;>
      rcases pr_cases 1 true f.y (wtF r 1) p1 with ⟨a2, p2⟩ | ⟨a2, q2, p2⟩ | ⟨a2, q2, p2⟩ <;>
      rcases pr_cases 2 f.c f.z (wtF r 2) p2 with ⟨a3, p3⟩ | ⟨a3, q3, p3⟩ | ⟨a3, q3, p3⟩ <;>
      simp only [and_true] at a1 a2 <;>
      (try dsimp only at q1) <;> (try dsimp only at q2) <;> (try dsimp only at q3) <;>
      first | (exfalso; omega) | skip
      all_goals
        have p3 : pb3 f r = _ := p3
        repeat' first | rw [if_pos (by omega)] | rw [if_neg (by omega)] | refine ite_in (fun _ => ?_) (fun _ => ?_)
      all_goals first
        | exact dv_mk ((pick_pb hok h0 hd (by rw [p3]; dsimp only; omega)).trans p3)
        | (refine decide_eq_true ⟨h0, hd, ?_⟩; rw [p3]; done)
        | exact absurd a3.2.2 (by assumption)
        | exact absurd (⟨by omega, by omega, by assumption⟩ : f.z.m ≠ 0 ∧ f.z.t ≠ -1 ∧ f.c = true) a3
  · intro h0
    obtain ⟨h0, hd, h1⟩ := of_decide_eq_true h0
    refine ite_in (fun hd' => ?_) (fun hd' => ?_)
    · rw [hd] at hd'; cases hd'
    · have hls : ∀ {d : Dd}, lsTF f r = d → pickF f r = d := fun e => (pick_ls hok h0 hd h1).trans e
      have hcs : ∀ {d : Dd}, lsTF f r = d → d.t = -1 → cP3 f r = true := fun e e2 => decide_eq_true ⟨h0, hd, h1, by rw [e]; exact e2⟩
      by_cases c1 : 0 < f.x.m + f.y.m + f.z.m ∨ f.p = true
      · have e : lsTF f r = d0 := if_pos c1
        repeat' first | rw [if_pos (by omega)] | rw [if_neg (by omega)] | refine ite_in (fun _ => ?_) (fun _ => ?_)
        all_goals first
          | exact hcs e rfl
          | (exfalso; rcases c1 with c1 | c1 <;> first | omega | exact absurd c1 (by assumption))
      · have c2 : ¬ f.p = true := fun h => c1 (.inr h)
        by_cases cy : f.y.k = true
        · have e : lsTF f r = _ := (if_neg c1).trans (if_pos cy)
          repeat' first | rw [if_pos (by omega)] | rw [if_neg (by omega)] | refine ite_in (fun _ => ?_) (fun _ => ?_)
          all_goals first
            | exact dv_mk (hls e)
            | exact absurd cy (by assumption)
            | exact absurd (by assumption) c2
        · by_cases cx : f.x.k = true
          · have e : lsTF f r = _ := (if_neg c1).trans ((if_neg cy).trans (if_pos cx))
            repeat' first | rw [if_pos (by omega)] | rw [if_neg (by omega)] | refine ite_in (fun _ => ?_) (fun _ => ?_)
            all_goals first
              | exact dv_mk (hls e)
              | exact absurd (by assumption) cy
              | exact absurd cx (by assumption)
              | exact absurd (by assumption) c2
          · have e : lsTF f r = d0 := (if_neg c1).trans ((if_neg cy).trans (if_neg cx))
            repeat' first | rw [if_pos (by omega)] | rw [if_neg (by omega)] | refine ite_in (fun _ => ?_) (fun _ => ?_)
            all_goals first
              | exact hcs e rfl
              | exact absurd (by assumption) cy
              | exact absurd (by assumption) cx
              | exact absurd (by assumption) c2
  · intro h0
    obtain ⟨h0, hd, h1, h2⟩ := of_decide_eq_true h0
    refine dv_mk ?_
    rw [pick_ls hok h0 hd h1]
    unfold lsTF at h2 ⊢
    by_cases c1 : 0 < f.x.m + f.y.m + f.z.m ∨ f.p = true
    · rw [if_pos c1]; rfl
    · rw [if_neg c1] at h2 ⊢
      by_cases cy : f.y.k = true
      · rw [if_pos cy] at h2
        have h2 : dueF f.n (wtF r 1) = -1 := h2
        omega
      · rw [if_neg cy] at h2 ⊢
        by_cases cx : f.x.k = true
        · rw [if_pos cx] at h2
          have h2 : dueF f.n (wtF r 0) = -1 := h2
          omega
        · rw [if_neg cx]; rfl

end Go.Proofs.Ytebogbhjgdihpaa.Pto
