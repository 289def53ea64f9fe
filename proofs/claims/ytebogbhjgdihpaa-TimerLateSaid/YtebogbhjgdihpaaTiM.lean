/-
  TiM: TimerLate.
-/
import Derived.Test.YtebogbhjgdihpaaTiL
namespace Go.Proofs.Ytebogbhjgdihpaa.Pto
open Go Go.RowKit Go.Proofs.Ytebogbhjgdihpaa.Sy
set_option linter.unusedVariables false
set_option linter.unusedSimpArgs false
set_option maxRecDepth 100000
set_option maxHeartbeats 1000000

theorem late_gen {f g : Fa} {r r' : Me} (hf : okF f) (hg : okF g) (hr : ckF r.a r.b r.c r.d r.e = 0) (hr' : ckF r'.a r'.b r'.c r'.d r'.e = 0)
    (hx : g.x.l = f.x.l ∧ g.x.m = f.x.m ∧ f.x.t ≤ g.x.t) (hy : g.y.l = f.y.l ∧ g.y.m = f.y.m ∧ f.y.t ≤ g.y.t) (hz : g.z.l = f.z.l ∧ g.z.m = f.z.m ∧ f.z.t ≤ g.z.t)
    (hk : g.x.k = f.x.k ∧ g.y.k = f.y.k) (hc : g.c = f.c) (hd : g.d = f.d) (hp : g.p = f.p) (hn : f.n ≤ g.n)
    (b0 : 0 ≤ wtF r 0 ∧ wtF r 0 ≤ wtF r' 0 ∧ wtF r' 0 ≤ 4503599627370496) (b1 : 0 ≤ wtF r 1 ∧ wtF r 1 ≤ wtF r' 1 ∧ wtF r' 1 ≤ 4503599627370496) (b2 : 0 ≤ wtF r 2 ∧ wtF r 2 ≤ wtF r' 2 ∧ wtF r' 2 ≤ 4503599627370496) :
    (pickF g r').k = (pickF f r).k ∧ (pickF f r).t ≤ (pickF g r').t ∧ ((pickF f r).k = 1 → pickF f r = pickF g r') := by
  have P := hok_of hf hr
  have Q := hok_of hg hr'
  have elo : lo3 g = lo3 f := by unfold lo3 lo2 lo1; rw [hx.1, hy.1, hz.1]
  have ear : ar3 g = ar3 f := by unfold ar3 ar2 ar1; rw [hx.2.1, hy.2.1, hz.2.1, hc]
  have p1 := pb_spec hf (r := r) rfl rfl rfl ⟨b0.1, by omega⟩ ⟨b1.1, by omega⟩ ⟨b2.1, by omega⟩
  have p2 := pb_spec hg (r := r') rfl rfl rfl ⟨by omega, b0.2.2⟩ ⟨by omega, b1.2.2⟩ ⟨by omega, b2.2.2⟩
  rw [ear, hx.2.1, hy.2.1, hz.2.1, hc] at p2
  by_cases h : (lo3 f).t ≠ -1 ∨ f.d = true
  · rw [pick_lo P h, pick_lo Q (by rw [elo, hd]; exact h), elo]
    exact ⟨rfl, Int.le_refl _, fun _ => rfl⟩
  · have hl : (lo3 f).t = -1 := by
      by_cases e : (lo3 f).t = -1
      · exact e
      · exact absurd (.inl e) h
    have hfd : f.d = false := by
      cases e : f.d
      · rfl
      · exact absurd (.inr e) h
    rcases p1 with ⟨h1, q1⟩ | ⟨h1, s, t, q1, h2, h3, h4, h5, h6, _, _⟩
    · rcases p2 with ⟨h7, q2⟩ | ⟨h7, s', t', q2, h8, h9, h10, h11, h12, _, _⟩
      · rw [pick_ls P hl hfd (by rw [q1]; rfl), pick_ls Q (by rw [elo]; exact hl) (by rw [hd]; exact hfd) (by rw [q2]; rfl)]
        unfold lsTF
        rw [hx.2.1, hy.2.1, hz.2.1, hp, hk.1, hk.2]
        have hn1 := hf.2.2.2
        have hn2 := hg.2.2.2
        by_cases c1 : 0 < f.x.m + f.y.m + f.z.m ∨ f.p = true
        · rw [if_pos c1, if_pos c1]
          exact ⟨rfl, Int.le_refl _, fun _ => rfl⟩
        · rw [if_neg c1, if_neg c1]
          by_cases c2 : f.y.k = true
          · rw [if_pos c2, if_pos c2, due_add (by omega) (by omega) (by omega), due_add (by omega) (by omega) (by omega)]
            exact ⟨rfl, by dsimp only; omega, fun h => absurd (show (2 : Int) = 1 from h) (by decide)⟩
          · rw [if_neg c2, if_neg c2]
            by_cases c3 : f.x.k = true
            · rw [if_pos c3, if_pos c3, due_add (by omega) (by omega) (by omega), due_add (by omega) (by omega) (by omega)]
              exact ⟨rfl, by dsimp only; omega, fun h => absurd (show (2 : Int) = 1 from h) (by decide)⟩
            · rw [if_neg c3, if_neg c3]
              exact ⟨rfl, Int.le_refl _, fun _ => rfl⟩
      · rw [h1] at h7; cases h7
    · rcases p2 with ⟨h7, q2⟩ | ⟨h7, s', t', q2, h8, h9, h10, h11, h12, _, _⟩
      · rw [h1] at h7; cases h7
      · rw [pick_pb P hl hfd (by rw [q1]; dsimp only; omega), pick_pb Q (by rw [elo]; exact hl) (by rw [hd]; exact hfd) (by rw [q2]; dsimp only; omega), q1, q2]
        refine ⟨rfl, ?_, fun h => absurd (show (2 : Int) = 1 from h) (by decide)⟩
        dsimp only
        rcases h9 with ⟨_, h9, e⟩ | ⟨_, h9, e⟩ | ⟨_, h9, hc', e⟩
        · have := h4 h9; omega
        · have := h5 h9; omega
        · have := h6 h9 hc'; omega

/-! the law's measures -/
def rL (x q : Int) : Me := ⟨100, 100, 2000000, 300000, 0, x, q, 8⟩
theorem wtL {x q : Int} (s v : Int) (hb : baseF 100 100 2000000 300000 0 s x = v) (hv : 0 ≤ v ∧ v ≤ 100000000) (hq : 0 ≤ q) : ∃ X : Int, X = 2 ^ (min q 8).toNat ∧ 1 ≤ X ∧ X ≤ 256 ∧ wtF (rL x q) s = v * X := by
  have h1 : (1 : Int) ≤ 2 ^ (min q 8).toNat := pow_pos' _
  have h2 : (2 : Int) ^ (min q 8).toNat ≤ 2 ^ 8 := pow_le' (by omega)
  have h3 : (2 : Int) ^ 8 = 256 := by decide
  refine ⟨_, rfl, h1, by omega, ?_⟩
  show min (tm (baseF 100 100 2000000 300000 0 s x) * 2 ^ (min q 8).toNat) 9007199254740991 = _
  rw [hb]
  have e : tm v = v := by unfold tm; omega
  rw [e]
  generalize (2 : Int) ^ (min q 8).toNat = X at *
  have h4 : v * X ≤ 100000000 * 256 := Int.mul_le_mul hv.2 (by omega) (by omega) (by omega)
  omega
theorem wtL_le {x x' q q' : Int} (s v v' : Int) (hb : baseF 100 100 2000000 300000 0 s x = v) (hb' : baseF 100 100 2000000 300000 0 s x' = v') (hv : 0 ≤ v ∧ v ≤ v' ∧ v' ≤ 100000000) (hq : 0 ≤ q ∧ q ≤ q') :
    0 ≤ wtF (rL x q) s ∧ wtF (rL x q) s ≤ wtF (rL x' q') s ∧ wtF (rL x' q') s ≤ 4503599627370496 := by
  obtain ⟨X, e, h1, h2, h3⟩ := wtL s v hb ⟨hv.1, by omega⟩ hq.1
  obtain ⟨Y, e', k1, k2, k3⟩ := wtL s v' hb' ⟨by omega, hv.2.2⟩ (q := q') (by omega)
  have hXY : X ≤ Y := by rw [e, e']; exact pow_le' (by omega)
  rw [h3, k3]
  have a1 : 0 ≤ v * X := Int.mul_nonneg hv.1 (by omega)
  have a2 : v * X ≤ v' * Y := Int.mul_le_mul hv.2.1 hXY (by omega) (by omega)
  have a3 : v' * Y ≤ 100000000 * 256 := Int.mul_le_mul hv.2.2 k2 (by omega) (by omega)
  omega
theorem spM_lo (x : Rw) : (spM x).t < 1125899906842624 := by
  have h2 := brF_lo x.t (b := 1125899906842624) (by omega)
  unfold spM
  dsimp only
  split <;> omega
theorem eq3 {d e : Dd} (h : d = e) : (!(d.k == e.k && (d.s == e.s && (d.t == e.t && true)))) = false := by rw [h]; simp

theorem late_is (xb xl xt xm yb yl yt ym zb zl zt zm u a b c d : Int) : ∃ C, Sound C ∧ C.P = Try.prog ∧ afn C 100 7 [.agg [iv xb, iv xl, iv xt, iv xm, iv yb, iv yl, iv yt, iv ym, iv zb, iv zl, iv zt, iv zm], iv u, .agg [iv a, iv b, iv c, iv d]] [] 0 (fun v _ _ => v = bv true) := by
  have hf := made_ok ⟨xb, xl, xt, xm⟩ ⟨yb, yl, yt, ym⟩ ⟨zb, zl, zt, zm⟩ u a
  have tx : (madeF ⟨xb, xl, xt, xm⟩ ⟨yb, yl, yt, ym⟩ ⟨zb, zl, zt, zm⟩ u a).x.t < 1125899906842624 := spM_lo _
  have ty : (madeF ⟨xb, xl, xt, xm⟩ ⟨yb, yl, yt, ym⟩ ⟨zb, zl, zt, zm⟩ u a).y.t < 1125899906842624 := spM_lo _
  have tz : (madeF ⟨xb, xl, xt, xm⟩ ⟨yb, yl, yt, ym⟩ ⟨zb, zl, zt, zm⟩ u a).z.t < 1125899906842624 := spM_lo _
  have tn : (madeF ⟨xb, xl, xt, xm⟩ ⟨yb, yl, yt, ym⟩ ⟨zb, zl, zt, zm⟩ u a).n < 1125899906842624 := (brF_lo a (b := 1125899906842624) (by omega)).2
  obtain ⟨F, hF⟩ : ∃ F, madeF ⟨xb, xl, xt, xm⟩ ⟨yb, yl, yt, ym⟩ ⟨zb, zl, zt, zm⟩ u a = F := ⟨_, rfl⟩
  refine ⟨_, S7 F, rfl, (late_ev F ⟨xb, xl, xt, xm⟩ ⟨yb, yl, yt, ym⟩ ⟨zb, zl, zt, zm⟩ u a b c d (fun v => v = bv true)).mpr ?_⟩
  refine ifb_pos (decide_eq_true hF) ?_
  rw [hF] at hf tx ty tz tn
  have hb := brF_lo b (b := 12) (by omega)
  have hc := brF_lo c (b := 12) (by omega)
  have hd := brF_lo d (b := 1099511627776) (by omega)
  clear hF
  generalize brF b 12 = B at *
  generalize brF c 12 = C at *
  generalize brF d 1099511627776 = D at *
  have c0 : ckF 100 100 2000000 300000 0 = 0 := by kernel_rfl
  have v1 : baseF 100 100 2000000 300000 0 0 1000000 = 3200000 := by kernel_rfl
  have v2 : baseF 100 100 2000000 300000 0 1 1000000 = 3200000 := by kernel_rfl
  have v3 : baseF 100 100 2000000 300000 0 2 1000000 = 4200000 := by kernel_rfl
  have v4 : baseF 100 100 2000000 300000 0 0 9000000 = 3200000 := by kernel_rfl
  have v5 : baseF 100 100 2000000 300000 0 1 9000000 = 3200000 := by kernel_rfl
  have v6 : baseF 100 100 2000000 300000 0 2 9000000 = 12200000 := by kernel_rfl
  have A := late_gen (r := rL 1000000 (min B C)) (r' := rL 9000000 (max B C)) hf hf c0 c0 ⟨rfl, rfl, Int.le_refl _⟩ ⟨rfl, rfl, Int.le_refl _⟩ ⟨rfl, rfl, Int.le_refl _⟩ ⟨rfl, rfl⟩ rfl rfl rfl (Int.le_refl _)
    (wtL_le 0 3200000 3200000 v1 v4 (by decide) (by omega)) (wtL_le 1 3200000 3200000 v2 v5 (by decide) (by omega)) (wtL_le 2 4200000 12200000 v3 v6 (by decide) (by omega))
  have w0 := wtL_le (q := min B C) (q' := min B C) 0 3200000 3200000 v1 v1 (by decide) (by omega)
  have w1 := wtL_le (q := min B C) (q' := min B C) 1 3200000 3200000 v2 v2 (by decide) (by omega)
  have w2 := wtL_le (q := min B C) (q' := min B C) 2 4200000 4200000 v3 v3 (by decide) (by omega)
  have hx := hf.1
  have hy := hf.2.1
  have hz := hf.2.2.1
  have hn := hf.2.2.2
  have G : ∀ t1 t2 t3 : Int, (0 ≤ F.x.t ∧ t1 = IntKind.i64.wrap (F.x.t + D) ∨ ¬ 0 ≤ F.x.t ∧ t1 = F.x.t) → (0 ≤ F.y.t ∧ t2 = IntKind.i64.wrap (F.y.t + D) ∨ ¬ 0 ≤ F.y.t ∧ t2 = F.y.t) → (0 ≤ F.z.t ∧ t3 = IntKind.i64.wrap (F.z.t + D) ∨ ¬ 0 ≤ F.z.t ∧ t3 = F.z.t) →
      (pickF ⟨⟨F.x.k, F.x.l, t1, F.x.m⟩, ⟨F.y.k, F.y.l, t2, F.y.m⟩, ⟨F.z.k, F.z.l, t3, F.z.m⟩, F.c, F.d, F.p, IntKind.i64.wrap (F.n + D)⟩ (rL 1000000 (min B C))).k = (pickF F (rL 1000000 (min B C))).k ∧
      (pickF F (rL 1000000 (min B C))).t ≤ (pickF ⟨⟨F.x.k, F.x.l, t1, F.x.m⟩, ⟨F.y.k, F.y.l, t2, F.y.m⟩, ⟨F.z.k, F.z.l, t3, F.z.m⟩, F.c, F.d, F.p, IntKind.i64.wrap (F.n + D)⟩ (rL 1000000 (min B C))).t := by
    intro t1 t2 t3 h1 h2 h3
    unfold okS at hx hy hz
    rw [wr (n := F.x.t + D) (by omega) (by omega)] at h1
    rw [wr (n := F.y.t + D) (by omega) (by omega)] at h2
    rw [wr (n := F.z.t + D) (by omega) (by omega)] at h3
    rw [wr (n := F.n + D) (by omega) (by omega)]
    have hg : okF ⟨⟨F.x.k, F.x.l, t1, F.x.m⟩, ⟨F.y.k, F.y.l, t2, F.y.m⟩, ⟨F.z.k, F.z.l, t3, F.z.m⟩, F.c, F.d, F.p, F.n + D⟩ := by
      unfold okF okS
      dsimp only
      exact ⟨⟨hx.1, by omega⟩, ⟨hy.1, by omega⟩, ⟨hz.1, by omega⟩, by omega⟩
    have := late_gen (f := F) (r := rL 1000000 (min B C)) (r' := rL 1000000 (min B C)) hf hg c0 c0 ⟨rfl, rfl, by dsimp only; omega⟩ ⟨rfl, rfl, by dsimp only; omega⟩ ⟨rfl, rfl, by dsimp only; omega⟩ ⟨rfl, rfl⟩ rfl rfl rfl (by dsimp only; omega) w0 w1 w2
    exact ⟨this.1, this.2.1⟩
  have fin : ∀ {p q : Dd} {T E : Prop}, (p.k = q.k ∧ q.t ≤ p.t) → T → ifb (p.k == q.k) (ifb (decide (q.t ≤ p.t)) T E) E := fun h ht => ifb_pos (beq_yes h.1) (ifb_pos (decide_eq_true h.2) ht)
  have main : ∀ {T1 T2 T3 T4 T5 T6 T7 T8 : Prop}, (0 ≤ F.x.t → 0 ≤ F.y.t → 0 ≤ F.z.t → T1) → (0 ≤ F.x.t → 0 ≤ F.y.t → ¬ 0 ≤ F.z.t → T2) → (0 ≤ F.x.t → ¬ 0 ≤ F.y.t → 0 ≤ F.z.t → T3) → (0 ≤ F.x.t → ¬ 0 ≤ F.y.t → ¬ 0 ≤ F.z.t → T4) →
      (¬ 0 ≤ F.x.t → 0 ≤ F.y.t → 0 ≤ F.z.t → T5) → (¬ 0 ≤ F.x.t → 0 ≤ F.y.t → ¬ 0 ≤ F.z.t → T6) → (¬ 0 ≤ F.x.t → ¬ 0 ≤ F.y.t → 0 ≤ F.z.t → T7) → (¬ 0 ≤ F.x.t → ¬ 0 ≤ F.y.t → ¬ 0 ≤ F.z.t → T8) →
      ifb (decide (0 ≤ F.x.t)) (ifb (decide (0 ≤ F.y.t)) (ifb (decide (0 ≤ F.z.t)) T1 T2) (ifb (decide (0 ≤ F.z.t)) T3 T4)) (ifb (decide (0 ≤ F.y.t)) (ifb (decide (0 ≤ F.z.t)) T5 T6) (ifb (decide (0 ≤ F.z.t)) T7 T8)) :=
    fun h1 h2 h3 h4 h5 h6 h7 h8 => ifb_of (fun a => ifb_of (fun b => ifb_of (fun c => h1 (of_decide_eq_true a) (of_decide_eq_true b) (of_decide_eq_true c)) fun c => h2 (of_decide_eq_true a) (of_decide_eq_true b) (of_decide_eq_false c)) fun b => ifb_of (fun c => h3 (of_decide_eq_true a) (of_decide_eq_false b) (of_decide_eq_true c)) fun c => h4 (of_decide_eq_true a) (of_decide_eq_false b) (of_decide_eq_false c))
      fun a => ifb_of (fun b => ifb_of (fun c => h5 (of_decide_eq_false a) (of_decide_eq_true b) (of_decide_eq_true c)) fun c => h6 (of_decide_eq_false a) (of_decide_eq_true b) (of_decide_eq_false c)) fun b => ifb_of (fun c => h7 (of_decide_eq_false a) (of_decide_eq_false b) (of_decide_eq_true c)) fun c => h8 (of_decide_eq_false a) (of_decide_eq_false b) (of_decide_eq_false c)
  simp only [rL] at A G
  refine ifb_neg (by simpa using A.1.symm) (ifb_of (fun h1 => ?_) fun h1 => ?_)
  · refine ifb_neg (eq3 (A.2.2 (by simpa using h1))) (ifb_neg (decide_eq_false (by have := A.2.1; omega)) ?_)
    refine main ?_ ?_ ?_ ?_ ?_ ?_ ?_ ?_
    all_goals intro g1 g2 g3
    all_goals exact fin (G _ _ _ (by first | exact .inl ⟨g1, rfl⟩ | exact .inr ⟨g1, rfl⟩) (by first | exact .inl ⟨g2, rfl⟩ | exact .inr ⟨g2, rfl⟩) (by first | exact .inl ⟨g3, rfl⟩ | exact .inr ⟨g3, rfl⟩)) rfl
  · refine ifb_neg (decide_eq_false (by have := A.2.1; omega)) ?_
    refine main ?_ ?_ ?_ ?_ ?_ ?_ ?_ ?_
    all_goals intro g1 g2 g3
    all_goals exact fin (G _ _ _ (by first | exact .inl ⟨g1, rfl⟩ | exact .inr ⟨g1, rfl⟩) (by first | exact .inl ⟨g2, rfl⟩ | exact .inr ⟨g2, rfl⟩) (by first | exact .inl ⟨g3, rfl⟩ | exact .inr ⟨g3, rfl⟩)) rfl

end Go.Proofs.Ytebogbhjgdihpaa.Pto
