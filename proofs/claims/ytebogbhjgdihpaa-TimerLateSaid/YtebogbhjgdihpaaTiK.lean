/-
  TiK: TimerArmed.
-/
import Derived.Test.YtebogbhjgdihpaaTiJ
namespace Go.Proofs.Ytebogbhjgdihpaa.Pto
open Go Go.RowKit Go.Proofs.Ytebogbhjgdihpaa.Sy
set_option linter.unusedVariables false
set_option linter.unusedSimpArgs false
set_option maxRecDepth 100000
set_option maxHeartbeats 1000000

/-- What is picked of facts that were made. -/
theorem pick_mz {f : Fa} (hf : okF f) :
    (0 ≤ la3 f ∧ ∃ s, pickF f mz = ⟨1, s, la3 f⟩ ∧ (s = 0 ∧ f.x.l = la3 f ∨ s = 1 ∧ f.y.l = la3 f ∨ s = 2 ∧ f.z.l = la3 f)) ∨
    (la3 f = -1 ∧ f.d = true ∧ pickF f mz = ⟨0, 0, -1⟩) ∨
    (la3 f = -1 ∧ f.d = false ∧ ar3 f = true ∧ ∃ s t, pickF f mz = ⟨2, s, t⟩ ∧ (s = 0 ∧ 0 < f.x.m ∧ t = f.x.t + 6400000 ∨ s = 1 ∧ 0 < f.y.m ∧ t = f.y.t + 6400000 ∨ s = 2 ∧ 0 < f.z.m ∧ f.c = true ∧ t = f.z.t + 16400000) ∧
      (0 < f.x.m → t ≤ f.x.t + 6400000) ∧ (0 < f.y.m → t ≤ f.y.t + 6400000) ∧ (0 < f.z.m → f.c = true → t ≤ f.z.t + 16400000)) ∨
    (la3 f = -1 ∧ f.d = false ∧ ar3 f = false ∧ (((0 < f.x.m + f.y.m + f.z.m ∨ f.p = true) ∧ pickF f mz = ⟨0, 0, -1⟩) ∨ (f.x.m + f.y.m + f.z.m = 0 ∧ f.p = false ∧
      (f.y.k = true ∧ pickF f mz = ⟨2, 1, f.n + 6400000⟩ ∨ f.y.k = false ∧ f.x.k = true ∧ pickF f mz = ⟨2, 0, f.n + 6400000⟩ ∨ f.y.k = false ∧ f.x.k = false ∧ pickF f mz = ⟨0, 0, -1⟩)))) := by
  have P := hok_of hf ck_mz
  have hpb := pb_spec hf wt0 wt1 wt2 (by decide) (by decide) (by decide)
  rcases lo_spec hf with ⟨h, hl3⟩ | ⟨h, s, hl3, h3, h4⟩
  · have hl : (lo3 f).t = -1 := by rw [hl3]; rfl
    cases hd : f.d
    · rcases hpb with ⟨h5, hp3⟩ | ⟨h5, s, t, hp3, h6, h7, h8, h9, h10, h11, h12⟩
      · refine .inr (.inr (.inr ⟨h, rfl, h5, ?_⟩))
        rw [pick_ls (r := mz) P hl hd (by rw [hp3]; rfl)]
        unfold lsTF
        by_cases c1 : 0 < f.x.m + f.y.m + f.z.m ∨ f.p = true
        · exact .inl ⟨c1, by rw [if_pos c1]; rfl⟩
        · have hx := hf.1.2
          have hy := hf.2.1.2
          have hz := hf.2.2.1.2
          have hn := hf.2.2.2
          have hs : f.x.m + f.y.m + f.z.m = 0 := by
            have : ¬ 0 < f.x.m + f.y.m + f.z.m := fun h => c1 (.inl h)
            omega
          have hp : f.p = false := by
            cases hp : f.p
            · rfl
            · exact absurd (.inr hp) c1
          refine .inr ⟨hs, hp, ?_⟩
          rw [if_neg c1]
          cases hy : f.y.k
          · cases hx : f.x.k
            · refine .inr (.inr ⟨rfl, rfl, ?_⟩)
              rw [if_neg (by decide), if_neg (by decide)]
              rfl
            · refine .inr (.inl ⟨rfl, rfl, ?_⟩)
              rw [if_neg (by decide), if_pos rfl, wt0, due_add (by omega) (by omega) (by omega)]
          · refine .inl ⟨rfl, ?_⟩
            rw [if_pos rfl, wt1, due_add (by omega) (by omega) (by omega)]
      · exact .inr (.inr (.inl ⟨h, rfl, h5, s, t, by rw [pick_pb (r := mz) P hl hd (by rw [hp3]; dsimp only; omega), hp3], h7, h8, h9, h10⟩))
    · exact .inr (.inl ⟨h, rfl, by rw [pick_lo (r := mz) P (.inr hd), hl3]; rfl⟩)
  · exact .inl ⟨h, s, by rw [pick_lo (r := mz) P (.inl (by rw [hl3]; dsimp only; omega)), hl3], h3⟩
theorem tok_ok {f : Fa} (hf : okF f) : tOK f := by
  obtain ⟨hx, hy, hz, hn⟩ := hf
  unfold okS at hx hy hz
  unfold tOK
  omega
theorem d_inj {k s t k' s' t' : Int} {d : Dd} (h : d = ⟨k, s, t⟩) (h' : d = ⟨k', s', t'⟩) : k = k' ∧ s = s' ∧ t = t' := by
  rw [h] at h'
  injection h' with h1 h2 h3
  exact ⟨h1, h2, h3⟩

theorem bv_eq {b : Bool} (h : b = true) : AV.val (.bool b) = bv true := by rw [h]
theorem bv_dec {p : Prop} [Decidable p] (h : p) : AV.val (.bool (decide p)) = bv true := by rw [decide_eq_true h]
theorem armed0_is (f : Fa) (hf : okF f) (k t : Int) (hd : pickF f mz = ⟨k, 0, t⟩) (x y z : Rw) (u n : Int) (hm : madeF x y z u n = f) :
    afn (CA f k 0 t) 100 6 [r12 x y z, iv u, iv n] [] 0 (fun v _ _ => v = bv true) := by
  rw [armed0_ev f k t x y z u n (fun v => v = bv true)]
  refine ifb_pos (decide_eq_true hm) (ifb_pos (decide_eq_true hd) ?_)
  clear hm
  have hp := pick_mz hf
  have ht := tok_ok hf
  have hmay := may_ok hf
  have hx := hf.1
  have hy := hf.2.1
  have hz := hf.2.2.1
  have hn := hf.2.2.2
  unfold okS at hx hy hz
  have w1 : IntKind.i64.wrap (0 + f.x.m) = f.x.m := by rw [wr (by omega) (by omega)]; omega
  have w2 : IntKind.i64.wrap (f.x.m + f.y.m) = f.x.m + f.y.m := wr (by omega) (by omega)
  have w3 : IntKind.i64.wrap (f.x.m + f.y.m + f.z.m) = f.x.m + f.y.m + f.z.m := wr (by omega) (by omega)
  have w4 : IntKind.i64.wrap (f.x.t + 3000000) = f.x.t + 3000000 := wr (by omega) (by omega)
  have w5 : IntKind.i64.wrap (f.y.t + 3000000) = f.y.t + 3000000 := wr (by omega) (by omega)
  have w6 : IntKind.i64.wrap (f.z.t + 3000000) = f.z.t + 3000000 := wr (by omega) (by omega)
  have w7 : IntKind.i64.wrap (f.n + 6400000) = f.n + 6400000 := wr (by omega) (by omega)
  simp only [ifb_ite, and_true, true_and, true_implies, decide_eq_true_eq, bne_iff_ne, beq_iff_eq, Bool.not_eq_true', Bool.eq_false_iff, ne_eq, ite_not, Value.int.injEq, Value.bool.injEq, w1, w2, w3, w4, w5, w6, w7]
  refine ⟨?_, ?_, ?_, ?_⟩
  · unfold la1 laF ar1
    repeat' refine ite_in (fun _ => ?_) (fun _ => ?_)
    all_goals refine ⟨?_, ?_⟩
    all_goals first | (symm; exact decide_eq_true (by assumption)) | (symm; exact decide_eq_false (by assumption)) | (rw [if_pos (by omega)]; done) | (rw [if_neg (by omega)]; done)
  · unfold la2 laF ar2
    repeat' refine ite_in (fun _ => ?_) (fun _ => ?_)
    all_goals refine ⟨?_, ?_⟩
    all_goals first | (rw [if_pos (by omega)]; done) | (rw [if_neg (by omega)]; done) | (simp [*]; done)
  · unfold la3 laF ar3
    repeat' refine ite_in (fun _ => ?_) (fun _ => ?_)
    all_goals refine ⟨?_, ?_⟩
    all_goals first | (rw [if_pos (by omega)]; done) | (rw [if_neg (by omega)]; done) | (simp [*]; done)
  · rw [if_pos hmay]
    rcases hp with ⟨h1, s, h2, h3⟩ | ⟨h1, h2, h3⟩ | ⟨h1, h2, h3, s, t', h4, h5, h6, h7, h8⟩ | ⟨h1, h2, h3, h4⟩
    · obtain ⟨rfl, rfl, rfl⟩ := d_inj hd h2
      rw [if_pos h1]
      repeat' first | rw [if_pos (by omega)] | rw [if_neg (by omega)]
      exact bv_eq (beq_yes (by omega))
    · rw [if_neg (by omega), if_pos h2]
      obtain ⟨rfl, e, rfl⟩ := d_inj hd h3
      first | (cases e; done) | rfl
    · rw [if_neg (by omega), if_neg (by rw [h2]; simp), if_pos h3]
      obtain ⟨rfl, rfl, rfl⟩ := d_inj hd h4
      have h9 : 0 < f.x.m ∧ t = f.x.t + 6400000 := by omega
      repeat' first | rw [if_pos (by omega)] | rw [if_pos ht]
      exact bv_dec ⟨h6, h7, h8, h9.2⟩
    · rw [if_neg (by omega), if_neg (by rw [h2]; simp), if_neg (by rw [h3]; simp)]
      rcases h4 with ⟨h4, h5⟩ | ⟨h4, h5, h6⟩
      · obtain ⟨rfl, e, rfl⟩ := d_inj hd h5
        rcases h4 with h4 | h4
        · rw [if_neg (by omega)]
          first | (cases e; done) | rfl
        · rw [if_pos h4]
          refine ite_in (fun _ => ?_) (fun _ => ?_)
          all_goals first | (cases e; done) | rfl
      · rw [if_pos h4, if_neg (by rw [h5]; simp)]
        rcases h6 with ⟨h7, h8⟩ | ⟨h7, h6, h8⟩ | ⟨h7, h6, h8⟩
        all_goals obtain ⟨rfl, e, rfl⟩ := d_inj hd h8
        all_goals first
          | (exfalso; omega)
          | (rw [h7, h6]; simp; done)
          | (rw [h7]; simp; done)
          | (cases f.x.k <;> rw [h7] <;> simp)

theorem armed1_is (f : Fa) (hf : okF f) (k t : Int) (hd : pickF f mz = ⟨k, 1, t⟩) (x y z : Rw) (u n : Int) (hm : madeF x y z u n = f) :
    afn (CA f k 1 t) 100 6 [r12 x y z, iv u, iv n] [] 0 (fun v _ _ => v = bv true) := by
  rw [armed1_ev f k t x y z u n (fun v => v = bv true)]
  refine ifb_pos (decide_eq_true hm) (ifb_pos (decide_eq_true hd) ?_)
  clear hm
  have hp := pick_mz hf
  have ht := tok_ok hf
  have hmay := may_ok hf
  have hx := hf.1
  have hy := hf.2.1
  have hz := hf.2.2.1
  have hn := hf.2.2.2
  unfold okS at hx hy hz
  have w1 : IntKind.i64.wrap (0 + f.x.m) = f.x.m := by rw [wr (by omega) (by omega)]; omega
  have w2 : IntKind.i64.wrap (f.x.m + f.y.m) = f.x.m + f.y.m := wr (by omega) (by omega)
  have w3 : IntKind.i64.wrap (f.x.m + f.y.m + f.z.m) = f.x.m + f.y.m + f.z.m := wr (by omega) (by omega)
  have w4 : IntKind.i64.wrap (f.x.t + 3000000) = f.x.t + 3000000 := wr (by omega) (by omega)
  have w5 : IntKind.i64.wrap (f.y.t + 3000000) = f.y.t + 3000000 := wr (by omega) (by omega)
  have w6 : IntKind.i64.wrap (f.z.t + 3000000) = f.z.t + 3000000 := wr (by omega) (by omega)
  have w7 : IntKind.i64.wrap (f.n + 6400000) = f.n + 6400000 := wr (by omega) (by omega)
  simp only [ifb_ite, and_true, true_and, true_implies, decide_eq_true_eq, bne_iff_ne, beq_iff_eq, Bool.not_eq_true', Bool.eq_false_iff, ne_eq, ite_not, Value.int.injEq, Value.bool.injEq, w1, w2, w3, w4, w5, w6, w7]
  refine ⟨?_, ?_, ?_, ?_⟩
  · unfold la1 laF ar1
    repeat' refine ite_in (fun _ => ?_) (fun _ => ?_)
    all_goals refine ⟨?_, ?_⟩
    all_goals first | (symm; exact decide_eq_true (by assumption)) | (symm; exact decide_eq_false (by assumption)) | (rw [if_pos (by omega)]; done) | (rw [if_neg (by omega)]; done)
  · unfold la2 laF ar2
    repeat' refine ite_in (fun _ => ?_) (fun _ => ?_)
    all_goals refine ⟨?_, ?_⟩
    all_goals first | (rw [if_pos (by omega)]; done) | (rw [if_neg (by omega)]; done) | (simp [*]; done)
  · unfold la3 laF ar3
    repeat' refine ite_in (fun _ => ?_) (fun _ => ?_)
    all_goals refine ⟨?_, ?_⟩
    all_goals first | (rw [if_pos (by omega)]; done) | (rw [if_neg (by omega)]; done) | (simp [*]; done)
  · rw [if_pos hmay]
    rcases hp with ⟨h1, s, h2, h3⟩ | ⟨h1, h2, h3⟩ | ⟨h1, h2, h3, s, t', h4, h5, h6, h7, h8⟩ | ⟨h1, h2, h3, h4⟩
    · obtain ⟨rfl, rfl, rfl⟩ := d_inj hd h2
      rw [if_pos h1]
      repeat' first | rw [if_pos (by omega)] | rw [if_neg (by omega)]
      exact bv_eq (beq_yes (by omega))
    · rw [if_neg (by omega), if_pos h2]
      obtain ⟨rfl, e, rfl⟩ := d_inj hd h3
      first | (cases e; done) | rfl
    · rw [if_neg (by omega), if_neg (by rw [h2]; simp), if_pos h3]
      obtain ⟨rfl, rfl, rfl⟩ := d_inj hd h4
      have h9 : 0 < f.y.m ∧ t = f.y.t + 6400000 := by omega
      repeat' first | rw [if_pos (by omega)] | rw [if_pos ht]
      exact bv_dec ⟨h6, h7, h8, h9.2⟩
    · rw [if_neg (by omega), if_neg (by rw [h2]; simp), if_neg (by rw [h3]; simp)]
      rcases h4 with ⟨h4, h5⟩ | ⟨h4, h5, h6⟩
      · obtain ⟨rfl, e, rfl⟩ := d_inj hd h5
        rcases h4 with h4 | h4
        · rw [if_neg (by omega)]
          first | (cases e; done) | rfl
        · rw [if_pos h4]
          refine ite_in (fun _ => ?_) (fun _ => ?_)
          all_goals first | (cases e; done) | rfl
      · rw [if_pos h4, if_neg (by rw [h5]; simp)]
        rcases h6 with ⟨h7, h8⟩ | ⟨h7, h6, h8⟩ | ⟨h7, h6, h8⟩
        all_goals obtain ⟨rfl, e, rfl⟩ := d_inj hd h8
        all_goals first
          | (exfalso; omega)
          | (rw [h7, h6]; simp; done)
          | (rw [h7]; simp; done)
          | (cases f.x.k <;> rw [h7] <;> simp)

theorem armed2_is (f : Fa) (hf : okF f) (k t : Int) (hd : pickF f mz = ⟨k, 2, t⟩) (x y z : Rw) (u n : Int) (hm : madeF x y z u n = f) :
    afn (CA f k 2 t) 100 6 [r12 x y z, iv u, iv n] [] 0 (fun v _ _ => v = bv true) := by
  rw [armed2_ev f k t x y z u n (fun v => v = bv true)]
  refine ifb_pos (decide_eq_true hm) (ifb_pos (decide_eq_true hd) ?_)
  clear hm
  have hp := pick_mz hf
  have ht := tok_ok hf
  have hmay := may_ok hf
  have hx := hf.1
  have hy := hf.2.1
  have hz := hf.2.2.1
  have hn := hf.2.2.2
  unfold okS at hx hy hz
  have w1 : IntKind.i64.wrap (0 + f.x.m) = f.x.m := by rw [wr (by omega) (by omega)]; omega
  have w2 : IntKind.i64.wrap (f.x.m + f.y.m) = f.x.m + f.y.m := wr (by omega) (by omega)
  have w3 : IntKind.i64.wrap (f.x.m + f.y.m + f.z.m) = f.x.m + f.y.m + f.z.m := wr (by omega) (by omega)
  have w4 : IntKind.i64.wrap (f.x.t + 3000000) = f.x.t + 3000000 := wr (by omega) (by omega)
  have w5 : IntKind.i64.wrap (f.y.t + 3000000) = f.y.t + 3000000 := wr (by omega) (by omega)
  have w6 : IntKind.i64.wrap (f.z.t + 3000000) = f.z.t + 3000000 := wr (by omega) (by omega)
  have w7 : IntKind.i64.wrap (f.n + 6400000) = f.n + 6400000 := wr (by omega) (by omega)
  simp only [ifb_ite, and_true, true_and, true_implies, decide_eq_true_eq, bne_iff_ne, beq_iff_eq, Bool.not_eq_true', Bool.eq_false_iff, ne_eq, ite_not, Value.int.injEq, Value.bool.injEq, w1, w2, w3, w4, w5, w6, w7]
  refine ⟨?_, ?_, ?_, ?_⟩
  · unfold la1 laF ar1
    repeat' refine ite_in (fun _ => ?_) (fun _ => ?_)
    all_goals refine ⟨?_, ?_⟩
    all_goals first | (symm; exact decide_eq_true (by assumption)) | (symm; exact decide_eq_false (by assumption)) | (rw [if_pos (by omega)]; done) | (rw [if_neg (by omega)]; done)
  · unfold la2 laF ar2
    repeat' refine ite_in (fun _ => ?_) (fun _ => ?_)
    all_goals refine ⟨?_, ?_⟩
    all_goals first | (rw [if_pos (by omega)]; done) | (rw [if_neg (by omega)]; done) | (simp [*]; done)
  · unfold la3 laF ar3
    repeat' refine ite_in (fun _ => ?_) (fun _ => ?_)
    all_goals refine ⟨?_, ?_⟩
    all_goals first | (rw [if_pos (by omega)]; done) | (rw [if_neg (by omega)]; done) | (simp [*]; done)
  · rw [if_pos hmay]
    rcases hp with ⟨h1, s, h2, h3⟩ | ⟨h1, h2, h3⟩ | ⟨h1, h2, h3, s, t', h4, h5, h6, h7, h8⟩ | ⟨h1, h2, h3, h4⟩
    · obtain ⟨rfl, rfl, rfl⟩ := d_inj hd h2
      rw [if_pos h1]
      repeat' first | rw [if_pos (by omega)] | rw [if_neg (by omega)]
      exact bv_eq (beq_yes (by omega))
    · rw [if_neg (by omega), if_pos h2]
      obtain ⟨rfl, e, rfl⟩ := d_inj hd h3
      first | (cases e; done) | rfl
    · rw [if_neg (by omega), if_neg (by rw [h2]; simp), if_pos h3]
      obtain ⟨rfl, rfl, rfl⟩ := d_inj hd h4
      have h9 : 0 < f.z.m ∧ t = f.z.t + 16400000 := by omega
      repeat' first | rw [if_pos (by omega)] | rw [if_pos ht]
      exact bv_dec ⟨h6, h7, h8, h9.2⟩
    · rw [if_neg (by omega), if_neg (by rw [h2]; simp), if_neg (by rw [h3]; simp)]
      rcases h4 with ⟨h4, h5⟩ | ⟨h4, h5, h6⟩
      · obtain ⟨rfl, e, rfl⟩ := d_inj hd h5
        rcases h4 with h4 | h4
        · rw [if_neg (by omega)]
          first | (cases e; done) | rfl
        · rw [if_pos h4]
          refine ite_in (fun _ => ?_) (fun _ => ?_)
          all_goals first | (cases e; done) | rfl
      · rw [if_pos h4, if_neg (by rw [h5]; simp)]
        rcases h6 with ⟨h7, h8⟩ | ⟨h7, h6, h8⟩ | ⟨h7, h6, h8⟩
        all_goals obtain ⟨rfl, e, rfl⟩ := d_inj hd h8
        all_goals first
          | (exfalso; omega)
          | (rw [h7, h6]; simp; done)
          | (rw [h7]; simp; done)
          | (cases f.x.k <;> rw [h7] <;> simp)

theorem armed_is (xb xl xt xm yb yl yt ym zb zl zt zm u n : Int) : ∃ C, Sound C ∧ C.P = Try.prog ∧ afn C 100 6 [.agg [iv xb, iv xl, iv xt, iv xm, iv yb, iv yl, iv yt, iv ym, iv zb, iv zl, iv zt, iv zm], iv u, iv n] [] 0 (fun v _ _ => v = bv true) := by
  have hf := made_ok ⟨xb, xl, xt, xm⟩ ⟨yb, yl, yt, ym⟩ ⟨zb, zl, zt, zm⟩ u n
  obtain ⟨F, hF⟩ : ∃ F, madeF ⟨xb, xl, xt, xm⟩ ⟨yb, yl, yt, ym⟩ ⟨zb, zl, zt, zm⟩ u n = F := ⟨_, rfl⟩
  rw [hF] at hf
  have hp := pick_mz hf
  have key : ∀ k s t, pickF F mz = ⟨k, s, t⟩ → (s = 0 ∨ s = 1 ∨ s = 2) → ∃ C, Sound C ∧ C.P = Try.prog ∧ afn C 100 6 [.agg [iv xb, iv xl, iv xt, iv xm, iv yb, iv yl, iv yt, iv ym, iv zb, iv zl, iv zt, iv zm], iv u, iv n] [] 0 (fun v _ _ => v = bv true) := by
    intro k s t hd hs
    rcases hs with rfl | rfl | rfl
    · refine ⟨_, SA F k 0 t, rfl, ?_⟩
      exact armed0_is F hf k t hd ⟨xb, xl, xt, xm⟩ ⟨yb, yl, yt, ym⟩ ⟨zb, zl, zt, zm⟩ u n hF
    · refine ⟨_, SA F k 1 t, rfl, ?_⟩
      exact armed1_is F hf k t hd ⟨xb, xl, xt, xm⟩ ⟨yb, yl, yt, ym⟩ ⟨zb, zl, zt, zm⟩ u n hF
    · refine ⟨_, SA F k 2 t, rfl, ?_⟩
      exact armed2_is F hf k t hd ⟨xb, xl, xt, xm⟩ ⟨yb, yl, yt, ym⟩ ⟨zb, zl, zt, zm⟩ u n hF
  rcases hp with ⟨h1, s, h2, h3⟩ | ⟨h1, h2, h3⟩ | ⟨h1, h2, h3, s, t', h4, h5, h6, h7, h8⟩ | ⟨h1, h2, h3, h4⟩
  · exact key _ _ _ h2 (by omega)
  · exact key _ _ _ h3 (.inl rfl)
  · exact key _ _ _ h4 (by omega)
  · rcases h4 with ⟨h4, h5⟩ | ⟨h4, h5, h6⟩
    · exact key _ _ _ h5 (.inl rfl)
    · rcases h6 with ⟨h7, h8⟩ | ⟨h7, h6, h8⟩ | ⟨h7, h6, h8⟩
      · exact key _ _ _ h8 (.inr (.inl rfl))
      · exact key _ _ _ h8 (.inl rfl)
      · exact key _ _ _ h8 (.inl rfl)

end Go.Proofs.Ytebogbhjgdihpaa.Pto
