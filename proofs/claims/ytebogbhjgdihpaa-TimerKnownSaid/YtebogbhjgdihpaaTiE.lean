/-
  TiE: the reference's Pick; both as entries.
-/
import Derived.Test.YtebogbhjgdihpaaTiD
namespace Go.Proofs.Ytebogbhjgdihpaa.Pto
open Go Go.RowKit Go.Proofs.Ytebogbhjgdihpaa.Sy
set_option linter.unusedVariables false
set_option linter.unusedSimpArgs false
set_option maxRecDepth 100000
set_option maxHeartbeats 4000000

theorem dv_of {d e : Dd} (h : e = d) : AV.agg [iv d.k, iv d.s, iv d.t] = dv e := by rw [h]
theorem rpick_is (f : Fa) (r : Me) : afn (CP f r) 100 17 [fv f, rv r.a r.b r.c r.d r.e, iv r.x, iv r.q, iv r.m] [] 0 (fun v _ _ => v = dv (pickF f r)) := by
  rw [rpick_ev f r (fun v => v = dv (pickF f r))]
  refine ifb_of (fun hm => ?_) fun hm => ifb_of (fun hc => ?_) fun hc => ?_
  · exact dv_mk (pick_bad (.inl (by simpa using hm)))
  · exact dv_mk (pick_bad (.inr (by simpa using hc)))
  have hm : mayF f = true := by simpa using hm
  have hok : ¬ (mayF f = false ∨ ckF r.a r.b r.c r.d r.e ≠ 0) := by
    rintro (h | h)
    · rw [hm] at h; cases h
    · simp only [bne_eq_false_iff_eq] at hc
      exact h hc
  obtain ⟨hx, hy, hz, hn⟩ := mayF_ok hm
  have hx := spF_ok hx
  have hy := spF_ok hy
  have hz := spF_ok hz
  have hX := due_lo (wtF r 0) hx.2.1
  have hY := due_lo (wtF r 1) hy.2.1
  have hZ := due_lo (wtF r 2) hz.2.1
  have hN0 := due_lo (wtF r 0) (.inr hn)
  have hN1 := due_lo (wtF r 1) (.inr hn)
  clear hm hc
  have w1 : IntKind.i64.wrap (0 + f.x.m) = f.x.m := by rw [wr (by omega) (by omega)]; omega
  have w2 : IntKind.i64.wrap (f.x.m + f.y.m) = f.x.m + f.y.m := wr (by omega) (by omega)
  have w3 : IntKind.i64.wrap (f.x.m + f.y.m + f.z.m) = f.x.m + f.y.m + f.z.m := wr (by omega) (by omega)
  simp only [ifb_ite, and_true, true_and, true_implies, decide_eq_true_eq, bne_iff_ne, beq_iff_eq, Bool.not_eq_true', Bool.eq_false_iff, ne_eq, ite_not, Value.int.injEq, w1, w2, w3]
  refine ⟨?_, ?_, ?_, ?_⟩
  · rcases ls_cases (d' := d0) 0 f.x.l rfl with ⟨a, p⟩ | ⟨a, p⟩ <;> (have p : lo1 f = _ := p; rw [p]; dsimp only [d0] at a ⊢; repeat' first | rw [if_pos (by omega)] | rw [if_neg (by omega)] | refine ite_in (fun _ => ?_) (fun _ => ?_)) <;> exact ⟨rfl, rfl, rfl⟩
  · rcases ls_cases (d := lo1 f) 1 f.y.l rfl with ⟨a, p⟩ | ⟨a, p⟩ <;> (have p : lo2 f = _ := p; rw [p]; repeat' first | rw [if_pos (by omega)] | rw [if_neg (by omega)] | refine ite_in (fun _ => ?_) (fun _ => ?_)) <;> first | exact ⟨rfl, rfl, rfl⟩ | (exfalso; omega)
  · rcases ls_cases (d := lo2 f) 2 f.z.l rfl with ⟨a, p⟩ | ⟨a, p⟩ <;> (have p : lo3 f = _ := p; rw [p]; repeat' first | rw [if_pos (by omega)] | rw [if_neg (by omega)] | refine ite_in (fun _ => ?_) (fun _ => ?_)) <;> first | exact ⟨rfl, rfl, rfl⟩ | (exfalso; omega)
  · refine ite_in (fun h0 => ite_in (fun hd => ?_) fun hd => ?_) fun h0 => ?_
    · exact dv_of (pick_lo hok (.inr hd))
    · have hd : f.d = false := by simpa using hd
      refine ⟨by rw [lo3_none h0]; exact ⟨rfl, rfl, rfl⟩, ?_, ?_, ?_, ?_⟩
      · rcases pr_cases (d' := d0) 0 true f.x (wtF r 0) rfl with ⟨a, p⟩ | ⟨a, q, p⟩ | ⟨a, q, p⟩ <;> (have p : pb1 f r = _ := p; rw [p]; dsimp only [d0] at *; simp only [and_true] at a; repeat' first | rw [if_pos (by omega)] | rw [if_neg (by omega)] | refine ite_in (fun _ => ?_) (fun _ => ?_)) <;> first | exact ⟨rfl, rfl, rfl⟩ | (exfalso; omega)
      · rcases pr_cases (d := pb1 f r) 1 true f.y (wtF r 1) rfl with ⟨a, p⟩ | ⟨a, q, p⟩ | ⟨a, q, p⟩ <;> (have p : pb2 f r = _ := p; rw [p]; simp only [and_true] at a; repeat' first | rw [if_pos (by omega)] | rw [if_neg (by omega)] | refine ite_in (fun _ => ?_) (fun _ => ?_)) <;> first | exact ⟨rfl, rfl, rfl⟩ | (exfalso; omega)
      · rcases pr_cases (d := pb2 f r) 2 f.c f.z (wtF r 2) rfl with ⟨a, p⟩ | ⟨a, q, p⟩ | ⟨a, q, p⟩ <;> (have p : pb3 f r = _ := p; rw [p]; repeat' first | rw [if_pos (by omega)] | rw [if_neg (by omega)] | refine ite_in (fun _ => ?_) (fun _ => ?_)) <;> first
          | exact ⟨rfl, rfl, rfl⟩
          | exact absurd a.2.2 (by assumption)
          | exact absurd (⟨by omega, by omega, by assumption⟩ : f.z.m ≠ 0 ∧ f.z.t ≠ -1 ∧ f.c = true) a
      · refine ite_in (fun h1 => ?_) fun h1 => ?_
        · have hls : ∀ {d : Dd}, lsTF f r = d → pickF f r = d := fun e => (pick_ls hok h0 hd h1).trans e
          have hp3 : pb3 f r = d0 := pb3_none hx.2.1 hy.2.1 hz.2.1 h1
          rw [hp3]
          refine ite_in (fun h2 => ?_) fun h2 => ite_in (fun h3 => ?_) fun h3 => ?_
          · exact dv_of (hls (if_pos (.inl h2)))
          · exact dv_of (hls (if_pos (.inr h3)))
          · have c1 : ¬ (0 < f.x.m + f.y.m + f.z.m ∨ f.p = true) := fun h => h.elim h2 h3
            refine ite_in (fun cy => ?_) fun cy => ite_in (fun cx => ?_) fun cx => ?_
            · exact dv_mk (hls ((if_neg c1).trans (if_pos cy)))
            · exact dv_mk (hls ((if_neg c1).trans ((if_neg cy).trans (if_pos cx))))
            · exact dv_of (hls ((if_neg c1).trans ((if_neg cy).trans (if_neg cx))))
        · exact dv_of (pick_pb hok h0 hd h1)
    · exact dv_of (pick_lo hok (.inl h0))

def gPick : List AV → Option AV
  | [.agg [.val (.bool xk), .val (.int .i64 xl), .val (.int .i64 xt), .val (.int .i64 xm), .val (.bool yk), .val (.int .i64 yl), .val (.int .i64 yt), .val (.int .i64 ym), .val (.bool zk), .val (.int .i64 zl), .val (.int .i64 zt), .val (.int .i64 zm), .val (.bool c), .val (.bool d), .val (.bool p), .val (.int .i64 n)],
      .agg [.val (.int .i64 a), .val (.int .i64 b), .val (.int .i64 g), .val (.int .i64 h), .val (.int .i64 e)], .val (.int .i64 x), .val (.int .i64 q), .val (.int .i64 m)] => some (dv (pickF ⟨⟨xk, xl, xt, xm⟩, ⟨yk, yl, yt, ym⟩, ⟨zk, zl, zt, zm⟩, c, d, p, n⟩ ⟨a, b, g, h, e, x, q, m⟩))
  | _ => none
theorem ePick : EntryOK Try.prog 16 (plain gPick) := entry_of (by kernel_rfl) fun args v h => by
  unfold gPick at h
  split at h
  · cases h; exact ⟨rfl, rfl, _, SP _ _, rfl, 100, pick_is ⟨⟨_, _, _, _⟩, ⟨_, _, _, _⟩, ⟨_, _, _, _⟩, _, _, _, _⟩ ⟨_, _, _, _, _, _, _, _⟩⟩
  · cases h
theorem eRPick : EntryOK Try.prog 17 (plain gPick) := entry_of (by kernel_rfl) fun args v h => by
  unfold gPick at h
  split at h
  · cases h; exact ⟨rfl, rfl, _, SP _ _, rfl, 100, rpick_is ⟨⟨_, _, _, _⟩, ⟨_, _, _, _⟩, ⟨_, _, _, _⟩, _, _, _, _⟩ ⟨_, _, _, _, _, _, _, _⟩⟩
  · cases h

end Go.Proofs.Ytebogbhjgdihpaa.Pto
