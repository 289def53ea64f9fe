/-
  TiG: made, soonest; the law TimerTells.
-/
import Derived.Test.YtebogbhjgdihpaaTiF
namespace Go.Proofs.Ytebogbhjgdihpaa.Pto
open Go Go.RowKit Go.Proofs.Ytebogbhjgdihpaa.Sy
set_option linter.unusedVariables false
set_option linter.unusedSimpArgs false
set_option maxRecDepth 100000
set_option maxHeartbeats 4000000

theorem tells_is (xk : Bool) (xl xt xm : Int) (yk : Bool) (yl yt ym : Int) (zk : Bool) (zl zt zm : Int) (c d p : Bool) (n : Int) (a b g h e x q m : Int) :
    ∃ C, Sound C ∧ C.P = Try.prog ∧ afn C 100 5 [.agg [bv xk, iv xl, iv xt, iv xm, bv yk, iv yl, iv yt, iv ym, bv zk, iv zl, iv zt, iv zm, bv c, bv d, bv p, iv n], .agg [iv a, iv b, iv g, iv h, iv e, iv x, iv q, iv m]] [] 0 (fun v _ _ => v = bv true) := ⟨C5, S5, rfl, by
  have := tells_ev ⟨⟨xk, xl, xt, xm⟩, ⟨yk, yl, yt, ym⟩, ⟨zk, zl, zt, zm⟩, c, d, p, n⟩ ⟨a, b, g, h, e, x, q, m⟩ (fun v => v = bv true)
  refine this.mpr ?_
  clear this
  repeat' first
    | exact rfl
    | refine ifb_pos (by simp) ?_⟩

def bt (b k : Int) : Bool := bits BinOp.and IntKind.i64 (brF b 8) k == k
def spM (x : Rw) : Sp := ⟨bt x.b 1, if bt x.b 2 = true then brF x.l 1125899906842624 else -1, if bt x.b 4 = true then brF x.t 1125899906842624 else -1, if bt x.b 4 = true then 1 + brF x.m 256 else 0⟩
def madeF (x y z : Rw) (u n : Int) : Fa := ⟨spM x, spM y, spM z, bt u 1, bt u 2, bt u 4, brF n 1125899906842624⟩
theorem made_is (x y z : Rw) (u n : Int) : ∃ C, Sound C ∧ C.P = Try.prog ∧ ∃ n', afn C n' 9 [.agg [iv x.b, iv x.l, iv x.t, iv x.m, iv y.b, iv y.l, iv y.t, iv y.m, iv z.b, iv z.l, iv z.t, iv z.m], iv u, iv n] [] 0 (fun v _ _ => v = fv (madeF x y z u n)) := ⟨C4b, S4b, rfl, 100, by
  rw [made_ev x y z u n (fun v => v = fv (madeF x y z u n))]
  have w : ∀ i : Int, IntKind.i64.wrap (1 + brF i 256) = 1 + brF i 256 := fun i => by
    have := brF_lo i (b := 256) (by omega)
    exact wr (by omega) (by omega)
  simp only [w]
  cases h1 : (bits BinOp.and IntKind.i64 (brF x.b 8) 2 == 2) <;> cases h2 : (bits BinOp.and IntKind.i64 (brF x.b 8) 4 == 4) <;>
  cases h3 : (bits BinOp.and IntKind.i64 (brF y.b 8) 2 == 2) <;> cases h4 : (bits BinOp.and IntKind.i64 (brF y.b 8) 4 == 4) <;>
  cases h5 : (bits BinOp.and IntKind.i64 (brF z.b 8) 2 == 2) <;> cases h6 : (bits BinOp.and IntKind.i64 (brF z.b 8) 4 == 4) <;>
  simp only [ifb_true, ifb_false, madeF, spM, bt, h1, h2, h3, h4, h5, h6, if_true, if_false, Bool.false_eq_true]⟩
def gMade : List AV → Option AV
  | [.agg [.val (.int .i64 a), .val (.int .i64 b), .val (.int .i64 c), .val (.int .i64 d), .val (.int .i64 e), .val (.int .i64 f), .val (.int .i64 g), .val (.int .i64 h), .val (.int .i64 i), .val (.int .i64 j), .val (.int .i64 k), .val (.int .i64 l)], .val (.int .i64 u), .val (.int .i64 n)] => some (fv (madeF ⟨a, b, c, d⟩ ⟨e, f, g, h⟩ ⟨i, j, k, l⟩ u n))
  | _ => none
theorem eMade : EntryOK Try.prog 9 (plain gMade) := entry_of (by kernel_rfl) fun args v h => by
  unfold gMade at h
  split at h
  · cases h; exact ⟨rfl, rfl, made_is ⟨_, _, _, _⟩ ⟨_, _, _, _⟩ ⟨_, _, _, _⟩ _ _⟩
  · cases h

/-- Is none due earlier, as told, and is that one due then? -/
def soonF (f : Fa) (t w : Int) : Bool := decide ((0 < f.x.m → t ≤ f.x.t + 6400000) ∧ (0 < f.y.m → t ≤ f.y.t + 6400000) ∧ (0 < f.z.m → f.c = true → t ≤ f.z.t + 16400000) ∧ t = w)
def tOK (f : Fa) : Prop := (-1 ≤ f.x.t ∧ f.x.t ≤ 9007199254740991) ∧ (-1 ≤ f.y.t ∧ f.y.t ≤ 9007199254740991) ∧ (-1 ≤ f.z.t ∧ f.z.t ≤ 9007199254740991)
instance (f : Fa) : Decidable (tOK f) := by unfold tOK; infer_instance
theorem soon_end {f : Fa} {t w : Int} {b : Bool} (h : b = soonF f t w) : AV.val (.bool b) = bv (soonF f t w) := by rw [h]
theorem soon_no {f : Fa} {t w : Int} (h : ¬ ((0 < f.x.m → t ≤ f.x.t + 6400000) ∧ (0 < f.y.m → t ≤ f.y.t + 6400000) ∧ (0 < f.z.m → f.c = true → t ≤ f.z.t + 16400000) ∧ t = w)) : AV.val (.bool false) = bv (soonF f t w) := by
  rw [soonF, decide_eq_false h]
theorem soon_yes {f : Fa} {t w v : Int} (hv : v = w) (h : (0 < f.x.m → t ≤ f.x.t + 6400000) ∧ (0 < f.y.m → t ≤ f.y.t + 6400000) ∧ (0 < f.z.m → f.c = true → t ≤ f.z.t + 16400000)) : AV.val (.bool (t == v)) = bv (soonF f t w) := by
  subst hv
  refine soon_end ?_
  rw [soonF, Bool.eq_iff_iff, beq_iff_eq, decide_eq_true_eq]
  exact ⟨fun h1 => ⟨h.1, h.2.1, h.2.2, h1⟩, fun h1 => h1.2.2.2⟩
theorem soon0_is (f : Fa) (k t : Int) (h : tOK f) : ∃ C, Sound C ∧ C.P = Try.prog ∧ ∃ n', afn C n' 20 [fv f, .agg [iv k, iv 0, iv t]] [] 0 (fun v _ _ => v = bv (soonF f t (f.x.t + 6400000))) := ⟨C4b, S4b, rfl, 100, by
  rw [soon0_ev f k t (fun v => v = bv (soonF f t (f.x.t + 6400000)))]
  unfold tOK at h
  have w1 : IntKind.i64.wrap (f.x.t + 6400000) = f.x.t + 6400000 := wr (by omega) (by omega)
  have w2 : IntKind.i64.wrap (f.y.t + 6400000) = f.y.t + 6400000 := wr (by omega) (by omega)
  have w3 : IntKind.i64.wrap (f.z.t + 16400000) = f.z.t + 16400000 := wr (by omega) (by omega)
  simp only [ifb_ite, decide_eq_true_eq, w1, w2, w3]
  repeat' refine ite_in (fun _ => ?_) (fun _ => ?_)
  all_goals first
    | exact soon_no (fun h => by omega)
    | exact soon_no (fun h => by have := h.2.2.1 (by assumption) (by assumption); omega)
    | exact soon_yes rfl ⟨fun _ => by omega, fun _ => by omega, fun h1 h2 => by first | omega | exact absurd h2 (by assumption)⟩⟩
theorem soon1_is (f : Fa) (k t : Int) (h : tOK f) : ∃ C, Sound C ∧ C.P = Try.prog ∧ ∃ n', afn C n' 20 [fv f, .agg [iv k, iv 1, iv t]] [] 0 (fun v _ _ => v = bv (soonF f t (f.y.t + 6400000))) := ⟨C4b, S4b, rfl, 100, by
  rw [soon1_ev f k t (fun v => v = bv (soonF f t (f.y.t + 6400000)))]
  unfold tOK at h
  have w1 : IntKind.i64.wrap (f.x.t + 6400000) = f.x.t + 6400000 := wr (by omega) (by omega)
  have w2 : IntKind.i64.wrap (f.y.t + 6400000) = f.y.t + 6400000 := wr (by omega) (by omega)
  have w3 : IntKind.i64.wrap (f.z.t + 16400000) = f.z.t + 16400000 := wr (by omega) (by omega)
  simp only [ifb_ite, decide_eq_true_eq, w1, w2, w3]
  repeat' refine ite_in (fun _ => ?_) (fun _ => ?_)
  all_goals first
    | exact soon_no (fun h => by omega)
    | exact soon_no (fun h => by have := h.2.2.1 (by assumption) (by assumption); omega)
    | exact soon_yes rfl ⟨fun _ => by omega, fun _ => by omega, fun h1 h2 => by first | omega | exact absurd h2 (by assumption)⟩⟩
theorem soon2_is (f : Fa) (k t : Int) (h : tOK f) : ∃ C, Sound C ∧ C.P = Try.prog ∧ ∃ n', afn C n' 20 [fv f, .agg [iv k, iv 2, iv t]] [] 0 (fun v _ _ => v = bv (soonF f t (f.z.t + 16400000))) := ⟨C4b, S4b, rfl, 100, by
  rw [soon2_ev f k t (fun v => v = bv (soonF f t (f.z.t + 16400000)))]
  unfold tOK at h
  have w1 : IntKind.i64.wrap (f.x.t + 6400000) = f.x.t + 6400000 := wr (by omega) (by omega)
  have w2 : IntKind.i64.wrap (f.y.t + 6400000) = f.y.t + 6400000 := wr (by omega) (by omega)
  have w3 : IntKind.i64.wrap (f.z.t + 16400000) = f.z.t + 16400000 := wr (by omega) (by omega)
  simp only [ifb_ite, decide_eq_true_eq, w1, w2, w3]
  repeat' refine ite_in (fun _ => ?_) (fun _ => ?_)
  all_goals first
    | exact soon_no (fun h => by omega)
    | exact soon_no (fun h => by have := h.2.2.1 (by assumption) (by assumption); omega)
    | exact soon_yes rfl ⟨fun _ => by omega, fun _ => by omega, fun h1 h2 => by first | omega | exact absurd h2 (by assumption)⟩⟩
def gSoon : List AV → Option (Bool × AV)
  | [.agg [.val (.bool xk), .val (.int .i64 xl), .val (.int .i64 xt), .val (.int .i64 xm), .val (.bool yk), .val (.int .i64 yl), .val (.int .i64 yt), .val (.int .i64 ym), .val (.bool zk), .val (.int .i64 zl), .val (.int .i64 zt), .val (.int .i64 zm), .val (.bool c), .val (.bool d), .val (.bool p), .val (.int .i64 n)], .agg [.val (.int .i64 k), .val (.int .i64 s), .val (.int .i64 t)]] => match decide (s = 0) with
    | true => some (decide (tOK ⟨⟨xk, xl, xt, xm⟩, ⟨yk, yl, yt, ym⟩, ⟨zk, zl, zt, zm⟩, c, d, p, n⟩), bv (soonF ⟨⟨xk, xl, xt, xm⟩, ⟨yk, yl, yt, ym⟩, ⟨zk, zl, zt, zm⟩, c, d, p, n⟩ t (xt + 6400000)))
    | false => match decide (s = 1) with
      | true => some (decide (tOK ⟨⟨xk, xl, xt, xm⟩, ⟨yk, yl, yt, ym⟩, ⟨zk, zl, zt, zm⟩, c, d, p, n⟩), bv (soonF ⟨⟨xk, xl, xt, xm⟩, ⟨yk, yl, yt, ym⟩, ⟨zk, zl, zt, zm⟩, c, d, p, n⟩ t (yt + 6400000)))
      | false => match decide (s = 2) with
        | true => some (decide (tOK ⟨⟨xk, xl, xt, xm⟩, ⟨yk, yl, yt, ym⟩, ⟨zk, zl, zt, zm⟩, c, d, p, n⟩), bv (soonF ⟨⟨xk, xl, xt, xm⟩, ⟨yk, yl, yt, ym⟩, ⟨zk, zl, zt, zm⟩, c, d, p, n⟩ t (zt + 16400000)))
        | false => none
  | _ => none
theorem eSoon : EntryOK Try.prog 20 (fun a _ => gSoon a) := entry_if (by kernel_rfl) fun args v h => by
  unfold gSoon at h
  split at h
  · split at h
    · rename_i hs
      have hs := of_decide_eq_true hs
      subst hs
      simp only [Option.some.injEq, Prod.mk.injEq, decide_eq_true_eq] at h
      obtain ⟨h1, rfl⟩ := h
      exact ⟨rfl, rfl, soon0_is ⟨⟨_, _, _, _⟩, ⟨_, _, _, _⟩, ⟨_, _, _, _⟩, _, _, _, _⟩ _ _ h1⟩
    · split at h
      · rename_i hs
        have hs := of_decide_eq_true hs
        subst hs
        simp only [Option.some.injEq, Prod.mk.injEq, decide_eq_true_eq] at h
        obtain ⟨h1, rfl⟩ := h
        exact ⟨rfl, rfl, soon1_is ⟨⟨_, _, _, _⟩, ⟨_, _, _, _⟩, ⟨_, _, _, _⟩, _, _, _, _⟩ _ _ h1⟩
      · split at h
        · rename_i hs
          have hs := of_decide_eq_true hs
          subst hs
          simp only [Option.some.injEq, Prod.mk.injEq, decide_eq_true_eq] at h
          obtain ⟨h1, rfl⟩ := h
          exact ⟨rfl, rfl, soon2_is ⟨⟨_, _, _, _⟩, ⟨_, _, _, _⟩, ⟨_, _, _, _⟩, _, _, _, _⟩ _ _ h1⟩
        · cases h
  · cases h

end Go.Proofs.Ytebogbhjgdihpaa.Pto
