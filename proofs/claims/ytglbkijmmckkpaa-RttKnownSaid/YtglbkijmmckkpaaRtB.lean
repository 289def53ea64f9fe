/-
  RtB: what those come to.
-/
import Derived.Test.YtglbkijmmckkpaaRtA
namespace Go.Proofs.Ytglbkijmmckkpaa.Rt
open Go Go.RowKit Go.Proofs.Ytglbkijmmckkpaa.Sy Go.Proofs.Ytglbkijmmckkpaa.Cm
set_option linter.unusedVariables false
set_option linter.unusedSimpArgs false

abbrev tv (m : M) (k : Int) : AV := .tup [mv m, iv k]
theorem tup_eq {a b c d e k k' : Int} {m : M} (h : m = ⟨a, b, c, d, e⟩) (hk : k = k') : AV.tup [AV.agg [.val (.int .i64 a), .val (.int .i64 b), .val (.int .i64 c), .val (.int .i64 d), .val (.int .i64 e)], .val (.int .i64 k)] = tv m k' := by
  subst h; subst hk; rfl

/-! New -/
theorem newM_yes {f : Int} (h : okN f) : newM f = ⟨0, 0, f, f / 2, -1⟩ := if_pos h
theorem newM_no {f : Int} (h : ¬ okN f) : newM f = zM := if_neg h
theorem newE_yes {f : Int} (h : okN f) : newE f = 0 := if_pos h
theorem newE_no {f : Int} (h : ¬ okN f) : newE f = 9 := if_neg h
theorem new_both (f : Int) : ifb (decide (f < 1000000)) (tv zM 9 = tv (newM f) (newE f)) (ifb (decide (60000000000 < f)) (tv zM 9 = tv (newM f) (newE f)) (tv ⟨0, 0, f, IntKind.i64.wrap (f.tdiv 2), -1⟩ 0 = tv (newM f) (newE f))) := by
  simp only [ifb_ite, decide_eq_true_eq]
  refine ite_in (fun h => ?_) fun h => ite_in (fun h' => ?_) fun h' => ?_
  · have : ¬ okN f := by unfold okN; omega
    rw [newM_no this, newE_no this]
  · have : ¬ okN f := by unfold okN; omega
    rw [newM_no this, newE_no this]
  · have : okN f := by unfold okN; omega
    rw [newM_yes this, newE_yes this, half (by omega) (by omega)]
theorem new_is (f : Int) : afn C0 100 14 [iv f] [] 0 (fun v _ _ => v = tv (newM f) (newE f)) := by
  rw [new_ev f (fun v => v = tv (newM f) (newE f))]
  exact new_both f
theorem rnew_is (f : Int) : afn C0 100 15 [iv f] [] 0 (fun v _ _ => v = tv (newM f) (newE f)) := by
  rw [rnew_ev f (fun v => v = tv (newM f) (newE f))]
  exact new_both f
theorem eNew : EntryOK Try.prog 14 (plain gNew) := entry_closed S0 (by kernel_rfl) fun args v h => by
  unfold gNew at h
  split at h
  · cases h; exact ⟨rfl, rfl, 100, new_is _⟩
  · cases h
theorem eRNew : EntryOK Try.prog 15 (plain gNew) := entry_closed S0 (by kernel_rfl) fun args v h => by
  unfold gNew at h
  split at h
  · cases h; exact ⟨rfl, rfl, 100, rnew_is _⟩
  · cases h

/-! Check -/
theorem SN : Sound (CN gNew) := ⟨tab_of (entries_cons eNew entries_nil), fun f h => entersB_ok (allN_ok inl0_ok f h), mixed⟩
theorem check_is (a b c d e : Int) : afn (CN gNew) 100 21 [rv a b c d e] [] 0 (fun v _ _ => v = iv (ckF a b c d e)) := by
  rw [check_ev a b c d e (fun v => v = iv (ckF a b c d e))]
  simp only [ifb_ite, beq_iff_eq, bne_iff_ne, decide_eq_true_eq, Bool.not_eq_true', Bool.and_eq_true, Bool.and_true]
  by_cases he : e = -1
  · rw [if_pos he]
    by_cases h1 : okN c
    · have h2 := h1
      unfold okN at h2
      rw [newE_yes h1, if_neg (by decide), newM_yes h1]
      split
      · rename_i h
        refine ck_leaf2 fun hp => ?_
        unfold ckP ckN at hp
        have h3 : d = c / 2 ∧ a = 0 ∧ b = 0 := by omega
        obtain ⟨rfl, rfl, rfl⟩ := h3
        subst he
        simp at h
      · rename_i h
        simp only [Bool.not_eq_false, Bool.and_eq_true, beq_iff_eq] at h
        exact ck_leaf0 (by unfold ckP ckN; omega)
    · rw [newE_no h1, if_pos (by decide)]
      exact ck_leaf2 (by unfold okN at h1; unfold ckP ckN; omega)
  · rw [if_neg he]
    repeat' refine ite_in (fun _ => ?_) (fun _ => ?_)
    all_goals first | exact ck_leaf2 (by unfold ckP ckO; omega) | exact ck_leaf0 (by unfold ckP ckO; omega)
theorem rcheck_is (a b c d e : Int) : afn C0 100 22 [rv a b c d e] [] 0 (fun v _ _ => v = iv (ckF a b c d e)) := by
  rw [rcheck_ev a b c d e (fun v => v = iv (ckF a b c d e))]
  simp only [ifb_ite, beq_iff_eq, bne_iff_ne, decide_eq_true_eq, Bool.not_eq_true', decide_eq_false_iff_not]
  by_cases he : e = -1
  · rw [if_pos he]
    by_cases h1 : c < 1000000
    · repeat' refine ite_in (fun _ => ?_) (fun _ => ?_)
      all_goals first | exact ck_leaf2 (by unfold ckP ckN; omega) | omega
    · by_cases h2 : 60000000000 < c
      · repeat' refine ite_in (fun _ => ?_) (fun _ => ?_)
        all_goals first | exact ck_leaf2 (by unfold ckP ckN; omega) | omega
      · rw [half (by omega) (by omega)]
        repeat' refine ite_in (fun _ => ?_) (fun _ => ?_)
        all_goals first | exact ck_leaf2 (by unfold ckP ckN; omega) | exact ck_leaf0 (by unfold ckP ckN; omega) | omega
  · rw [if_neg he]
    repeat' refine ite_in (fun _ => ?_) (fun _ => ?_)
    all_goals first | exact ck_leaf2 (by unfold ckP ckO; omega) | exact ck_leaf0 (by unfold ckP ckO; omega) | omega
theorem eCheck : EntryOK Try.prog 21 (plain gCheck) := entry_closed SN (by kernel_rfl) fun args v h => by
  unfold gCheck at h
  split at h
  · cases h; exact ⟨rfl, rfl, 100, check_is _ _ _ _ _⟩
  · cases h
set_option maxRecDepth 20000 in
theorem eRCheck : EntryOK Try.prog 22 (plain gCheck) := entry_closed S0 (by kernel_rfl) fun args v h => by
  unfold gCheck at h
  split at h
  · cases h; exact ⟨rfl, rfl, 100, rcheck_is _ _ _ _ _⟩
  · cases h
theorem S1 : Sound C1 := ⟨tab_of (entries_cons eCheck (entries_cons eRCheck entries_nil)), fun f h => entersB_ok (allN_ok inl0_ok f h), mixed⟩

/-! Sample -/
def okT (n : Int) : Prop := 0 ≤ n ∧ n ≤ 9007199254740991
instance (f : Int) : Decidable (okT f) := by unfold okT; infer_instance
def okS (a b c d e l x n : Int) : Prop := ckP a b c d e ∧ okT l ∧ okT x ∧ okT n
instance (a b c d e l x n : Int) : Decidable (okS a b c d e l x n) := by unfold okS; infer_instance
def cnt (b l x : Int) : Int := if min b l ≤ l - x then l - x else l
def nextM (b c d e l x : Int) : M := ⟨l, min b l, (7 * c + cnt b l x) / 8, (3 * d + max (c - cnt b l x) (cnt b l x - c)) / 4, e⟩
def sampM (a b c d e l x n : Int) : M := if okS a b c d e l x n then (if e = -1 then ⟨l, l, l, l / 2, n⟩ else nextM b c d e l x) else zM
def sampE (a b c d e l x n : Int) : Int := if ckP a b c d e then (if okS a b c d e l x n then 0 else 9) else 2
theorem cnt_lo {b l x : Int} (hb : 0 ≤ b) (hl : okT l) (hx : okT x) : 0 ≤ cnt b l x ∧ cnt b l x ≤ 9007199254740991 := by
  unfold okT at hl hx
  unfold cnt
  split <;> omega

theorem smooth_eq {c t : Int} (h0 : 0 ≤ c) (h1 : c ≤ 9007199254740991) (h2 : 0 ≤ t) (h3 : t ≤ 9007199254740991) : IntKind.i64.wrap ((IntKind.i64.wrap (IntKind.i64.wrap (7 * c) + t)).tdiv 8) = (7 * c + t) / 8 := by
  rw [wr (n := 7 * c) (by omega) (by omega), wr (n := 7 * c + t) (by omega) (by omega), Int.tdiv_eq_ediv_of_nonneg (by omega)]
  exact wr (by omega) (by omega)
theorem var_eq {d y : Int} (h0 : 0 ≤ d) (h1 : d ≤ 9007199254740991) (h2 : 0 ≤ y) (h3 : y ≤ 9007199254740991) : IntKind.i64.wrap ((IntKind.i64.wrap (IntKind.i64.wrap (3 * d) + y)).tdiv 4) = (3 * d + y) / 4 := by
  rw [wr (n := 3 * d) (by omega) (by omega), wr (n := 3 * d + y) (by omega) (by omega), Int.tdiv_eq_ediv_of_nonneg (by omega)]
  exact wr (by omega) (by omega)

theorem samp_err {a b c d e l x n k : Int} (h : ¬ okS a b c d e l x n) (hk : k = sampE a b c d e l x n) : AV.tup [AV.agg [.val (.int .i64 0), .val (.int .i64 0), .val (.int .i64 0), .val (.int .i64 0), .val (.int .i64 0)], .val (.int .i64 k)] = tv (sampM a b c d e l x n) (sampE a b c d e l x n) := by
  refine tup_eq ?_ hk
  unfold sampM
  rw [if_neg h]
  rfl
theorem samp_first {a b c d e l x n y : Int} (h : okS a b c d e l x n) (he : e = -1) (hy : y = l / 2) : AV.tup [AV.agg [.val (.int .i64 l), .val (.int .i64 l), .val (.int .i64 l), .val (.int .i64 y), .val (.int .i64 n)], .val (.int .i64 0)] = tv (sampM a b c d e l x n) (sampE a b c d e l x n) := by
  refine tup_eq ?_ ?_
  · unfold sampM
    rw [if_pos h, if_pos he, hy]
  · unfold sampE
    rw [if_pos h.1, if_pos h]
theorem samp_next {a b c d e l x n y z : Int} (h : okS a b c d e l x n) (he : ¬ e = -1) (hy : y = (7 * c + cnt b l x) / 8) (hz : z = (3 * d + max (c - cnt b l x) (cnt b l x - c)) / 4) : AV.tup [AV.agg [.val (.int .i64 l), .val (.int .i64 (min b l)), .val (.int .i64 y), .val (.int .i64 z), .val (.int .i64 e)], .val (.int .i64 0)] = tv (sampM a b c d e l x n) (sampE a b c d e l x n) := by
  refine tup_eq ?_ ?_
  · unfold sampM
    rw [if_pos h, if_neg he, hy, hz]
    rfl
  · unfold sampE
    rw [if_pos h.1, if_pos h]

theorem sample_is (a b c d e l x n : Int) : afn C1 100 16 [rv a b c d e, iv l, iv x, iv n] [] 0 (fun v _ _ => v = tv (sampM a b c d e l x n) (sampE a b c d e l x n)) := by
  rw [sample_ev a b c d e l x n (fun v => v = tv (sampM a b c d e l x n) (sampE a b c d e l x n))]
  simp only [ifb_ite, beq_iff_eq, bne_iff_ne, decide_eq_true_eq]
  by_cases hp : ckP a b c d e
  · rw [if_neg (by rw [ckF_yes hp]; decide)]
    have hb := ck_bounds hp
    have h9 : ∀ h : ¬ okS a b c d e l x n, (9 : Int) = sampE a b c d e l x n := fun h => by unfold sampE; rw [if_pos hp, if_neg h]
    have hn : ¬ (okT l ∧ okT x ∧ okT n) → ¬ okS a b c d e l x n := fun h h' => h h'.2
    refine ite_in (fun h => have hq := hn (by unfold okT; omega); samp_err hq (h9 hq)) fun _ => ?_
    refine ite_in (fun h => have hq := hn (by unfold okT; omega); samp_err hq (h9 hq)) fun _ => ?_
    refine ite_in (fun h => have hq := hn (by unfold okT; omega); samp_err hq (h9 hq)) fun _ => ?_
    refine ite_in (fun h => have hq := hn (by unfold okT; omega); samp_err hq (h9 hq)) fun _ => ?_
    refine ite_in (fun h => have hq := hn (by unfold okT; omega); samp_err hq (h9 hq)) fun _ => ?_
    refine ite_in (fun h => have hq := hn (by unfold okT; omega); samp_err hq (h9 hq)) fun _ => ?_
    have ho : okS a b c d e l x n := ⟨hp, by unfold okT; omega, by unfold okT; omega, by unfold okT; omega⟩
    refine ite_in (fun h => samp_first ho h (half (by omega) (by omega))) fun he => ?_
    rw [wr (n := l - x) (by omega) (by omega)]
    refine ite_in (fun h => ?_) fun h => ?_
    · have hc : cnt b l x = l - x := if_pos h
      rw [wr (n := c - (l - x)) (by omega) (by omega)]
      refine ite_in (fun h' => samp_next ho he (by rw [hc]; exact smooth_eq (by omega) (by omega) (by omega) (by omega)) ?_) fun h' => samp_next ho he (by rw [hc]; exact smooth_eq (by omega) (by omega) (by omega) (by omega)) ?_
      · rw [hc, wr (n := 0 - (c - (l - x))) (by omega) (by omega), var_eq (by omega) (by omega) (by omega) (by omega)]
        congr 2
        omega
      · rw [hc, var_eq (by omega) (by omega) (by omega) (by omega)]
        congr 2
        omega
    · have hc : cnt b l x = l := if_neg h
      rw [wr (n := c - l) (by omega) (by omega)]
      refine ite_in (fun h' => samp_next ho he (by rw [hc]; exact smooth_eq (by omega) (by omega) (by omega) (by omega)) ?_) fun h' => samp_next ho he (by rw [hc]; exact smooth_eq (by omega) (by omega) (by omega) (by omega)) ?_
      · rw [hc, wr (n := 0 - (c - l)) (by omega) (by omega), var_eq (by omega) (by omega) (by omega) (by omega)]
        congr 2
        omega
      · rw [hc, var_eq (by omega) (by omega) (by omega) (by omega)]
        congr 2
        omega
  · rw [if_pos (by rw [ckF_no hp]; decide)]
    exact samp_err (fun h => hp h.1) (by rw [ckF_no hp]; unfold sampE; rw [if_neg hp])

theorem rsample_is (a b c d e l x n : Int) : afn C1 100 17 [rv a b c d e, iv l, iv x, iv n] [] 0 (fun v _ _ => v = tv (sampM a b c d e l x n) (sampE a b c d e l x n)) := by
  rw [rsample_ev a b c d e l x n (fun v => v = tv (sampM a b c d e l x n) (sampE a b c d e l x n))]
  simp only [ifb_ite, beq_iff_eq, bne_iff_ne, decide_eq_true_eq, Bool.not_eq_true', decide_eq_false_iff_not]
  by_cases hp : ckP a b c d e
  · rw [if_neg (by rw [ckF_yes hp]; decide)]
    have hb := ck_bounds hp
    have h9 : ∀ h : ¬ okS a b c d e l x n, (9 : Int) = sampE a b c d e l x n := fun h => by unfold sampE; rw [if_pos hp, if_neg h]
    have hn : ¬ (okT l ∧ okT x ∧ okT n) → ¬ okS a b c d e l x n := fun h h' => h h'.2
    refine ite_in (fun _ => ?_) fun h => have hq := hn (by unfold okT; omega); samp_err hq (h9 hq)
    refine ite_in (fun h => have hq := hn (by unfold okT; omega); samp_err hq (h9 hq)) fun _ => ?_
    refine ite_in (fun _ => ?_) fun h => have hq := hn (by unfold okT; omega); samp_err hq (h9 hq)
    refine ite_in (fun h => have hq := hn (by unfold okT; omega); samp_err hq (h9 hq)) fun _ => ?_
    refine ite_in (fun _ => ?_) fun h => have hq := hn (by unfold okT; omega); samp_err hq (h9 hq)
    refine ite_in (fun h => have hq := hn (by unfold okT; omega); samp_err hq (h9 hq)) fun _ => ?_
    have ho : okS a b c d e l x n := ⟨hp, by unfold okT; omega, by unfold okT; omega, by unfold okT; omega⟩
    refine ite_in (fun h => samp_first ho h (half (by omega) (by omega))) fun he => ?_
    rw [wr (n := l - x) (by omega) (by omega), wr (n := min b l + x) (by omega) (by omega)]
    refine ite_in (fun h => ?_) fun h => ?_
    · have hc : cnt b l x = l - x := if_pos (by omega)
      rw [wr (n := c - (l - x)) (by omega) (by omega), wr (n := l - x - c) (by omega) (by omega)]
      refine samp_next ho he (by rw [hc]; exact smooth_eq (by omega) (by omega) (by omega) (by omega)) ?_
      rw [hc, var_eq (by omega) (by omega) (by omega) (by omega)]
    · have hc : cnt b l x = l := if_neg (by omega)
      rw [wr (n := c - l) (by omega) (by omega), wr (n := l - c) (by omega) (by omega)]
      refine samp_next ho he (by rw [hc]; exact smooth_eq (by omega) (by omega) (by omega) (by omega)) ?_
      rw [hc, var_eq (by omega) (by omega) (by omega) (by omega)]
  · rw [if_pos (by rw [ckF_no hp]; decide)]
    exact samp_err (fun h => hp h.1) (by rw [ckF_no hp]; unfold sampE; rw [if_neg hp])
def gSample : List AV → Option AV
  | [.agg [.val (.int .i64 a), .val (.int .i64 b), .val (.int .i64 c), .val (.int .i64 d), .val (.int .i64 e)], .val (.int .i64 l), .val (.int .i64 x), .val (.int .i64 n)] => some (tv (sampM a b c d e l x n) (sampE a b c d e l x n))
  | _ => none
theorem eSample : EntryOK Try.prog 16 (plain gSample) := entry_closed S1 (by kernel_rfl) fun args v h => by
  unfold gSample at h
  split at h
  · cases h; exact ⟨rfl, rfl, 100, sample_is _ _ _ _ _ _ _ _⟩
  · cases h
set_option maxRecDepth 20000 in
theorem eRSample : EntryOK Try.prog 17 (plain gSample) := entry_closed S1 (by kernel_rfl) fun args v h => by
  unfold gSample at h
  split at h
  · cases h; exact ⟨rfl, rfl, 100, rsample_is _ _ _ _ _ _ _ _⟩
  · cases h

/-! Held, Greatest -/
def heldF (d m : Int) (k : Bool) : Int := match k with
  | true => min (tm d) (tm m)
  | false => tm d
theorem held_is (d m : Int) (k : Bool) : afn C1 100 11 [iv d, iv m, bv k] [] 0 (fun v _ _ => v = iv (heldF d m k)) := by
  rw [held_ev d m k (fun v => v = iv (heldF d m k))]
  cases k
  · rfl
  · show ifb (decide (tm m < tm d)) (iv (tm m) = iv (min (tm d) (tm m))) (iv (tm d) = iv (min (tm d) (tm m)))
    refine ifb_of (fun h => iv_eq ?_) fun h => iv_eq ?_
    · have := of_decide_eq_true h; omega
    · have := of_decide_eq_false h; omega
theorem rheld_is (d m : Int) (k : Bool) : afn C1 100 12 [iv d, iv m, bv k] [] 0 (fun v _ _ => v = iv (heldF d m k)) := by
  rw [rheld_ev d m k (fun v => v = iv (heldF d m k))]
  cases k <;> rfl
def gHeld : List AV → Option AV
  | [.val (.int .i64 a), .val (.int .i64 b), .val (.bool k)] => some (iv (heldF a b k))
  | _ => none
theorem eHeld : EntryOK Try.prog 11 (plain gHeld) := entry_closed S1 (by kernel_rfl) fun args v h => by
  unfold gHeld at h
  split at h
  · cases h; exact ⟨rfl, rfl, 100, held_is _ _ _⟩
  · cases h
theorem eRHeld : EntryOK Try.prog 12 (plain gHeld) := entry_closed S1 (by kernel_rfl) fun args v h => by
  unfold gHeld at h
  split at h
  · cases h; exact ⟨rfl, rfl, 100, rheld_is _ _ _⟩
  · cases h
def greatF (a b c d e : Int) : Int := if ckP a b c d e then max c a else 0
theorem great_both (a b c d e : Int) : ifb (ckF a b c d e != 0) (iv 0 = iv (greatF a b c d e)) (iv (max c a) = iv (greatF a b c d e)) := by
  unfold greatF ckF
  by_cases h : ckP a b c d e
  · rw [if_pos h, if_pos h]; rfl
  · rw [if_neg h, if_neg h]; rfl
theorem great_is (a b c d e : Int) : afn C1 100 23 [rv a b c d e] [] 0 (fun v _ _ => v = iv (greatF a b c d e)) := by
  rw [great_ev a b c d e (fun v => v = iv (greatF a b c d e))]
  exact great_both a b c d e
theorem rgreat_is (a b c d e : Int) : afn C1 100 24 [rv a b c d e] [] 0 (fun v _ _ => v = iv (greatF a b c d e)) := by
  rw [rgreat_ev a b c d e (fun v => v = iv (greatF a b c d e))]
  exact great_both a b c d e
def gGreat : List AV → Option AV
  | [.agg [.val (.int .i64 a), .val (.int .i64 b), .val (.int .i64 c), .val (.int .i64 d), .val (.int .i64 e)]] => some (iv (greatF a b c d e))
  | _ => none
theorem eGreat : EntryOK Try.prog 23 (plain gGreat) := entry_closed S1 (by kernel_rfl) fun args v h => by
  unfold gGreat at h
  split at h
  · cases h; exact ⟨rfl, rfl, 100, great_is _ _ _ _ _⟩
  · cases h
theorem eRGreat : EntryOK Try.prog 24 (plain gGreat) := entry_closed S1 (by kernel_rfl) fun args v h => by
  unfold gGreat at h
  split at h
  · cases h; exact ⟨rfl, rfl, 100, rgreat_is _ _ _ _ _⟩
  · cases h

/-! the examples -/
noncomputable def T2 : List (Nat × Entry) := [(14, plain gNew), (15, plain gNew), (21, plain gCheck), (22, plain gCheck), (16, plain gSample), (17, plain gSample), (11, plain gHeld), (12, plain gHeld), (23, plain gGreat), (24, plain gGreat), (18, fun a _ => gBring a)]
theorem T2_ok : ∀ k e, (k, e) ∈ T2 → EntryOK Try.prog k e := entries_cons eNew (entries_cons eRNew (entries_cons eCheck (entries_cons eRCheck (entries_cons eSample (entries_cons eRSample (entries_cons eHeld (entries_cons eRHeld (entries_cons eGreat (entries_cons eRGreat (entries_cons eBring entries_nil))))))))))
noncomputable def C2 : Cfg := ⟨Try.prog, mkT T2, fun f => hasN inl0 f, fun _ _ => none⟩
theorem S2 : Sound C2 := ⟨tab_of T2_ok, fun f h => entersB_ok (allN_ok inl0_ok f h), mixed⟩
theorem works_ev (K : AV → Prop) : afn C2 100 13 [] [] 0 (fun v _ _ => K v) = K (bv true) := by kernel_rfl
def gWorks : List AV → Option AV
  | [] => some (bv true)
  | _ => none
theorem eWorks : EntryOK Try.prog 13 (plain gWorks) := entry_closed S2 (by kernel_rfl) fun args v h => by
  unfold gWorks at h
  split at h
  · cases h; exact ⟨rfl, rfl, 100, by rw [works_ev]⟩
  · cases h
noncomputable def T3 : List (Nat × Entry) := (13, plain gWorks) :: T2
theorem T3_ok : ∀ k e, (k, e) ∈ T3 → EntryOK Try.prog k e := entries_cons eWorks T2_ok
noncomputable def C3 : Cfg := ⟨Try.prog, mkT T3, fun f => hasN inl0 f, fun _ _ => none⟩
theorem S3 : Sound C3 := ⟨tab_of T3_ok, fun f h => entersB_ok (allN_ok inl0_ok f h), mixed⟩

theorem holds_ev (d m : Int) (k : Bool) (K : AV → Prop) : (afn C3 100 3 [iv d, iv m, bv k] [] 0 (fun v _ _ => K v)) = (
      ifb (heldF d m k == heldF d m k) (K (AV.val (Value.bool true))) (K (AV.val (Value.bool false)))) := by
  kernel_rfl
theorem tells_ev (a b c d e f x y z : Int) (K : AV → Prop) : (afn C3 100 8 [rv a b c d e, iv f, .agg [iv x, iv y, iv z]] [] 0 (fun v _ _ => K v)) = (
      ifb (!((newM f).a == (newM f).a && ((newM f).b == (newM f).b && ((newM f).c == (newM f).c && ((newM f).d == (newM f).d && ((newM f).e == (newM f).e && true)))))) (K (AV.val (Value.bool false))) (ifb (newE f != newE f) (K (AV.val (Value.bool false)))
  (ifb (!((sampM a b c d e x y z).a == (sampM a b c d e x y z).a && ((sampM a b c d e x y z).b == (sampM a b c d e x y z).b && ((sampM a b c d e x y z).c == (sampM a b c d e x y z).c && ((sampM a b c d e x y z).d == (sampM a b c d e x y z).d && ((sampM a b c d e x y z).e == (sampM a b c d e x y z).e && true)))))) (K (AV.val (Value.bool false))) (ifb (sampE a b c d e x y z != sampE a b c d e x y z)
  (K (AV.val (Value.bool false))) (ifb (ckF a b c d e == ckF a b c d e) (ifb (greatF a b c d e == greatF a b c d e) (K (AV.val (Value.bool true))) (K (AV.val (Value.bool false)))) (K (AV.val (Value.bool false)))))))) := by
  kernel_rfl

end Go.Proofs.Ytglbkijmmckkpaa.Rt
