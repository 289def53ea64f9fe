/-
  RtE: runs; RttRuns, RttHeld, RttSteady.
-/
import Derived.Test.YtglbkijmmckkpaaRtD
namespace Go.Proofs.Ytglbkijmmckkpaa.Rt
open Go Go.RowKit Go.Proofs.Ytglbkijmmckkpaa.Sy Go.Proofs.Ytglbkijmmckkpaa.Cm
set_option linter.unusedVariables false
set_option linter.unusedSimpArgs false

theorem keep_some {l : List Nat} {id x : Nat} (h : keep l id = some x) : hasN l id = true ∧ x = id := by
  unfold keep at h
  split at h
  · rename_i hq; cases h; exact ⟨hq, rfl⟩
  · cases h
theorem side_keep {l : List Nat} {lo nx : Nat} (h1 : allN (fun x => Nat.blt x nx) l = true) (h2 : ∀ id, id < lo → hasN l id = true) : Side (keep l) lo lo nx := by
  refine ⟨rfl, fun id h => ?_, fun id h => ?_, fun i j x hi hj => ?_⟩
  · unfold keep; rw [h2 id h]
  · cases hk : keep l id with
    | none => rfl
    | some x =>
      have := allN_ok h1 id (keep_some hk).1
      have : id < nx := by simpa [Nat.blt_eq] using this
      omega
  · rw [← (keep_some hi).2, ← (keep_some hj).2]
theorem low1 {l : List Nat} (h : hasN l 0 = true) : ∀ id, id < 1 → hasN l id = true := fun id hi => by
  obtain rfl : id = 0 := by omega
  exact h
theorem low0 {l : List Nat} : ∀ id, id < 0 → hasN l id = true := fun id hi => absurd hi (by omega)

theorem newM_1 : newM 1000000 = ⟨0, 0, 1000000, 500000, -1⟩ := newM_yes (by unfold okN; omega)
theorem newE_1 : newE 1000000 = 0 := newE_yes (by unfold okN; omega)

/-! run -/
theorem runS_no {g : Nat → Nat → Int} {k : Nat} (h : (runS g k).2 ≠ 0) : runS g (k + 1) = runS g k := by
  rw [runS, decide_eq_false h]
theorem runS_stop {g : Nat → Nat → Int} {k : Nat} (h : (runS g k).2 ≠ 0) : ∀ n, k ≤ n → runS g n = runS g k := by
  intro n hn
  induction hn with
  | refl => rfl
  | step _ ih =>
    rw [runS_no (by rw [ih]; exact h), ih]
theorem runS_go {g : Nat → Nat → Int} {k : Nat} (h : (runS g k).2 = 0) : runS g (k + 1) = (sampM (runS g k).1.a (runS g k).1.b (runS g k).1.c (runS g k).1.d (runS g k).1.e (g k 0) (g k 1) (g k 2), sampE (runS g k).1.a (runS g k).1.b (runS g k).1.c (runS g k).1.d (runS g k).1.e (g k 0) (g k 1) (g k 2)) := by
  rw [runS, decide_eq_true h]
abbrev runV (g : Nat → Nat → Int) (len : Nat) : AV := .tup [mv (runS g len).1, bv ((runS g len).2 == 0)]
theorem sideR : Side (keep [0, 1, 97]) 1 1 1000 := side_keep rfl (low1 rfl)
theorem run_leaf {g : Nat → Nat → Int} {len : Nat} {m : M} {e : Int} (h : (m, e) = runS g len) : AV.tup [AV.agg [.val (.int .i64 m.a), .val (.int .i64 m.b), .val (.int .i64 m.c), .val (.int .i64 m.d), .val (.int .i64 m.e)], .val (.bool (e == 0))] = runV g len := by
  show _ = AV.tup [mv (runS g len).1, bv ((runS g len).2 == 0)]
  rw [← h]
theorem run_is (g : Nat → Nat → Int) (len : Nat) (hl : len ≤ 1000000) : afn (CR g len) 100 19 [.view 0 3 0 len] [(0, some (.row 32 3 len fun i j => .int .i64 (g i j)))] 1 (fun v _ _ => v = runV g len) := by
  rw [run_ev g len (fun v => v = runV g len)]
  refine ⟨fun x => ∃ k : Nat, x.i = k ∧ k ≤ len ∧ (x.m, x.e) = runS g k, ⟨⟨0, ⟨0, 0, 1000000, 500000, -1⟩, 0⟩, ⟨0, rfl, Nat.zero_le _, by rw [runS, newM_1, newE_1]⟩, ?_⟩, ?_⟩
  · repeat' first | exact trivial | exact sideR | rfl | (intro _ _ _ _; rfl) | constructor
  · rintro x ⟨k, hk, hkl, hx⟩
    refine ifb_of (fun h1 => ifb_of (fun h2 => ?_) fun h2 => ?_) fun h1 => ?_
    · have h1 := of_decide_eq_true h1
      have h2 : x.e = 0 := by simpa using h2
      have h3 : decide (0 ≤ x.i ∧ x.i < (len : Int)) = true := decide_eq_true (by omega)
      have h4 : decide (0 + x.i.toNat < len) = true := decide_eq_true (by omega)
      refine ifb_pos h3 (ifb_pos h4 (ifb_pos h3 (ifb_pos h4 (ifb_pos h3 (ifb_pos h4 ?_)))))
      have h5 : 0 + x.i.toNat = k := by omega
      rw [h5]
      have e1 : x.m = (runS g k).1 := by rw [← hx]
      have e2 : x.e = (runS g k).2 := by rw [← hx]
      refine ⟨⟨x.i + 1, sampM x.m.a x.m.b x.m.c x.m.d x.m.e (g k 0) (g k 1) (g k 2), sampE x.m.a x.m.b x.m.c x.m.d x.m.e (g k 0) (g k 1) (g k 2)⟩, ⟨⟨k + 1, by show x.i + 1 = _; omega, by omega, ?_⟩, fall h1⟩, ?_⟩
      · rw [runS_go (by rw [← e2]; exact h2), ← e1]
      · repeat' first | exact trivial | exact sideR | exact vi_eq (wr (by omega) (by omega)) | rfl | (intro _ _ _ _; rfl) | constructor
    · have h2 : x.e ≠ 0 := by simpa using h2
      refine run_leaf (hx.trans (runS_stop ?_ len hkl).symm)
      rw [← hx]
      exact h2
    · have h1 := of_decide_eq_false h1
      have : k = len := by omega
      exact run_leaf (this ▸ hx)
theorem SR (g : Nat → Nat → Int) (len : Nat) : Sound (CR g len) := ⟨tab_of T3_ok, fun f h => entersB_ok (allN_ok inl0_ok f h), mixed⟩
theorem isNs_yes {len w : Nat} {q : Nat → Nat → Value} (h : ∀ i j, i < len → j < w → q i j = .int .i64 (asN q i j)) : isNs len w q = true := @decide_eq_true _ (Classical.propDecidable _) h
theorem of_isNs {len w : Nat} {q : Nat → Nat → Value} (h : isNs len w q = true) : ∀ i j, i < len → j < w → q i j = .int .i64 (asN q i j) := @of_decide_eq_true _ (Classical.propDecidable _) h
theorem eRun : EntryOK Try.prog 19 (rowEntry 3 gRun) := entry_row (ty := 32) (by kernel_rfl) fun q len rest v h => by
  unfold gRun at h
  split at h
  · simp only [Option.some.injEq, Prod.mk.injEq, Bool.and_eq_true, decide_eq_true_eq] at h
    obtain ⟨⟨h1, h2⟩, rfl⟩ := h
    exact ⟨rfl, rfl, fun i j => .int .i64 (asN q i j), of_isNs h1, CR (asN q) len, SR _ _, rfl, 100, run_is (asN q) len h2⟩
  · cases h
theorem T5_ok : ∀ k e, (k, e) ∈ T5 → EntryOK Try.prog k e := entries_cons eRun (entries_cons rowsE_ok T3_ok)
theorem S5 : Sound C5 := ⟨tab_of T5_ok, fun f h => entersB_ok (allN_ok inl0_ok f h), mixed⟩

/-! RttRuns -/
theorem sideS : Side (keep [0, 97, 225]) 1 1 1000 := side_keep rfl (low1 rfl)
theorem SS (a : Int) (g : Nat → Nat → Int) (len : Nat) : Sound (CS a g len) := ⟨tab_of T3_ok, fun f h => entersB_ok (allN_ok inl0_ok f h), mixed⟩
theorem runs_is (a : Int) (g : Nat → Nat → Int) (len : Nat) : afn (CS a g len) 100 4 [iv a, .view 0 3 0 len] [(0, some (.row 32 3 len fun i j => .int .i64 (g i j)))] 1 (fun v _ _ => v = bv true) := by
  rw [runs_ev a g len (fun v => v = bv true)]
  refine ifb_neg (by simp) (ifb_neg (by simp) ?_)
  refine ⟨fun x => 0 ≤ x.i ∧ x.i ≤ 60, ⟨⟨0, newM a, newE a⟩, ⟨by simp, by simp⟩, ?_⟩, ?_⟩
  · repeat' first | exact trivial | exact sideS | rfl | (intro _ _ _ _; rfl) | constructor
  · rintro x ⟨hx0, hx1⟩
    refine ifb_of (fun h1 => ifb_of (fun h2 => ifb_of (fun h3 => ?_) fun _ => rfl) fun _ => rfl) fun _ => rfl
    have h1 := of_decide_eq_true h1
    have h2 := of_decide_eq_true h2
    have h4 : decide (0 ≤ x.i ∧ x.i < (len : Int)) = true := decide_eq_true (by omega)
    have h5 : decide (0 + x.i.toNat < len) = true := decide_eq_true (by omega)
    refine ifb_pos h4 (ifb_pos h5 (ifb_pos h4 (ifb_pos h5 (ifb_pos h4 (ifb_pos h5 (ifb_pos h4 (ifb_pos h5 (ifb_pos h4 (ifb_pos h5 (ifb_pos h4 (ifb_pos h5 ?_)))))))))))
    refine ifb_neg (by simp) (ifb_neg (by simp) (ifb_of (fun h6 => ?_) fun h6 => ?_))
    · refine ⟨⟨x.i + 1, sampM x.m.a x.m.b x.m.c x.m.d x.m.e (g (0 + x.i.toNat) 0) (g (0 + x.i.toNat) 1) (g (0 + x.i.toNat) 2), x.e⟩, ⟨⟨show 0 ≤ x.i + 1 by omega, show x.i + 1 ≤ 60 by omega⟩, fall h2⟩, ?_⟩
      repeat' first | exact trivial | exact sideS | exact vi_eq (wr (by omega) (by omega)) | rfl | (intro _ _ _ _; rfl) | constructor
    · refine ⟨⟨x.i + 1, x.m, x.e⟩, ⟨⟨show 0 ≤ x.i + 1 by omega, show x.i + 1 ≤ 60 by omega⟩, fall h2⟩, ?_⟩
      repeat' first | exact trivial | exact sideS | exact vi_eq (wr (by omega) (by omega)) | rfl | (intro _ _ _ _; rfl) | constructor

set_option maxRecDepth 20000 in
theorem runs_ex (a : Int) (g : Nat → Nat → Int) (len : Nat) : ∃ C, Sound C ∧ C.P = Try.prog ∧ afn C 100 4 [iv a, .view 0 3 0 len] [(0, some (.row 32 3 len fun i j => .int .i64 (g i j)))] 1 (fun v _ _ => v = bv true) := ⟨CS a g len, SS a g len, rfl, runs_is a g len⟩

/-! one sample, two samples -/
theorem samp_1 {l x n : Int} (hl : okT l) (hx : okT x) (hn : okT n) : sampM 0 0 1000000 500000 (-1) l x n = ⟨l, l, l, l / 2, n⟩ ∧ sampE 0 0 1000000 500000 (-1) l x n = 0 := by
  have ho : okS 0 0 1000000 500000 (-1) l x n := ⟨by decide, hl, hx, hn⟩
  unfold sampM sampE
  exact ⟨by rw [if_pos ho, if_pos rfl], by rw [if_pos ho.1, if_pos ho]⟩
theorem samp_2 {a b c d e l x n : Int} (hp : ckO a b c d e) (hl : okT l) (hx : okT x) (hn : okT n) : sampM a b c d e l x n = nextM b c d e l x ∧ sampE a b c d e l x n = 0 := by
  have he : e ≠ -1 := by unfold ckO at hp; omega
  have ho : okS a b c d e l x n := ⟨.inr ⟨he, hp⟩, hl, hx, hn⟩
  unfold sampM sampE
  exact ⟨by rw [if_pos ho, if_neg he], by rw [if_pos ho.1, if_pos ho]⟩
theorem runS_1 {g : Nat → Nat → Int} (h0 : okT (g 0 0)) (h1 : okT (g 0 1)) (h2 : okT (g 0 2)) : runS g 1 = (⟨g 0 0, g 0 0, g 0 0, g 0 0 / 2, g 0 2⟩, 0) := by
  have e0 : runS g 0 = (⟨0, 0, 1000000, 500000, -1⟩, 0) := by rw [runS, newM_1, newE_1]
  rw [runS_go (k := 0) (by rw [e0]), e0]
  have h := samp_1 h0 h1 h2
  show (sampM 0 0 1000000 500000 (-1) (g 0 0) (g 0 1) (g 0 2), sampE 0 0 1000000 500000 (-1) (g 0 0) (g 0 1) (g 0 2)) = _
  rw [h.1, h.2]

theorem held_law_is (a b x : Int) : afn C5 100 7 [iv a, iv b, iv x] [] 0 (fun v _ _ => v = bv true) := by
  rw [held_law_ev a b x (fun v => v = bv true)]
  have ha := brF_lo a (b := 9007199254740992) (by omega)
  have hb := brF_lo b (b := 9007199254740992) (by omega)
  have hx := brF_lo x (b := 9007199254740992) (by omega)
  generalize brF a 9007199254740992 = A at *
  generalize brF b 9007199254740992 = B at *
  generalize brF x 9007199254740992 = X at *
  refine ifb_pos (by rw [isNs_yes (fun _ _ _ _ => rfl)]; rfl) ?_
  generalize hG : (asN fun (i j : Nat) => Value.int IntKind.i64 ([A, X, 0, B, X, 1][i * 3 + j]?.getD 0)) = G
  have g00 : G 0 0 = A := by rw [← hG]; rfl
  have g01 : G 0 1 = X := by rw [← hG]; rfl
  have g02 : G 0 2 = 0 := by rw [← hG]; rfl
  have g10 : G 1 0 = B := by rw [← hG]; rfl
  have g11 : G 1 1 = X := by rw [← hG]; rfl
  have g12 : G 1 2 = 1 := by rw [← hG]; rfl
  clear hG
  have r1 : runS G 1 = (⟨A, A, A, A / 2, 0⟩, 0) := by
    rw [runS_1 (by rw [g00]; unfold okT; omega) (by rw [g01]; unfold okT; omega) (by rw [g02]; unfold okT; omega), g00, g02]
  have hs := samp_2 (a := A) (b := A) (c := A) (d := A / 2) (e := 0) (l := B) (x := X) (n := 1) (by unfold ckO; omega) (by unfold okT; omega) (by unfold okT; omega) (by unfold okT; omega)
  have r2 : runS G 2 = (nextM A A (A / 2) 0 B X, 0) := by
    rw [runS_go (k := 1) (by rw [r1]), r1, g10, g11, g12]
    exact Prod.ext hs.1 hs.2
  rw [r2]
  have hc := cnt_lo (b := A) (l := B) (x := X) (by omega) (by unfold okT; omega) (by unfold okT; omega)
  rw [wr (n := B - X) (by omega) (by omega), half (c := A) (by omega) (by omega)]
  refine ifb_of (fun h => ?_) fun h => ?_
  · have h := of_decide_eq_true h
    have ec : cnt A B X = B - X := if_pos h
    rw [wr (n := A - (B - X)) (by omega) (by omega), wr (n := B - X - A) (by omega) (by omega)]
    rw [smooth_eq (by omega) (by omega) (by omega) (by omega), var_eq (by omega) (by omega) (by omega) (by omega)]
    refine ifb_pos rfl (ifb_pos ?_ (ifb_pos ?_ rfl))
    · rw [← ec]; exact beq_self _
    · rw [← ec]; exact beq_self _
  · have h := of_decide_eq_false h
    have ec : cnt A B X = B := if_neg h
    rw [wr (n := A - B) (by omega) (by omega), wr (n := B - A) (by omega) (by omega)]
    rw [smooth_eq (by omega) (by omega) (by omega) (by omega), var_eq (by omega) (by omega) (by omega) (by omega)]
    refine ifb_pos rfl (ifb_pos ?_ (ifb_pos ?_ rfl))
    · show (( 7 * A + cnt A B X) / 8 == (7 * A + B) / 8) = true
      rw [ec]; exact beq_self _
    · show ((3 * (A / 2) + max (A - cnt A B X) (cnt A B X - A)) / 4 == (3 * (A / 2) + max (A - B) (B - A)) / 4) = true
      rw [ec]; exact beq_self _

theorem ST (n : Int) : Sound (CT n) := ⟨tab_of T5_ok, fun f h => entersB_ok (allN_ok inl0_ok f h), mixed⟩
theorem sideT : Side (keep [176]) 0 0 1000 := side_keep rfl low0
theorem bneq_self (a : Int) : (a != a) = false := by simp
theorem steady_is (a n : Int) : afn (CT n) 100 5 [iv a, iv n] [] 0 (fun v _ _ => v = bv true) := by
  rw [steady_ev a n (fun v => v = bv true)]
  have ha := brF_lo a (b := 9007199254740992) (by omega)
  have hn := brF_lo n (b := 90) (by omega)
  generalize brF a 9007199254740992 = A at *
  generalize brF n 90 = N at *
  refine ifb_pos (by rw [isNs_yes (fun _ _ _ _ => rfl)]; rfl) ?_
  generalize hG : (asN fun (i j : Nat) => Value.int IntKind.i64 ([A, 0, 3][i * 3 + j]?.getD 0)) = G
  have g00 : G 0 0 = A := by rw [← hG]; rfl
  have g01 : G 0 1 = 0 := by rw [← hG]; rfl
  have g02 : G 0 2 = 3 := by rw [← hG]; rfl
  clear hG
  have r1 : runS G 1 = (⟨A, A, A, A / 2, 3⟩, 0) := by
    rw [runS_1 (by rw [g00]; unfold okT; omega) (by rw [g01]; unfold okT; omega) (by rw [g02]; unfold okT; omega), g00, g02]
  rw [r1, wr (n := 1 + N) (by omega) (by omega), half (c := A) (by omega) (by omega)]
  refine ⟨fun x => x.t = A ∧ 0 ≤ x.i ∧ x.i ≤ 90 ∧ 0 ≤ x.w ∧ x.w ≤ 9007199254740991, ⟨⟨0, A, A / 2, 0⟩, ⟨rfl, by simp, by simp, show 0 ≤ A / 2 by omega, show A / 2 ≤ _ by omega⟩, ?_⟩, ?_⟩
  · repeat' first | exact trivial | exact sideT | rfl | (intro _ _ _ _; rfl) | constructor
  · rintro x ⟨ht, hi0, hi1, hw0, hw1⟩
    refine ifb_of (fun h1 => ?_) fun _ => rfl
    have h1 := of_decide_eq_true h1
    have hs := samp_2 (a := x.t) (b := x.t) (c := x.t) (d := x.w) (e := 3) (l := x.t) (x := 0) (n := x.i) (by unfold ckO; omega) (by unfold okT; omega) (by unfold okT; omega) (by unfold okT; omega)
    have hc : cnt x.t x.t 0 = x.t := by unfold cnt; split <;> omega
    have hm : nextM x.t x.t x.w 3 x.t 0 = ⟨x.t, x.t, x.t, 3 * x.w / 4, 3⟩ := by
      unfold nextM
      rw [hc]
      congr 1 <;> omega
    refine ifb_neg (bneq_self _) (ifb_neg (bneq_self _) (ifb_neg (bneq_self _) ?_))
    rw [hs.1, hs.2, hm, wr (n := x.w * 3) (by omega) (by omega), Int.tdiv_eq_ediv_of_nonneg (by omega), wr (n := x.w * 3 / 4) (by omega) (by omega), Int.mul_comm x.w 3]
    refine ⟨⟨x.i + 1, x.t, 3 * x.w / 4, 0⟩, ⟨⟨ht, show 0 ≤ x.i + 1 by omega, show x.i + 1 ≤ 90 by omega, show 0 ≤ 3 * x.w / 4 by omega, show 3 * x.w / 4 ≤ _ by omega⟩, fall (by omega)⟩, ?_⟩
    repeat' first | exact trivial | exact sideT | exact vi_eq (wr (by omega) (by omega)) | rfl | (intro _ _ _ _; rfl) | constructor

end Go.Proofs.Ytglbkijmmckkpaa.Rt
