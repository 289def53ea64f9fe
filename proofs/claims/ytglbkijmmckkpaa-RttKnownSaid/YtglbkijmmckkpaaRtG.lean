/-
  RtG: what is brought; how runs go.
-/
import Derived.Test.YtglbkijmmckkpaaRtF
namespace Go.Proofs.Ytglbkijmmckkpaa.Rt
open Go Go.RowKit Go.Proofs.Ytglbkijmmckkpaa.Sy Go.Proofs.Ytglbkijmmckkpaa.Cm
set_option linter.unusedVariables false
set_option linter.unusedSimpArgs false

theorem vi_succ {n : Nat} (h : n ≤ 1000000) : Value.int .i64 (IntKind.i64.wrap ((n : Int) + 1)) = Value.int .i64 ((n + 1 : Nat) : Int) := vi_eq (by rw [wr (by omega) (by omega)]; omega)
def pick3 (x y z : Int) : Nat → Int
  | 0 => x
  | 1 => y
  | _ => z
theorem app3 {a n b : Nat} {x y z : Int} (ha : a = n) (hb : b < 3) : ([Value.int IntKind.i64 x, Value.int IntKind.i64 y, Value.int IntKind.i64 z][(a - n) * 3 + b]?.getD undef) = Value.int IntKind.i64 (pick3 x y z b) := by
  subst ha
  rw [Nat.sub_self, Nat.zero_mul, Nat.zero_add]
  match b, hb with
  | 0, _ => rfl
  | 1, _ => rfl
  | 2, _ => rfl
theorem bq_eq {g : Nat → Nat → Int} {held : Bool} {n b : Nat} {x y z : Int} (hx : x = bq g held n 0) (hy : y = bq g held n 1) (hz : z = bq g held n 2) (hb : b < 3) : pick3 x y z b = bq g held n b := by
  match b, hb with
  | 0, _ => exact hx
  | 1, _ => exact hy
  | 2, _ => exact hz
theorem less (n : Nat) (N : Nat) (h : n < N) : (N - (n + 1)).succ.le (N - n) := by
  show (N - (n + 1)) + 1 ≤ N - n
  omega

theorem brought_is (g : Nat → Nat → Int) (len : Nat) (held : Bool) : afn (CB g len held) 100 20 [.view 0 3 0 len, bv held] [(0, some (.row 32 3 len fun i j => .int .i64 (g i j)))] 1 fun v h _ =>
    ∃ id out', v = .own id (brN len) ∧ blkOf v h = some (.orow 32 3 (brN len) out') ∧ ∀ i j, i < brN len → j < 3 → out' i j = .int .i64 (brQ g len held i j) := by
  rw [brought_ev g len held (fun v b => ∃ id out', v = .own id (brN len) ∧ b = some (.orow 32 3 (brN len) out') ∧ ∀ i j, i < brN len → j < 3 → out' i j = .int .i64 (brQ g len held i j))]
  refine ⟨fun x => x.n ≤ len ∧ x.n ≤ 60, ⟨⟨0⟩, ⟨Nat.zero_le _, Nat.zero_le _⟩, ?_⟩, ?_⟩
  · repeat' first | exact trivial | rfl | (intro _ _ _ _; rfl) | constructor
  · rintro ⟨n⟩ ⟨hn, hn60⟩
    have hn : n ≤ len := hn
    have hn60 : n ≤ 60 := hn60
    have e : 0 + ((n : Nat) : Int).toNat = n := by omega
    have hend : ∀ id, n = brN len → ∃ id' out', AV.own id n = .own id' (brN len) ∧ some (Blk.orow 32 3 n fun (a b : Nat) => Value.int IntKind.i64 (bq g held a b)) = some (.orow 32 3 (brN len) out') ∧ ∀ i j, i < brN len → j < 3 → out' i j = .int .i64 (brQ g len held i j) := by
      intro id hN
      refine ⟨id, _, by rw [← hN], by rw [← hN], fun i j hi hj => ?_⟩
      have h0 : len ≠ 0 := by
        intro h0
        subst h0
        have : brN 0 = 1 := rfl
        omega
      unfold brQ
      rw [if_neg h0]
    refine ifb_of (fun h1 => ?_) fun h1 => ?_
    · have h1 : (n : Int) < (len : Int) := of_decide_eq_true h1
      refine ifb_of (fun h2 => ?_) fun h2 => ?_
      · have h2 : (n : Int) < 60 := of_decide_eq_true h2
        have h3 : decide (0 ≤ (n : Int) ∧ (n : Int) < (len : Int)) = true := decide_eq_true (by omega)
        have h4 : decide (0 + (n : Int).toNat < len) = true := decide_eq_true (by omega)
        have h5 : (true && decide (n = n) && decide ((n + 1) * 24 ≤ 140737488355328)) = true := by simp; omega
        refine ifb_pos h3 (ifb_pos h4 (ifb_pos h3 (ifb_pos h4 (ifb_of (fun hh => ifb_pos h3 (ifb_pos h4 (ifb_pos h5 ?_))) fun hh => ifb_pos h5 ?_))))
        · subst hh
          refine ⟨⟨n + 1⟩, ⟨⟨show n + 1 ≤ len by omega, show n + 1 ≤ 60 by omega⟩, less n 60 (by omega)⟩, ?_⟩
          repeat' first | exact trivial | exact vi_succ (by omega) | rfl | (intro _ _ _ _; rfl) | constructor
          intro a b ha hb
          have ha : a < n + 1 := ha
          show (if a < n then _ else _) = _
          by_cases hlt : a < n
          · rw [if_pos hlt]
          · have ea : a = n := by omega
            rw [if_neg hlt, app3 ea hb, e, ea]
            exact vi_eq (bq_eq (held := true) rfl rfl rfl hb)
        · subst hh
          refine ⟨⟨n + 1⟩, ⟨⟨show n + 1 ≤ len by omega, show n + 1 ≤ 60 by omega⟩, less n 60 (by omega)⟩, ?_⟩
          repeat' first | exact trivial | exact vi_succ (by omega) | rfl | (intro _ _ _ _; rfl) | constructor
          intro a b ha hb
          have ha : a < n + 1 := ha
          show (if a < n then _ else _) = _
          by_cases hlt : a < n
          · rw [if_pos hlt]
          · have ea : a = n := by omega
            rw [if_neg hlt, app3 ea hb, e, ea]
            exact vi_eq (bq_eq (held := false) rfl rfl rfl hb)
      · have h2 : ¬ (n : Int) < 60 := of_decide_eq_false h2
        refine ifb_neg (by simp; omega) (hend _ ?_)
        unfold brN
        rw [if_neg (by omega)]
        omega
    · have h1 : ¬ (n : Int) < (len : Int) := of_decide_eq_false h1
      refine ifb_of (fun h2 => ?_) fun h2 => ?_
      · have h2 : n = 0 := by simpa using h2
        subst h2
        have h0 : len = 0 := by omega
        subst h0
        refine ifb_pos (by decide) ⟨_, _, rfl, rfl, fun i j hi hj => ?_⟩
        have hi : i < 1 := hi
        show (if i < 0 then _ else _) = _
        rw [if_neg (by omega), app3 (by omega) hj]
        match j, hj with
        | 0, _ => rfl
        | 1, _ => rfl
        | 2, _ => rfl
      · have h2 : n ≠ 0 := by simpa using h2
        refine hend _ ?_
        unfold brN
        rw [if_neg (by omega)]
        omega
theorem SB (g : Nat → Nat → Int) (len : Nat) (held : Bool) : Sound (CB g len held) := ⟨tab_of T3_ok, fun f h => entersB_ok (allN_ok inl0_ok f h), mixed⟩
theorem eBrought : OEntryOK Try.prog 20 (rowO 3 gBr) := oentry_row (tyr := 32) (by kernel_rfl) fun q len rest ty esz' N out h => by
  unfold gBr at h
  split at h
  · rename_i held
    simp only [Option.some.injEq, Prod.mk.injEq] at h
    obtain ⟨h1, rfl, rfl, rfl, rfl⟩ := h
    exact ⟨rfl, fun i j => .int .i64 (asN q i j), of_isNs h1, CB (asN q) len held, SB _ _ _, rfl, 100, brought_is (asN q) len held⟩
  · cases h
theorem T6_ok : ∀ k e, (k, e) ∈ T6 → EntryOK Try.prog k e := entries_cons eRun T3_ok
theorem O6_ok : ∀ k e, (k, e) ∈ O6 → OEntryOK Try.prog k e := oentries_cons eBrought oentries_nil
theorem SO (g : Nat → Nat → Int) (len : Nat) (h : Nat → Nat → Int) (m N : Nat) (q : Nat → Nat → Int) : Sound (CO g len h m N q) := ⟨tabO_of T6_ok O6_ok, fun f h => entersB_ok (allN_ok inl0_ok f h), mixed⟩
theorem SBo (N : Nat) (q : Nat → Nat → Int) : Sound (CBo N q) := ⟨tabO_of T6_ok O6_ok, fun f h => entersB_ok (allN_ok inl0_ok f h), mixed⟩

/-! how runs go -/
def okR (q : Nat → Nat → Int) : Prop := ∀ a, okT (q a 0) ∧ okT (q a 1) ∧ okT (q a 2)
def mnF (q : Nat → Nat → Int) : Nat → Int
  | 0 => q 0 0
  | n + 1 => min (mnF q n) (q n 0)
def mxF (q : Nat → Nat → Int) : Nat → Int
  | 0 => q 0 0
  | n + 1 => max (mxF q n) (q n 0)
def goes (q : Nat → Nat → Int) (k : Nat) : Prop := (runS q (k + 1)).2 = 0 ∧ (runS q (k + 1)).1.a = q k 0 ∧ (runS q (k + 1)).1.b = mnF q (k + 1) ∧ (runS q (k + 1)).1.e = q 0 2 ∧
  mnF q (k + 1) ≤ (runS q (k + 1)).1.c ∧ (runS q (k + 1)).1.c ≤ mxF q (k + 1) ∧ 0 ≤ (runS q (k + 1)).1.d ∧ (runS q (k + 1)).1.d ≤ mxF q (k + 1) ∧ 0 ≤ mnF q (k + 1) ∧ mxF q (k + 1) ≤ 9007199254740991 ∧ mnF q (k + 1) ≤ q k 0 ∧ q k 0 ≤ 9007199254740991 ∧ okT (q 0 2)
theorem goes_ckO {q : Nat → Nat → Int} {k : Nat} (h : goes q k) : ckO (runS q (k + 1)).1.a (runS q (k + 1)).1.b (runS q (k + 1)).1.c (runS q (k + 1)).1.d (runS q (k + 1)).1.e := by
  obtain ⟨h1, h2, h3, h4, h5, h6, h7, h8, h9, h10, h11, h12, h13⟩ := h
  rw [h2, h3, h4]
  unfold okT at h13
  unfold ckO
  omega
theorem goes_step {q : Nat → Nat → Int} (hq : okR q) {k : Nat} (h : goes q k) : runS q (k + 2) = (nextM (runS q (k + 1)).1.b (runS q (k + 1)).1.c (runS q (k + 1)).1.d (runS q (k + 1)).1.e (q (k + 1) 0) (q (k + 1) 1), 0) := by
  have hs := samp_2 (goes_ckO h) (hq (k + 1)).1 (hq (k + 1)).2.1 (hq (k + 1)).2.2
  rw [runS_go (k := k + 1) h.1, hs.1, hs.2]
theorem goes_all {q : Nat → Nat → Int} (hq : okR q) : ∀ k, goes q k := by
  intro k
  induction k with
  | zero =>
    have h0 := hq 0
    have r := runS_1 h0.1 h0.2.1 h0.2.2
    unfold goes
    rw [r]
    unfold okT at h0
    simp only [mnF, mxF]
    refine ⟨by trivial, by trivial, ?_, by trivial, ?_, ?_, ?_, ?_, ?_, ?_, ?_, ?_, ?_⟩ <;> first | omega | (unfold okT; omega)
  | succ k ih =>
    have hs := goes_step hq ih
    obtain ⟨h1, h2, h3, h4, h5, h6, h7, h8, h9, h10, h11, h12, h13⟩ := ih
    have hk := hq (k + 1)
    have hc := cnt_lo (b := (runS q (k + 1)).1.b) (by rw [h3]; exact h9) hk.1 hk.2.1
    have hc2 : min (runS q (k + 1)).1.b (q (k + 1) 0) ≤ cnt (runS q (k + 1)).1.b (q (k + 1) 0) (q (k + 1) 1) ∧ cnt (runS q (k + 1)).1.b (q (k + 1) 0) (q (k + 1) 1) ≤ q (k + 1) 0 := by
      have := hk.2.1
      unfold okT at this
      unfold cnt
      split <;> omega
    have e1 : mnF q (k + 1 + 1) = min (mnF q (k + 1)) (q (k + 1) 0) := rfl
    have e2 : mxF q (k + 1 + 1) = max (mxF q (k + 1)) (q (k + 1) 0) := rfl
    unfold goes
    rw [hs, e1, e2]
    unfold nextM
    have hl := hk.1
    unfold okT at hl
    simp only
    rw [h3] at hc hc2 ⊢
    generalize cnt (mnF q (k + 1)) (q (k + 1) 0) (q (k + 1) 1) = t at *
    generalize (runS q (k + 1)).1.c = c at *
    generalize (runS q (k + 1)).1.d = d at *
    refine ⟨by trivial, by trivial, by trivial, h4, ?_, ?_, ?_, ?_, ?_, ?_, ?_, ?_, h13⟩ <;> omega

/-- Longer samples. -/
theorem runs_mono {q r : Nat → Nat → Int} (hq : okR q) (hr : okR r) (hq1 : ∀ a, q a 1 = 0) (hr1 : ∀ a, r a 1 = 0) (hle : ∀ a, q a 0 ≤ r a 0) : ∀ k, (runS q (k + 1)).1.c ≤ (runS r (k + 1)).1.c ∧ (runS q (k + 1)).1.b ≤ (runS r (k + 1)).1.b := by
  have hcnt : ∀ b l : Int, cnt b l 0 = l := fun b l => by unfold cnt; split <;> omega
  intro k
  induction k with
  | zero =>
    rw [runS_1 (hq 0).1 (hq 0).2.1 (hq 0).2.2, runS_1 (hr 0).1 (hr 0).2.1 (hr 0).2.2]
    exact ⟨hle 0, hle 0⟩
  | succ k ih =>
    rw [goes_step hq (goes_all hq k), goes_step hr (goes_all hr k)]
    unfold nextM
    simp only
    rw [hq1, hr1, hcnt, hcnt]
    have := hle (k + 1)
    omega

end Go.Proofs.Ytglbkijmmckkpaa.Rt
