/-
  LsC: Check answers as its reference; Find and its reference, evaluated.
-/
import Derived.Test.YtmaddijeiniliaaLsB
namespace Go.Proofs.Ytmaddijeiniliaa.Ls
open Go Go.RowKit Go.Proofs.Ytmaddijeiniliaa.Sy Go.Proofs.Ytmaddijeiniliaa.Cm
set_option linter.unusedVariables false
set_option linter.unusedSimpArgs false
set_option maxRecDepth 100000
set_option maxHeartbeats 1000000
attribute [local irreducible] afn

def okP (g : Nat → Nat → Int) (n : Nat) : Prop := lastF g n < g n 0 ∧ g n 0 ≤ 9007199254740991 ∧ (0 ≤ g n 1 ∧ g n 1 ≤ 9007199254740991) ∧ 1 ≤ g n 2 ∧ g n 2 ≤ 65535
def okL (g : Nat → Nat → Int) (len : Nat) : Prop := len ≤ 256 ∧ ∀ i, i < len → okP g i
noncomputable def chF (g : Nat → Nat → Int) (len : Nat) : Int := @ite _ (okL g len) (Classical.propDecidable _) 0 2
theorem chF_yes {g : Nat → Nat → Int} {len : Nat} (h : okL g len) : chF g len = 0 := if_pos h
theorem chF_no {g : Nat → Nat → Int} {len : Nat} (h : ¬ okL g len) : chF g len = 2 := if_neg h
theorem ch_no {g : Nat → Nat → Int} {len : Nat} (h : ¬ okL g len) : AV.val (.int .i64 2) = iv (chF g len) := by rw [chF_no h]
theorem ch_yes {g : Nat → Nat → Int} {len : Nat} (h : okL g len) : AV.val (.int .i64 0) = iv (chF g len) := by rw [chF_yes h]
theorem vi_succ {n : Nat} (h : n ≤ 1000000) : Value.int .i64 (IntKind.i64.wrap ((n : Int) + 1)) = Value.int .i64 ((n + 1 : Nat) : Int) := vi_eq (by rw [wr (by omega) (by omega)]; omega)
theorem less (n : Nat) (N : Nat) (h : n < N) : (N - (n + 1)).succ.le (N - n) := by
  show (N - (n + 1)) + 1 ≤ N - n
  omega
theorem isN_no {n : Int} (h : (!isN n) = true) : ¬ (0 ≤ n ∧ n ≤ 9007199254740991) := by
  have h : isN n = false := by simpa using h
  exact of_decide_eq_false h
theorem isN_yes {n : Int} (h : (!isN n) = false) : 0 ≤ n ∧ n ≤ 9007199254740991 := by
  unfold isN at h
  simpa using h
theorem ok_next {g : Nat → Nat → Int} {n : Nat} (h : ∀ i, i < n → okP g i) (h1 : okP g n) : ∀ i, i < n + 1 → okP g i := fun i hi => by
  by_cases e : i = n
  · rw [e]; exact h1
  · exact h i (by omega)

theorem chk_is (len : Nat) (g : Nat → Nat → Int) (b : Nat → Nat → Bool) : afn (CC len g) 100 14 [.view 0 6 0 len] [(0, some (.row 33 6 len (pk g b)))] 1 (fun v _ _ => v = iv (chF g len)) := by
  rw [chk_ev len g b (fun v => v = iv (chF g len))]
  refine ifb_of (fun h => ch_no fun hl => ?_) fun h => ?_
  · have h := of_decide_eq_true h
    have := hl.1
    omega
  have h256 : len ≤ 256 := by
    have h := of_decide_eq_false h
    omega
  refine ⟨fun x => x.n ≤ len ∧ ∀ i, i < x.n → okP g i, ⟨⟨0⟩, ⟨Nat.zero_le _, fun i hi => absurd hi (Nat.not_lt_zero _)⟩, ⟨⟨rfl, rfl, rfl, rfl⟩, ⟨rfl, trivial, ⟨rfl, rfl⟩, trivial⟩, ⟨rfl, rfl, rfl, rfl⟩, rfl, rfl, trivial⟩, ⟨⟨rfl, rfl, trivial⟩, ⟨rfl, rfl, rfl, fun _ _ _ _ => rfl⟩, trivial⟩, rfl⟩, ?_⟩
  rintro ⟨n⟩ ⟨hn, hok⟩
  have hn : n ≤ len := hn
  have e : 0 + ((n : Nat) : Int).toNat = n := by omega
  dsimp only
  rw [e]
  refine ifb_of (fun h1 => ?_) fun h1 => ch_yes ⟨h256, fun i hi => hok i (by have := of_decide_eq_false h1; show i < n; omega)⟩
  have h1 : (n : Int) < (len : Int) := of_decide_eq_true h1
  refine ifb_pos (decide_eq_true (by omega)) (ifb_pos (decide_eq_true (by omega)) ?_)
  have bad : ∀ {p : Prop}, (okP g n → False) → AV.val (.int .i64 2) = iv (chF g len) := fun hb => ch_no fun hl => hb (hl.2 n (by omega))
  refine ifb_of (fun h2 => bad (p := True) fun hp => ?_) fun h2 => ifb_of (fun h3 => bad (p := True) fun hp => ?_) fun h3 => ifb_of (fun h4 => bad (p := True) fun hp => ?_) fun h4 => ifb_of (fun h5 => bad (p := True) fun hp => ?_) fun h5 => ifb_of (fun h6 => bad (p := True) fun hp => ?_) fun h6 => ?_
  · have := of_decide_eq_true h2; have := hp.1; omega
  · have := of_decide_eq_true h3; have := hp.2.1; omega
  · exact isN_no h4 hp.2.2.1
  · have := of_decide_eq_true h5; have := hp.2.2.2.1; omega
  · have := of_decide_eq_true h6; have := hp.2.2.2.2; omega
  · have h2 := of_decide_eq_false h2
    have h3 := of_decide_eq_false h3
    have h5 := of_decide_eq_false h5
    have h6 := of_decide_eq_false h6
    refine ⟨⟨n + 1⟩, ⟨⟨show n + 1 ≤ len by omega, ok_next hok ⟨by omega, by omega, isN_yes h4, by omega, by omega⟩⟩, less n len (by omega)⟩, ⟨⟨rfl, rfl, rfl, rfl⟩, ⟨rfl, trivial, ⟨rfl, rfl⟩, trivial⟩, ⟨rfl, rfl, rfl, rfl⟩, rfl, vi_succ (by omega), trivial⟩, ⟨⟨rfl, rfl, trivial⟩, ⟨rfl, rfl, rfl, fun _ _ _ _ => rfl⟩, trivial⟩, rfl⟩
theorem rchk_is (len : Nat) (g : Nat → Nat → Int) (b : Nat → Nat → Bool) : afn (CC len g) 100 15 [.view 0 6 0 len] [(0, some (.row 33 6 len (pk g b)))] 1 (fun v _ _ => v = iv (chF g len)) := by
  rw [rchk_ev len g b (fun v => v = iv (chF g len))]
  refine ifb_of (fun h => ch_no fun hl => ?_) fun h => ?_
  · have h := of_decide_eq_true h
    have := hl.1
    omega
  have h256 : len ≤ 256 := by
    have h := of_decide_eq_false h
    omega
  refine ⟨fun x => x.n ≤ len ∧ ∀ i, i < x.n → okP g i, ⟨⟨0⟩, ⟨Nat.zero_le _, fun i hi => absurd hi (Nat.not_lt_zero _)⟩, ⟨⟨rfl, rfl, rfl, rfl⟩, rfl, trivial⟩, ⟨⟨rfl, rfl, rfl, fun _ _ _ _ => rfl⟩, trivial⟩, rfl⟩, ?_⟩
  rintro ⟨n⟩ ⟨hn, hok⟩
  have hn : n ≤ len := hn
  have e : 0 + ((n : Nat) : Int).toNat = n := by omega
  dsimp only
  rw [e]
  refine ifb_of (fun h1 => ?_) fun h1 => ch_yes ⟨h256, fun i hi => hok i (by have := of_decide_eq_false h1; show i < n; omega)⟩
  have h1 : (n : Int) < (len : Int) := of_decide_eq_true h1
  refine ifb_pos (decide_eq_true (by omega)) (ifb_pos (decide_eq_true (by omega)) ?_)
  have bad : ∀ {p : Prop}, (okP g n → False) → AV.val (.int .i64 2) = iv (chF g len) := fun hb => ch_no fun hl => hb (hl.2 n (by omega))
  have hpos : ∀ m, m ≤ n → -1 ≤ lastF g m := by
    intro m hm
    cases m with
    | zero => exact Int.le_refl _
    | succ m =>
      have hp := hok m (by show m < n; omega)
      have : ∀ k, k ≤ m → -1 ≤ g k 0 := by
        intro k
        induction k with
        | zero => intro hk; have := (hok 0 (by show 0 < n; omega)).1; simp only [lastF] at this; omega
        | succ k ih => intro hk; have := (hok (k + 1) (by show k + 1 < n; omega)).1; have := ih (by omega); simp only [lastF] at *; omega
      exact this m (Nat.le_refl _)
  have hlast := hpos n (Nat.le_refl _)
  refine ifb_of (fun h2 => bad (p := True) fun hp => ?_) fun h2 => ifb_of (fun h3 => bad (p := True) fun hp => ?_) fun h3 => ?_
  · have := of_decide_eq_true h2; have := hp.1; omega
  · have := of_decide_eq_true h3; have := hp.2.1; omega
  have h2 := of_decide_eq_false h2
  have h3 := of_decide_eq_false h3
  have fin : lastF g n < g n 0 → ifb (!isN (g n 1)) (AV.val (.int .i64 2) = iv (chF g len)) (ifb (decide (g n 2 < 1)) (AV.val (.int .i64 2) = iv (chF g len)) (ifb (decide (65535 < g n 2)) (AV.val (.int .i64 2) = iv (chF g len))
      (∃ (i' : (annC len).I), ((i'.n ≤ len ∧ ∀ i, i < i'.n → okP g i) ∧ (len - i'.n).succ.le (len - n)) ∧ ((some 0 = some 0 ∧ 6 = 6 ∧ 0 = 0 ∧ len = len) ∧ Value.int IntKind.i64 (IntKind.i64.wrap ((n : Int) + 1)) = Value.int IntKind.i64 (i'.n : Int) ∧ True) ∧ (((33 : Nat) = 33 ∧ 6 = 6 ∧ len = len ∧ ∀ (i j : Nat), i.succ.le len → j.succ.le 6 → pk g b i j = pk g b i j) ∧ True) ∧ true = true))) := by
    intro hl
    refine ifb_of (fun h4 => bad (p := True) fun hp => ?_) fun h4 => ifb_of (fun h5 => bad (p := True) fun hp => ?_) fun h5 => ifb_of (fun h6 => bad (p := True) fun hp => ?_) fun h6 => ?_
    · exact isN_no h4 hp.2.2.1
    · have := of_decide_eq_true h5; have := hp.2.2.2.1; omega
    · have := of_decide_eq_true h6; have := hp.2.2.2.2; omega
    · have h5 := of_decide_eq_false h5
      have h6 := of_decide_eq_false h6
      exact ⟨⟨n + 1⟩, ⟨⟨show n + 1 ≤ len by omega, ok_next hok ⟨hl, by omega, isN_yes h4, by omega, by omega⟩⟩, less n len (by omega)⟩, ⟨⟨rfl, rfl, rfl, rfl⟩, vi_succ (by omega), trivial⟩, ⟨⟨rfl, rfl, rfl, fun _ _ _ _ => rfl⟩, trivial⟩, rfl⟩
  refine ifb_of (fun h4 => ?_) fun h4 => ?_
  · have h4 : 0 < (n : Int) := of_decide_eq_true h4
    have w : IntKind.i64.wrap ((n : Int) - 1) = (n : Int) - 1 := wr (by omega) (by omega)
    have e2 : 0 + ((n : Int) - 1).toNat = n - 1 := by omega
    have e3 : g (n - 1) 0 = lastF g n := by
      cases n with
      | zero => omega
      | succ m => rfl
    rw [w, e2, e3]
    refine ifb_pos (decide_eq_true (by omega)) (ifb_pos (decide_eq_true (by omega)) (ifb_of (fun h5 => bad (p := True) fun hp => ?_) fun h5 => ?_))
    · have := of_decide_eq_true h5; have := hp.1; omega
    · exact fin (by have := of_decide_eq_false h5; omega)
  · have h4 : ¬ 0 < (n : Int) := of_decide_eq_false h4
    have e0 : n = 0 := by omega
    subst e0
    exact fin (by simp only [lastF]; omega)

def asG (q : Nat → Nat → Value) (i j : Nat) : Int := match q i j with
  | .int _ n => n
  | _ => 0
def asB (q : Nat → Nat → Value) (i j : Nat) : Bool := match q i j with
  | .bool b => b
  | _ => false
noncomputable def isPk (len : Nat) (q : Nat → Nat → Value) : Bool := @decide (∀ i j, i < len → j < 6 → q i j = pk (asG q) (asB q) i j) (Classical.propDecidable _)
theorem isPk_yes {len : Nat} {q : Nat → Nat → Value} (h : ∀ i j, i < len → j < 6 → q i j = pk (asG q) (asB q) i j) : isPk len q = true := @decide_eq_true _ (Classical.propDecidable _) h
theorem of_isPk {len : Nat} {q : Nat → Nat → Value} (h : isPk len q = true) : ∀ i j, i < len → j < 6 → q i j = pk (asG q) (asB q) i j := @of_decide_eq_true _ (Classical.propDecidable _) h
noncomputable def gChk (q : Nat → Nat → Value) (len : Nat) : List AV → Option (Bool × AV)
  | [] => some (isPk len q, iv (chF (asG q) len))
  | _ => none
theorem eChk : EntryOK Try.prog 14 (row1 6 gChk) := entry_row1 (ty := 33) (by kernel_rfl) fun q len rest v h => by
  unfold gChk at h
  split at h
  · simp only [Option.some.injEq, Prod.mk.injEq] at h
    obtain ⟨h1, rfl⟩ := h
    exact ⟨rfl, rfl, pk (asG q) (asB q), of_isPk h1, CC len (asG q), SC _ _, rfl, 100, chk_is len (asG q) (asB q)⟩
  · cases h
theorem eRChk : EntryOK Try.prog 15 (row1 6 gChk) := entry_row1 (ty := 33) (by kernel_rfl) fun q len rest v h => by
  unfold gChk at h
  split at h
  · simp only [Option.some.injEq, Prod.mk.injEq] at h
    obtain ⟨h1, rfl⟩ := h
    exact ⟨rfl, rfl, pk (asG q) (asB q), of_isPk h1, CC len (asG q), SC _ _, rfl, 100, rchk_is len (asG q) (asB q)⟩
  · cases h

end Go.Proofs.Ytmaddijeiniliaa.Ls
