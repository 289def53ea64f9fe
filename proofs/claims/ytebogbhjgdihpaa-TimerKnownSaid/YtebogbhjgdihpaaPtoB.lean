/-
  PtoB: Base, Persist, Backed and their references.
-/
import Derived.Test.YtebogbhjgdihpaaPtoA
namespace Go.Proofs.Ytebogbhjgdihpaa.Pto
open Go Go.RowKit Go.Proofs.Ytebogbhjgdihpaa.Sy
set_option linter.unusedVariables false
set_option linter.unusedSimpArgs false
set_option maxRecDepth 20000

noncomputable def T1 : List (Nat × Entry) := [(23, plain gCheck), (32, plain gCheck)]
noncomputable def C1 : Cfg := ⟨Try.prog, mkT T1, fun f => hasN inl0 f, fun _ _ => none⟩
theorem S1 : Sound C1 := ⟨tab_of (entries_cons eCheck (entries_cons eRCheck entries_nil)), fun f h => entersB_ok (allN_ok inl0_ok f h), mixed⟩

theorem base_ev (a b c d e s x : Int) (K : AV → Prop) : (afn C1 100 26 [rv a b c d e, iv s, iv x] [] 0 (fun v _ _ => K v)) = (
      ifb (ckF a b c d e != 0) (K (AV.val (Value.int IntKind.i64 0))) (ifb (decide (s < 0)) (K (AV.val (Value.int IntKind.i64 0))) (ifb (decide (3 ≤ s)) (K (AV.val (Value.int IntKind.i64 0))) (ifb (s == 2) (K (AV.val (Value.int IntKind.i64 (max 0 (min (IntKind.i64.wrap (IntKind.i64.wrap (c + max (IntKind.i64.wrap (4 * d)) 1000000) + max 0 (min x 9007199254740991))) 9007199254740991))))) (K (AV.val
  (Value.int IntKind.i64 (max 0 (min (IntKind.i64.wrap (c + max (IntKind.i64.wrap (4 * d)) 1000000)) 9007199254740991))))))))) := by
  kernel_rfl
theorem rbase_ev (a b c d e s x : Int) (K : AV → Prop) : (afn C1 100 46 [rv a b c d e, iv s, iv x] [] 0 (fun v _ _ => K v)) = (
      ifb (ckF a b c d e != 0) (K (AV.val (Value.int IntKind.i64 0))) (ifb (decide (s < 0)) (K (AV.val (Value.int IntKind.i64 0))) (ifb (decide (3 ≤ s)) (K (AV.val (Value.int IntKind.i64 0))) (ifb (s == 2) (K (AV.val (Value.int IntKind.i64 (max 0 (min (IntKind.i64.wrap (IntKind.i64.wrap (c + max (IntKind.i64.wrap (4 * d)) 1000000) + max 0 (min x 9007199254740991))) 9007199254740991))))) (K (AV.val
  (Value.int IntKind.i64 (max 0 (min (IntKind.i64.wrap (c + max (IntKind.i64.wrap (4 * d)) 1000000)) 9007199254740991))))))))) := by
  kernel_rfl

structure LI (P : Int → Int → Prop) where
  i : Int
  b : Int
  ok : P i b
def annB (P : Int → Int → Prop) (n : Int) (i0 : LI P) : Ann := ⟨LI P, fun x => ⟨setN (setN (setN (setN (List.replicate 25 .any) 0 (iv x.b)) 12 (iv n)) 13 (iv x.i)) 6 (iv 0), [], 0, 0⟩, fun x => (n - x.i).toNat, i0, fun _ => none, fun _ => none⟩
noncomputable def CB (P : Int → Int → Prop) (n : Int) (i0 : LI P) : Cfg := ⟨Try.prog, mkT [], fun f => hasN inl0 f, fun f r => match Nat.beq f 25 && Nat.beq r 3 with | true => some (annB P n i0) | false => none⟩
theorem backed_ev (P : Int → Int → Prop) (n : Int) (i0 : LI P) (b c m : Int) (K : AV → Prop) : (afn (CB P n i0) 100 25 [iv b, iv c, iv m] [] 0 (fun v _ _ => K v)) = (
      ((Value.int IntKind.i64 (max 0 (min b 9007199254740991)) = Value.int IntKind.i64 i0.b ∧ Value.int IntKind.i64 0 = Value.int IntKind.i64 0 ∧ Value.int IntKind.i64 (max 0 (min c m)) = Value.int IntKind.i64 n ∧ Value.int IntKind.i64 0 = Value.int IntKind.i64 i0.i ∧ True) ∧ True ∧ Side (annB P n i0).s0 0 0 0) ∧ ∀ (i : LI P), ifb (decide (i.i < n)) (ifb (i.b == 0) (K (AV.val (Value.int IntKind.i64
  i.b))) (ifb (decide (4503599627370495 < i.b)) (K (AV.val (Value.int IntKind.i64 9007199254740991))) (∃ (i' : (annB P n i0).I), ((Value.int IntKind.i64 (IntKind.i64.wrap (i.b * 2)) = Value.int IntKind.i64 i'.b ∧ Value.int IntKind.i64 0 = Value.int IntKind.i64 0 ∧ Value.int IntKind.i64 n = Value.int IntKind.i64 n ∧ Value.int IntKind.i64 (IntKind.i64.wrap (i.i + 1)) = Value.int IntKind.i64 i'.i ∧
  True) ∧ True ∧ Side (annB P n i0).s1 0 0 0) ∧ (n - i'.i).toNat.succ.le (n - i.i).toNat))) (K (AV.val (Value.int IntKind.i64 i.b)))) := by
  kernel_rfl
def annR (P : Int → Int → Prop) (c m : Int) (i0 : LI P) : Ann := ⟨LI P, fun x => ⟨setN (setN (setN (setN (setN (List.replicate 28 .any) 0 (iv x.b)) 1 (iv c)) 2 (iv m)) 7 (iv x.i)) 6 (iv 0), [], 0, 0⟩, fun x => (60 - x.i).toNat, i0, fun _ => none, fun _ => none⟩
noncomputable def CR (P : Int → Int → Prop) (c m : Int) (i0 : LI P) : Cfg := ⟨Try.prog, mkT [], fun f => hasN inl0 f, fun f r => match Nat.beq f 45 && Nat.beq r 3 with | true => some (annR P c m i0) | false => none⟩
theorem rbacked_ev (P : Int → Int → Prop) (i0 : LI P) (b c m : Int) (K : AV → Prop) : (afn (CR P c m i0) 100 45 [iv b, iv c, iv m] [] 0 (fun v _ _ => K v)) = (
      ((Value.int IntKind.i64 (max 0 (min b 9007199254740991)) = Value.int IntKind.i64 i0.b ∧ Value.int IntKind.i64 c = Value.int IntKind.i64 c ∧ Value.int IntKind.i64 m = Value.int IntKind.i64 m ∧ Value.int IntKind.i64 0 = Value.int IntKind.i64 0 ∧ Value.int IntKind.i64 0 = Value.int IntKind.i64 i0.i ∧ True) ∧ True ∧ Side (annR P c m i0).s0 0 0 0) ∧ ∀ (i : LI P), ifb (decide (i.i < c)) (ifb (decide
  (i.i < m)) (ifb (decide (i.i < 60)) (∃ (i' : (annR P c m i0).I), ((Value.int IntKind.i64 (max 0 (min (IntKind.i64.wrap (2 * i.b)) 9007199254740991)) = Value.int IntKind.i64 i'.b ∧ Value.int IntKind.i64 c = Value.int IntKind.i64 c ∧ Value.int IntKind.i64 m = Value.int IntKind.i64 m ∧ Value.int IntKind.i64 0 = Value.int IntKind.i64 0 ∧ Value.int IntKind.i64 (IntKind.i64.wrap (i.i + 1)) = Value.int
  IntKind.i64 i'.i ∧ True) ∧ True ∧ Side (annR P c m i0).s1 0 0 0) ∧ (60 - i'.i).toNat.succ.le (60 - i.i).toNat) (K (AV.val (Value.int IntKind.i64 i.b)))) (K (AV.val (Value.int IntKind.i64 i.b)))) (K (AV.val (Value.int IntKind.i64 i.b)))) := by
  kernel_rfl

theorem wr {n : Int} (h0 : -9223372036854775808 ≤ n) (h1 : n ≤ 9223372036854775807) : IntKind.i64.wrap n = n := IntWalk.i64_in _ (by omega)
theorem iv_eq {a b : Int} (h : a = b) : AV.val (.int .i64 a) = iv b := by rw [h]
theorem vi_eq {a b : Int} (h : a = b) : Value.int .i64 a = Value.int .i64 b := by rw [h]

/-! ### Base -/
theorem base_leaf {a b c d e s x : Int} (hs0 : 0 ≤ s) (hs : s < 3) (h : ckP a b c d e) {y : Int} (hy : y = tm (c + max (4 * d) 1000000 + (if s = 2 then tm x else 0))) : AV.val (.int .i64 y) = iv (baseF a b c d e s x) := by
  subst hy
  exact iv_eq (if_pos ⟨h, hs0, hs⟩).symm
theorem base_zero {a b c d e s x : Int} (h : ¬ (ckP a b c d e ∧ 0 ≤ s ∧ s < 3)) : AV.val (.int .i64 0) = iv (baseF a b c d e s x) := by
  exact iv_eq (if_neg h).symm
theorem base_both (a b c d e s x : Int) : ifb (ckF a b c d e != 0) (AV.val (Value.int IntKind.i64 0) = iv (baseF a b c d e s x))
        (ifb (decide (s < 0)) (AV.val (Value.int IntKind.i64 0) = iv (baseF a b c d e s x))
          (ifb (decide (3 ≤ s)) (AV.val (Value.int IntKind.i64 0) = iv (baseF a b c d e s x))
            (ifb (s == 2)
              (AV.val (Value.int IntKind.i64 (max 0 (min (IntKind.i64.wrap (IntKind.i64.wrap (c + max (IntKind.i64.wrap (4 * d)) 1000000) + max 0 (min x 9007199254740991))) 9007199254740991))) = iv (baseF a b c d e s x))
              (AV.val (Value.int IntKind.i64 (max 0 (min (IntKind.i64.wrap (c + max (IntKind.i64.wrap (4 * d)) 1000000)) 9007199254740991))) = iv (baseF a b c d e s x))))) := by
  simp only [ifb_ite, beq_iff_eq, bne_iff_ne, decide_eq_true_eq]
  by_cases hp : ckP a b c d e
  · rw [if_neg (by rw [ckF_yes hp]; decide)]
    have hb := ck_bounds hp
    have hx0 := tm_lo x
    have hx1 := tm_hi x
    refine ite_in (fun _ => base_zero (by omega)) fun _ => ite_in (fun _ => base_zero (by omega)) fun _ => ite_in (fun _ => ?_) fun _ => ?_
    · refine base_leaf (by omega) (by omega) hp ?_
      rw [wr (n := 4 * d) (by omega) (by omega), wr (n := c + _) (by omega) (by omega), wr (by omega) (by omega), if_pos ‹_›]
      rfl
    · refine base_leaf (by omega) (by omega) hp ?_
      rw [wr (n := 4 * d) (by omega) (by omega), wr (n := c + _) (by omega) (by omega), if_neg ‹_›, Int.add_zero]
      rfl
  · rw [if_pos (by rw [ckF_no hp]; decide)]
    exact base_zero fun h => hp h.1
theorem base_is (a b c d e s x : Int) : afn C1 100 26 [rv a b c d e, iv s, iv x] [] 0 (fun v _ _ => v = iv (baseF a b c d e s x)) := by
  rw [base_ev a b c d e s x (fun v => v = iv (baseF a b c d e s x))]
  exact base_both a b c d e s x
theorem rbase_is (a b c d e s x : Int) : afn C1 100 46 [rv a b c d e, iv s, iv x] [] 0 (fun v _ _ => v = iv (baseF a b c d e s x)) := by
  rw [rbase_ev a b c d e s x (fun v => v = iv (baseF a b c d e s x))]
  exact base_both a b c d e s x

def gBase : List AV → Option AV
  | [.agg [.val (.int .i64 a), .val (.int .i64 b), .val (.int .i64 c), .val (.int .i64 d), .val (.int .i64 e)], .val (.int .i64 s), .val (.int .i64 x)] => some (iv (baseF a b c d e s x))
  | _ => none
theorem eBase : EntryOK Try.prog 26 (plain gBase) := entry_closed S1 (by kernel_rfl) fun args v h => by
  unfold gBase at h
  split at h
  · cases h; exact ⟨rfl, rfl, 100, base_is _ _ _ _ _ _ _⟩
  · cases h
theorem eRBase : EntryOK Try.prog 46 (plain gBase) := entry_closed S1 (by kernel_rfl) fun args v h => by
  unfold gBase at h
  split at h
  · cases h; exact ⟨rfl, rfl, 100, rbase_is _ _ _ _ _ _ _⟩
  · cases h

/-! ### Backed -/
theorem side0 : Side (fun x => none) 0 0 0 := ⟨rfl, fun _ h => by omega, fun _ _ => rfl, fun _ _ _ h => by cases h⟩
theorem fall {n i : Int} (h : i < n) : (n - (i + 1)).toNat.succ.le (n - i).toNat := by
  show (n - (i + 1)).toNat + 1 ≤ (n - i).toNat
  omega
theorem backed_is (b c m : Int) : ∃ C, Sound C ∧ C.P = Try.prog ∧ afn C 100 25 [iv b, iv c, iv m] [] 0 (fun v _ _ => v = iv (bkF b c m)) := by
  let n := max 0 (min c m)
  let Q : Int → Int → Prop := fun i x => 0 ≤ i ∧ i ≤ n ∧ 0 ≤ x ∧ x ≤ 9007199254740991 ∧ left x (n - i) = bkF b c m ∧ (x = 0 ∨ 2 ^ i.toNat ≤ x)
  have q0 : Q 0 (tm b) := ⟨Int.le_refl _, by omega, tm_lo _, tm_hi _, by rw [Int.sub_zero, left_max]; rfl, by have := tm_lo b; simp; omega⟩
  refine ⟨CB Q n ⟨0, tm b, q0⟩, ⟨tab_nil, fun f h => entersB_ok (allN_ok inl0_ok f h), mixed⟩, rfl, ?_⟩
  rw [backed_ev Q n ⟨0, tm b, q0⟩ b c m (fun v => v = iv (bkF b c m))]
  refine ⟨⟨⟨rfl, rfl, rfl, rfl, trivial⟩, trivial, side0⟩, ?_⟩
  rintro ⟨i, x, h0, h1, h2, h3, h4, h5⟩
  simp only [ifb_ite, beq_iff_eq, bne_iff_ne, decide_eq_true_eq]
  refine ite_in (fun hi => ite_in (fun hx => iv_eq ?_) fun hx => ite_in (fun hb => iv_eq ?_) fun hb => ?_) fun hi => iv_eq ?_
  · rw [← h4, hx, left_nil]
  · rw [← h4, left_full (by omega) hb]
  · have h6 : (2 : Int) ^ i.toNat ≤ x := by omega
    have h7 : i < 60 := by
      refine Int.lt_of_not_ge fun h => ?_
      have h8 : (2 : Int) ^ 60 ≤ 2 ^ i.toNat := pow_le' (by omega)
      have h9 : (2 : Int) ^ 60 = 1152921504606846976 := by decide
      omega
    rw [wr (n := x * 2) (by omega) (by omega), wr (n := i + 1) (by omega) (by omega)]
    refine ⟨⟨i + 1, x * 2, by omega, by omega, by omega, by omega, ?_, ?_⟩, ⟨⟨rfl, trivial, trivial, rfl, trivial⟩, trivial, side0⟩, fall hi⟩
    · rw [← h4, ← left_step (b := x) h2 (by omega), Int.min_eq_left (by omega), Int.mul_comm 2 x]
      congr 1
      omega
    · rw [show (i + 1).toNat = i.toNat + 1 by omega, Int.pow_succ]
      omega
  · rw [← h4, left_end (by omega) h2 h3]
theorem rbacked_is (b c m : Int) : ∃ C, Sound C ∧ C.P = Try.prog ∧ afn C 100 45 [iv b, iv c, iv m] [] 0 (fun v _ _ => v = iv (bkF b c m)) := by
  let n := min (max 0 (min c m)) 60
  let Q : Int → Int → Prop := fun i x => 0 ≤ i ∧ i ≤ n ∧ 0 ≤ x ∧ x ≤ 9007199254740991 ∧ left x (n - i) = bkF b c m
  have q0 : Q 0 (tm b) := ⟨Int.le_refl _, by omega, tm_lo _, tm_hi _, by rw [Int.sub_zero, left_many (tm_lo b), left_max]; rfl⟩
  refine ⟨CR Q c m ⟨0, tm b, q0⟩, ⟨tab_nil, fun f h => entersB_ok (allN_ok inl0_ok f h), mixed⟩, rfl, ?_⟩
  rw [rbacked_ev Q ⟨0, tm b, q0⟩ b c m (fun v => v = iv (bkF b c m))]
  refine ⟨⟨⟨rfl, rfl, rfl, rfl, rfl, trivial⟩, trivial, side0⟩, ?_⟩
  rintro ⟨i, x, h0, h1, h2, h3, h4⟩
  simp only [ifb_ite, beq_iff_eq, bne_iff_ne, decide_eq_true_eq]
  refine ite_in (fun hi => ite_in (fun hx => ite_in (fun hb => ?_) fun hb => iv_eq ?_) fun hb => iv_eq ?_) fun hi => iv_eq ?_
  · rw [wr (n := 2 * x) (by omega) (by omega), wr (n := i + 1) (by omega) (by omega)]
    refine ⟨⟨i + 1, min (2 * x) 9007199254740991, by omega, by omega, by omega, by omega, ?_⟩, ⟨⟨vi_eq (by show _ = min (2 * x) 9007199254740991; omega), trivial, trivial, trivial, rfl, trivial⟩, trivial, side0⟩, fall hb⟩
    rw [← h4, ← left_step (b := x) h2 (by omega)]
    congr 1
    omega
  all_goals rw [← h4, left_end (by omega) h2 h3]

def gBacked : List AV → Option AV
  | [.val (.int .i64 b), .val (.int .i64 c), .val (.int .i64 m)] => some (iv (bkF b c m))
  | _ => none
theorem eBacked : EntryOK Try.prog 25 (plain gBacked) := entry_of (by kernel_rfl) fun args v h => by
  unfold gBacked at h
  split at h
  · cases h
    obtain ⟨C, h1, h2, h3⟩ := backed_is _ _ _
    exact ⟨rfl, rfl, C, h1, h2, 100, h3⟩
  · cases h
theorem eRBacked : EntryOK Try.prog 45 (plain gBacked) := entry_of (by kernel_rfl) fun args v h => by
  unfold gBacked at h
  split at h
  · cases h
    obtain ⟨C, h1, h2, h3⟩ := rbacked_is _ _ _
    exact ⟨rfl, rfl, C, h1, h2, 100, h3⟩
  · cases h

end Go.Proofs.Ytebogbhjgdihpaa.Pto
