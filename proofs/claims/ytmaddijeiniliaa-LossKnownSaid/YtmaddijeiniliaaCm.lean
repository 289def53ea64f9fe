/-
  Cm: plain arithmetic that the chapters share, and short names.
-/
import Derived.Test.YtmaddijeiniliaaSyG
import Derived.Test.YtmaddijeiniliaaProg
import Derived.WalkKit
namespace Go.Proofs.Ytmaddijeiniliaa.Cm
open Go Go.RowKit Go.Proofs.Ytmaddijeiniliaa.Sy
set_option linter.unusedVariables false
set_option linter.unusedSimpArgs false

abbrev iv (n : Int) : AV := .val (.int .i64 n)
abbrev bv (b : Bool) : AV := .val (.bool b)
abbrev rv (a b c d e : Int) : AV := .agg [iv a, iv b, iv c, iv d, iv e]

theorem mixed : Try.prog.follows .mixedOrders = true := by kernel_rfl
theorem ite_in {p : Prop} [Decidable p] {a b : Prop} (h1 : p → a) (h2 : ¬ p → b) : if p then a else b := by
  by_cases h : p
  · rw [if_pos h]; exact h1 h
  · rw [if_neg h]; exact h2 h
theorem wr {n : Int} (h0 : -9223372036854775808 ≤ n) (h1 : n ≤ 9223372036854775807) : IntKind.i64.wrap n = n := IntWalk.i64_in _ (by omega)
theorem half {c : Int} (h0 : 0 ≤ c) (h1 : c ≤ 9223372036854775807) : IntKind.i64.wrap (c.tdiv 2) = c / 2 := by
  rw [Int.tdiv_eq_ediv_of_nonneg h0]
  exact wr (by omega) (by omega)
theorem iv_eq {a b : Int} (h : a = b) : AV.val (.int .i64 a) = iv b := by rw [h]
theorem vi_eq {a b : Int} (h : a = b) : Value.int .i64 a = Value.int .i64 b := by rw [h]
theorem bv_dec {p : Prop} [Decidable p] (h : p) : AV.val (.bool (decide p)) = bv true := by rw [decide_eq_true h]
theorem bv_eq {b : Bool} (h : b = true) : AV.val (.bool b) = bv true := by rw [h]
theorem beq_self (a : Int) : (a == a) = true := by simp
theorem fall {n i : Int} (h : i < n) : (n - (i + 1)).toNat.succ.le (n - i).toNat := by
  show (n - (i + 1)).toNat + 1 ≤ (n - i).toNat
  omega

/-! times -/
def tm (n : Int) : Int := max 0 (min n 9007199254740991)
theorem tm_lo (n : Int) : 0 ≤ tm n := by unfold tm; omega
theorem tm_hi (n : Int) : tm n ≤ 9007199254740991 := by unfold tm; omega

/-! measures -/
def ckN (a b c d : Int) : Prop := a = 0 ∧ b = 0 ∧ 1000000 ≤ c ∧ c ≤ 60000000000 ∧ d = c / 2
def ckO (a b c d e : Int) : Prop := 0 ≤ e ∧ e ≤ 9007199254740991 ∧ 0 ≤ a ∧ a ≤ 9007199254740991 ∧ 0 ≤ b ∧ b ≤ 9007199254740991 ∧ 0 ≤ c ∧ c ≤ 9007199254740991 ∧ 0 ≤ d ∧ d ≤ 9007199254740991 ∧ b ≤ a ∧ b ≤ c
instance (a b c d : Int) : Decidable (ckN a b c d) := by unfold ckN; infer_instance
instance (a b c d e : Int) : Decidable (ckO a b c d e) := by unfold ckO; infer_instance
def ckP (a b c d e : Int) : Prop := (e = -1 ∧ ckN a b c d) ∨ (e ≠ -1 ∧ ckO a b c d e)
instance (a b c d e : Int) : Decidable (ckP a b c d e) := by unfold ckP; infer_instance
def ckF (a b c d e : Int) : Int := if ckP a b c d e then 0 else 2
theorem ckF_yes {a b c d e : Int} (h : ckP a b c d e) : ckF a b c d e = 0 := if_pos h
theorem ckF_no {a b c d e : Int} (h : ¬ ckP a b c d e) : ckF a b c d e = 2 := if_neg h
theorem ck_bounds {a b c d e : Int} (h : ckP a b c d e) : 0 ≤ a ∧ a ≤ 9007199254740991 ∧ 0 ≤ b ∧ b ≤ 9007199254740991 ∧ 0 ≤ c ∧ c ≤ 9007199254740991 ∧ 0 ≤ d ∧ d ≤ 9007199254740991 ∧ b ≤ c := by
  unfold ckP ckN ckO at h
  omega
theorem ck_leaf2 {a b c d e : Int} (h : ¬ ckP a b c d e) : AV.val (.int .i64 2) = iv (ckF a b c d e) := by rw [ckF_no h]
theorem ck_leaf0 {a b c d e : Int} (h : ckP a b c d e) : AV.val (.int .i64 0) = iv (ckF a b c d e) := by rw [ckF_yes h]

/-! brought -/
def brF (i n : Int) : Int := i % n
theorem tmod_lo {a b : Int} (hb : 0 < b) : -b < a.tmod b ∧ a.tmod b < b := by
  have h1 := Int.tmod_lt_of_pos a hb
  have h2 := Int.lt_tmod_of_pos a hb
  omega
theorem brF_neg {a b : Int} (hb : 0 < b) (h : a.tmod b < 0) : a.tmod b + b = a % b := by
  have h1 := Int.tmod_eq_emod (a := a) (b := b)
  have h2 := Int.emod_nonneg a (by omega : b ≠ 0)
  have h3 : (b.natAbs : Int) = b := by omega
  split at h1 <;> omega
theorem brF_pos {a b : Int} (hb : 0 < b) (h : ¬ a.tmod b < 0) : a.tmod b = a % b := by
  have h1 := Int.tmod_eq_emod (a := a) (b := b)
  have h2 := Int.emod_nonneg a (by omega : b ≠ 0)
  have h3 := Int.emod_lt_of_pos a hb
  have h4 : (b.natAbs : Int) = b := by omega
  split at h1 <;> omega
theorem brF_lo (a : Int) {b : Int} (h : 0 < b) : 0 ≤ brF a b ∧ brF a b < b := ⟨Int.emod_nonneg a (by omega), Int.emod_lt_of_pos a h⟩

/-! Bring, as an entry -/
noncomputable def CE : Cfg := ⟨Try.prog, mkT [], fun _ => false, fun _ _ => none⟩
theorem SE : Sound CE := ⟨tab_nil, fun f h => (by cases h), mixed⟩
theorem bring_ev (a b : Int) (K : AV → Prop) : (afn CE 100 21 [iv a, iv b] [] 0 (fun v _ _ => K v)) = (
      ifb (b != 0) (ifb (decide (a.tmod b < 0)) (K (AV.val (Value.int IntKind.i64 (IntKind.i64.wrap (a.tmod b + b))))) (K (AV.val (Value.int IntKind.i64 (a.tmod b))))) False) := by
  kernel_rfl
theorem bring_is (a b : Int) (h0 : 0 < b) (h1 : b ≤ 9223372036854775807) : afn CE 100 21 [iv a, iv b] [] 0 (fun v _ _ => v = iv (brF a b)) := by
  rw [bring_ev a b (fun v => v = iv (brF a b))]
  simp only [ifb_ite, decide_eq_true_eq, bne_iff_ne]
  rw [if_pos (by omega)]
  have h2 := tmod_lo (a := a) h0
  refine ite_in (fun h => iv_eq ?_) fun h => iv_eq (brF_pos h0 h)
  rw [wr (by omega) (by omega)]
  exact brF_neg h0 h
def gBring : List AV → Option (Bool × AV)
  | [.val (.int .i64 a), .val (.int .i64 b)] => some (decide (0 < b) && decide (b ≤ 9223372036854775807), iv (brF a b))
  | _ => none
theorem eBring : EntryOK Try.prog 21 (fun a _ => gBring a) := entry_if (by kernel_rfl) fun args v h => by
  unfold gBring at h
  split at h
  · simp only [Option.some.injEq, Prod.mk.injEq, Bool.and_eq_true, decide_eq_true_eq] at h
    obtain ⟨⟨h1, h2⟩, rfl⟩ := h
    exact ⟨rfl, rfl, CE, SE, rfl, 100, bring_is _ _ h1 h2⟩
  · cases h

end Go.Proofs.Ytmaddijeiniliaa.Cm
