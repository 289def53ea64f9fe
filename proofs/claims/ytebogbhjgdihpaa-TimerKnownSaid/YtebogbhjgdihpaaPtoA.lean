/-
  PtoA: the functions of rtt, pto and their references: what each comes to.
-/
import Derived.Test.YtebogbhjgdihpaaPtoS
import Derived.Test.YtebogbhjgdihpaaSyE
import Derived.Test.YtebogbhjgdihpaaProg
import Derived.WalkKit
namespace Go.Proofs.Ytebogbhjgdihpaa.Pto
open Go Go.RowKit Go.Proofs.Ytebogbhjgdihpaa.Sy
set_option linter.unusedVariables false
set_option linter.unusedSimpArgs false
set_option maxRecDepth 20000

abbrev iv (n : Int) : AV := .val (.int .i64 n)
abbrev bv (b : Bool) : AV := .val (.bool b)
abbrev rv (a b c d e : Int) : AV := .agg [iv a, iv b, iv c, iv d, iv e]

theorem ite_in {p : Prop} [Decidable p] {a b : Prop} (h1 : p → a) (h2 : ¬ p → b) : if p then a else b := by
  by_cases h : p
  · rw [if_pos h]; exact h1 h
  · rw [if_neg h]; exact h2 h
theorem mixed : Try.prog.follows .mixedOrders = true := by kernel_rfl

/-! ### what is walked into -/
def inl0 : List Nat := [41, 44, 39, 40, 43]
noncomputable def C0 : Cfg := ⟨Try.prog, mkT [], fun f => hasN inl0 f, fun _ _ => none⟩
theorem inl0_ok : allN (entersB Try.prog) inl0 = true := by kernel_rfl
theorem S0 : Sound C0 := ⟨tab_nil, fun f h => entersB_ok (allN_ok inl0_ok f h), mixed⟩

theorem half {c : Int} (h0 : 0 ≤ c) (h1 : c ≤ 9007199254740991) : IntKind.i64.wrap (c.tdiv 2) = c / 2 := by
  rw [Int.tdiv_eq_ediv_of_nonneg h0]
  exact IntWalk.i64_in _ (by omega)

/-! ### rtt.Check and its reference -/
theorem check_ev (a b c d e : Int) (K : AV → Prop) : (afn C0 100 23 [rv a b c d e] [] 0 (fun v _ _ => K v)) = (
      ifb (e == -1) (ifb (decide (c < 1000000)) (K (AV.val (Value.int IntKind.i64 2))) (ifb (decide (60000000000 < c)) (K (AV.val (Value.int IntKind.i64 2))) (ifb (!(0 == a && (0 == b && (c == c && (IntKind.i64.wrap (c.tdiv 2) == d && (-1 == e && true)))))) (K (AV.val (Value.int IntKind.i64 2))) (K (AV.val (Value.int IntKind.i64 0)))))) (ifb (decide (e < 0)) (K (AV.val (Value.int IntKind.i64 2))) (ifb
  (decide (9007199254740991 < e)) (K (AV.val (Value.int IntKind.i64 2))) (ifb (decide (a < 0)) (K (AV.val (Value.int IntKind.i64 2))) (ifb (decide (9007199254740991 < a)) (K (AV.val (Value.int IntKind.i64 2))) (ifb (decide (b < 0)) (K (AV.val (Value.int IntKind.i64 2))) (ifb (decide (9007199254740991 < b)) (K (AV.val (Value.int IntKind.i64 2))) (ifb (decide (c < 0)) (K (AV.val (Value.int
  IntKind.i64 2))) (ifb (decide (9007199254740991 < c)) (K (AV.val (Value.int IntKind.i64 2))) (ifb (decide (d < 0)) (K (AV.val (Value.int IntKind.i64 2))) (ifb (decide (9007199254740991 < d)) (K (AV.val (Value.int IntKind.i64 2))) (ifb (decide (min a c < b)) (K (AV.val (Value.int IntKind.i64 2))) (K (AV.val (Value.int IntKind.i64 0))))))))))))))) := by
  kernel_rfl
theorem rcheck_ev (a b c d e : Int) (K : AV → Prop) : (afn C0 100 32 [rv a b c d e] [] 0 (fun v _ _ => K v)) = (
      ifb (e == -1) (ifb (a != 0) (K (AV.val (Value.int IntKind.i64 2))) (ifb (b != 0) (K (AV.val (Value.int IntKind.i64 2))) (ifb (decide (c < 1000000)) (K (AV.val (Value.int IntKind.i64 2))) (ifb (decide (60000000000 < c)) (K (AV.val (Value.int IntKind.i64 2))) (ifb (d != IntKind.i64.wrap (c.tdiv 2)) (K (AV.val (Value.int IntKind.i64 2))) (K (AV.val (Value.int IntKind.i64 0)))))))) (ifb (decide (0 ≤
  e)) (ifb (!decide (e ≤ 9007199254740991)) (K (AV.val (Value.int IntKind.i64 2))) (ifb (decide (0 ≤ a)) (ifb (!decide (a ≤ 9007199254740991)) (K (AV.val (Value.int IntKind.i64 2))) (ifb (decide (0 ≤ b)) (ifb (!decide (b ≤ 9007199254740991)) (K (AV.val (Value.int IntKind.i64 2))) (ifb (decide (0 ≤ c)) (ifb (!decide (c ≤ 9007199254740991)) (K (AV.val (Value.int IntKind.i64 2))) (ifb (decide (0 ≤ d))
  (ifb (!decide (d ≤ 9007199254740991)) (K (AV.val (Value.int IntKind.i64 2))) (ifb (decide (a < b)) (K (AV.val (Value.int IntKind.i64 2))) (ifb (decide (c < b)) (K (AV.val (Value.int IntKind.i64 2))) (K (AV.val (Value.int IntKind.i64 0)))))) (K (AV.val (Value.int IntKind.i64 2))))) (K (AV.val (Value.int IntKind.i64 2))))) (K (AV.val (Value.int IntKind.i64 2))))) (K (AV.val (Value.int IntKind.i64
  2))))) (K (AV.val (Value.int IntKind.i64 2))))) := by
  kernel_rfl

theorem ck_leaf2 {a b c d e : Int} (h : ¬ ckP a b c d e) : AV.val (.int .i64 2) = iv (ckF a b c d e) := by rw [ckF_no h]
theorem ck_leaf0 {a b c d e : Int} (h : ckP a b c d e) : AV.val (.int .i64 0) = iv (ckF a b c d e) := by rw [ckF_yes h]

theorem check_is (a b c d e : Int) : afn C0 100 23 [rv a b c d e] [] 0 (fun v _ _ => v = iv (ckF a b c d e)) := by
  rw [check_ev a b c d e (fun v => v = iv (ckF a b c d e))]
  simp only [ifb_ite, beq_iff_eq, decide_eq_true_eq, Bool.not_eq_true', Bool.and_eq_true, Bool.and_true]
  by_cases he : e = -1
  · rw [if_pos he]
    by_cases h1 : c < 1000000
    · rw [if_pos h1]; exact ck_leaf2 (by unfold ckP ckN; omega)
    · rw [if_neg h1]
      by_cases h2 : 60000000000 < c
      · rw [if_pos h2]; exact ck_leaf2 (by unfold ckP ckN; omega)
      · rw [if_neg h2, half (by omega) (by omega)]
        split
        · rename_i h
          refine ck_leaf2 fun hp => ?_
          unfold ckP ckN at hp
          have h3 : d = c / 2 ∧ a = 0 ∧ b = 0 := by omega
          obtain ⟨rfl, rfl, rfl⟩ := h3
          subst he
          simp at h
        · rename_i h
          simp only [Bool.not_eq_false, Bool.and_eq_true, beq_iff_eq] at h
          exact ck_leaf0 (by unfold ckP ckN; omega)
  · rw [if_neg he]
    repeat' refine ite_in (fun _ => ?_) (fun _ => ?_)
    all_goals first | exact ck_leaf2 (by unfold ckP ckO; omega) | exact ck_leaf0 (by unfold ckP ckO; omega)

theorem rcheck_is (a b c d e : Int) : afn C0 100 32 [rv a b c d e] [] 0 (fun v _ _ => v = iv (ckF a b c d e)) := by
  rw [rcheck_ev a b c d e (fun v => v = iv (ckF a b c d e))]
  simp only [ifb_ite, beq_iff_eq, bne_iff_ne, decide_eq_true_eq, Bool.not_eq_true', decide_eq_false_iff_not]
  by_cases he : e = -1
  · rw [if_pos he]
    by_cases h1 : c < 1000000
    · repeat' split
      all_goals first | exact ck_leaf2 (by unfold ckP ckN; omega) | omega
    · by_cases h2 : 60000000000 < c
      · repeat' split
        all_goals first | exact ck_leaf2 (by unfold ckP ckN; omega) | omega
      · rw [half (by omega) (by omega)]
        repeat' refine ite_in (fun _ => ?_) (fun _ => ?_)
        all_goals first | exact ck_leaf2 (by unfold ckP ckN; omega) | exact ck_leaf0 (by unfold ckP ckN; omega) | omega
  · rw [if_neg he]
    repeat' refine ite_in (fun _ => ?_) (fun _ => ?_)
    all_goals first | exact ck_leaf2 (by unfold ckP ckO; omega) | exact ck_leaf0 (by unfold ckP ckO; omega) | omega

/-! ### entries -/
def gCheck : List AV → Option AV
  | [.agg [.val (.int .i64 a), .val (.int .i64 b), .val (.int .i64 c), .val (.int .i64 d), .val (.int .i64 e)]] => some (iv (ckF a b c d e))
  | _ => none
theorem eCheck : EntryOK Try.prog 23 (plain gCheck) := entry_closed S0 (by kernel_rfl) fun args v h => by
  unfold gCheck at h
  split at h
  · cases h; exact ⟨rfl, rfl, 100, check_is _ _ _ _ _⟩
  · cases h
theorem eRCheck : EntryOK Try.prog 32 (plain gCheck) := entry_closed S0 (by kernel_rfl) fun args v h => by
  unfold gCheck at h
  split at h
  · cases h; exact ⟨rfl, rfl, 100, rcheck_is _ _ _ _ _⟩
  · cases h

/-! ### Due, Bring -/
theorem due_ev (a b : Int) (K : AV → Prop) : (afn C0 100 42 [iv a, iv b] [] 0 (fun v _ _ => K v)) = (
      ifb (a != max 0 (min a 9007199254740991)) (K (AV.val (Value.int IntKind.i64 (-1)))) (K (AV.val (Value.int IntKind.i64 (max 0 (min (IntKind.i64.wrap (a + max 0 (min b 9007199254740991))) 9007199254740991)))))) := by
  kernel_rfl
theorem rdue_ev (a b : Int) (K : AV → Prop) : (afn C0 100 34 [iv a, iv b] [] 0 (fun v _ _ => K v)) = (
      ifb (decide (a < 0)) (K (AV.val (Value.int IntKind.i64 (-1)))) (ifb (decide (9007199254740991 < a)) (K (AV.val (Value.int IntKind.i64 (-1)))) (K (AV.val (Value.int IntKind.i64 (max 0 (min (IntKind.i64.wrap (a + max 0 (min b 9007199254740991))) 9007199254740991))))))) := by
  kernel_rfl
theorem bring_ev (a b : Int) (K : AV → Prop) : (afn C0 100 11 [iv a, iv b] [] 0 (fun v _ _ => K v)) = (
      ifb (b != 0) (ifb (decide (a.tmod b < 0)) (K (AV.val (Value.int IntKind.i64 (IntKind.i64.wrap (a.tmod b + b))))) (K (AV.val (Value.int IntKind.i64 (a.tmod b))))) False) := by
  kernel_rfl

end Go.Proofs.Ytebogbhjgdihpaa.Pto
