/-
  LsA: the functions of rtt that loss uses; how long one waits.
-/
import Derived.Test.YtmaddijeiniliaaCm
import Derived.Test.YtmaddijeiniliaaSyJ
namespace Go.Proofs.Ytmaddijeiniliaa.Ls
open Go Go.RowKit Go.Proofs.Ytmaddijeiniliaa.Sy Go.Proofs.Ytmaddijeiniliaa.Cm
set_option linter.unusedVariables false
set_option linter.unusedSimpArgs false
set_option maxRecDepth 100000
attribute [local irreducible] afn

def inl0 : List Nat := [35, 36, 41]
theorem inl0_ok : allN (entersB Try.prog) inl0 = true := by kernel_rfl
noncomputable def C0 : Cfg := ⟨Try.prog, mkT [], fun f => hasN inl0 f, fun _ _ => none⟩
theorem S0 : Sound C0 := ⟨tab_nil, fun f h => entersB_ok (allN_ok inl0_ok f h), mixed⟩
theorem check_ev (a b c d e : Int) (K : AV → Prop) : (afn C0 100 26 [rv a b c d e] [] 0 (fun v _ _ => K v)) = (
      ifb (e == -1) (ifb (decide (c < 1000000)) (K (AV.val (Value.int IntKind.i64 2))) (ifb (decide (60000000000 < c)) (K (AV.val (Value.int IntKind.i64 2))) (ifb (!(0 == a && (0 == b && (c == c && (IntKind.i64.wrap (c.tdiv 2) == d && (-1 == e && true)))))) (K (AV.val (Value.int IntKind.i64 2))) (K (AV.val (Value.int IntKind.i64 0)))))) (ifb (decide (e < 0)) (K (AV.val (Value.int IntKind.i64 2)))
  (ifb (decide (9007199254740991 < e)) (K (AV.val (Value.int IntKind.i64 2))) (ifb (decide (a < 0)) (K (AV.val (Value.int IntKind.i64 2))) (ifb (decide (9007199254740991 < a)) (K (AV.val (Value.int IntKind.i64 2))) (ifb (decide (b < 0)) (K (AV.val (Value.int IntKind.i64 2))) (ifb (decide (9007199254740991 < b)) (K (AV.val (Value.int IntKind.i64 2))) (ifb (decide (c < 0))
  (K (AV.val (Value.int IntKind.i64 2))) (ifb (decide (9007199254740991 < c)) (K (AV.val (Value.int IntKind.i64 2))) (ifb (decide (d < 0)) (K (AV.val (Value.int IntKind.i64 2))) (ifb (decide (9007199254740991 < d)) (K (AV.val (Value.int IntKind.i64 2))) (ifb (decide (min a c < b)) (K (AV.val (Value.int IntKind.i64 2))) (K (AV.val (Value.int IntKind.i64 0))))))))))))))) := by
  kernel_rfl
theorem rcheck_ev (a b c d e : Int) (K : AV → Prop) : (afn C0 100 29 [rv a b c d e] [] 0 (fun v _ _ => K v)) = (
      ifb (e == -1) (ifb (a != 0) (K (AV.val (Value.int IntKind.i64 2))) (ifb (b != 0) (K (AV.val (Value.int IntKind.i64 2))) (ifb (decide (c < 1000000)) (K (AV.val (Value.int IntKind.i64 2))) (ifb (decide (60000000000 < c)) (K (AV.val (Value.int IntKind.i64 2))) (ifb (d != IntKind.i64.wrap (c.tdiv 2)) (K (AV.val (Value.int IntKind.i64 2))) (K (AV.val (Value.int IntKind.i64 0))))))))
  (ifb (decide (0 ≤ e)) (ifb (!decide (e ≤ 9007199254740991)) (K (AV.val (Value.int IntKind.i64 2))) (ifb (decide (0 ≤ a)) (ifb (!decide (a ≤ 9007199254740991)) (K (AV.val (Value.int IntKind.i64 2))) (ifb (decide (0 ≤ b)) (ifb (!decide (b ≤ 9007199254740991)) (K (AV.val (Value.int IntKind.i64 2))) (ifb (decide (0 ≤ c)) (ifb (!decide (c ≤ 9007199254740991)) (K (AV.val (Value.int IntKind.i64 2)))
  (ifb (decide (0 ≤ d)) (ifb (!decide (d ≤ 9007199254740991)) (K (AV.val (Value.int IntKind.i64 2))) (ifb (decide (a < b)) (K (AV.val (Value.int IntKind.i64 2))) (ifb (decide (c < b)) (K (AV.val (Value.int IntKind.i64 2))) (K (AV.val (Value.int IntKind.i64 0)))))) (K (AV.val (Value.int IntKind.i64 2))))) (K (AV.val (Value.int IntKind.i64 2))))) (K (AV.val (Value.int IntKind.i64 2)))))
  (K (AV.val (Value.int IntKind.i64 2))))) (K (AV.val (Value.int IntKind.i64 2))))) := by
  kernel_rfl
theorem ist_ev (n : Int) (K : AV → Prop) : (afn C0 100 25 [iv n] [] 0 (fun v _ _ => K v)) = (
      ifb (decide (0 ≤ n)) (K (AV.val (Value.bool (decide (n ≤ 9007199254740991))))) (K (AV.val (Value.bool false)))) := by
  kernel_rfl
theorem rist_ev (n : Int) (K : AV → Prop) : (afn C0 100 28 [iv n] [] 0 (fun v _ _ => K v)) = (
      ifb (decide (0 ≤ n)) (K (AV.val (Value.bool (decide (n ≤ 9007199254740991))))) (K (AV.val (Value.bool false)))) := by
  kernel_rfl
theorem check_is (a b c d e : Int) : afn C0 100 26 [rv a b c d e] [] 0 (fun v _ _ => v = iv (ckF a b c d e)) := by
  rw [check_ev a b c d e (fun v => v = iv (ckF a b c d e))]
  simp only [ifb_ite, beq_iff_eq, decide_eq_true_eq, Bool.not_eq_true', Bool.and_eq_true, Bool.and_true]
  by_cases he : e = -1
  · rw [if_pos he]
    by_cases h1 : c < 1000000
    · rw [if_pos h1]; exact ck_leaf2 (by unfold ckP ckN; omega)
    · rw [if_neg h1]
      by_cases h2 : 60000000000 < c
      · rw [if_pos h2]; exact ck_leaf2 (by unfold ckP ckN; omega)
      · rw [if_neg h2, half (by omega) (by omega)]
        split
        · rename_i h
          refine ck_leaf2 fun hp => ?_
          unfold ckP ckN at hp
          have h3 : d = c / 2 ∧ a = 0 ∧ b = 0 := by omega
          obtain ⟨rfl, rfl, rfl⟩ := h3
          subst he
          simp at h
        · rename_i h
          simp only [Bool.not_eq_false, Bool.and_eq_true, beq_iff_eq] at h
          exact ck_leaf0 (by unfold ckP ckN; omega)
  · rw [if_neg he]
    repeat' refine ite_in (fun _ => ?_) (fun _ => ?_)
    all_goals first | exact ck_leaf2 (by unfold ckP ckO; omega) | exact ck_leaf0 (by unfold ckP ckO; omega)

theorem rcheck_is (a b c d e : Int) : afn C0 100 29 [rv a b c d e] [] 0 (fun v _ _ => v = iv (ckF a b c d e)) := by
  rw [rcheck_ev a b c d e (fun v => v = iv (ckF a b c d e))]
  simp only [ifb_ite, beq_iff_eq, bne_iff_ne, decide_eq_true_eq, Bool.not_eq_true', decide_eq_false_iff_not]
  by_cases he : e = -1
  · rw [if_pos he]
    by_cases h1 : c < 1000000
    · repeat' split
      all_goals first | exact ck_leaf2 (by unfold ckP ckN; omega) | omega
    · by_cases h2 : 60000000000 < c
      · repeat' split
        all_goals first | exact ck_leaf2 (by unfold ckP ckN; omega) | omega
      · rw [half (by omega) (by omega)]
        repeat' refine ite_in (fun _ => ?_) (fun _ => ?_)
        all_goals first | exact ck_leaf2 (by unfold ckP ckN; omega) | exact ck_leaf0 (by unfold ckP ckN; omega) | omega
  · rw [if_neg he]
    repeat' refine ite_in (fun _ => ?_) (fun _ => ?_)
    all_goals first | exact ck_leaf2 (by unfold ckP ckO; omega) | exact ck_leaf0 (by unfold ckP ckO; omega) | omega


def gCheck : List AV → Option AV
  | [.agg [.val (.int .i64 a), .val (.int .i64 b), .val (.int .i64 c), .val (.int .i64 d), .val (.int .i64 e)]] => some (iv (ckF a b c d e))
  | _ => none
theorem eCheck : EntryOK Try.prog 26 (plain gCheck) := entry_closed S0 (by kernel_rfl) fun args v h => by
  unfold gCheck at h
  split at h
  · cases h; exact ⟨rfl, rfl, 100, check_is _ _ _ _ _⟩
  · cases h
theorem eRCheck : EntryOK Try.prog 29 (plain gCheck) := entry_closed S0 (by kernel_rfl) fun args v h => by
  unfold gCheck at h
  split at h
  · cases h; exact ⟨rfl, rfl, 100, rcheck_is _ _ _ _ _⟩
  · cases h

/-! times -/
def isN (n : Int) : Bool := decide (0 ≤ n ∧ n ≤ 9007199254740991)
theorem isN_both (n : Int) : ifb (decide (0 ≤ n)) (AV.val (Value.bool (decide (n ≤ 9007199254740991))) = bv (isN n)) (AV.val (Value.bool false) = bv (isN n)) := by
  unfold isN
  refine ifb_of (fun h => ?_) fun h => ?_
  · have h := of_decide_eq_true h
    have e : decide (n ≤ 9007199254740991) = decide (0 ≤ n ∧ n ≤ 9007199254740991) := by
      rw [Bool.eq_iff_iff, decide_eq_true_eq, decide_eq_true_eq]; omega
    rw [e]
  · have h := of_decide_eq_false h
    have e : decide (0 ≤ n ∧ n ≤ 9007199254740991) = false := decide_eq_false (by omega)
    rw [e]
theorem ist_is (n : Int) : afn C0 100 25 [iv n] [] 0 (fun v _ _ => v = bv (isN n)) := by
  rw [ist_ev n (fun v => v = bv (isN n))]
  exact isN_both n
theorem rist_is (n : Int) : afn C0 100 28 [iv n] [] 0 (fun v _ _ => v = bv (isN n)) := by
  rw [rist_ev n (fun v => v = bv (isN n))]
  exact isN_both n
def gIs : List AV → Option AV
  | [.val (.int .i64 n)] => some (bv (isN n))
  | _ => none
theorem eIs : EntryOK Try.prog 25 (plain gIs) := entry_closed S0 (by kernel_rfl) fun args v h => by
  unfold gIs at h
  split at h
  · cases h; exact ⟨rfl, rfl, 100, ist_is _⟩
  · cases h
theorem eRIs : EntryOK Try.prog 28 (plain gIs) := entry_closed S0 (by kernel_rfl) fun args v h => by
  unfold gIs at h
  split at h
  · cases h; exact ⟨rfl, rfl, 100, rist_is _⟩
  · cases h

/-! Greatest, Wait -/
noncomputable def T1 : List (Nat × Entry) := (26, plain gCheck) :: (29, plain gCheck) :: (25, plain gIs) :: (28, plain gIs) :: (21, fun a _ => gBring a) :: []
theorem T1_ok : ∀ k e, (k, e) ∈ T1 → EntryOK Try.prog k e := entries_cons eCheck (entries_cons eRCheck (entries_cons eIs (entries_cons eRIs (entries_cons eBring entries_nil))))
noncomputable def C1 : Cfg := ⟨Try.prog, mkT T1, fun _ => false, fun _ _ => none⟩
theorem S1 : Sound C1 := ⟨tab_of T1_ok, fun f h => (by cases h), mixed⟩
theorem great_ev (a b c d e : Int) (K : AV → Prop) : (afn C1 100 33 [rv a b c d e] [] 0 (fun v _ _ => K v)) = (
      ifb (ckF a b c d e != 0) (K (AV.val (Value.int IntKind.i64 0))) (K (AV.val (Value.int IntKind.i64 (max c a))))) := by
  kernel_rfl
theorem rgreat_ev (a b c d e : Int) (K : AV → Prop) : (afn C1 100 34 [rv a b c d e] [] 0 (fun v _ _ => K v)) = (
      ifb (ckF a b c d e != 0) (K (AV.val (Value.int IntKind.i64 0))) (K (AV.val (Value.int IntKind.i64 (max c a))))) := by
  kernel_rfl
def grF (a b c d e : Int) : Int := if ckF a b c d e = 0 then max c a else 0
theorem gr_both (a b c d e : Int) : ifb (ckF a b c d e != 0) (AV.val (Value.int .i64 0) = iv (grF a b c d e)) (AV.val (Value.int .i64 (max c a)) = iv (grF a b c d e)) := by
  unfold grF
  refine ifb_of (fun h => ?_) fun h => ?_
  · rw [if_neg (by simpa using h)]
  · rw [if_pos (by simpa using h)]
theorem great_is (a b c d e : Int) : afn C1 100 33 [rv a b c d e] [] 0 (fun v _ _ => v = iv (grF a b c d e)) := by
  rw [great_ev a b c d e (fun v => v = iv (grF a b c d e))]
  exact gr_both a b c d e
theorem rgreat_is (a b c d e : Int) : afn C1 100 34 [rv a b c d e] [] 0 (fun v _ _ => v = iv (grF a b c d e)) := by
  rw [rgreat_ev a b c d e (fun v => v = iv (grF a b c d e))]
  exact gr_both a b c d e
def gGr : List AV → Option AV
  | [.agg [.val (.int .i64 a), .val (.int .i64 b), .val (.int .i64 c), .val (.int .i64 d), .val (.int .i64 e)]] => some (iv (grF a b c d e))
  | _ => none
theorem eGr : EntryOK Try.prog 33 (plain gGr) := entry_closed S1 (by kernel_rfl) fun args v h => by
  unfold gGr at h
  split at h
  · cases h; exact ⟨rfl, rfl, 100, great_is _ _ _ _ _⟩
  · cases h
theorem eRGr : EntryOK Try.prog 34 (plain gGr) := entry_closed S1 (by kernel_rfl) fun args v h => by
  unfold gGr at h
  split at h
  · cases h; exact ⟨rfl, rfl, 100, rgreat_is _ _ _ _ _⟩
  · cases h
noncomputable def T2 : List (Nat × Entry) := (33, plain gGr) :: (34, plain gGr) :: T1
theorem T2_ok : ∀ k e, (k, e) ∈ T2 → EntryOK Try.prog k e := entries_cons eGr (entries_cons eRGr T1_ok)
noncomputable def C2 : Cfg := ⟨Try.prog, mkT T2, fun _ => false, fun _ _ => none⟩
theorem S2 : Sound C2 := ⟨tab_of T2_ok, fun f h => (by cases h), mixed⟩
theorem wait_ev (a b c d e : Int) (K : AV → Prop) : (afn C2 100 17 [rv a b c d e] [] 0 (fun v _ _ => K v)) = (
      ifb (ckF a b c d e != 0) (K (AV.val (Value.int IntKind.i64 0))) (K (AV.val (Value.int IntKind.i64 (max 1000000 (min (IntKind.i64.wrap ((IntKind.i64.wrap (9 * grF a b c d e)).tdiv 8)) 9007199254740991)))))) := by
  kernel_rfl
theorem rwait_ev (a b c d e : Int) (K : AV → Prop) : (afn C2 100 18 [rv a b c d e] [] 0 (fun v _ _ => K v)) = (
      ifb (ckF a b c d e != 0) (K (AV.val (Value.int IntKind.i64 0))) (K (AV.val (Value.int IntKind.i64 (max 1000000 (min (IntKind.i64.wrap ((IntKind.i64.wrap (9 * grF a b c d e)).tdiv 8)) 9007199254740991)))))) := by
  kernel_rfl

end Go.Proofs.Ytmaddijeiniliaa.Ls
