/-
  LsB: Wait; Check and its reference, evaluated.
-/
import Derived.Test.YtmaddijeiniliaaLsA
namespace Go.Proofs.Ytmaddijeiniliaa.Ls
open Go Go.RowKit Go.Proofs.Ytmaddijeiniliaa.Sy Go.Proofs.Ytmaddijeiniliaa.Cm
set_option linter.unusedVariables false
set_option linter.unusedSimpArgs false
set_option maxRecDepth 100000
attribute [local irreducible] afn

def wtF (a b c d e : Int) : Int := if ckF a b c d e = 0 then max 1000000 (min (9 * max c a / 8) 9007199254740991) else 0
theorem wt_both (a b c d e : Int) : ifb (ckF a b c d e != 0) (AV.val (Value.int .i64 0) = iv (wtF a b c d e)) (AV.val (Value.int .i64 (max 1000000 (min (IntKind.i64.wrap ((IntKind.i64.wrap (9 * grF a b c d e)).tdiv 8)) 9007199254740991))) = iv (wtF a b c d e)) := by
  unfold wtF
  refine ifb_of (fun h => ?_) fun h => ?_
  · rw [if_neg (by simpa using h)]
  · have hc : ckF a b c d e = 0 := by simpa using h
    have hp : ckP a b c d e := by
      by_cases hp : ckP a b c d e
      · exact hp
      · rw [ckF_no hp] at hc; cases hc
    have hb := ck_bounds hp
    have e1 : grF a b c d e = max c a := by unfold grF; rw [if_pos hc]
    rw [if_pos hc, e1]
    generalize hX : max c a = X
    have h0 : 0 ≤ X ∧ X ≤ 9007199254740991 := by omega
    rw [wr (n := 9 * X) (by omega) (by omega), Int.tdiv_eq_ediv_of_nonneg (by omega), wr (by omega) (by omega)]
theorem wait_is (a b c d e : Int) : afn C2 100 17 [rv a b c d e] [] 0 (fun v _ _ => v = iv (wtF a b c d e)) := by
  rw [wait_ev a b c d e (fun v => v = iv (wtF a b c d e))]
  exact wt_both a b c d e
theorem rwait_is (a b c d e : Int) : afn C2 100 18 [rv a b c d e] [] 0 (fun v _ _ => v = iv (wtF a b c d e)) := by
  rw [rwait_ev a b c d e (fun v => v = iv (wtF a b c d e))]
  exact wt_both a b c d e
def gWt : List AV → Option AV
  | [.agg [.val (.int .i64 a), .val (.int .i64 b), .val (.int .i64 c), .val (.int .i64 d), .val (.int .i64 e)]] => some (iv (wtF a b c d e))
  | _ => none
theorem eWt : EntryOK Try.prog 17 (plain gWt) := entry_closed S2 (by kernel_rfl) fun args v h => by
  unfold gWt at h
  split at h
  · cases h; exact ⟨rfl, rfl, 100, wait_is _ _ _ _ _⟩
  · cases h
theorem eRWt : EntryOK Try.prog 18 (plain gWt) := entry_closed S2 (by kernel_rfl) fun args v h => by
  unfold gWt at h
  split at h
  · cases h; exact ⟨rfl, rfl, 100, rwait_is _ _ _ _ _⟩
  · cases h
noncomputable def T3 : List (Nat × Entry) := (17, plain gWt) :: (18, plain gWt) :: T2
theorem T3_ok : ∀ k e, (k, e) ∈ T3 → EntryOK Try.prog k e := entries_cons eWt (entries_cons eRWt T2_ok)

/-! packets -/
def pk (g : Nat → Nat → Int) (b : Nat → Nat → Bool) (i j : Nat) : Value := match j with
  | 0 => .int .i64 (g i 0)
  | 1 => .int .i64 (g i 1)
  | 2 => .int .i64 (g i 2)
  | 3 => .bool (b i 3)
  | 4 => .bool (b i 4)
  | _ => .bool (b i 5)
def lastF (g : Nat → Nat → Int) (n : Nat) : Int := match n with
  | 0 => -1
  | n + 1 => g n 0
structure N1 where
  n : Nat
def annI (len : Nat) (g : Nat → Nat → Int) : AnnM := ⟨N1, fun x => setN (setN (setN (setN (setN (List.replicate 19 .any) 0 (.view 0 6 0 len)) 1 (.fn (.func 30) [] [.ptr 17 0])) 6 (.view 0 6 0 len)) 7 (iv len)) 8 (iv x.n), fun x => [(17, some (.cells 3 [iv (lastF g x.n)]))], 1000, fun x => len - x.n, [], []⟩
def annC (len : Nat) : AnnM := ⟨N1, fun x => setN (setN (List.replicate 57 .any) 0 (.view 0 6 0 len)) 3 (iv x.n), fun x => [], 1000, fun x => len - x.n, [], []⟩
def inlC : List Nat := [30, 31, 42]
theorem inlC_ok : allN (entersB Try.prog) inlC = true := by kernel_rfl
noncomputable def CC (len : Nat) (g : Nat → Nat → Int) : Cfg := ⟨Try.prog, mkT T3, fun f => hasN inlC f, fun f r => match Nat.beq f 42, Nat.beq f 15 with
  | true, _ => some (annI len g)
  | _, true => some (annC len)
  | _, _ => none⟩
theorem SC (len : Nat) (g : Nat → Nat → Int) : Sound (CC len g) := ⟨tab_of T3_ok, fun f h => entersB_ok (allN_ok inlC_ok f h), mixed⟩
theorem chk_ev (len : Nat) (g : Nat → Nat → Int) (b : Nat → Nat → Bool) (K : AV → Prop) : (afn (CC len g) 100 14 [.view 0 6 0 len] [(0, some (.row 33 6 len (pk g b)))] 1 (fun v _ _ => K v)) = (
      ifb (decide (256 < (↑len : Int))) (K (AV.val (Value.int IntKind.i64 2))) (∃ (J : (annI len g).I → Prop), (∃ (i : (annI len g).I), J i ∧ ((some 0 = some 0 ∧ 6 = 6 ∧ 0 = 0 ∧ len = len) ∧ (Fn.func 30 = Fn.func 30 ∧ True ∧ (some 17 = some 17 ∧ 0 = 0) ∧ True) ∧ (some 0 = some 0 ∧ 6 = 6 ∧ 0 = 0 ∧ len = len) ∧ Value.int IntKind.i64 (↑len : Int) = Value.int IntKind.i64 (↑len : Int) ∧
  Value.int IntKind.i64 0 = Value.int IntKind.i64 (↑i.n : Int) ∧ True) ∧ ((3 = 3 ∧ Value.int IntKind.i64 (-1) = Value.int IntKind.i64 (lastF g i.n) ∧ True) ∧ (33 = 33 ∧ 6 = 6 ∧ len = len ∧ ∀ (i j : Nat), i.succ.le len → j.succ.le 6 → pk g b i j = pk g b i j) ∧ True) ∧ true = true) ∧ ∀ (i : N1), J i → ifb (decide ((↑i.n : Int) < (↑len : Int))) (ifb (decide (0 ≤ (↑i.n : Int) ∧
  (↑i.n : Int) < (↑len : Int))) (ifb (decide (0 + (↑i.n : Int).toNat < len)) (ifb (decide (g (0 + (↑i.n : Int).toNat) 0 ≤ lastF g i.n)) (K (AV.val (Value.int IntKind.i64 2))) (ifb (decide (9007199254740991 < g (0 + (↑i.n : Int).toNat) 0)) (K (AV.val (Value.int IntKind.i64 2))) (ifb (!isN (g (0 + (↑i.n : Int).toNat) 1)) (K (AV.val (Value.int IntKind.i64 2)))
  (ifb (decide (g (0 + (↑i.n : Int).toNat) 2 < 1)) (K (AV.val (Value.int IntKind.i64 2))) (ifb (decide (65535 < g (0 + (↑i.n : Int).toNat) 2)) (K (AV.val (Value.int IntKind.i64 2))) (∃ (i' : (annI len g).I), (J i' ∧ (len - i'.n).succ.le (len - i.n)) ∧ ((some 0 = some 0 ∧ 6 = 6 ∧ 0 = 0 ∧ len = len) ∧ (Fn.func 30 = Fn.func 30 ∧ True ∧ (some 17 = some 17 ∧ 0 = 0) ∧ True) ∧ (some 0 = some 0 ∧ 6 = 6 ∧
  0 = 0 ∧ len = len) ∧ Value.int IntKind.i64 (↑len : Int) = Value.int IntKind.i64 (↑len : Int) ∧ Value.int IntKind.i64 (IntKind.i64.wrap ((↑i.n : Int) + 1)) = Value.int IntKind.i64 (↑i'.n : Int) ∧ True) ∧ ((3 = 3 ∧ Value.int IntKind.i64 (g (0 + (↑i.n : Int).toNat) 0) = Value.int IntKind.i64 (lastF g i'.n) ∧ True) ∧ (33 = 33 ∧ 6 = 6 ∧ len = len ∧
  ∀ (i j : Nat), i.succ.le len → j.succ.le 6 → pk g b i j = pk g b i j) ∧ True) ∧ true = true)))))) False) False) (K (AV.val (Value.int IntKind.i64 0))))) := by
  kernel_rfl
theorem rchk_ev (len : Nat) (g : Nat → Nat → Int) (b : Nat → Nat → Bool) (K : AV → Prop) : (afn (CC len g) 100 15 [.view 0 6 0 len] [(0, some (.row 33 6 len (pk g b)))] 1 (fun v _ _ => K v)) = (
      ifb (decide (256 < (↑len : Int))) (K (AV.val (Value.int IntKind.i64 2))) (∃ (J : (annC len).I → Prop), (∃ (i : (annC len).I), J i ∧ ((some 0 = some 0 ∧ 6 = 6 ∧ 0 = 0 ∧ len = len) ∧ Value.int IntKind.i64 0 = Value.int IntKind.i64 (↑i.n : Int) ∧ True) ∧ ((33 = 33 ∧ 6 = 6 ∧ len = len ∧ ∀ (i j : Nat), i.succ.le len → j.succ.le 6 → pk g b i j = pk g b i j) ∧ True) ∧ true = true) ∧
  ∀ (i : N1), J i → ifb (decide ((↑i.n : Int) < (↑len : Int))) (ifb (decide (0 ≤ (↑i.n : Int) ∧ (↑i.n : Int) < (↑len : Int))) (ifb (decide (0 + (↑i.n : Int).toNat < len)) (ifb (decide (g (0 + (↑i.n : Int).toNat) 0 < 0)) (K (AV.val (Value.int IntKind.i64 2))) (ifb (decide (9007199254740991 < g (0 + (↑i.n : Int).toNat) 0)) (K (AV.val (Value.int IntKind.i64 2))) (ifb (decide (0 < (↑i.n : Int)))
  (ifb (decide (0 ≤ IntKind.i64.wrap ((↑i.n : Int) - 1) ∧ IntKind.i64.wrap ((↑i.n : Int) - 1) < (↑len : Int))) (ifb (decide (0 + (IntKind.i64.wrap ((↑i.n : Int) - 1)).toNat < len)) (ifb (decide (g (0 + (↑i.n : Int).toNat) 0 ≤ g (0 + (IntKind.i64.wrap ((↑i.n : Int) - 1)).toNat) 0)) (K (AV.val (Value.int IntKind.i64 2))) (ifb (!isN (g (0 + (↑i.n : Int).toNat) 1)) (K (AV.val (Value.int IntKind.i64 2)))
  (ifb (decide (g (0 + (↑i.n : Int).toNat) 2 < 1)) (K (AV.val (Value.int IntKind.i64 2))) (ifb (decide (65535 < g (0 + (↑i.n : Int).toNat) 2)) (K (AV.val (Value.int IntKind.i64 2))) (∃ (i' : (annC len).I), (J i' ∧ (len - i'.n).succ.le (len - i.n)) ∧ ((some 0 = some 0 ∧ 6 = 6 ∧ 0 = 0 ∧ len = len) ∧ Value.int IntKind.i64 (IntKind.i64.wrap ((↑i.n : Int) + 1)) = Value.int IntKind.i64 (↑i'.n : Int) ∧
  True) ∧ ((33 = 33 ∧ 6 = 6 ∧ len = len ∧ ∀ (i j : Nat), i.succ.le len → j.succ.le 6 → pk g b i j = pk g b i j) ∧ True) ∧ true = true))))) False) False) (ifb (!isN (g (0 + (↑i.n : Int).toNat) 1)) (K (AV.val (Value.int IntKind.i64 2))) (ifb (decide (g (0 + (↑i.n : Int).toNat) 2 < 1)) (K (AV.val (Value.int IntKind.i64 2))) (ifb (decide (65535 < g (0 + (↑i.n : Int).toNat) 2))
  (K (AV.val (Value.int IntKind.i64 2))) (∃ (i' : (annC len).I), (J i' ∧ (len - i'.n).succ.le (len - i.n)) ∧ ((some 0 = some 0 ∧ 6 = 6 ∧ 0 = 0 ∧ len = len) ∧ Value.int IntKind.i64 (IntKind.i64.wrap ((↑i.n : Int) + 1)) = Value.int IntKind.i64 (↑i'.n : Int) ∧ True) ∧ ((33 = 33 ∧ 6 = 6 ∧ len = len ∧ ∀ (i j : Nat), i.succ.le len → j.succ.le 6 → pk g b i j = pk g b i j) ∧ True) ∧
  true = true))))))) False) False) (K (AV.val (Value.int IntKind.i64 0))))) := by
  kernel_rfl

end Go.Proofs.Ytmaddijeiniliaa.Ls
