/-
  LsM: what Find tells, as functions of what was acknowledged and of the time; LossGrows, LossTimer, evaluated.
-/
import Derived.Test.YtmaddijeiniliaaLsL
namespace Go.Proofs.Ytmaddijeiniliaa.Ls
open Go Go.RowKit Go.Proofs.Ytmaddijeiniliaa.Sy Go.Proofs.Ytmaddijeiniliaa.Cm
set_option linter.unusedVariables false
set_option linter.unusedSimpArgs false
set_option maxRecDepth 100000
set_option maxHeartbeats 1000000
attribute [local irreducible] afn

structure Ls2 where
  N : Nat
  g : Nat → Nat → Int
  b : Nat → Nat → Bool
  r1 : Int
  r2 : Int
  r3 : Int
  r4 : Int
  fL : Int → Int → Nat
  fR : Int → Int → Nat
  g1 : Int → Int → Nat → Nat → Int
  b1 : Int → Int → Nat → Nat → Bool
  g2 : Int → Int → Nat → Nat → Int
  b2 : Int → Int → Nat → Nat → Bool
  fa : Int → Int → Int
noncomputable def gFindK (s : Ls2) (q : Nat → Nat → Value) (len : Nat) : List AV → Option (Bool × TypeId × Nat × (Nat × (Nat → Nat → Value)) × (Nat × (Nat → Nat → Value)) × List Value)
  | [.val (.int .i64 k), .val (.int .i64 n), .agg [.val (.int .i64 r1), .val (.int .i64 r2), .val (.int .i64 r3), .val (.int .i64 r4), .val (.int .i64 r5)]] =>
    some (fdOK (s.fL k n) (s.fR k n) (pk (s.g1 k n) (s.b1 k n)) (pk (s.g2 k n) (s.b2 k n)) (s.fa k n) 0 q len k n r1 r2 r3 r4 r5, 33, 6, (s.fL k n, pk (s.g1 k n) (s.b1 k n)), (s.fR k n, pk (s.g2 k n) (s.b2 k n)), [.int .i64 (s.fa k n), .int .i64 0])
  | _ => none
theorem mentry_subK {f : FuncId} (s : Ls2) (h : MEntryOK Try.prog f (rowM 6 gFind)) : MEntryOK Try.prog f (rowM 6 (gFindK s)) := by
  intro args fh ty esz N q N' q' vals hv
  refine h args fh ty esz N q N' q' vals ?_
  unfold rowM at hv
  split at hv
  · rename_i x rest
    split at hv
    · rename_i c p len hr
      split at hv
      · rename_i c' r hg
        simp only [rowM, hr]
        unfold gFindK at hg
        split at hg
        · simp only [Option.some.injEq, Prod.mk.injEq] at hg
          obtain ⟨hg1, hg2⟩ := hg
          simp only [Option.some.injEq, Prod.mk.injEq, Bool.and_eq_true] at hv
          obtain ⟨⟨hc, hc'⟩, hv2⟩ := hv
          rw [hc'] at hg1
          have hd := @of_decide_eq_true _ (Classical.propDecidable _) hg1
          rw [hd]
          obtain ⟨rfl, rfl, ⟨rfl, rfl⟩, ⟨rfl, rfl⟩, rfl⟩ := hv2
          obtain ⟨rfl, rfl, ⟨rfl, rfl⟩, ⟨rfl, rfl⟩, rfl⟩ := hg2
          rw [hc]
          rfl
        · cases hg
      · cases hv
    · cases hv
  · cases hv
noncomputable def MK (s : Ls2) : List (Nat × MEntry) := [(11, rowM 6 (gFindK s))]
theorem MK_ok (s : Ls2) : ∀ k x, (k, x) ∈ MK s → MEntryOK Try.prog k x := mentries_cons (mentry_subK s eFind) mentries_nil

structure N2 where
  i : Nat
  k : Nat
def annW (L1 L2 : Nat) (u1 u2 : Nat → Nat → Int) (c1 c2 : Nat → Nat → Bool) (mu : N2 → Nat) : AnnM := ⟨N2, fun x => setN (setN (setN (setN (List.replicate 97 .any) 11 (.own 900011 L1)) 15 (.own 900015 L2)) 19 (iv x.k)) 20 (iv x.i),
  fun x => [(900011, some (.orow 33 6 L1 (pk u1 c1))), (900015, some (.orow 33 6 L2 (pk u2 c2)))], 1000000, mu,
  [(11, 900011), (15, 900015)], [(11, 900011), (15, 900015)]⟩
noncomputable def CGw (s : Ls2) (L1 L2 : Nat) (u1 u2 : Nat → Nat → Int) (c1 c2 : Nat → Nat → Bool) : Cfg := ⟨Try.prog, mkM (T7 s.r1 s.r2 s.r3 s.r4) (O7 s.N s.g s.b) (MK s), fun f => false, fun f r => match Nat.beq f 6, Nat.beq r 9, Nat.beq r 11 with
  | true, true, _ => some (annW L1 L2 u1 u2 c1 c2 fun x => L1 - x.i)
  | true, _, true => some (annW L1 L2 u1 u2 c1 c2 fun x => L2 - x.k)
  | _, _, _ => none⟩
theorem SGw (s : Ls2) (L1 L2 : Nat) (u1 u2 : Nat → Nat → Int) (c1 c2 : Nat → Nat → Bool) : Sound (CGw s L1 L2 u1 u2 c1 c2) := ⟨tabM_of (T7_ok _ _ _ _) (O7_ok _ _ _) (MK_ok _), fun f h => (by cases h), mixed⟩
theorem grows_ev (s : Ls2) (L1 L2 : Nat) (u1 u2 : Nat → Nat → Int) (c1 c2 : Nat → Nat → Bool) (h : Nat → Nat → Int) (len : Nat) (x0 x1 x2 x3 m0 m1 : Int) (K : AV → Prop) : (afn (CGw s L1 L2 u1 u2 c1 c2) 100 6 [.view 0 3 0 len, .agg [iv x0, iv x1, iv x2, iv x3], .agg [iv m0, iv m1]] [(0, some (.row 61 3 len fun i j => .int .i64 (h i j)))] 1 (fun v _ _ => K v)) = (
      ifb (decide (0 + len ≤ len) && pkOK s.N s.g s.b (fun (i j : Nat) => Value.int IntKind.i64 (h (0 + i) j)) len) (ifb (meaOK s.r1 s.r2 s.r3 s.r4 m0 m1)
  (ifb (decide (s.N ≤ s.N) && fdOK (s.fL (IntKind.i64.wrap (brF x0 260 - 1)) (brF x1 2251799813685248)) (s.fR (IntKind.i64.wrap (brF x0 260 - 1)) (brF x1 2251799813685248)) (pk (s.g1 (IntKind.i64.wrap (brF x0 260 - 1)) (brF x1 2251799813685248)) (s.b1 (IntKind.i64.wrap (brF x0 260 - 1)) (brF x1 2251799813685248))) (pk (s.g2 (IntKind.i64.wrap (brF x0 260 - 1)) (brF x1 2251799813685248)) (s.b2 (IntKind.i64.wrap (brF x0 260 - 1)) (brF x1 2251799813685248))) (s.fa (IntKind.i64.wrap (brF x0 260 - 1)) (brF x1 2251799813685248)) 0 (pk s.g s.b) s.N (IntKind.i64.wrap (brF x0 260 - 1)) (brF x1 2251799813685248) s.r1 s.r2 s.r3 s.r4 0)
  (ifb (decide (s.N ≤ s.N) && fdOK (s.fL (IntKind.i64.wrap (IntKind.i64.wrap (brF x0 260 - 1) + brF x2 20)) (IntKind.i64.wrap (brF x1 2251799813685248 + brF x3 2251799813685248))) (s.fR (IntKind.i64.wrap (IntKind.i64.wrap (brF x0 260 - 1) + brF x2 20)) (IntKind.i64.wrap (brF x1 2251799813685248 + brF x3 2251799813685248))) (pk (s.g1 (IntKind.i64.wrap (IntKind.i64.wrap (brF x0 260 - 1) + brF x2 20)) (IntKind.i64.wrap (brF x1 2251799813685248 + brF x3 2251799813685248))) (s.b1 (IntKind.i64.wrap (IntKind.i64.wrap (brF x0 260 - 1) + brF x2 20)) (IntKind.i64.wrap (brF x1 2251799813685248 + brF x3 2251799813685248)))) (pk (s.g2 (IntKind.i64.wrap (IntKind.i64.wrap (brF x0 260 - 1) + brF x2 20)) (IntKind.i64.wrap (brF x1 2251799813685248 + brF x3 2251799813685248))) (s.b2 (IntKind.i64.wrap (IntKind.i64.wrap (brF x0 260 - 1) + brF x2 20)) (IntKind.i64.wrap (brF x1 2251799813685248 + brF x3 2251799813685248)))) (s.fa (IntKind.i64.wrap (IntKind.i64.wrap (brF x0 260 - 1) + brF x2 20)) (IntKind.i64.wrap (brF x1 2251799813685248 + brF x3 2251799813685248))) 0 (pk s.g s.b) s.N (IntKind.i64.wrap (IntKind.i64.wrap (brF x0 260 - 1) + brF x2 20)) (IntKind.i64.wrap (brF x1 2251799813685248 + brF x3 2251799813685248)) s.r1 s.r2 s.r3 s.r4 0) (∃ (J : (annW L1 L2 u1 u2 c1 c2 fun (x : N2) => L1 - x.i).I → Prop), (∃ (i : (annW L1 L2 u1 u2 c1 c2 fun (x : N2) => L1 - x.i).I), J i ∧
  ((some 417 = some 417 ∧ s.fL (IntKind.i64.wrap (brF x0 260 - 1)) (brF x1 2251799813685248) = L1) ∧ (some 769 = some 769 ∧ s.fL (IntKind.i64.wrap (IntKind.i64.wrap (brF x0 260 - 1) + brF x2 20)) (IntKind.i64.wrap (brF x1 2251799813685248 + brF x3 2251799813685248)) = L2) ∧ Value.int IntKind.i64 0 = Value.int IntKind.i64 (↑i.k : Int) ∧ Value.int IntKind.i64 0 = Value.int IntKind.i64 (↑i.i : Int) ∧
  True) ∧ ((33 = 33 ∧ 6 = 6 ∧ s.fL (IntKind.i64.wrap (brF x0 260 - 1)) (brF x1 2251799813685248) = L1 ∧ ∀ (i j : Nat), i.succ.le L1 → j.succ.le 6 → pk (s.g1 (IntKind.i64.wrap (brF x0 260 - 1)) (brF x1 2251799813685248)) (s.b1 (IntKind.i64.wrap (brF x0 260 - 1)) (brF x1 2251799813685248)) i j = pk u1 c1 i j) ∧ (33 = 33 ∧ 6 = 6 ∧
  s.fL (IntKind.i64.wrap (IntKind.i64.wrap (brF x0 260 - 1) + brF x2 20)) (IntKind.i64.wrap (brF x1 2251799813685248 + brF x3 2251799813685248)) = L2 ∧
  ∀ (i j : Nat), i.succ.le L2 → j.succ.le 6 → pk (s.g1 (IntKind.i64.wrap (IntKind.i64.wrap (brF x0 260 - 1) + brF x2 20)) (IntKind.i64.wrap (brF x1 2251799813685248 + brF x3 2251799813685248))) (s.b1 (IntKind.i64.wrap (IntKind.i64.wrap (brF x0 260 - 1) + brF x2 20)) (IntKind.i64.wrap (brF x1 2251799813685248 + brF x3 2251799813685248))) i j = pk u2 c2 i j) ∧ (61 = 61 ∧ 3 = 3 ∧ len = len ∧
  ∀ (i j : Nat), i.succ.le len → j.succ.le 3 → Value.int IntKind.i64 (h i j) = Value.int IntKind.i64 (h i j)) ∧ True) ∧ true = true) ∧ ∀ (i : N2), J i → ifb (decide ((↑i.i : Int) < (↑L1 : Int))) (∃ (J_1 : (annW L1 L2 u1 u2 c1 c2 fun (x : N2) => L2 - x.k).I → Prop), (∃ (i_1 : (annW L1 L2 u1 u2 c1 c2 fun (x : N2) => L2 - x.k).I), J_1 i_1 ∧ ((some 900011 = some 900011 ∧ L1 = L1) ∧
  (some 900015 = some 900015 ∧ L2 = L2) ∧ Value.int IntKind.i64 (↑i.k : Int) = Value.int IntKind.i64 (↑i_1.k : Int) ∧ Value.int IntKind.i64 (↑i.i : Int) = Value.int IntKind.i64 (↑i_1.i : Int) ∧ True) ∧ ((33 = 33 ∧ 6 = 6 ∧ L1 = L1 ∧ ∀ (i j : Nat), i.succ.le L1 → j.succ.le 6 → pk u1 c1 i j = pk u1 c1 i j) ∧ (33 = 33 ∧ 6 = 6 ∧ L2 = L2 ∧
  ∀ (i j : Nat), i.succ.le L2 → j.succ.le 6 → pk u2 c2 i j = pk u2 c2 i j) ∧ (61 = 61 ∧ 3 = 3 ∧ len = len ∧ ∀ (i j : Nat), i.succ.le len → j.succ.le 3 → Value.int IntKind.i64 (h i j) = Value.int IntKind.i64 (h i j)) ∧ True) ∧ true = true) ∧ ∀ (i_1 : N2), J_1 i_1 → ifb (decide ((↑i_1.k : Int) < (↑L2 : Int))) (ifb (decide (0 ≤ (↑i_1.k : Int) ∧ (↑i_1.k : Int) < (↑L2 : Int)))
  (ifb (decide ((↑i_1.k : Int).toNat < L2)) (ifb (decide (0 ≤ (↑i_1.i : Int) ∧ (↑i_1.i : Int) < (↑L1 : Int))) (ifb (decide ((↑i_1.i : Int).toNat < L1))
  (ifb (!(u2 (↑i_1.k : Int).toNat 0 == u1 (↑i_1.i : Int).toNat 0 && (u2 (↑i_1.k : Int).toNat 1 == u1 (↑i_1.i : Int).toNat 1 && (u2 (↑i_1.k : Int).toNat 2 == u1 (↑i_1.i : Int).toNat 2 && (c2 (↑i_1.k : Int).toNat 3 == c1 (↑i_1.i : Int).toNat 3 && (c2 (↑i_1.k : Int).toNat 4 == c1 (↑i_1.i : Int).toNat 4 && (c2 (↑i_1.k : Int).toNat 5 == c1 (↑i_1.i : Int).toNat 5 && true))))))) (∃ (i' : (annW L1 L2 u1 u2 c1 c2 fun (x : N2) => L2 - x.k).I), (J_1 i' ∧
  (L2 - i'.k).succ.le (L2 - i_1.k)) ∧ ((some 900011 = some 900011 ∧ L1 = L1) ∧ (some 900015 = some 900015 ∧ L2 = L2) ∧ Value.int IntKind.i64 (IntKind.i64.wrap ((↑i_1.k : Int) + 1)) = Value.int IntKind.i64 (↑i'.k : Int) ∧ Value.int IntKind.i64 (↑i_1.i : Int) = Value.int IntKind.i64 (↑i'.i : Int) ∧ True) ∧ ((33 = 33 ∧ 6 = 6 ∧ L1 = L1 ∧
  ∀ (i j : Nat), i.succ.le L1 → j.succ.le 6 → pk u1 c1 i j = pk u1 c1 i j) ∧ (33 = 33 ∧ 6 = 6 ∧ L2 = L2 ∧ ∀ (i j : Nat), i.succ.le L2 → j.succ.le 6 → pk u2 c2 i j = pk u2 c2 i j) ∧ (61 = 61 ∧ 3 = 3 ∧ len = len ∧ ∀ (i j : Nat), i.succ.le len → j.succ.le 3 → Value.int IntKind.i64 (h i j) = Value.int IntKind.i64 (h i j)) ∧ True) ∧ true = true) (ifb ((↑i_1.k : Int) == (↑L2 : Int))
  (K (AV.val (Value.bool false))) (∃ (i' : (annW L1 L2 u1 u2 c1 c2 fun (x : N2) => L1 - x.i).I), (J i' ∧ (L1 - i'.i).succ.le (L1 - i.i)) ∧ ((some 900011 = some 900011 ∧ L1 = L1) ∧ (some 900015 = some 900015 ∧ L2 = L2) ∧ Value.int IntKind.i64 (↑i_1.k : Int) = Value.int IntKind.i64 (↑i'.k : Int) ∧ Value.int IntKind.i64 (IntKind.i64.wrap ((↑i_1.i : Int) + 1)) = Value.int IntKind.i64 (↑i'.i : Int) ∧
  True) ∧ ((33 = 33 ∧ 6 = 6 ∧ L1 = L1 ∧ ∀ (i j : Nat), i.succ.le L1 → j.succ.le 6 → pk u1 c1 i j = pk u1 c1 i j) ∧ (33 = 33 ∧ 6 = 6 ∧ L2 = L2 ∧ ∀ (i j : Nat), i.succ.le L2 → j.succ.le 6 → pk u2 c2 i j = pk u2 c2 i j) ∧ (61 = 61 ∧ 3 = 3 ∧ len = len ∧ ∀ (i j : Nat), i.succ.le len → j.succ.le 3 → Value.int IntKind.i64 (h i j) = Value.int IntKind.i64 (h i j)) ∧ True) ∧
  true = true))) False) False) False) False) (ifb ((↑i_1.k : Int) == (↑L2 : Int)) (K (AV.val (Value.bool false))) (∃ (i' : (annW L1 L2 u1 u2 c1 c2 fun (x : N2) => L1 - x.i).I), (J i' ∧ (L1 - i'.i).succ.le (L1 - i.i)) ∧ ((some 900011 = some 900011 ∧ L1 = L1) ∧ (some 900015 = some 900015 ∧ L2 = L2) ∧ Value.int IntKind.i64 (↑i_1.k : Int) = Value.int IntKind.i64 (↑i'.k : Int) ∧
  Value.int IntKind.i64 (IntKind.i64.wrap ((↑i_1.i : Int) + 1)) = Value.int IntKind.i64 (↑i'.i : Int) ∧ True) ∧ ((33 = 33 ∧ 6 = 6 ∧ L1 = L1 ∧ ∀ (i j : Nat), i.succ.le L1 → j.succ.le 6 → pk u1 c1 i j = pk u1 c1 i j) ∧ (33 = 33 ∧ 6 = 6 ∧ L2 = L2 ∧ ∀ (i j : Nat), i.succ.le L2 → j.succ.le 6 → pk u2 c2 i j = pk u2 c2 i j) ∧ (61 = 61 ∧ 3 = 3 ∧ len = len ∧
  ∀ (i j : Nat), i.succ.le len → j.succ.le 3 → Value.int IntKind.i64 (h i j) = Value.int IntKind.i64 (h i j)) ∧ True) ∧ true = true))) (K (AV.val (Value.bool true)))) False) False) False) False) := by
  kernel_rfl
noncomputable def CR (s : Ls2) : Cfg := ⟨Try.prog, mkM (T7 s.r1 s.r2 s.r3 s.r4) (O7 s.N s.g s.b) (MK s), fun f => false, fun f r => none⟩
theorem SR (s : Ls2) : Sound (CR s) := ⟨tabM_of (T7_ok _ _ _ _) (O7_ok _ _ _) (MK_ok _), fun f h => (by cases h), mixed⟩
theorem timer_ev (s : Ls2) (h : Nat → Nat → Int) (len : Nat) (x0 x1 x2 m0 m1 : Int) (K : AV → Prop) : (afn (CR s) 100 7 [.view 0 3 0 len, .agg [iv x0, iv x1, iv x2], .agg [iv m0, iv m1]] [(0, some (.row 61 3 len fun i j => .int .i64 (h i j)))] 1 (fun v _ _ => K v)) = (
      ifb (decide (0 + len ≤ len) && pkOK s.N s.g s.b (fun (i j : Nat) => Value.int IntKind.i64 (h (0 + i) j)) len) (ifb (meaOK s.r1 s.r2 s.r3 s.r4 m0 m1)
  (ifb (decide (s.N ≤ s.N) && fdOK (s.fL (IntKind.i64.wrap (brF x0 260 - 1)) (brF x1 2251799813685248)) (s.fR (IntKind.i64.wrap (brF x0 260 - 1)) (brF x1 2251799813685248)) (pk (s.g1 (IntKind.i64.wrap (brF x0 260 - 1)) (brF x1 2251799813685248)) (s.b1 (IntKind.i64.wrap (brF x0 260 - 1)) (brF x1 2251799813685248))) (pk (s.g2 (IntKind.i64.wrap (brF x0 260 - 1)) (brF x1 2251799813685248)) (s.b2 (IntKind.i64.wrap (brF x0 260 - 1)) (brF x1 2251799813685248))) (s.fa (IntKind.i64.wrap (brF x0 260 - 1)) (brF x1 2251799813685248)) 0 (pk s.g s.b) s.N (IntKind.i64.wrap (brF x0 260 - 1)) (brF x1 2251799813685248) s.r1 s.r2 s.r3 s.r4 0)
  (ifb (s.fa (IntKind.i64.wrap (brF x0 260 - 1)) (brF x1 2251799813685248) == -1) (ifb ((↑(s.fR (IntKind.i64.wrap (brF x0 260 - 1)) (brF x1 2251799813685248)) : Int) == 0) (K (AV.val (Value.bool true))) (ifb (decide ((0 : Int) ≤ 0 ∧ 0 < (↑(s.fR (IntKind.i64.wrap (brF x0 260 - 1)) (brF x1 2251799813685248)) : Int)))
  (ifb (decide (0 < s.fR (IntKind.i64.wrap (brF x0 260 - 1)) (brF x1 2251799813685248))) (ifb (decide (IntKind.i64.wrap (brF x0 260 - 1) < s.g2 (IntKind.i64.wrap (brF x0 260 - 1)) (brF x1 2251799813685248) 0 0)) (K (AV.val (Value.bool true))) (K (AV.val (Value.bool false)))) False) False)) (ifb (decide (s.fa (IntKind.i64.wrap (brF x0 260 - 1)) (brF x1 2251799813685248) ≤ brF x1 2251799813685248))
  (K (AV.val (Value.bool false))) (ifb (decide (9007199254740991 < s.fa (IntKind.i64.wrap (brF x0 260 - 1)) (brF x1 2251799813685248))) (K (AV.val (Value.bool false)))
  (ifb (decide (0 < IntKind.i64.wrap (s.fa (IntKind.i64.wrap (brF x0 260 - 1)) (brF x1 2251799813685248) - brF x1 2251799813685248)) && decide (IntKind.i64.wrap (s.fa (IntKind.i64.wrap (brF x0 260 - 1)) (brF x1 2251799813685248) - brF x1 2251799813685248) ≤ 9223372036854775807))
  (ifb (decide (s.N ≤ s.N) && fdOK (s.fL (IntKind.i64.wrap (brF x0 260 - 1)) (IntKind.i64.wrap (brF x1 2251799813685248 + brF x2 (IntKind.i64.wrap (s.fa (IntKind.i64.wrap (brF x0 260 - 1)) (brF x1 2251799813685248) - brF x1 2251799813685248))))) (s.fR (IntKind.i64.wrap (brF x0 260 - 1)) (IntKind.i64.wrap (brF x1 2251799813685248 + brF x2 (IntKind.i64.wrap (s.fa (IntKind.i64.wrap (brF x0 260 - 1)) (brF x1 2251799813685248) - brF x1 2251799813685248))))) (pk (s.g1 (IntKind.i64.wrap (brF x0 260 - 1)) (IntKind.i64.wrap (brF x1 2251799813685248 + brF x2 (IntKind.i64.wrap (s.fa (IntKind.i64.wrap (brF x0 260 - 1)) (brF x1 2251799813685248) - brF x1 2251799813685248))))) (s.b1 (IntKind.i64.wrap (brF x0 260 - 1)) (IntKind.i64.wrap (brF x1 2251799813685248 + brF x2 (IntKind.i64.wrap (s.fa (IntKind.i64.wrap (brF x0 260 - 1)) (brF x1 2251799813685248) - brF x1 2251799813685248)))))) (pk (s.g2 (IntKind.i64.wrap (brF x0 260 - 1)) (IntKind.i64.wrap (brF x1 2251799813685248 + brF x2 (IntKind.i64.wrap (s.fa (IntKind.i64.wrap (brF x0 260 - 1)) (brF x1 2251799813685248) - brF x1 2251799813685248))))) (s.b2 (IntKind.i64.wrap (brF x0 260 - 1)) (IntKind.i64.wrap (brF x1 2251799813685248 + brF x2 (IntKind.i64.wrap (s.fa (IntKind.i64.wrap (brF x0 260 - 1)) (brF x1 2251799813685248) - brF x1 2251799813685248)))))) (s.fa (IntKind.i64.wrap (brF x0 260 - 1)) (IntKind.i64.wrap (brF x1 2251799813685248 + brF x2 (IntKind.i64.wrap (s.fa (IntKind.i64.wrap (brF x0 260 - 1)) (brF x1 2251799813685248) - brF x1 2251799813685248))))) 0 (pk s.g s.b) s.N (IntKind.i64.wrap (brF x0 260 - 1)) (IntKind.i64.wrap (brF x1 2251799813685248 + brF x2 (IntKind.i64.wrap (s.fa (IntKind.i64.wrap (brF x0 260 - 1)) (brF x1 2251799813685248) - brF x1 2251799813685248)))) s.r1 s.r2 s.r3 s.r4 0)
  (ifb (decide (s.N ≤ s.N) && fdOK (s.fL (IntKind.i64.wrap (brF x0 260 - 1)) (s.fa (IntKind.i64.wrap (brF x0 260 - 1)) (brF x1 2251799813685248))) (s.fR (IntKind.i64.wrap (brF x0 260 - 1)) (s.fa (IntKind.i64.wrap (brF x0 260 - 1)) (brF x1 2251799813685248))) (pk (s.g1 (IntKind.i64.wrap (brF x0 260 - 1)) (s.fa (IntKind.i64.wrap (brF x0 260 - 1)) (brF x1 2251799813685248))) (s.b1 (IntKind.i64.wrap (brF x0 260 - 1)) (s.fa (IntKind.i64.wrap (brF x0 260 - 1)) (brF x1 2251799813685248)))) (pk (s.g2 (IntKind.i64.wrap (brF x0 260 - 1)) (s.fa (IntKind.i64.wrap (brF x0 260 - 1)) (brF x1 2251799813685248))) (s.b2 (IntKind.i64.wrap (brF x0 260 - 1)) (s.fa (IntKind.i64.wrap (brF x0 260 - 1)) (brF x1 2251799813685248)))) (s.fa (IntKind.i64.wrap (brF x0 260 - 1)) (s.fa (IntKind.i64.wrap (brF x0 260 - 1)) (brF x1 2251799813685248))) 0 (pk s.g s.b) s.N (IntKind.i64.wrap (brF x0 260 - 1)) (s.fa (IntKind.i64.wrap (brF x0 260 - 1)) (brF x1 2251799813685248)) s.r1 s.r2 s.r3 s.r4 0)
  (ifb (decide (s.fL (IntKind.i64.wrap (brF x0 260 - 1)) (IntKind.i64.wrap (brF x1 2251799813685248 + brF x2 (IntKind.i64.wrap (s.fa (IntKind.i64.wrap (brF x0 260 - 1)) (brF x1 2251799813685248) - brF x1 2251799813685248)))) ≤ s.fL (IntKind.i64.wrap (brF x0 260 - 1)) (IntKind.i64.wrap (brF x1 2251799813685248 + brF x2 (IntKind.i64.wrap (s.fa (IntKind.i64.wrap (brF x0 260 - 1)) (brF x1 2251799813685248) - brF x1 2251799813685248))))) && (decide (s.fL (IntKind.i64.wrap (brF x0 260 - 1)) (brF x1 2251799813685248) ≤ s.fL (IntKind.i64.wrap (brF x0 260 - 1)) (brF x1 2251799813685248)) && (isPk (s.fL (IntKind.i64.wrap (brF x0 260 - 1)) (IntKind.i64.wrap (brF x1 2251799813685248 + brF x2 (IntKind.i64.wrap (s.fa (IntKind.i64.wrap (brF x0 260 - 1)) (brF x1 2251799813685248) - brF x1 2251799813685248))))) (pk (s.g1 (IntKind.i64.wrap (brF x0 260 - 1)) (IntKind.i64.wrap (brF x1 2251799813685248 + brF x2 (IntKind.i64.wrap (s.fa (IntKind.i64.wrap (brF x0 260 - 1)) (brF x1 2251799813685248) - brF x1 2251799813685248))))) (s.b1 (IntKind.i64.wrap (brF x0 260 - 1)) (IntKind.i64.wrap (brF x1 2251799813685248 + brF x2 (IntKind.i64.wrap (s.fa (IntKind.i64.wrap (brF x0 260 - 1)) (brF x1 2251799813685248) - brF x1 2251799813685248)))))) && (isPk (s.fL (IntKind.i64.wrap (brF x0 260 - 1)) (brF x1 2251799813685248)) (pk (s.g1 (IntKind.i64.wrap (brF x0 260 - 1)) (brF x1 2251799813685248)) (s.b1 (IntKind.i64.wrap (brF x0 260 - 1)) (brF x1 2251799813685248))) && decide (s.fL (IntKind.i64.wrap (brF x0 260 - 1)) (IntKind.i64.wrap (brF x1 2251799813685248 + brF x2 (IntKind.i64.wrap (s.fa (IntKind.i64.wrap (brF x0 260 - 1)) (brF x1 2251799813685248) - brF x1 2251799813685248)))) ≤ 1000000)))))
  (ifb (samF (pk (asG (pk (s.g1 (IntKind.i64.wrap (brF x0 260 - 1)) (IntKind.i64.wrap (brF x1 2251799813685248 + brF x2 (IntKind.i64.wrap (s.fa (IntKind.i64.wrap (brF x0 260 - 1)) (brF x1 2251799813685248) - brF x1 2251799813685248))))) (s.b1 (IntKind.i64.wrap (brF x0 260 - 1)) (IntKind.i64.wrap (brF x1 2251799813685248 + brF x2 (IntKind.i64.wrap (s.fa (IntKind.i64.wrap (brF x0 260 - 1)) (brF x1 2251799813685248) - brF x1 2251799813685248))))))) (asB (pk (s.g1 (IntKind.i64.wrap (brF x0 260 - 1)) (IntKind.i64.wrap (brF x1 2251799813685248 + brF x2 (IntKind.i64.wrap (s.fa (IntKind.i64.wrap (brF x0 260 - 1)) (brF x1 2251799813685248) - brF x1 2251799813685248))))) (s.b1 (IntKind.i64.wrap (brF x0 260 - 1)) (IntKind.i64.wrap (brF x1 2251799813685248 + brF x2 (IntKind.i64.wrap (s.fa (IntKind.i64.wrap (brF x0 260 - 1)) (brF x1 2251799813685248) - brF x1 2251799813685248)))))))) (pk (asG (pk (s.g1 (IntKind.i64.wrap (brF x0 260 - 1)) (brF x1 2251799813685248)) (s.b1 (IntKind.i64.wrap (brF x0 260 - 1)) (brF x1 2251799813685248)))) (asB (pk (s.g1 (IntKind.i64.wrap (brF x0 260 - 1)) (brF x1 2251799813685248)) (s.b1 (IntKind.i64.wrap (brF x0 260 - 1)) (brF x1 2251799813685248))))) (s.fL (IntKind.i64.wrap (brF x0 260 - 1)) (IntKind.i64.wrap (brF x1 2251799813685248 + brF x2 (IntKind.i64.wrap (s.fa (IntKind.i64.wrap (brF x0 260 - 1)) (brF x1 2251799813685248) - brF x1 2251799813685248))))) (s.fL (IntKind.i64.wrap (brF x0 260 - 1)) (brF x1 2251799813685248)))
  (ifb (s.fa (IntKind.i64.wrap (brF x0 260 - 1)) (IntKind.i64.wrap (brF x1 2251799813685248 + brF x2 (IntKind.i64.wrap (s.fa (IntKind.i64.wrap (brF x0 260 - 1)) (brF x1 2251799813685248) - brF x1 2251799813685248)))) == s.fa (IntKind.i64.wrap (brF x0 260 - 1)) (brF x1 2251799813685248))
  (ifb (decide ((↑(s.fL (IntKind.i64.wrap (brF x0 260 - 1)) (brF x1 2251799813685248)) : Int) < (↑(s.fL (IntKind.i64.wrap (brF x0 260 - 1)) (s.fa (IntKind.i64.wrap (brF x0 260 - 1)) (brF x1 2251799813685248))) : Int))) (ifb (s.fa (IntKind.i64.wrap (brF x0 260 - 1)) (s.fa (IntKind.i64.wrap (brF x0 260 - 1)) (brF x1 2251799813685248)) == -1) (K (AV.val (Value.bool true)))
  (ifb (decide (s.fa (IntKind.i64.wrap (brF x0 260 - 1)) (brF x1 2251799813685248) < s.fa (IntKind.i64.wrap (brF x0 260 - 1)) (s.fa (IntKind.i64.wrap (brF x0 260 - 1)) (brF x1 2251799813685248)))) (K (AV.val (Value.bool true))) (K (AV.val (Value.bool false))))) (K (AV.val (Value.bool false)))) (K (AV.val (Value.bool false)))) (K (AV.val (Value.bool false)))) False) False) False) False)))) False) False) False) := by
  kernel_rfl

end Go.Proofs.Ytmaddijeiniliaa.Ls
