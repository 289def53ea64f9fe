/-
  RtD: runs of samples; RttRuns, RttHeld, RttSteady: what is reached.
-/
import Derived.Test.YtglbkijmmckkpaaRtC
namespace Go.Proofs.Ytglbkijmmckkpaa.Rt
open Go Go.RowKit Go.Proofs.Ytglbkijmmckkpaa.Sy Go.Proofs.Ytglbkijmmckkpaa.Cm
set_option linter.unusedVariables false
set_option linter.unusedSimpArgs false

structure S where
  i : Int
  m : M
  e : Int
def rowI (g : Nat → Nat → Int) (i j : Nat) : Value := .int .i64 (g i j)
def keep (l : List Nat) (id : Nat) : Option Nat := match hasN l id with
  | true => some id
  | false => none
abbrev any5 : List AV := [.any, .any, .any, .any, .any]
abbrev cells (m : M) : List AV := [iv m.a, iv m.b, iv m.c, iv m.d, iv m.e]

/-! run -/
def annRun (g : Nat → Nat → Int) (len : Nat) : AnnE := ⟨S, fun x => ⟨setN (setN (setN (setN (setN (setN (List.replicate 44 .any) 0 (.view 0 3 0 len)) 2 (.ptr 1 0)) 3 (bv false)) 4 (.ptr 97 0)) 5 (iv x.e)) 6 (iv x.i), [(0, some (.row 32 3 len fun i j => .int .i64 (g i j))), (1, some (.cells 27 any5)), (97, some (.cells 27 (cells x.m)))], 1000, 1⟩, fun x => (len - x.i).toNat, keep [0, 1, 97], keep [0, 1, 97]⟩
noncomputable def CR (g : Nat → Nat → Int) (len : Nat) : Cfg := ⟨Try.prog, mkT T3, fun f => hasN inl0 f, fun f r => match Nat.beq f 19 && Nat.beq r 3 with | true => some (annRun g len) | false => none⟩
theorem run_ev (g : Nat → Nat → Int) (len : Nat) (K : AV → Prop) : (afn (CR g len) 100 19 [.view 0 3 0 len] [(0, some (.row 32 3 len fun i j => .int .i64 (g i j)))] 1 (fun v _ _ => K v)) = (
      ∃ (J : (annRun g len).I → Prop), (∃ (i : (annRun g len).I), J i ∧ ((some 0 = some 0 ∧ 3 = 3 ∧ 0 = 0 ∧ len = len) ∧ (some 1 = some 1 ∧ 0 = 0) ∧ Value.bool false = Value.bool false ∧ (some 97 = some 97 ∧ 0 = 0) ∧ Value.int IntKind.i64 0 = Value.int IntKind.i64 i.e ∧ Value.int IntKind.i64 0 = Value.int IntKind.i64 i.i ∧ True) ∧ ((32 = 32 ∧ 3 = 3 ∧ len = len ∧
  ∀ (i j : Nat), i.succ.le len → j.succ.le 3 → Value.int IntKind.i64 (g i j) = Value.int IntKind.i64 (g i j)) ∧ (27 = 27 ∧ True) ∧ (27 = 27 ∧ Value.int IntKind.i64 0 = Value.int IntKind.i64 i.m.a ∧ Value.int IntKind.i64 0 = Value.int IntKind.i64 i.m.b ∧ Value.int IntKind.i64 1000000 = Value.int IntKind.i64 i.m.c ∧ Value.int IntKind.i64 500000 = Value.int IntKind.i64 i.m.d ∧
  Value.int IntKind.i64 (-1) = Value.int IntKind.i64 i.m.e ∧ True) ∧ True) ∧ Side (annRun g len).s0 1 1 1000) ∧ ∀ (i : S), J i → ifb (decide (i.i < (↑len : Int))) (ifb (i.e == 0) (ifb (decide (0 ≤ i.i ∧ i.i < (↑len : Int))) (ifb (decide (0 + i.i.toNat < len)) (ifb (decide (0 ≤ i.i ∧ i.i < (↑len : Int))) (ifb (decide (0 + i.i.toNat < len)) (ifb (decide (0 ≤ i.i ∧ i.i < (↑len : Int)))
  (ifb (decide (0 + i.i.toNat < len)) (∃ (i' : (annRun g len).I), (J i' ∧ ((↑len : Int) - i'.i).toNat.succ.le ((↑len : Int) - i.i).toNat) ∧ ((some 0 = some 0 ∧ 3 = 3 ∧ 0 = 0 ∧ len = len) ∧ (some 1 = some 1 ∧ 0 = 0) ∧ Value.bool false = Value.bool false ∧ (some 97 = some 97 ∧ 0 = 0) ∧
  Value.int IntKind.i64 (sampE i.m.a i.m.b i.m.c i.m.d i.m.e (g (0 + i.i.toNat) 0) (g (0 + i.i.toNat) 1) (g (0 + i.i.toNat) 2)) = Value.int IntKind.i64 i'.e ∧ Value.int IntKind.i64 (IntKind.i64.wrap (i.i + 1)) = Value.int IntKind.i64 i'.i ∧ True) ∧ ((32 = 32 ∧ 3 = 3 ∧ len = len ∧ ∀ (i j : Nat), i.succ.le len → j.succ.le 3 → Value.int IntKind.i64 (g i j) = Value.int IntKind.i64 (g i j)) ∧ (27 = 27 ∧
  True) ∧ (27 = 27 ∧ Value.int IntKind.i64 (sampM i.m.a i.m.b i.m.c i.m.d i.m.e (g (0 + i.i.toNat) 0) (g (0 + i.i.toNat) 1) (g (0 + i.i.toNat) 2)).a = Value.int IntKind.i64 i'.m.a ∧ Value.int IntKind.i64 (sampM i.m.a i.m.b i.m.c i.m.d i.m.e (g (0 + i.i.toNat) 0) (g (0 + i.i.toNat) 1) (g (0 + i.i.toNat) 2)).b = Value.int IntKind.i64 i'.m.b ∧
  Value.int IntKind.i64 (sampM i.m.a i.m.b i.m.c i.m.d i.m.e (g (0 + i.i.toNat) 0) (g (0 + i.i.toNat) 1) (g (0 + i.i.toNat) 2)).c = Value.int IntKind.i64 i'.m.c ∧ Value.int IntKind.i64 (sampM i.m.a i.m.b i.m.c i.m.d i.m.e (g (0 + i.i.toNat) 0) (g (0 + i.i.toNat) 1) (g (0 + i.i.toNat) 2)).d = Value.int IntKind.i64 i'.m.d ∧
  Value.int IntKind.i64 (sampM i.m.a i.m.b i.m.c i.m.d i.m.e (g (0 + i.i.toNat) 0) (g (0 + i.i.toNat) 1) (g (0 + i.i.toNat) 2)).e = Value.int IntKind.i64 i'.m.e ∧ True) ∧ True) ∧ Side (annRun g len).s1 1 1 1000) False) False) False) False) False) False)
  (K (AV.tup [AV.agg [AV.val (Value.int IntKind.i64 i.m.a), AV.val (Value.int IntKind.i64 i.m.b), AV.val (Value.int IntKind.i64 i.m.c), AV.val (Value.int IntKind.i64 i.m.d), AV.val (Value.int IntKind.i64 i.m.e)], AV.val (Value.bool (i.e == 0))]))) (K (AV.tup [AV.agg [AV.val (Value.int IntKind.i64 i.m.a), AV.val (Value.int IntKind.i64 i.m.b), AV.val (Value.int IntKind.i64 i.m.c), AV.val (Value.int IntKind.i64 i.m.d), AV.val (Value.int IntKind.i64 i.m.e)], AV.val (Value.bool (i.e == 0))]))) := by
  kernel_rfl

/-! RttRuns -/
def annRuns (a : Int) (g : Nat → Nat → Int) (len : Nat) : AnnE := ⟨S, fun x => ⟨setN (setN (setN (setN (setN (setN (List.replicate 99 .any) 1 (.view 0 3 0 len)) 4 (bv false)) 5 (.ptr 97 0)) 7 (.ptr 225 0)) 8 (iv x.e)) 9 (iv x.i), [(0, some (.row 32 3 len fun i j => .int .i64 (g i j))), (97, some (.cells 27 (cells x.m))), (225, some (.cells 27 (cells x.m)))], 1000, 1⟩, fun x => (60 - x.i).toNat, keep [0, 97, 225], keep [0, 97, 225]⟩
noncomputable def CS (a : Int) (g : Nat → Nat → Int) (len : Nat) : Cfg := ⟨Try.prog, mkT T3, fun f => hasN inl0 f, fun f r => match Nat.beq f 4 && Nat.beq r 6 with | true => some (annRuns a g len) | false => none⟩
theorem runs_ev (a : Int) (g : Nat → Nat → Int) (len : Nat) (K : AV → Prop) : (afn (CS a g len) 100 4 [iv a, .view 0 3 0 len] [(0, some (.row 32 3 len fun i j => .int .i64 (g i j)))] 1 (fun v _ _ => K v)) = (
      ifb (!((newM a).a == (newM a).a && ((newM a).b == (newM a).b && ((newM a).c == (newM a).c && ((newM a).d == (newM a).d && ((newM a).e == (newM a).e && true)))))) (K (AV.val (Value.bool false))) (ifb (newE a != newE a) (K (AV.val (Value.bool false))) (∃ (J : (annRuns a g len).I → Prop), (∃ (i : (annRuns a g len).I), J i ∧ ((some 0 = some 0 ∧ 3 = 3 ∧ 0 = 0 ∧ len = len) ∧
  Value.bool false = Value.bool false ∧ (some 97 = some 97 ∧ 0 = 0) ∧ (some 225 = some 225 ∧ 0 = 0) ∧ Value.int IntKind.i64 (newE a) = Value.int IntKind.i64 i.e ∧ Value.int IntKind.i64 0 = Value.int IntKind.i64 i.i ∧ True) ∧ ((32 = 32 ∧ 3 = 3 ∧ len = len ∧ ∀ (i j : Nat), i.succ.le len → j.succ.le 3 → Value.int IntKind.i64 (g i j) = Value.int IntKind.i64 (g i j)) ∧ (27 = 27 ∧
  Value.int IntKind.i64 (newM a).a = Value.int IntKind.i64 i.m.a ∧ Value.int IntKind.i64 (newM a).b = Value.int IntKind.i64 i.m.b ∧ Value.int IntKind.i64 (newM a).c = Value.int IntKind.i64 i.m.c ∧ Value.int IntKind.i64 (newM a).d = Value.int IntKind.i64 i.m.d ∧ Value.int IntKind.i64 (newM a).e = Value.int IntKind.i64 i.m.e ∧ True) ∧ (27 = 27 ∧
  Value.int IntKind.i64 (newM a).a = Value.int IntKind.i64 i.m.a ∧ Value.int IntKind.i64 (newM a).b = Value.int IntKind.i64 i.m.b ∧ Value.int IntKind.i64 (newM a).c = Value.int IntKind.i64 i.m.c ∧ Value.int IntKind.i64 (newM a).d = Value.int IntKind.i64 i.m.d ∧ Value.int IntKind.i64 (newM a).e = Value.int IntKind.i64 i.m.e ∧ True) ∧ True) ∧ Side (annRuns a g len).s0 1 1 1000) ∧
  ∀ (i : S), J i → ifb (decide (i.i < (↑len : Int))) (ifb (decide (i.i < 60)) (ifb (i.e == 0) (ifb (decide (0 ≤ i.i ∧ i.i < (↑len : Int))) (ifb (decide (0 + i.i.toNat < len)) (ifb (decide (0 ≤ i.i ∧ i.i < (↑len : Int))) (ifb (decide (0 + i.i.toNat < len)) (ifb (decide (0 ≤ i.i ∧ i.i < (↑len : Int))) (ifb (decide (0 + i.i.toNat < len)) (ifb (decide (0 ≤ i.i ∧ i.i < (↑len : Int)))
  (ifb (decide (0 + i.i.toNat < len)) (ifb (decide (0 ≤ i.i ∧ i.i < (↑len : Int))) (ifb (decide (0 + i.i.toNat < len)) (ifb (decide (0 ≤ i.i ∧ i.i < (↑len : Int))) (ifb (decide (0 + i.i.toNat < len))
  (ifb (!((sampM i.m.a i.m.b i.m.c i.m.d i.m.e (g (0 + i.i.toNat) 0) (g (0 + i.i.toNat) 1) (g (0 + i.i.toNat) 2)).a == (sampM i.m.a i.m.b i.m.c i.m.d i.m.e (g (0 + i.i.toNat) 0) (g (0 + i.i.toNat) 1) (g (0 + i.i.toNat) 2)).a && ((sampM i.m.a i.m.b i.m.c i.m.d i.m.e (g (0 + i.i.toNat) 0) (g (0 + i.i.toNat) 1) (g (0 + i.i.toNat) 2)).b == (sampM i.m.a i.m.b i.m.c i.m.d i.m.e (g (0 + i.i.toNat) 0) (g (0 + i.i.toNat) 1) (g (0 + i.i.toNat) 2)).b && ((sampM i.m.a i.m.b i.m.c i.m.d i.m.e (g (0 + i.i.toNat) 0) (g (0 + i.i.toNat) 1) (g (0 + i.i.toNat) 2)).c == (sampM i.m.a i.m.b i.m.c i.m.d i.m.e (g (0 + i.i.toNat) 0) (g (0 + i.i.toNat) 1) (g (0 + i.i.toNat) 2)).c && ((sampM i.m.a i.m.b i.m.c i.m.d i.m.e (g (0 + i.i.toNat) 0) (g (0 + i.i.toNat) 1) (g (0 + i.i.toNat) 2)).d == (sampM i.m.a i.m.b i.m.c i.m.d i.m.e (g (0 + i.i.toNat) 0) (g (0 + i.i.toNat) 1) (g (0 + i.i.toNat) 2)).d && ((sampM i.m.a i.m.b i.m.c i.m.d i.m.e (g (0 + i.i.toNat) 0) (g (0 + i.i.toNat) 1) (g (0 + i.i.toNat) 2)).e == (sampM i.m.a i.m.b i.m.c i.m.d i.m.e (g (0 + i.i.toNat) 0) (g (0 + i.i.toNat) 1) (g (0 + i.i.toNat) 2)).e && true))))))
  (K (AV.val (Value.bool false))) (ifb (sampE i.m.a i.m.b i.m.c i.m.d i.m.e (g (0 + i.i.toNat) 0) (g (0 + i.i.toNat) 1) (g (0 + i.i.toNat) 2) != sampE i.m.a i.m.b i.m.c i.m.d i.m.e (g (0 + i.i.toNat) 0) (g (0 + i.i.toNat) 1) (g (0 + i.i.toNat) 2)) (K (AV.val (Value.bool false)))
  (ifb (sampE i.m.a i.m.b i.m.c i.m.d i.m.e (g (0 + i.i.toNat) 0) (g (0 + i.i.toNat) 1) (g (0 + i.i.toNat) 2) == 0) (∃ (i' : (annRuns a g len).I), (J i' ∧ (60 - i'.i).toNat.succ.le (60 - i.i).toNat) ∧ ((some 0 = some 0 ∧ 3 = 3 ∧ 0 = 0 ∧ len = len) ∧ Value.bool false = Value.bool false ∧ (some 97 = some 97 ∧ 0 = 0) ∧ (some 225 = some 225 ∧ 0 = 0) ∧
  Value.int IntKind.i64 i.e = Value.int IntKind.i64 i'.e ∧ Value.int IntKind.i64 (IntKind.i64.wrap (i.i + 1)) = Value.int IntKind.i64 i'.i ∧ True) ∧ ((32 = 32 ∧ 3 = 3 ∧ len = len ∧ ∀ (i j : Nat), i.succ.le len → j.succ.le 3 → Value.int IntKind.i64 (g i j) = Value.int IntKind.i64 (g i j)) ∧ (27 = 27 ∧
  Value.int IntKind.i64 (sampM i.m.a i.m.b i.m.c i.m.d i.m.e (g (0 + i.i.toNat) 0) (g (0 + i.i.toNat) 1) (g (0 + i.i.toNat) 2)).a = Value.int IntKind.i64 i'.m.a ∧ Value.int IntKind.i64 (sampM i.m.a i.m.b i.m.c i.m.d i.m.e (g (0 + i.i.toNat) 0) (g (0 + i.i.toNat) 1) (g (0 + i.i.toNat) 2)).b = Value.int IntKind.i64 i'.m.b ∧
  Value.int IntKind.i64 (sampM i.m.a i.m.b i.m.c i.m.d i.m.e (g (0 + i.i.toNat) 0) (g (0 + i.i.toNat) 1) (g (0 + i.i.toNat) 2)).c = Value.int IntKind.i64 i'.m.c ∧ Value.int IntKind.i64 (sampM i.m.a i.m.b i.m.c i.m.d i.m.e (g (0 + i.i.toNat) 0) (g (0 + i.i.toNat) 1) (g (0 + i.i.toNat) 2)).d = Value.int IntKind.i64 i'.m.d ∧
  Value.int IntKind.i64 (sampM i.m.a i.m.b i.m.c i.m.d i.m.e (g (0 + i.i.toNat) 0) (g (0 + i.i.toNat) 1) (g (0 + i.i.toNat) 2)).e = Value.int IntKind.i64 i'.m.e ∧ True) ∧ (27 = 27 ∧ Value.int IntKind.i64 (sampM i.m.a i.m.b i.m.c i.m.d i.m.e (g (0 + i.i.toNat) 0) (g (0 + i.i.toNat) 1) (g (0 + i.i.toNat) 2)).a = Value.int IntKind.i64 i'.m.a ∧
  Value.int IntKind.i64 (sampM i.m.a i.m.b i.m.c i.m.d i.m.e (g (0 + i.i.toNat) 0) (g (0 + i.i.toNat) 1) (g (0 + i.i.toNat) 2)).b = Value.int IntKind.i64 i'.m.b ∧ Value.int IntKind.i64 (sampM i.m.a i.m.b i.m.c i.m.d i.m.e (g (0 + i.i.toNat) 0) (g (0 + i.i.toNat) 1) (g (0 + i.i.toNat) 2)).c = Value.int IntKind.i64 i'.m.c ∧
  Value.int IntKind.i64 (sampM i.m.a i.m.b i.m.c i.m.d i.m.e (g (0 + i.i.toNat) 0) (g (0 + i.i.toNat) 1) (g (0 + i.i.toNat) 2)).d = Value.int IntKind.i64 i'.m.d ∧ Value.int IntKind.i64 (sampM i.m.a i.m.b i.m.c i.m.d i.m.e (g (0 + i.i.toNat) 0) (g (0 + i.i.toNat) 1) (g (0 + i.i.toNat) 2)).e = Value.int IntKind.i64 i'.m.e ∧ True) ∧ True) ∧
  Side (annRuns a g len).s1 1 1 1000) (∃ (i' : (annRuns a g len).I), (J i' ∧ (60 - i'.i).toNat.succ.le (60 - i.i).toNat) ∧ ((some 0 = some 0 ∧ 3 = 3 ∧ 0 = 0 ∧ len = len) ∧ Value.bool false = Value.bool false ∧ (some 97 = some 97 ∧ 0 = 0) ∧ (some 225 = some 225 ∧ 0 = 0) ∧ Value.int IntKind.i64 i.e = Value.int IntKind.i64 i'.e ∧
  Value.int IntKind.i64 (IntKind.i64.wrap (i.i + 1)) = Value.int IntKind.i64 i'.i ∧ True) ∧ ((32 = 32 ∧ 3 = 3 ∧ len = len ∧ ∀ (i j : Nat), i.succ.le len → j.succ.le 3 → Value.int IntKind.i64 (g i j) = Value.int IntKind.i64 (g i j)) ∧ (27 = 27 ∧ Value.int IntKind.i64 i.m.a = Value.int IntKind.i64 i'.m.a ∧ Value.int IntKind.i64 i.m.b = Value.int IntKind.i64 i'.m.b ∧
  Value.int IntKind.i64 i.m.c = Value.int IntKind.i64 i'.m.c ∧ Value.int IntKind.i64 i.m.d = Value.int IntKind.i64 i'.m.d ∧ Value.int IntKind.i64 i.m.e = Value.int IntKind.i64 i'.m.e ∧ True) ∧ (27 = 27 ∧ Value.int IntKind.i64 i.m.a = Value.int IntKind.i64 i'.m.a ∧ Value.int IntKind.i64 i.m.b = Value.int IntKind.i64 i'.m.b ∧ Value.int IntKind.i64 i.m.c = Value.int IntKind.i64 i'.m.c ∧
  Value.int IntKind.i64 i.m.d = Value.int IntKind.i64 i'.m.d ∧ Value.int IntKind.i64 i.m.e = Value.int IntKind.i64 i'.m.e ∧ True) ∧ True) ∧ Side (annRuns a g len).s1 1 1 1000)))) False) False) False) False) False) False) False) False) False) False) False) False) (K (AV.val (Value.bool true)))) (K (AV.val (Value.bool true)))) (K (AV.val (Value.bool true)))))) := by
  kernel_rfl

/-! with run -/
def runS (g : Nat → Nat → Int) : Nat → M × Int
  | 0 => (newM 1000000, newE 1000000)
  | i + 1 => match decide ((runS g i).2 = 0) with
    | true => (sampM (runS g i).1.a (runS g i).1.b (runS g i).1.c (runS g i).1.d (runS g i).1.e (g i 0) (g i 1) (g i 2), sampE (runS g i).1.a (runS g i).1.b (runS g i).1.c (runS g i).1.d (runS g i).1.e (g i 0) (g i 1) (g i 2))
    | false => runS g i
def asN (q : Nat → Nat → Value) (i j : Nat) : Int := asI (q i j)
noncomputable def isNs (len w : Nat) (q : Nat → Nat → Value) : Bool := @decide (∀ i j, i < len → j < w → q i j = .int .i64 (asN q i j)) (Classical.propDecidable _)
noncomputable def gRun (q : Nat → Nat → Value) (len : Nat) : List AV → Option (Bool × AV)
  | [] => some (isNs len 3 q && decide (len ≤ 1000000), .tup [mv (runS (asN q) len).1, bv ((runS (asN q) len).2 == 0)])
  | _ => none
noncomputable def T5 : List (Nat × Entry) := (19, rowEntry 3 gRun) :: (rowsId, rowsE) :: T3
noncomputable def C5 : Cfg := ⟨Try.prog, mkT T5, fun f => hasN inl0 f, fun _ _ => none⟩
theorem held_law_ev (a b x : Int) (K : AV → Prop) : (afn C5 100 7 [iv a, iv b, iv x] [] 0 (fun v _ _ => K v)) = (
      ifb ((isNs 2 3 fun (i j : Nat) => Value.int IntKind.i64 ([brF a 9007199254740992, brF x 9007199254740992, 0, brF b 9007199254740992, brF x 9007199254740992, 1][i * 3 + j]?.getD 0)) && true && true) (ifb (decide (min (brF a 9007199254740992) (brF b 9007199254740992) ≤ IntKind.i64.wrap (brF b 9007199254740992 - brF x 9007199254740992)))
  (ifb ((runS (asN fun (i j : Nat) => Value.int IntKind.i64 ([brF a 9007199254740992, brF x 9007199254740992, 0, brF b 9007199254740992, brF x 9007199254740992, 1][i * 3 + j]?.getD 0)) 2).snd == 0)
  (ifb ((runS (asN fun (i j : Nat) => Value.int IntKind.i64 ([brF a 9007199254740992, brF x 9007199254740992, 0, brF b 9007199254740992, brF x 9007199254740992, 1][i * 3 + j]?.getD 0)) 2).fst.c == IntKind.i64.wrap ((IntKind.i64.wrap (IntKind.i64.wrap (7 * brF a 9007199254740992) + IntKind.i64.wrap (brF b 9007199254740992 - brF x 9007199254740992))).tdiv 8))
  (ifb ((runS (asN fun (i j : Nat) => Value.int IntKind.i64 ([brF a 9007199254740992, brF x 9007199254740992, 0, brF b 9007199254740992, brF x 9007199254740992, 1][i * 3 + j]?.getD 0)) 2).fst.d == IntKind.i64.wrap ((IntKind.i64.wrap (IntKind.i64.wrap (3 * IntKind.i64.wrap ((brF a 9007199254740992).tdiv 2)) + max (IntKind.i64.wrap (brF a 9007199254740992 - IntKind.i64.wrap (brF b 9007199254740992 - brF x 9007199254740992))) (IntKind.i64.wrap (IntKind.i64.wrap (brF b 9007199254740992 - brF x 9007199254740992) - brF a 9007199254740992)))).tdiv 4))
  (K (AV.val (Value.bool true))) (K (AV.val (Value.bool false)))) (K (AV.val (Value.bool false)))) (K (AV.val (Value.bool false)))) (ifb ((runS (asN fun (i j : Nat) => Value.int IntKind.i64 ([brF a 9007199254740992, brF x 9007199254740992, 0, brF b 9007199254740992, brF x 9007199254740992, 1][i * 3 + j]?.getD 0)) 2).snd == 0)
  (ifb ((runS (asN fun (i j : Nat) => Value.int IntKind.i64 ([brF a 9007199254740992, brF x 9007199254740992, 0, brF b 9007199254740992, brF x 9007199254740992, 1][i * 3 + j]?.getD 0)) 2).fst.c == IntKind.i64.wrap ((IntKind.i64.wrap (IntKind.i64.wrap (7 * brF a 9007199254740992) + brF b 9007199254740992)).tdiv 8))
  (ifb ((runS (asN fun (i j : Nat) => Value.int IntKind.i64 ([brF a 9007199254740992, brF x 9007199254740992, 0, brF b 9007199254740992, brF x 9007199254740992, 1][i * 3 + j]?.getD 0)) 2).fst.d == IntKind.i64.wrap ((IntKind.i64.wrap (IntKind.i64.wrap (3 * IntKind.i64.wrap ((brF a 9007199254740992).tdiv 2)) + max (IntKind.i64.wrap (brF a 9007199254740992 - brF b 9007199254740992)) (IntKind.i64.wrap (brF b 9007199254740992 - brF a 9007199254740992)))).tdiv 4))
  (K (AV.val (Value.bool true))) (K (AV.val (Value.bool false)))) (K (AV.val (Value.bool false)))) (K (AV.val (Value.bool false))))) False) := by
  kernel_rfl
structure U where
  i : Int
  t : Int
  w : Int
  y : Int
def annSt (n : Int) : AnnE := ⟨U, fun x => ⟨setN (setN (setN (setN (setN (setN (setN (List.replicate 63 .any) 0 (iv x.t)) 1 (iv n)) 4 (bv false)) 5 (.ptr 176 0)) 6 (bv true)) 7 (iv x.w)) 8 (iv x.i), [(176, some (.cells 27 [iv x.t, iv x.t, iv x.t, iv x.w, iv 3]))], 1000, 0⟩, fun x => (100 - x.i).toNat, keep [176], keep [176]⟩
noncomputable def CT (n : Int) : Cfg := ⟨Try.prog, mkT T5, fun f => hasN inl0 f, fun f r => match Nat.beq f 5 && Nat.beq r 5 with | true => some (annSt n) | false => none⟩
theorem steady_ev (a n : Int) (K : AV → Prop) : (afn (CT n) 100 5 [iv a, iv n] [] 0 (fun v _ _ => K v)) = (
      ifb ((isNs 1 3 fun (i j : Nat) => Value.int IntKind.i64 ([brF a 9007199254740992, 0, 3][i * 3 + j]?.getD 0)) && true && true) (∃ (J : (annSt n).I → Prop), (∃ (i : (annSt n).I), J i ∧ (Value.int IntKind.i64 (brF a 9007199254740992) = Value.int IntKind.i64 i.t ∧ Value.int IntKind.i64 n = Value.int IntKind.i64 n ∧ Value.bool false = Value.bool false ∧ (some 176 = some 176 ∧ 0 = 0) ∧
  Value.bool ((runS (asN fun (i j : Nat) => Value.int IntKind.i64 ([brF a 9007199254740992, 0, 3][i * 3 + j]?.getD 0)) 1).snd == 0) = Value.bool true ∧ Value.int IntKind.i64 (IntKind.i64.wrap ((brF a 9007199254740992).tdiv 2)) = Value.int IntKind.i64 i.w ∧ Value.int IntKind.i64 0 = Value.int IntKind.i64 i.i ∧ True) ∧ ((27 = 27 ∧
  Value.int IntKind.i64 (runS (asN fun (i j : Nat) => Value.int IntKind.i64 ([brF a 9007199254740992, 0, 3][i * 3 + j]?.getD 0)) 1).fst.a = Value.int IntKind.i64 i.t ∧ Value.int IntKind.i64 (runS (asN fun (i j : Nat) => Value.int IntKind.i64 ([brF a 9007199254740992, 0, 3][i * 3 + j]?.getD 0)) 1).fst.b = Value.int IntKind.i64 i.t ∧
  Value.int IntKind.i64 (runS (asN fun (i j : Nat) => Value.int IntKind.i64 ([brF a 9007199254740992, 0, 3][i * 3 + j]?.getD 0)) 1).fst.c = Value.int IntKind.i64 i.t ∧ Value.int IntKind.i64 (runS (asN fun (i j : Nat) => Value.int IntKind.i64 ([brF a 9007199254740992, 0, 3][i * 3 + j]?.getD 0)) 1).fst.d = Value.int IntKind.i64 i.w ∧
  Value.int IntKind.i64 (runS (asN fun (i j : Nat) => Value.int IntKind.i64 ([brF a 9007199254740992, 0, 3][i * 3 + j]?.getD 0)) 1).fst.e = Value.int IntKind.i64 3 ∧ True) ∧ True) ∧ Side (annSt n).s0 0 0 1000) ∧ ∀ (i : U), J i → ifb (decide (i.i < IntKind.i64.wrap (1 + brF n 90))) (ifb (i.t != i.t) (K (AV.val (Value.bool false))) (ifb (i.t != i.t) (K (AV.val (Value.bool false))) (ifb (i.w != i.w)
  (K (AV.val (Value.bool false))) (∃ (i' : (annSt n).I), (J i' ∧ (100 - i'.i).toNat.succ.le (100 - i.i).toNat) ∧ (Value.int IntKind.i64 i.t = Value.int IntKind.i64 i'.t ∧ Value.int IntKind.i64 n = Value.int IntKind.i64 n ∧ Value.bool false = Value.bool false ∧ (some 176 = some 176 ∧ 0 = 0) ∧ Value.bool (sampE i.t i.t i.t i.w 3 i.t 0 i.i == 0) = Value.bool true ∧
  Value.int IntKind.i64 (IntKind.i64.wrap ((IntKind.i64.wrap (i.w * 3)).tdiv 4)) = Value.int IntKind.i64 i'.w ∧ Value.int IntKind.i64 (IntKind.i64.wrap (i.i + 1)) = Value.int IntKind.i64 i'.i ∧ True) ∧ ((27 = 27 ∧ Value.int IntKind.i64 (sampM i.t i.t i.t i.w 3 i.t 0 i.i).a = Value.int IntKind.i64 i'.t ∧ Value.int IntKind.i64 (sampM i.t i.t i.t i.w 3 i.t 0 i.i).b = Value.int IntKind.i64 i'.t ∧
  Value.int IntKind.i64 (sampM i.t i.t i.t i.w 3 i.t 0 i.i).c = Value.int IntKind.i64 i'.t ∧ Value.int IntKind.i64 (sampM i.t i.t i.t i.w 3 i.t 0 i.i).d = Value.int IntKind.i64 i'.w ∧ Value.int IntKind.i64 (sampM i.t i.t i.t i.w 3 i.t 0 i.i).e = Value.int IntKind.i64 3 ∧ True) ∧ True) ∧ Side (annSt n).s1 0 0 1000)))) (K (AV.val (Value.bool true)))) False) := by
  kernel_rfl

end Go.Proofs.Ytglbkijmmckkpaa.Rt
