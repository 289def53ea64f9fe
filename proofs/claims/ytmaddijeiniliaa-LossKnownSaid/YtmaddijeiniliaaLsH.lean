/-
  LsH: works as an entry; LossWaits; LossTells, evaluated.
-/
import Derived.Test.YtmaddijeiniliaaLsG
namespace Go.Proofs.Ytmaddijeiniliaa.Ls
open Go Go.RowKit Go.Proofs.Ytmaddijeiniliaa.Sy Go.Proofs.Ytmaddijeiniliaa.Cm
set_option linter.unusedVariables false
set_option linter.unusedSimpArgs false
set_option maxRecDepth 100000
set_option maxHeartbeats 1000000
attribute [local irreducible] afn

theorem works_is : ∃ C, Sound C ∧ C.P = Try.prog ∧ ∃ n, afn C n 16 [] [] 0 (fun v _ _ => v = bv true) := ⟨CW, SW, rfl, 100, by
  rw [works_ev (fun v => v = bv true)]
  refine ifb_pos ?_ (ifb_pos ?_ rfl)
  · refine isPk_yes fun i j hi hj => ?_
    match i, hi, j, hj with
    | 0, _, 0, _ => rfl
    | 0, _, 1, _ => rfl
    | 0, _, 2, _ => rfl
    | 0, _, 3, _ => rfl
    | 0, _, 4, _ => rfl
    | 0, _, 5, _ => rfl
    | 1, _, 0, _ => rfl
    | 1, _, 1, _ => rfl
    | 1, _, 2, _ => rfl
    | 1, _, 3, _ => rfl
    | 1, _, 4, _ => rfl
    | 1, _, 5, _ => rfl
  · have h : ∀ g : Nat → Nat → Int, g 0 0 = 2 → g 1 0 = 1 → feF g 2 5 0 8000000 1 800 0 0 = 2 := fun g h0 h1 => by
      have hn : ¬ okL g 2 := fun h => by
        have := (h.2 1 (by omega)).1
        simp only [lastF, h0, h1] at this
        omega
      unfold feF
      rw [chF_no hn, if_pos (by decide)]
    rw [h _ rfl rfl]
    rfl⟩
def gWorks : List AV → Option AV
  | [] => some (bv true)
  | _ => none
theorem eWorks : EntryOK Try.prog 16 (plain gWorks) := entry_of (by kernel_rfl) fun args v h => by
  unfold gWorks at h
  split at h
  · cases h; exact ⟨rfl, rfl, works_is⟩
  · cases h
noncomputable def T6 : List (Nat × Entry) := (16, plain gWorks) :: (23, plain gSteady) :: (13, row2 6 6 gSame) :: (22, row2 6 6 gSame) :: T4
theorem T6_ok : ∀ k e, (k, e) ∈ T6 → EntryOK Try.prog k e := entries_cons eWorks (entries_cons eSteady (entries_cons eSame (entries_cons eLSame T4_ok)))
noncomputable def C6 : Cfg := ⟨Try.prog, mkM T6 [] M4, fun _ => false, fun _ _ => none⟩
theorem S6 : Sound C6 := ⟨tabM_of T6_ok oentries_nil M4_ok, fun f h => (by cases h), mixed⟩
theorem waits_ev (a b c d e : Int) (K : AV → Prop) : (afn C6 100 4 [rv a b c d e] [] 0 (fun v _ _ => K v)) = (
      ifb (wtF a b c d e == wtF a b c d e) (K (AV.val (Value.bool true))) (K (AV.val (Value.bool false)))) := by
  kernel_rfl

/-! what Find tells, told ahead -/
noncomputable def fdOK (L R : Nat) (q1 q2 : Nat → Nat → Value) (a e : Int) (q : Nat → Nat → Value) (len : Nat) (k n r1 r2 r3 r4 r5 : Int) : Bool :=
  @decide (gFind q len [iv k, iv n, rv r1 r2 r3 r4 r5] = some (true, 33, 6, (L, q1), (R, q2), [.int .i64 a, .int .i64 e])) (Classical.propDecidable _)
noncomputable def gFindS (L R : Nat) (q1 q2 : Nat → Nat → Value) (a e : Int) (q : Nat → Nat → Value) (len : Nat) : List AV → Option (Bool × TypeId × Nat × (Nat × (Nat → Nat → Value)) × (Nat × (Nat → Nat → Value)) × List Value)
  | [.val (.int .i64 k), .val (.int .i64 n), .agg [.val (.int .i64 r1), .val (.int .i64 r2), .val (.int .i64 r3), .val (.int .i64 r4), .val (.int .i64 r5)]] =>
    some (fdOK L R q1 q2 a e q len k n r1 r2 r3 r4 r5, 33, 6, (L, q1), (R, q2), [.int .i64 a, .int .i64 e])
  | _ => none
theorem mentry_sub {f : FuncId} {L R : Nat} {q1 q2 : Nat → Nat → Value} {a e : Int} (h : MEntryOK Try.prog f (rowM 6 gFind)) : MEntryOK Try.prog f (rowM 6 (gFindS L R q1 q2 a e)) := by
  intro args fh ty esz N q N' q' vals hv
  refine h args fh ty esz N q N' q' vals ?_
  unfold rowM at hv
  split at hv
  · rename_i x rest
    split at hv
    · rename_i c p len hr
      split at hv
      · rename_i c' r hg
        simp only [rowM, hr]
        unfold gFindS at hg
        split at hg
        · simp only [Option.some.injEq, Prod.mk.injEq] at hg
          obtain ⟨hg1, hg2⟩ := hg
          simp only [Option.some.injEq, Prod.mk.injEq, Bool.and_eq_true] at hv
          obtain ⟨⟨hc, hc'⟩, hv2⟩ := hv
          rw [hc'] at hg1
          have hd := @of_decide_eq_true _ (Classical.propDecidable _) hg1
          rw [hd]
          obtain ⟨rfl, rfl, ⟨rfl, rfl⟩, ⟨rfl, rfl⟩, rfl⟩ := hv2
          obtain ⟨rfl, rfl, ⟨rfl, rfl⟩, ⟨rfl, rfl⟩, rfl⟩ := hg2
          rw [hc]
          rfl
        · cases hg
      · cases hv
    · cases hv
  · cases hv
noncomputable def MS (L R : Nat) (q1 q2 : Nat → Nat → Value) (a e : Int) : List (Nat × MEntry) := [(11, rowM 6 (gFindS L R q1 q2 a e)), (12, rowM 6 (gFindS L R q1 q2 a e))]
theorem MS_ok (L R : Nat) (q1 q2 : Nat → Nat → Value) (a e : Int) : ∀ k x, (k, x) ∈ MS L R q1 q2 a e → MEntryOK Try.prog k x := mentries_cons (mentry_sub eFind) (mentries_cons (mentry_sub eRFind) mentries_nil)

/-! LossTells -/
def wrQ (q : Nat → Nat → Value) (n : Nat) (a b : Nat) : Value := if a < n ∧ b = 0 then .int .i64 (-1) else q a b
def tmT (N : Nat) (R : Nat) : List AV := setN (setN (setN (List.replicate 99 .any) 0 (.own 900000 N)) 7 (.own 900007 N)) 9 (.own 900009 R)
def hpT (N R : Nat) (q q2 : Nat → Nat → Value) : Hp := [(900000, some (.orow 33 6 N q)), (900007, some (.orow 33 6 N q)), (900009, some (.orow 33 6 R q2))]
def annT8 (N L R : Nat) (q q1 q2 : Nat → Nat → Value) : AnnM := ⟨N1, fun x => setN (setN (tmT N R) 8 (.own 900008 L)) 16 (iv x.n), fun x => (900008, some (.orow 33 6 L (wrQ q1 x.n))) :: hpT N R q q2, 1000000, fun x => L - x.n,
  [(0, 900000), (7, 900007), (8, 900008), (9, 900009)], [(0, 900000), (7, 900007), (8, 900008), (9, 900009)]⟩
def annT12 (N L R : Nat) (q q1 q2 : Nat → Nat → Value) : AnnM := ⟨N1, fun x => setN (tmT N R) 17 (iv x.n), fun x => hpT N R q (wrQ q2 x.n), 1000000, fun x => R - x.n,
  [(0, 900000), (7, 900007), (9, 900009)], [(0, 900000), (7, 900007), (9, 900009)]⟩
def inlT : List Nat := [10]
theorem inlT_ok : allN (entersB Try.prog) inlT = true := by kernel_rfl
noncomputable def CT (N L R : Nat) (q q1 q2 : Nat → Nat → Value) (a e : Int) : Cfg := ⟨Try.prog, mkM T6 [] (MS L R q1 q2 a e), fun f => hasN inlT f, fun f r => match Nat.beq f 3, Nat.beq r 8, Nat.beq r 12 with
  | true, true, _ => some (annT8 N L R q q1 q2)
  | true, _, true => some (annT12 N L R q q1 q2)
  | _, _, _ => none⟩
theorem ST (N L R : Nat) (q q1 q2 : Nat → Nat → Value) (a e : Int) : Sound (CT N L R q q1 q2 a e) := ⟨tabM_of T6_ok oentries_nil (MS_ok _ _ _ _ _ _), fun f h => entersB_ok (allN_ok inlT_ok f h), mixed⟩
theorem tells_ev (N L R : Nat) (q q1 q2 : Nat → Nat → Value) (a e : Int) (len : Nat) (p : Nat → Nat → Value) (k n r1 r2 r3 r4 r5 : Int) (K : AV → Prop) : (afn (CT N L R q q1 q2 a e) 100 3 [.view 0 6 0 len, .agg [iv k, iv n], rv r1 r2 r3 r4 r5] [(0, some (.row 33 6 len p))] 1 (fun v _ _ => K v)) = (
      ifb (true && decide (0 ≤ min (↑len : Int) 260) && decide (min (↑len : Int) 260 ≤ (↑len : Int))) (ifb (decide (0 + ((min (↑len : Int) 260).toNat - 0) ≤ len) && decide (((min (↑len : Int) 260).toNat - 0) * 32 ≤ 140737488355328))
  (ifb (true && decide (0 ≤ min (↑((min (↑len : Int) 260).toNat - 0) : Int) 260) && decide (min (↑((min (↑len : Int) 260).toNat - 0) : Int) 260 ≤ (↑((min (↑len : Int) 260).toNat - 0) : Int)))
  (ifb (decide (0 + ((min (↑((min (↑len : Int) 260).toNat - 0) : Int) 260).toNat - 0) ≤ (min (↑len : Int) 260).toNat - 0) && decide (((min (↑((min (↑len : Int) 260).toNat - 0) : Int) 260).toNat - 0) * 32 ≤ 140737488355328))
  (ifb (decide ((min (↑len : Int) 260).toNat - 0 ≤ (min (↑len : Int) 260).toNat - 0) && fdOK L R q1 q2 a e (fun (i j : Nat) => p (0 + i) j) ((min (↑len : Int) 260).toNat - 0) k n r1 r2 r3 r4 r5)
  (ifb (decide ((min (↑((min (↑len : Int) 260).toNat - 0) : Int) 260).toNat - 0 ≤ (min (↑((min (↑len : Int) 260).toNat - 0) : Int) 260).toNat - 0) && fdOK L R q1 q2 a e (fun (i j : Nat) => p (0 + (0 + i)) j) ((min (↑((min (↑len : Int) 260).toNat - 0) : Int) 260).toNat - 0) k n r1 r2 r3 r4 r5) (ifb (decide (L ≤ L) && (decide (L ≤ L) && (isPk L q1 && (isPk L q1 && decide (L ≤ 1000000)))))
  (ifb (!samF (pk (asG q1) (asB q1)) (pk (asG q1) (asB q1)) L L) (K (AV.val (Value.bool false))) (ifb (decide (R ≤ R) && (decide (R ≤ R) && (isPk R q2 && (isPk R q2 && decide (R ≤ 1000000))))) (ifb (!samF (pk (asG q2) (asB q2)) (pk (asG q2) (asB q2)) R R) (K (AV.val (Value.bool false))) (ifb (a != a) (K (AV.val (Value.bool false))) (ifb (e != e) (K (AV.val (Value.bool false)))
  (ifb (decide ((min (↑len : Int) 260).toNat - 0 ≤ (min (↑len : Int) 260).toNat - 0) && isPk ((min (↑len : Int) 260).toNat - 0) fun (i j : Nat) => p (0 + i) j)
  (ifb (decide ((min (↑((min (↑len : Int) 260).toNat - 0) : Int) 260).toNat - 0 ≤ (min (↑((min (↑len : Int) 260).toNat - 0) : Int) 260).toNat - 0) && isPk ((min (↑((min (↑len : Int) 260).toNat - 0) : Int) 260).toNat - 0) fun (i j : Nat) => p (0 + (0 + i)) j)
  (ifb (chF (asG fun (i j : Nat) => p (0 + i) j) ((min (↑len : Int) 260).toNat - 0) != chF (asG fun (i j : Nat) => p (0 + (0 + i)) j) ((min (↑((min (↑len : Int) 260).toNat - 0) : Int) 260).toNat - 0)) (K (AV.val (Value.bool false))) (∃ (J : (annT8 N L R q q1 q2).I → Prop), (∃ (i : (annT8 N L R q q1 q2).I), J i ∧ ((some 193 = some 193 ∧ (min (↑len : Int) 260).toNat - 0 = N) ∧ (some 385 = some 385 ∧
  (min (↑((min (↑len : Int) 260).toNat - 0) : Int) 260).toNat - 0 = N) ∧ (some 529 = some 529 ∧ L = L) ∧ (some 530 = some 530 ∧ R = R) ∧ Value.int IntKind.i64 0 = Value.int IntKind.i64 (↑i.n : Int) ∧ True) ∧ ((33 = 33 ∧ 6 = 6 ∧ L = L ∧ ∀ (i_1 j : Nat), i_1.succ.le L → j.succ.le 6 → q1 i_1 j = wrQ q1 i.n i_1 j) ∧ (33 = 33 ∧ 6 = 6 ∧ (min (↑len : Int) 260).toNat - 0 = N ∧
  ∀ (i j : Nat), i.succ.le N → j.succ.le 6 → p (0 + i) j = q i j) ∧ (33 = 33 ∧ 6 = 6 ∧ (min (↑((min (↑len : Int) 260).toNat - 0) : Int) 260).toNat - 0 = N ∧ ∀ (i j : Nat), i.succ.le N → j.succ.le 6 → p (0 + (0 + i)) j = q i j) ∧ (33 = 33 ∧ 6 = 6 ∧ R = R ∧ ∀ (i j : Nat), i.succ.le R → j.succ.le 6 → q2 i j = q2 i j) ∧ (33 = 33 ∧ 6 = 6 ∧ len = len ∧
  ∀ (i j : Nat), i.succ.le len → j.succ.le 6 → p i j = p i j) ∧ True) ∧ true = true) ∧ ∀ (i : N1), J i → ifb (decide ((↑i.n : Int) < (↑L : Int))) (ifb (decide (0 ≤ (↑i.n : Int) ∧ (↑i.n : Int) < (↑L : Int))) (ifb (decide ((↑i.n : Int).toNat < L)) (∃ (i' : (annT8 N L R q q1 q2).I), (J i' ∧ (L - i'.n).succ.le (L - i.n)) ∧ ((some 900000 = some 900000 ∧ N = N) ∧ (some 900007 = some 900007 ∧ N = N) ∧
  (some 900008 = some 900008 ∧ L = L) ∧ (some 900009 = some 900009 ∧ R = R) ∧ Value.int IntKind.i64 (IntKind.i64.wrap ((↑i.n : Int) + 1)) = Value.int IntKind.i64 (↑i'.n : Int) ∧ True) ∧ ((33 = 33 ∧ 6 = 6 ∧ L = L ∧ ∀ (i_1 j : Nat), i_1.succ.le L → j.succ.le 6 → (if i_1 = (↑i.n : Int).toNat ∧ 0 ≤ j ∧ j < 1 then [Value.int IntKind.i64 (-1)][j - 0]?.getD undef else wrQ q1 i.n i_1 j) = wrQ q1 i'.n i_1 j) ∧
  (33 = 33 ∧ 6 = 6 ∧ N = N ∧ ∀ (i j : Nat), i.succ.le N → j.succ.le 6 → q i j = q i j) ∧ (33 = 33 ∧ 6 = 6 ∧ N = N ∧ ∀ (i j : Nat), i.succ.le N → j.succ.le 6 → q i j = q i j) ∧ (33 = 33 ∧ 6 = 6 ∧ R = R ∧ ∀ (i j : Nat), i.succ.le R → j.succ.le 6 → q2 i j = q2 i j) ∧ (33 = 33 ∧ 6 = 6 ∧ len = len ∧ ∀ (i j : Nat), i.succ.le len → j.succ.le 6 → p i j = p i j) ∧ True) ∧
  true = true) False) False) (∃ (J : (annT12 N L R q q1 q2).I → Prop), (∃ (i : (annT12 N L R q q1 q2).I), J i ∧ ((some 900000 = some 900000 ∧ N = N) ∧ (some 900007 = some 900007 ∧ N = N) ∧ (some 900009 = some 900009 ∧ R = R) ∧ Value.int IntKind.i64 0 = Value.int IntKind.i64 (↑i.n : Int) ∧ True) ∧ ((33 = 33 ∧ 6 = 6 ∧ N = N ∧ ∀ (i j : Nat), i.succ.le N → j.succ.le 6 → q i j = q i j) ∧ (33 = 33 ∧ 6 = 6 ∧
  N = N ∧ ∀ (i j : Nat), i.succ.le N → j.succ.le 6 → q i j = q i j) ∧ (33 = 33 ∧ 6 = 6 ∧ R = R ∧ ∀ (i_1 j : Nat), i_1.succ.le R → j.succ.le 6 → q2 i_1 j = wrQ q2 i.n i_1 j) ∧ (33 = 33 ∧ 6 = 6 ∧ len = len ∧ ∀ (i j : Nat), i.succ.le len → j.succ.le 6 → p i j = p i j) ∧ True) ∧ true = true) ∧ ∀ (i : N1), J i → ifb (decide ((↑i.n : Int) < (↑R : Int))) (ifb (decide (0 ≤ (↑i.n : Int) ∧
  (↑i.n : Int) < (↑R : Int))) (ifb (decide ((↑i.n : Int).toNat < R)) (∃ (i' : (annT12 N L R q q1 q2).I), (J i' ∧ (R - i'.n).succ.le (R - i.n)) ∧ ((some 900000 = some 900000 ∧ N = N) ∧ (some 900007 = some 900007 ∧ N = N) ∧ (some 900009 = some 900009 ∧ R = R) ∧ Value.int IntKind.i64 (IntKind.i64.wrap ((↑i.n : Int) + 1)) = Value.int IntKind.i64 (↑i'.n : Int) ∧ True) ∧ ((33 = 33 ∧ 6 = 6 ∧ N = N ∧
  ∀ (i j : Nat), i.succ.le N → j.succ.le 6 → q i j = q i j) ∧ (33 = 33 ∧ 6 = 6 ∧ N = N ∧ ∀ (i j : Nat), i.succ.le N → j.succ.le 6 → q i j = q i j) ∧ (33 = 33 ∧ 6 = 6 ∧ R = R ∧ ∀ (i_1 j : Nat), i_1.succ.le R → j.succ.le 6 → (if i_1 = (↑i.n : Int).toNat ∧ 0 ≤ j ∧ j < 1 then [Value.int IntKind.i64 (-1)][j - 0]?.getD undef else wrQ q2 i.n i_1 j) = wrQ q2 i'.n i_1 j) ∧ (33 = 33 ∧ 6 = 6 ∧ len = len ∧
  ∀ (i j : Nat), i.succ.le len → j.succ.le 6 → p i j = p i j) ∧ True) ∧ true = true) False) False) (ifb (decide (N ≤ N) && (decide (N ≤ N) && (isPk N q && (isPk N q && decide (N ≤ 1000000))))) (ifb (samF (pk (asG q) (asB q)) (pk (asG q) (asB q)) N N) (K (AV.val (Value.bool true))) (K (AV.val (Value.bool false)))) False)))) False) False)))) False)) False) False) False) False) False) False) False) := by
  kernel_rfl

end Go.Proofs.Ytmaddijeiniliaa.Ls
