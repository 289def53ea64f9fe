/-
  LsK: packets, measure as entries; LossParts, evaluated.
-/
import Derived.Test.YtmaddijeiniliaaLsJ
namespace Go.Proofs.Ytmaddijeiniliaa.Ls
open Go Go.RowKit Go.Proofs.Ytmaddijeiniliaa.Sy Go.Proofs.Ytmaddijeiniliaa.Cm
set_option linter.unusedVariables false
set_option linter.unusedSimpArgs false
set_option maxRecDepth 100000
set_option maxHeartbeats 1000000
attribute [local irreducible] afn

theorem numF_lo (h : Nat → Nat → Int) (n : Nat) : -1 ≤ numF h n ∧ numF h n ≤ 4 * n - 1 := by
  induction n with
  | zero => simp [numF]
  | succ n ih =>
    have := brF_lo (h n 0) (b := 4) (by omega)
    simp only [numF]
    omega
theorem pks_is (h : Nat → Nat → Int) (len : Nat) : afn (CP h len) 100 19 [.view 0 3 0 len] [(0, some (.row 61 3 len fun i j => .int .i64 (h i j)))] 1 fun v h' _ =>
    ∃ id out', v = .own id (min len 60) ∧ blkOf v h' = some (.orow 33 6 (min len 60) out') ∧ ∀ i j, i < min len 60 → j < 6 → out' i j = pk (pG h) (pB h) i j := by
  rw [pks_ev h len (fun v b => ∃ id out', v = .own id (min len 60) ∧ b = some (.orow 33 6 (min len 60) out') ∧ ∀ i j, i < min len 60 → j < 6 → out' i j = pk (pG h) (pB h) i j)]
  refine ⟨fun x => x.n ≤ len ∧ x.n ≤ 60, ⟨⟨0⟩, ⟨Nat.zero_le _, Nat.zero_le _⟩, ?_⟩, ?_⟩
  · repeat' first | exact trivial | exact rfl | (intro _ _ _ _; rfl) | refine ⟨?_, ?_⟩ | fail
  rintro ⟨n⟩ ⟨hn, hn60⟩
  have hn : n ≤ len := hn
  have hn60 : n ≤ 60 := hn60
  have e : 0 + ((n : Nat) : Int).toNat = n := by omega
  dsimp only
  rw [e]
  have hnum := numF_lo h n
  have hb := brF_lo (h n 0) (b := 4) (by omega)
  have hb2 := brF_lo (h n 2) (b := 65535) (by omega)
  have w1 : IntKind.i64.wrap (numF h n + 1) = numF h n + 1 := wr (by omega) (by omega)
  have w2 : IntKind.i64.wrap (numF h n + 1 + brF (h n 0) 4) = numF h n + 1 + brF (h n 0) 4 := wr (by omega) (by omega)
  have w3 : IntKind.i64.wrap (1 + brF (h n 2) 65535) = 1 + brF (h n 2) 65535 := wr (by omega) (by omega)
  rw [w1, w2, w3]
  refine ifb_of (fun h1 => ?_) fun h1 => ?_
  · have h1 : (n : Int) < (len : Int) := of_decide_eq_true h1
    refine ifb_of (fun h2 => ?_) fun h2 => ?_
    · have h2 : (n : Int) < 60 := of_decide_eq_true h2
      have hin1 : decide (0 ≤ (n : Int) ∧ (n : Int) < (len : Int)) = true := decide_eq_true (by omega)
      have hin2 : decide (n < len) = true := decide_eq_true (by omega)
      refine ifb_pos hin1 (ifb_pos hin2 (ifb_pos hin1 (ifb_pos hin2 (ifb_pos hin1 (ifb_pos hin2 (ifb_pos hin1 (ifb_pos hin2 (ifb_pos (by simp; omega) ⟨⟨n + 1⟩, ⟨⟨show n + 1 ≤ len by omega, show n + 1 ≤ 60 by omega⟩, less n 60 (by omega)⟩, ?_⟩))))))))
      have step : ∀ i j : Nat, i.succ.le (n + 1) → j.succ.le 6 → (if i < n then pk (pG h) (pB h) i j else [Value.int IntKind.i64 (numF h n + 1 + brF (h n 0) 4), Value.int IntKind.i64 (brF (h n 1) 1125899906842624), Value.int IntKind.i64 (1 + brF (h n 2) 65535), Value.bool ((h n 2).tmod 2 == 0), Value.bool true, Value.bool false][(i - n) * 6 + j]?.getD undef) = pk (pG h) (pB h) i j := by
        intro i j hi hj
        have hi : i < n + 1 := hi
        have hj : j < 6 := hj
        by_cases hlt : i < n
        · rw [if_pos hlt]
        · have ei : i = n := by omega
          rw [if_neg hlt, ei, Nat.sub_self, Nat.zero_mul, Nat.zero_add]
          match j, hj with
          | 0, _ => rfl
          | 1, _ => rfl
          | 2, _ => rfl
          | 3, _ => rfl
          | 4, _ => rfl
          | 5, _ => rfl
      repeat' first | exact trivial | exact step | exact vi_succ (by omega) | exact rfl | (intro _ _ _ _; rfl) | refine ⟨?_, ?_⟩ | fail
    · have h2 : ¬ (n : Int) < 60 := of_decide_eq_false h2
      have en : n = min len 60 := by omega
      subst en
      exact ⟨_, _, rfl, rfl, fun _ _ _ _ => rfl⟩
  · have h1 : ¬ (n : Int) < (len : Int) := of_decide_eq_false h1
    have en : n = min len 60 := by omega
    subst en
    exact ⟨_, _, rfl, rfl, fun _ _ _ _ => rfl⟩
def asN (q : Nat → Nat → Value) (i j : Nat) : Int := match q i j with
  | .int _ n => n
  | _ => 0
noncomputable def isNs (len w : Nat) (q : Nat → Nat → Value) : Bool := @decide (∀ i j, i < len → j < w → q i j = .int .i64 (asN q i j)) (Classical.propDecidable _)
theorem isNs_yes {len w : Nat} {q : Nat → Nat → Value} (h : ∀ i j, i < len → j < w → q i j = .int .i64 (asN q i j)) : isNs len w q = true := @decide_eq_true _ (Classical.propDecidable _) h
theorem of_isNs {len w : Nat} {q : Nat → Nat → Value} (h : isNs len w q = true) : ∀ i j, i < len → j < w → q i j = .int .i64 (asN q i j) := @of_decide_eq_true _ (Classical.propDecidable _) h
/-- What packets makes is told: so many, as g, b. -/
noncomputable def pkOK (N : Nat) (g : Nat → Nat → Int) (b : Nat → Nat → Bool) (q : Nat → Nat → Value) (len : Nat) : Bool := @decide (isNs len 3 q = true ∧ N = min len 60 ∧ g = pG (asN q) ∧ b = pB (asN q)) (Classical.propDecidable _)
noncomputable def gPks (N : Nat) (g : Nat → Nat → Int) (b : Nat → Nat → Bool) (q : Nat → Nat → Value) (len : Nat) : List AV → Option (Bool × TypeId × Nat × Nat × (Nat → Nat → Value))
  | [] => some (pkOK N g b q len, 33, 6, N, pk g b)
  | _ => none
theorem ePks (N : Nat) (g : Nat → Nat → Int) (b : Nat → Nat → Bool) : OEntryOK Try.prog 19 (rowO 3 (gPks N g b)) := oentry_row (tyr := 61) (by kernel_rfl) fun q len rest ty esz' N' out h => by
  unfold gPks at h
  split at h
  · simp only [Option.some.injEq, Prod.mk.injEq] at h
    obtain ⟨h1, rfl, rfl, rfl, rfl⟩ := h
    obtain ⟨h2, rfl, rfl, rfl⟩ := @of_decide_eq_true _ (Classical.propDecidable _) h1
    exact ⟨rfl, fun i j => .int .i64 (asN q i j), of_isNs h2, CP (asN q) len, SP _ _, rfl, 100, pks_is (asN q) len⟩
  · cases h
theorem pkOK_yes (h : Nat → Nat → Int) (len : Nat) : pkOK (min len 60) (pG h) (pB h) (fun i j => .int .i64 (h i j)) len = true :=
  @decide_eq_true _ (Classical.propDecidable _) ⟨isNs_yes fun _ _ _ _ => rfl, rfl, rfl, rfl⟩

/-! measure -/
theorem mea_is (a b : Int) : ∃ C, Sound C ∧ C.P = Try.prog ∧ ∃ n, afn C n 20 [iv a, iv b] [] 0 (fun v _ _ => v = rv (brF a 1099511627776) (min (brF a 1099511627776) (brF b 1099511627776)) (brF b 1099511627776) (brF a 1099511627776 / 2) 0) := ⟨C6, S6, rfl, 100, by
  have h := brF_lo a (b := 1099511627776) (by omega)
  rw [mea_ev a b (fun v => v = rv (brF a 1099511627776) (min (brF a 1099511627776) (brF b 1099511627776)) (brF b 1099511627776) (brF a 1099511627776 / 2) 0), half (by omega) (by omega)]⟩
def meaOK (r1 r2 r3 r4 a b : Int) : Bool := decide (r1 = brF a 1099511627776 ∧ r2 = min (brF a 1099511627776) (brF b 1099511627776) ∧ r3 = brF b 1099511627776 ∧ r4 = brF a 1099511627776 / 2)
def gMea (r1 r2 r3 r4 : Int) : List AV → Option (Bool × AV)
  | [.val (.int .i64 a), .val (.int .i64 b)] => some (meaOK r1 r2 r3 r4 a b, rv r1 r2 r3 r4 0)
  | _ => none
theorem eMea (r1 r2 r3 r4 : Int) : EntryOK Try.prog 20 (fun x _ => gMea r1 r2 r3 r4 x) := entry_if (by kernel_rfl) fun args v h => by
  unfold gMea at h
  split at h
  · simp only [Option.some.injEq, Prod.mk.injEq] at h
    obtain ⟨h1, rfl⟩ := h
    unfold meaOK at h1
    obtain ⟨rfl, rfl, rfl, rfl⟩ := of_decide_eq_true h1
    exact ⟨rfl, rfl, mea_is _ _⟩
  · cases h
theorem subQ_pk (g : Nat → Nat → Int) (b : Nat → Nat → Bool) (l : List Nat) : subQ g b l = pk (fun i => g (ix l i)) (fun i => b (ix l i)) := by
  funext i j
  match j with
  | 0 => rfl
  | 1 => rfl
  | 2 => rfl
  | 3 => rfl
  | 4 => rfl
  | j + 5 => rfl

/-! LossParts -/
noncomputable def T7 (r1 r2 r3 r4 : Int) : List (Nat × Entry) := (20, fun x _ => gMea r1 r2 r3 r4 x) :: T6
theorem T7_ok (r1 r2 r3 r4 : Int) : ∀ k e, (k, e) ∈ T7 r1 r2 r3 r4 → EntryOK Try.prog k e := entries_cons (eMea r1 r2 r3 r4) T6_ok
noncomputable def O7 (N : Nat) (g : Nat → Nat → Int) (b : Nat → Nat → Bool) : List (Nat × OEntry) := [(19, rowO 3 (gPks N g b))]
theorem O7_ok (N : Nat) (g : Nat → Nat → Int) (b : Nat → Nat → Bool) : ∀ k e, (k, e) ∈ O7 N g b → OEntryOK Try.prog k e := oentries_cons (ePks N g b) oentries_nil
/-- A law's packets and measure, and what Find tells of them. -/
structure Ls1 where
  N : Nat
  g : Nat → Nat → Int
  b : Nat → Nat → Bool
  r1 : Int
  r2 : Int
  r3 : Int
  r4 : Int
  L : Nat
  R : Nat
  g1 : Nat → Nat → Int
  b1 : Nat → Nat → Bool
  g2 : Nat → Nat → Int
  b2 : Nat → Nat → Bool
  a : Int
  e : Int
def annL (s : Ls1) (k n : Int) (ca cb : Nat → Nat) : AnnM := ⟨N1, fun x => setN (setN (setN (setN (setN (setN (setN (setN (setN (List.replicate 163 .any) 7 (.own 900007 s.N)) 8 (.ptr 900108 0)) 9 (iv k)) 10 (iv n)) 11 (.own 900011 s.L)) 12 (.own 900012 s.R)) 15 (iv (ca x.n))) 16 (iv (cb x.n))) 17 (iv x.n),
  fun x => [(900007, some (.orow 33 6 s.N (pk s.g s.b))), (900108, some (.cells 25 [iv s.r1, iv s.r2, iv s.r3, iv s.r4, iv 0])), (900011, some (.orow 33 6 s.L (pk s.g1 s.b1))), (900012, some (.orow 33 6 s.R (pk s.g2 s.b2)))], 1000000, fun x => s.N - x.n,
  [(7, 900007), (8, 900108), (11, 900011), (12, 900012)], [(7, 900007), (8, 900108), (11, 900011), (12, 900012)]⟩
noncomputable def CL (s : Ls1) (k n : Int) (ca cb : Nat → Nat) : Cfg := ⟨Try.prog, mkM (T7 s.r1 s.r2 s.r3 s.r4) (O7 s.N s.g s.b) (MS s.L s.R (pk s.g1 s.b1) (pk s.g2 s.b2) s.a s.e), fun f => false, fun f r => match Nat.beq f 5 with
  | true => some (annL s k n ca cb)
  | _ => none⟩
theorem SL (s : Ls1) (k n : Int) (ca cb : Nat → Nat) : Sound (CL s k n ca cb) := ⟨tabM_of (T7_ok _ _ _ _) (O7_ok _ _ _) (MS_ok _ _ _ _ _ _), fun f h => (by cases h), mixed⟩
theorem parts_ev (s : Ls1) (k n : Int) (ca cb : Nat → Nat) (h : Nat → Nat → Int) (len : Nat) (x0 x1 m0 m1 : Int) (K : AV → Prop) : (afn (CL s k n ca cb) 100 5 [.view 0 3 0 len, .agg [iv x0, iv x1], .agg [iv m0, iv m1]] [(0, some (.row 61 3 len fun i j => .int .i64 (h i j)))] 1 (fun v _ _ => K v)) = (
      ifb (decide (0 + len ≤ len) && pkOK s.N s.g s.b (fun (i j : Nat) => Value.int IntKind.i64 (h (0 + i) j)) len) (ifb (meaOK s.r1 s.r2 s.r3 s.r4 m0 m1) (ifb (decide (s.N ≤ s.N) && fdOK s.L s.R (pk s.g1 s.b1) (pk s.g2 s.b2) s.a s.e (pk s.g s.b) s.N (IntKind.i64.wrap (brF x0 260 - 1)) (brF x1 2251799813685248) s.r1 s.r2 s.r3 s.r4 0) (ifb (s.e != 0) (K (AV.val (Value.bool false)))
  (ifb (IntKind.i64.wrap ((↑s.L : Int) + (↑s.R : Int)) != (↑s.N : Int)) (K (AV.val (Value.bool false))) (∃ (J : (annL s k n ca cb).I → Prop), (∃ (i : (annL s k n ca cb).I), J i ∧ ((some 97 = some 97 ∧ s.N = s.N) ∧ (some 193 = some 193 ∧ 0 = 0) ∧ Value.int IntKind.i64 (IntKind.i64.wrap (brF x0 260 - 1)) = Value.int IntKind.i64 k ∧
  Value.int IntKind.i64 (brF x1 2251799813685248) = Value.int IntKind.i64 n ∧ (some 449 = some 449 ∧ s.L = s.L) ∧ (some 450 = some 450 ∧ s.R = s.R) ∧ Value.int IntKind.i64 0 = Value.int IntKind.i64 (↑(ca i.n) : Int) ∧ Value.int IntKind.i64 0 = Value.int IntKind.i64 (↑(cb i.n) : Int) ∧ Value.int IntKind.i64 0 = Value.int IntKind.i64 (↑i.n : Int) ∧ True) ∧ ((33 = 33 ∧ 6 = 6 ∧ s.N = s.N ∧
  ∀ (i j : Nat), i.succ.le s.N → j.succ.le 6 → pk s.g s.b i j = pk s.g s.b i j) ∧ (25 = 25 ∧ Value.int IntKind.i64 s.r1 = Value.int IntKind.i64 s.r1 ∧ Value.int IntKind.i64 s.r2 = Value.int IntKind.i64 s.r2 ∧ Value.int IntKind.i64 s.r3 = Value.int IntKind.i64 s.r3 ∧ Value.int IntKind.i64 s.r4 = Value.int IntKind.i64 s.r4 ∧ Value.int IntKind.i64 0 = Value.int IntKind.i64 0 ∧ True) ∧ (33 = 33 ∧ 6 = 6 ∧
  s.L = s.L ∧ ∀ (i j : Nat), i.succ.le s.L → j.succ.le 6 → pk s.g1 s.b1 i j = pk s.g1 s.b1 i j) ∧ (33 = 33 ∧ 6 = 6 ∧ s.R = s.R ∧ ∀ (i j : Nat), i.succ.le s.R → j.succ.le 6 → pk s.g2 s.b2 i j = pk s.g2 s.b2 i j) ∧ (61 = 61 ∧ 3 = 3 ∧ len = len ∧ ∀ (i j : Nat), i.succ.le len → j.succ.le 3 → Value.int IntKind.i64 (h i j) = Value.int IntKind.i64 (h i j)) ∧ True) ∧ true = true) ∧
  ∀ (i : N1), J i → ifb (decide ((↑i.n : Int) < (↑s.N : Int))) (ifb (decide (0 ≤ (↑i.n : Int) ∧ (↑i.n : Int) < (↑s.N : Int))) (ifb (decide ((↑i.n : Int).toNat < s.N)) (ifb (decide (IntKind.i64.wrap (IntKind.i64.wrap (9 * max s.r3 s.r1) - 7) ≤ IntKind.i64.wrap (8 * IntKind.i64.wrap (n - s.g (↑i.n : Int).toNat 1)))) (ifb (decide (0 ≤ (↑i.n : Int) ∧ (↑i.n : Int) < (↑s.N : Int)))
  (ifb (decide ((↑i.n : Int).toNat < s.N)) (ifb (decide (0 ≤ (↑i.n : Int) ∧ (↑i.n : Int) < (↑s.N : Int))) (ifb (decide ((↑i.n : Int).toNat < s.N)) (ifb (decide (s.g (↑i.n : Int).toNat 0 ≤ k)) (ifb (decide (0 ≤ (↑i.n : Int) ∧ (↑i.n : Int) < (↑s.N : Int))) (ifb (decide ((↑i.n : Int).toNat < s.N)) (ifb (decide (3 ≤ IntKind.i64.wrap (k - s.g (↑i.n : Int).toNat 0)))
  (ifb (decide ((↑(ca i.n) : Int) < (↑s.L : Int))) (ifb (decide (0 ≤ (↑(ca i.n) : Int) ∧ (↑(ca i.n) : Int) < (↑s.L : Int))) (ifb (decide ((↑(ca i.n) : Int).toNat < s.L)) (ifb (decide (0 ≤ (↑i.n : Int) ∧ (↑i.n : Int) < (↑s.N : Int))) (ifb (decide ((↑i.n : Int).toNat < s.N))
  (ifb (s.g1 (↑(ca i.n) : Int).toNat 0 == s.g (↑i.n : Int).toNat 0 && (s.g1 (↑(ca i.n) : Int).toNat 1 == s.g (↑i.n : Int).toNat 1 && (s.g1 (↑(ca i.n) : Int).toNat 2 == s.g (↑i.n : Int).toNat 2 && (s.b1 (↑(ca i.n) : Int).toNat 3 == s.b (↑i.n : Int).toNat 3 && (s.b1 (↑(ca i.n) : Int).toNat 4 == s.b (↑i.n : Int).toNat 4 && (s.b1 (↑(ca i.n) : Int).toNat 5 == s.b (↑i.n : Int).toNat 5 && true)))))) (∃ (i' : (annL s k n ca cb).I), (J i' ∧
  (s.N - i'.n).succ.le (s.N - i.n)) ∧ ((some 900007 = some 900007 ∧ s.N = s.N) ∧ (some 900108 = some 900108 ∧ 0 = 0) ∧ Value.int IntKind.i64 k = Value.int IntKind.i64 k ∧ Value.int IntKind.i64 n = Value.int IntKind.i64 n ∧ (some 900011 = some 900011 ∧ s.L = s.L) ∧ (some 900012 = some 900012 ∧ s.R = s.R) ∧
  Value.int IntKind.i64 (IntKind.i64.wrap ((↑(ca i.n) : Int) + 1)) = Value.int IntKind.i64 (↑(ca i'.n) : Int) ∧ Value.int IntKind.i64 (↑(cb i.n) : Int) = Value.int IntKind.i64 (↑(cb i'.n) : Int) ∧ Value.int IntKind.i64 (IntKind.i64.wrap ((↑i.n : Int) + 1)) = Value.int IntKind.i64 (↑i'.n : Int) ∧ True) ∧ ((33 = 33 ∧ 6 = 6 ∧ s.N = s.N ∧
  ∀ (i j : Nat), i.succ.le s.N → j.succ.le 6 → pk s.g s.b i j = pk s.g s.b i j) ∧ (25 = 25 ∧ Value.int IntKind.i64 s.r1 = Value.int IntKind.i64 s.r1 ∧ Value.int IntKind.i64 s.r2 = Value.int IntKind.i64 s.r2 ∧ Value.int IntKind.i64 s.r3 = Value.int IntKind.i64 s.r3 ∧ Value.int IntKind.i64 s.r4 = Value.int IntKind.i64 s.r4 ∧ Value.int IntKind.i64 0 = Value.int IntKind.i64 0 ∧ True) ∧ (33 = 33 ∧ 6 = 6 ∧
  s.L = s.L ∧ ∀ (i j : Nat), i.succ.le s.L → j.succ.le 6 → pk s.g1 s.b1 i j = pk s.g1 s.b1 i j) ∧ (33 = 33 ∧ 6 = 6 ∧ s.R = s.R ∧ ∀ (i j : Nat), i.succ.le s.R → j.succ.le 6 → pk s.g2 s.b2 i j = pk s.g2 s.b2 i j) ∧ (61 = 61 ∧ 3 = 3 ∧ len = len ∧ ∀ (i j : Nat), i.succ.le len → j.succ.le 3 → Value.int IntKind.i64 (h i j) = Value.int IntKind.i64 (h i j)) ∧ True) ∧ true = true)
  (K (AV.val (Value.bool false)))) False) False) False) False) (K (AV.val (Value.bool false)))) (ifb (decide (1000000 ≤ IntKind.i64.wrap (n - s.g (↑i.n : Int).toNat 1))) (ifb (decide ((↑(ca i.n) : Int) < (↑s.L : Int))) (ifb (decide (0 ≤ (↑(ca i.n) : Int) ∧ (↑(ca i.n) : Int) < (↑s.L : Int))) (ifb (decide ((↑(ca i.n) : Int).toNat < s.L)) (ifb (decide (0 ≤ (↑i.n : Int) ∧ (↑i.n : Int) < (↑s.N : Int)))
  (ifb (decide ((↑i.n : Int).toNat < s.N))
  (ifb (s.g1 (↑(ca i.n) : Int).toNat 0 == s.g (↑i.n : Int).toNat 0 && (s.g1 (↑(ca i.n) : Int).toNat 1 == s.g (↑i.n : Int).toNat 1 && (s.g1 (↑(ca i.n) : Int).toNat 2 == s.g (↑i.n : Int).toNat 2 && (s.b1 (↑(ca i.n) : Int).toNat 3 == s.b (↑i.n : Int).toNat 3 && (s.b1 (↑(ca i.n) : Int).toNat 4 == s.b (↑i.n : Int).toNat 4 && (s.b1 (↑(ca i.n) : Int).toNat 5 == s.b (↑i.n : Int).toNat 5 && true)))))) (∃ (i' : (annL s k n ca cb).I), (J i' ∧
  (s.N - i'.n).succ.le (s.N - i.n)) ∧ ((some 900007 = some 900007 ∧ s.N = s.N) ∧ (some 900108 = some 900108 ∧ 0 = 0) ∧ Value.int IntKind.i64 k = Value.int IntKind.i64 k ∧ Value.int IntKind.i64 n = Value.int IntKind.i64 n ∧ (some 900011 = some 900011 ∧ s.L = s.L) ∧ (some 900012 = some 900012 ∧ s.R = s.R) ∧
  Value.int IntKind.i64 (IntKind.i64.wrap ((↑(ca i.n) : Int) + 1)) = Value.int IntKind.i64 (↑(ca i'.n) : Int) ∧ Value.int IntKind.i64 (↑(cb i.n) : Int) = Value.int IntKind.i64 (↑(cb i'.n) : Int) ∧ Value.int IntKind.i64 (IntKind.i64.wrap ((↑i.n : Int) + 1)) = Value.int IntKind.i64 (↑i'.n : Int) ∧ True) ∧ ((33 = 33 ∧ 6 = 6 ∧ s.N = s.N ∧
  ∀ (i j : Nat), i.succ.le s.N → j.succ.le 6 → pk s.g s.b i j = pk s.g s.b i j) ∧ (25 = 25 ∧ Value.int IntKind.i64 s.r1 = Value.int IntKind.i64 s.r1 ∧ Value.int IntKind.i64 s.r2 = Value.int IntKind.i64 s.r2 ∧ Value.int IntKind.i64 s.r3 = Value.int IntKind.i64 s.r3 ∧ Value.int IntKind.i64 s.r4 = Value.int IntKind.i64 s.r4 ∧ Value.int IntKind.i64 0 = Value.int IntKind.i64 0 ∧ True) ∧ (33 = 33 ∧ 6 = 6 ∧
  s.L = s.L ∧ ∀ (i j : Nat), i.succ.le s.L → j.succ.le 6 → pk s.g1 s.b1 i j = pk s.g1 s.b1 i j) ∧ (33 = 33 ∧ 6 = 6 ∧ s.R = s.R ∧ ∀ (i j : Nat), i.succ.le s.R → j.succ.le 6 → pk s.g2 s.b2 i j = pk s.g2 s.b2 i j) ∧ (61 = 61 ∧ 3 = 3 ∧ len = len ∧ ∀ (i j : Nat), i.succ.le len → j.succ.le 3 → Value.int IntKind.i64 (h i j) = Value.int IntKind.i64 (h i j)) ∧ True) ∧ true = true)
  (ifb (!decide (1000000 ≤ IntKind.i64.wrap (n - s.g (↑i.n : Int).toNat 1))) (ifb (decide ((↑(cb i.n) : Int) < (↑s.R : Int))) (ifb (decide (0 ≤ (↑(cb i.n) : Int) ∧ (↑(cb i.n) : Int) < (↑s.R : Int))) (ifb (decide ((↑(cb i.n) : Int).toNat < s.R)) (ifb (decide (0 ≤ (↑i.n : Int) ∧ (↑i.n : Int) < (↑s.N : Int))) (ifb (decide ((↑i.n : Int).toNat < s.N))
  (ifb (s.g2 (↑(cb i.n) : Int).toNat 0 == s.g (↑i.n : Int).toNat 0 && (s.g2 (↑(cb i.n) : Int).toNat 1 == s.g (↑i.n : Int).toNat 1 && (s.g2 (↑(cb i.n) : Int).toNat 2 == s.g (↑i.n : Int).toNat 2 && (s.b2 (↑(cb i.n) : Int).toNat 3 == s.b (↑i.n : Int).toNat 3 && (s.b2 (↑(cb i.n) : Int).toNat 4 == s.b (↑i.n : Int).toNat 4 && (s.b2 (↑(cb i.n) : Int).toNat 5 == s.b (↑i.n : Int).toNat 5 && true)))))) (∃ (i' : (annL s k n ca cb).I), (J i' ∧
  (s.N - i'.n).succ.le (s.N - i.n)) ∧ ((some 900007 = some 900007 ∧ s.N = s.N) ∧ (some 900108 = some 900108 ∧ 0 = 0) ∧ Value.int IntKind.i64 k = Value.int IntKind.i64 k ∧ Value.int IntKind.i64 n = Value.int IntKind.i64 n ∧ (some 900011 = some 900011 ∧ s.L = s.L) ∧ (some 900012 = some 900012 ∧ s.R = s.R) ∧ Value.int IntKind.i64 (↑(ca i.n) : Int) = Value.int IntKind.i64 (↑(ca i'.n) : Int) ∧
  Value.int IntKind.i64 (IntKind.i64.wrap ((↑(cb i.n) : Int) + 1)) = Value.int IntKind.i64 (↑(cb i'.n) : Int) ∧ Value.int IntKind.i64 (IntKind.i64.wrap ((↑i.n : Int) + 1)) = Value.int IntKind.i64 (↑i'.n : Int) ∧ True) ∧ ((33 = 33 ∧ 6 = 6 ∧ s.N = s.N ∧ ∀ (i j : Nat), i.succ.le s.N → j.succ.le 6 → pk s.g s.b i j = pk s.g s.b i j) ∧ (25 = 25 ∧ Value.int IntKind.i64 s.r1 = Value.int IntKind.i64 s.r1 ∧
  Value.int IntKind.i64 s.r2 = Value.int IntKind.i64 s.r2 ∧ Value.int IntKind.i64 s.r3 = Value.int IntKind.i64 s.r3 ∧ Value.int IntKind.i64 s.r4 = Value.int IntKind.i64 s.r4 ∧ Value.int IntKind.i64 0 = Value.int IntKind.i64 0 ∧ True) ∧ (33 = 33 ∧ 6 = 6 ∧ s.L = s.L ∧ ∀ (i j : Nat), i.succ.le s.L → j.succ.le 6 → pk s.g1 s.b1 i j = pk s.g1 s.b1 i j) ∧ (33 = 33 ∧ 6 = 6 ∧ s.R = s.R ∧
  ∀ (i j : Nat), i.succ.le s.R → j.succ.le 6 → pk s.g2 s.b2 i j = pk s.g2 s.b2 i j) ∧ (61 = 61 ∧ 3 = 3 ∧ len = len ∧ ∀ (i j : Nat), i.succ.le len → j.succ.le 3 → Value.int IntKind.i64 (h i j) = Value.int IntKind.i64 (h i j)) ∧ True) ∧ true = true) (K (AV.val (Value.bool false)))) False) False) False) False) (K (AV.val (Value.bool false))))
  (K (AV.val (Value.bool false))))) False) False) False) False) (ifb (!decide (1000000 ≤ IntKind.i64.wrap (n - s.g (↑i.n : Int).toNat 1))) (ifb (decide ((↑(cb i.n) : Int) < (↑s.R : Int))) (ifb (decide (0 ≤ (↑(cb i.n) : Int) ∧ (↑(cb i.n) : Int) < (↑s.R : Int))) (ifb (decide ((↑(cb i.n) : Int).toNat < s.R)) (ifb (decide (0 ≤ (↑i.n : Int) ∧ (↑i.n : Int) < (↑s.N : Int)))
  (ifb (decide ((↑i.n : Int).toNat < s.N))
  (ifb (s.g2 (↑(cb i.n) : Int).toNat 0 == s.g (↑i.n : Int).toNat 0 && (s.g2 (↑(cb i.n) : Int).toNat 1 == s.g (↑i.n : Int).toNat 1 && (s.g2 (↑(cb i.n) : Int).toNat 2 == s.g (↑i.n : Int).toNat 2 && (s.b2 (↑(cb i.n) : Int).toNat 3 == s.b (↑i.n : Int).toNat 3 && (s.b2 (↑(cb i.n) : Int).toNat 4 == s.b (↑i.n : Int).toNat 4 && (s.b2 (↑(cb i.n) : Int).toNat 5 == s.b (↑i.n : Int).toNat 5 && true)))))) (∃ (i' : (annL s k n ca cb).I), (J i' ∧
  (s.N - i'.n).succ.le (s.N - i.n)) ∧ ((some 900007 = some 900007 ∧ s.N = s.N) ∧ (some 900108 = some 900108 ∧ 0 = 0) ∧ Value.int IntKind.i64 k = Value.int IntKind.i64 k ∧ Value.int IntKind.i64 n = Value.int IntKind.i64 n ∧ (some 900011 = some 900011 ∧ s.L = s.L) ∧ (some 900012 = some 900012 ∧ s.R = s.R) ∧ Value.int IntKind.i64 (↑(ca i.n) : Int) = Value.int IntKind.i64 (↑(ca i'.n) : Int) ∧
  Value.int IntKind.i64 (IntKind.i64.wrap ((↑(cb i.n) : Int) + 1)) = Value.int IntKind.i64 (↑(cb i'.n) : Int) ∧ Value.int IntKind.i64 (IntKind.i64.wrap ((↑i.n : Int) + 1)) = Value.int IntKind.i64 (↑i'.n : Int) ∧ True) ∧ ((33 = 33 ∧ 6 = 6 ∧ s.N = s.N ∧ ∀ (i j : Nat), i.succ.le s.N → j.succ.le 6 → pk s.g s.b i j = pk s.g s.b i j) ∧ (25 = 25 ∧ Value.int IntKind.i64 s.r1 = Value.int IntKind.i64 s.r1 ∧
  Value.int IntKind.i64 s.r2 = Value.int IntKind.i64 s.r2 ∧ Value.int IntKind.i64 s.r3 = Value.int IntKind.i64 s.r3 ∧ Value.int IntKind.i64 s.r4 = Value.int IntKind.i64 s.r4 ∧ Value.int IntKind.i64 0 = Value.int IntKind.i64 0 ∧ True) ∧ (33 = 33 ∧ 6 = 6 ∧ s.L = s.L ∧ ∀ (i j : Nat), i.succ.le s.L → j.succ.le 6 → pk s.g1 s.b1 i j = pk s.g1 s.b1 i j) ∧ (33 = 33 ∧ 6 = 6 ∧ s.R = s.R ∧
  ∀ (i j : Nat), i.succ.le s.R → j.succ.le 6 → pk s.g2 s.b2 i j = pk s.g2 s.b2 i j) ∧ (61 = 61 ∧ 3 = 3 ∧ len = len ∧ ∀ (i j : Nat), i.succ.le len → j.succ.le 3 → Value.int IntKind.i64 (h i j) = Value.int IntKind.i64 (h i j)) ∧ True) ∧ true = true) (K (AV.val (Value.bool false)))) False) False) False) False) (K (AV.val (Value.bool false)))) (K (AV.val (Value.bool false)))))
  (ifb (!decide (1000000 ≤ IntKind.i64.wrap (n - s.g (↑i.n : Int).toNat 1))) (ifb (decide ((↑(cb i.n) : Int) < (↑s.R : Int))) (ifb (decide (0 ≤ (↑(cb i.n) : Int) ∧ (↑(cb i.n) : Int) < (↑s.R : Int))) (ifb (decide ((↑(cb i.n) : Int).toNat < s.R)) (ifb (decide (0 ≤ (↑i.n : Int) ∧ (↑i.n : Int) < (↑s.N : Int))) (ifb (decide ((↑i.n : Int).toNat < s.N))
  (ifb (s.g2 (↑(cb i.n) : Int).toNat 0 == s.g (↑i.n : Int).toNat 0 && (s.g2 (↑(cb i.n) : Int).toNat 1 == s.g (↑i.n : Int).toNat 1 && (s.g2 (↑(cb i.n) : Int).toNat 2 == s.g (↑i.n : Int).toNat 2 && (s.b2 (↑(cb i.n) : Int).toNat 3 == s.b (↑i.n : Int).toNat 3 && (s.b2 (↑(cb i.n) : Int).toNat 4 == s.b (↑i.n : Int).toNat 4 && (s.b2 (↑(cb i.n) : Int).toNat 5 == s.b (↑i.n : Int).toNat 5 && true)))))) (∃ (i' : (annL s k n ca cb).I), (J i' ∧
  (s.N - i'.n).succ.le (s.N - i.n)) ∧ ((some 900007 = some 900007 ∧ s.N = s.N) ∧ (some 900108 = some 900108 ∧ 0 = 0) ∧ Value.int IntKind.i64 k = Value.int IntKind.i64 k ∧ Value.int IntKind.i64 n = Value.int IntKind.i64 n ∧ (some 900011 = some 900011 ∧ s.L = s.L) ∧ (some 900012 = some 900012 ∧ s.R = s.R) ∧ Value.int IntKind.i64 (↑(ca i.n) : Int) = Value.int IntKind.i64 (↑(ca i'.n) : Int) ∧
  Value.int IntKind.i64 (IntKind.i64.wrap ((↑(cb i.n) : Int) + 1)) = Value.int IntKind.i64 (↑(cb i'.n) : Int) ∧ Value.int IntKind.i64 (IntKind.i64.wrap ((↑i.n : Int) + 1)) = Value.int IntKind.i64 (↑i'.n : Int) ∧ True) ∧ ((33 = 33 ∧ 6 = 6 ∧ s.N = s.N ∧ ∀ (i j : Nat), i.succ.le s.N → j.succ.le 6 → pk s.g s.b i j = pk s.g s.b i j) ∧ (25 = 25 ∧ Value.int IntKind.i64 s.r1 = Value.int IntKind.i64 s.r1 ∧
  Value.int IntKind.i64 s.r2 = Value.int IntKind.i64 s.r2 ∧ Value.int IntKind.i64 s.r3 = Value.int IntKind.i64 s.r3 ∧ Value.int IntKind.i64 s.r4 = Value.int IntKind.i64 s.r4 ∧ Value.int IntKind.i64 0 = Value.int IntKind.i64 0 ∧ True) ∧ (33 = 33 ∧ 6 = 6 ∧ s.L = s.L ∧ ∀ (i j : Nat), i.succ.le s.L → j.succ.le 6 → pk s.g1 s.b1 i j = pk s.g1 s.b1 i j) ∧ (33 = 33 ∧ 6 = 6 ∧ s.R = s.R ∧
  ∀ (i j : Nat), i.succ.le s.R → j.succ.le 6 → pk s.g2 s.b2 i j = pk s.g2 s.b2 i j) ∧ (61 = 61 ∧ 3 = 3 ∧ len = len ∧ ∀ (i j : Nat), i.succ.le len → j.succ.le 3 → Value.int IntKind.i64 (h i j) = Value.int IntKind.i64 (h i j)) ∧ True) ∧ true = true) (K (AV.val (Value.bool false)))) False) False) False) False) (K (AV.val (Value.bool false)))) (K (AV.val (Value.bool false)))))) False) False)
  (ifb (decide ((↑(cb i.n) : Int) < (↑s.R : Int))) (ifb (decide (0 ≤ (↑(cb i.n) : Int) ∧ (↑(cb i.n) : Int) < (↑s.R : Int))) (ifb (decide ((↑(cb i.n) : Int).toNat < s.R)) (ifb (decide (0 ≤ (↑i.n : Int) ∧ (↑i.n : Int) < (↑s.N : Int))) (ifb (decide ((↑i.n : Int).toNat < s.N))
  (ifb (s.g2 (↑(cb i.n) : Int).toNat 0 == s.g (↑i.n : Int).toNat 0 && (s.g2 (↑(cb i.n) : Int).toNat 1 == s.g (↑i.n : Int).toNat 1 && (s.g2 (↑(cb i.n) : Int).toNat 2 == s.g (↑i.n : Int).toNat 2 && (s.b2 (↑(cb i.n) : Int).toNat 3 == s.b (↑i.n : Int).toNat 3 && (s.b2 (↑(cb i.n) : Int).toNat 4 == s.b (↑i.n : Int).toNat 4 && (s.b2 (↑(cb i.n) : Int).toNat 5 == s.b (↑i.n : Int).toNat 5 && true)))))) (∃ (i' : (annL s k n ca cb).I), (J i' ∧
  (s.N - i'.n).succ.le (s.N - i.n)) ∧ ((some 900007 = some 900007 ∧ s.N = s.N) ∧ (some 900108 = some 900108 ∧ 0 = 0) ∧ Value.int IntKind.i64 k = Value.int IntKind.i64 k ∧ Value.int IntKind.i64 n = Value.int IntKind.i64 n ∧ (some 900011 = some 900011 ∧ s.L = s.L) ∧ (some 900012 = some 900012 ∧ s.R = s.R) ∧ Value.int IntKind.i64 (↑(ca i.n) : Int) = Value.int IntKind.i64 (↑(ca i'.n) : Int) ∧
  Value.int IntKind.i64 (IntKind.i64.wrap ((↑(cb i.n) : Int) + 1)) = Value.int IntKind.i64 (↑(cb i'.n) : Int) ∧ Value.int IntKind.i64 (IntKind.i64.wrap ((↑i.n : Int) + 1)) = Value.int IntKind.i64 (↑i'.n : Int) ∧ True) ∧ ((33 = 33 ∧ 6 = 6 ∧ s.N = s.N ∧ ∀ (i j : Nat), i.succ.le s.N → j.succ.le 6 → pk s.g s.b i j = pk s.g s.b i j) ∧ (25 = 25 ∧ Value.int IntKind.i64 s.r1 = Value.int IntKind.i64 s.r1 ∧
  Value.int IntKind.i64 s.r2 = Value.int IntKind.i64 s.r2 ∧ Value.int IntKind.i64 s.r3 = Value.int IntKind.i64 s.r3 ∧ Value.int IntKind.i64 s.r4 = Value.int IntKind.i64 s.r4 ∧ Value.int IntKind.i64 0 = Value.int IntKind.i64 0 ∧ True) ∧ (33 = 33 ∧ 6 = 6 ∧ s.L = s.L ∧ ∀ (i j : Nat), i.succ.le s.L → j.succ.le 6 → pk s.g1 s.b1 i j = pk s.g1 s.b1 i j) ∧ (33 = 33 ∧ 6 = 6 ∧ s.R = s.R ∧
  ∀ (i j : Nat), i.succ.le s.R → j.succ.le 6 → pk s.g2 s.b2 i j = pk s.g2 s.b2 i j) ∧ (61 = 61 ∧ 3 = 3 ∧ len = len ∧ ∀ (i j : Nat), i.succ.le len → j.succ.le 3 → Value.int IntKind.i64 (h i j) = Value.int IntKind.i64 (h i j)) ∧ True) ∧ true = true) (K (AV.val (Value.bool false)))) False) False) False) False) (K (AV.val (Value.bool false))))) False) False) False) False) (ifb (decide (0 ≤ (↑i.n : Int) ∧
  (↑i.n : Int) < (↑s.N : Int))) (ifb (decide ((↑i.n : Int).toNat < s.N)) (ifb (decide (s.g (↑i.n : Int).toNat 0 ≤ k)) (ifb (decide (0 ≤ (↑i.n : Int) ∧ (↑i.n : Int) < (↑s.N : Int))) (ifb (decide ((↑i.n : Int).toNat < s.N)) (ifb (decide (3 ≤ IntKind.i64.wrap (k - s.g (↑i.n : Int).toNat 0))) (ifb (decide ((↑(ca i.n) : Int) < (↑s.L : Int))) (ifb (decide (0 ≤ (↑(ca i.n) : Int) ∧
  (↑(ca i.n) : Int) < (↑s.L : Int))) (ifb (decide ((↑(ca i.n) : Int).toNat < s.L)) (ifb (decide (0 ≤ (↑i.n : Int) ∧ (↑i.n : Int) < (↑s.N : Int))) (ifb (decide ((↑i.n : Int).toNat < s.N))
  (ifb (s.g1 (↑(ca i.n) : Int).toNat 0 == s.g (↑i.n : Int).toNat 0 && (s.g1 (↑(ca i.n) : Int).toNat 1 == s.g (↑i.n : Int).toNat 1 && (s.g1 (↑(ca i.n) : Int).toNat 2 == s.g (↑i.n : Int).toNat 2 && (s.b1 (↑(ca i.n) : Int).toNat 3 == s.b (↑i.n : Int).toNat 3 && (s.b1 (↑(ca i.n) : Int).toNat 4 == s.b (↑i.n : Int).toNat 4 && (s.b1 (↑(ca i.n) : Int).toNat 5 == s.b (↑i.n : Int).toNat 5 && true)))))) (∃ (i' : (annL s k n ca cb).I), (J i' ∧
  (s.N - i'.n).succ.le (s.N - i.n)) ∧ ((some 900007 = some 900007 ∧ s.N = s.N) ∧ (some 900108 = some 900108 ∧ 0 = 0) ∧ Value.int IntKind.i64 k = Value.int IntKind.i64 k ∧ Value.int IntKind.i64 n = Value.int IntKind.i64 n ∧ (some 900011 = some 900011 ∧ s.L = s.L) ∧ (some 900012 = some 900012 ∧ s.R = s.R) ∧
  Value.int IntKind.i64 (IntKind.i64.wrap ((↑(ca i.n) : Int) + 1)) = Value.int IntKind.i64 (↑(ca i'.n) : Int) ∧ Value.int IntKind.i64 (↑(cb i.n) : Int) = Value.int IntKind.i64 (↑(cb i'.n) : Int) ∧ Value.int IntKind.i64 (IntKind.i64.wrap ((↑i.n : Int) + 1)) = Value.int IntKind.i64 (↑i'.n : Int) ∧ True) ∧ ((33 = 33 ∧ 6 = 6 ∧ s.N = s.N ∧
  ∀ (i j : Nat), i.succ.le s.N → j.succ.le 6 → pk s.g s.b i j = pk s.g s.b i j) ∧ (25 = 25 ∧ Value.int IntKind.i64 s.r1 = Value.int IntKind.i64 s.r1 ∧ Value.int IntKind.i64 s.r2 = Value.int IntKind.i64 s.r2 ∧ Value.int IntKind.i64 s.r3 = Value.int IntKind.i64 s.r3 ∧ Value.int IntKind.i64 s.r4 = Value.int IntKind.i64 s.r4 ∧ Value.int IntKind.i64 0 = Value.int IntKind.i64 0 ∧ True) ∧ (33 = 33 ∧ 6 = 6 ∧
  s.L = s.L ∧ ∀ (i j : Nat), i.succ.le s.L → j.succ.le 6 → pk s.g1 s.b1 i j = pk s.g1 s.b1 i j) ∧ (33 = 33 ∧ 6 = 6 ∧ s.R = s.R ∧ ∀ (i j : Nat), i.succ.le s.R → j.succ.le 6 → pk s.g2 s.b2 i j = pk s.g2 s.b2 i j) ∧ (61 = 61 ∧ 3 = 3 ∧ len = len ∧ ∀ (i j : Nat), i.succ.le len → j.succ.le 3 → Value.int IntKind.i64 (h i j) = Value.int IntKind.i64 (h i j)) ∧ True) ∧ true = true)
  (K (AV.val (Value.bool false)))) False) False) False) False) (K (AV.val (Value.bool false)))) (ifb (decide ((↑(cb i.n) : Int) < (↑s.R : Int))) (ifb (decide (0 ≤ (↑(cb i.n) : Int) ∧ (↑(cb i.n) : Int) < (↑s.R : Int))) (ifb (decide ((↑(cb i.n) : Int).toNat < s.R)) (ifb (decide (0 ≤ (↑i.n : Int) ∧ (↑i.n : Int) < (↑s.N : Int))) (ifb (decide ((↑i.n : Int).toNat < s.N))
  (ifb (s.g2 (↑(cb i.n) : Int).toNat 0 == s.g (↑i.n : Int).toNat 0 && (s.g2 (↑(cb i.n) : Int).toNat 1 == s.g (↑i.n : Int).toNat 1 && (s.g2 (↑(cb i.n) : Int).toNat 2 == s.g (↑i.n : Int).toNat 2 && (s.b2 (↑(cb i.n) : Int).toNat 3 == s.b (↑i.n : Int).toNat 3 && (s.b2 (↑(cb i.n) : Int).toNat 4 == s.b (↑i.n : Int).toNat 4 && (s.b2 (↑(cb i.n) : Int).toNat 5 == s.b (↑i.n : Int).toNat 5 && true)))))) (∃ (i' : (annL s k n ca cb).I), (J i' ∧
  (s.N - i'.n).succ.le (s.N - i.n)) ∧ ((some 900007 = some 900007 ∧ s.N = s.N) ∧ (some 900108 = some 900108 ∧ 0 = 0) ∧ Value.int IntKind.i64 k = Value.int IntKind.i64 k ∧ Value.int IntKind.i64 n = Value.int IntKind.i64 n ∧ (some 900011 = some 900011 ∧ s.L = s.L) ∧ (some 900012 = some 900012 ∧ s.R = s.R) ∧ Value.int IntKind.i64 (↑(ca i.n) : Int) = Value.int IntKind.i64 (↑(ca i'.n) : Int) ∧
  Value.int IntKind.i64 (IntKind.i64.wrap ((↑(cb i.n) : Int) + 1)) = Value.int IntKind.i64 (↑(cb i'.n) : Int) ∧ Value.int IntKind.i64 (IntKind.i64.wrap ((↑i.n : Int) + 1)) = Value.int IntKind.i64 (↑i'.n : Int) ∧ True) ∧ ((33 = 33 ∧ 6 = 6 ∧ s.N = s.N ∧ ∀ (i j : Nat), i.succ.le s.N → j.succ.le 6 → pk s.g s.b i j = pk s.g s.b i j) ∧ (25 = 25 ∧ Value.int IntKind.i64 s.r1 = Value.int IntKind.i64 s.r1 ∧
  Value.int IntKind.i64 s.r2 = Value.int IntKind.i64 s.r2 ∧ Value.int IntKind.i64 s.r3 = Value.int IntKind.i64 s.r3 ∧ Value.int IntKind.i64 s.r4 = Value.int IntKind.i64 s.r4 ∧ Value.int IntKind.i64 0 = Value.int IntKind.i64 0 ∧ True) ∧ (33 = 33 ∧ 6 = 6 ∧ s.L = s.L ∧ ∀ (i j : Nat), i.succ.le s.L → j.succ.le 6 → pk s.g1 s.b1 i j = pk s.g1 s.b1 i j) ∧ (33 = 33 ∧ 6 = 6 ∧ s.R = s.R ∧
  ∀ (i j : Nat), i.succ.le s.R → j.succ.le 6 → pk s.g2 s.b2 i j = pk s.g2 s.b2 i j) ∧ (61 = 61 ∧ 3 = 3 ∧ len = len ∧ ∀ (i j : Nat), i.succ.le len → j.succ.le 3 → Value.int IntKind.i64 (h i j) = Value.int IntKind.i64 (h i j)) ∧ True) ∧ true = true) (K (AV.val (Value.bool false)))) False) False) False) False) (K (AV.val (Value.bool false))))) False) False)
  (ifb (decide ((↑(cb i.n) : Int) < (↑s.R : Int))) (ifb (decide (0 ≤ (↑(cb i.n) : Int) ∧ (↑(cb i.n) : Int) < (↑s.R : Int))) (ifb (decide ((↑(cb i.n) : Int).toNat < s.R)) (ifb (decide (0 ≤ (↑i.n : Int) ∧ (↑i.n : Int) < (↑s.N : Int))) (ifb (decide ((↑i.n : Int).toNat < s.N))
  (ifb (s.g2 (↑(cb i.n) : Int).toNat 0 == s.g (↑i.n : Int).toNat 0 && (s.g2 (↑(cb i.n) : Int).toNat 1 == s.g (↑i.n : Int).toNat 1 && (s.g2 (↑(cb i.n) : Int).toNat 2 == s.g (↑i.n : Int).toNat 2 && (s.b2 (↑(cb i.n) : Int).toNat 3 == s.b (↑i.n : Int).toNat 3 && (s.b2 (↑(cb i.n) : Int).toNat 4 == s.b (↑i.n : Int).toNat 4 && (s.b2 (↑(cb i.n) : Int).toNat 5 == s.b (↑i.n : Int).toNat 5 && true)))))) (∃ (i' : (annL s k n ca cb).I), (J i' ∧
  (s.N - i'.n).succ.le (s.N - i.n)) ∧ ((some 900007 = some 900007 ∧ s.N = s.N) ∧ (some 900108 = some 900108 ∧ 0 = 0) ∧ Value.int IntKind.i64 k = Value.int IntKind.i64 k ∧ Value.int IntKind.i64 n = Value.int IntKind.i64 n ∧ (some 900011 = some 900011 ∧ s.L = s.L) ∧ (some 900012 = some 900012 ∧ s.R = s.R) ∧ Value.int IntKind.i64 (↑(ca i.n) : Int) = Value.int IntKind.i64 (↑(ca i'.n) : Int) ∧
  Value.int IntKind.i64 (IntKind.i64.wrap ((↑(cb i.n) : Int) + 1)) = Value.int IntKind.i64 (↑(cb i'.n) : Int) ∧ Value.int IntKind.i64 (IntKind.i64.wrap ((↑i.n : Int) + 1)) = Value.int IntKind.i64 (↑i'.n : Int) ∧ True) ∧ ((33 = 33 ∧ 6 = 6 ∧ s.N = s.N ∧ ∀ (i j : Nat), i.succ.le s.N → j.succ.le 6 → pk s.g s.b i j = pk s.g s.b i j) ∧ (25 = 25 ∧ Value.int IntKind.i64 s.r1 = Value.int IntKind.i64 s.r1 ∧
  Value.int IntKind.i64 s.r2 = Value.int IntKind.i64 s.r2 ∧ Value.int IntKind.i64 s.r3 = Value.int IntKind.i64 s.r3 ∧ Value.int IntKind.i64 s.r4 = Value.int IntKind.i64 s.r4 ∧ Value.int IntKind.i64 0 = Value.int IntKind.i64 0 ∧ True) ∧ (33 = 33 ∧ 6 = 6 ∧ s.L = s.L ∧ ∀ (i j : Nat), i.succ.le s.L → j.succ.le 6 → pk s.g1 s.b1 i j = pk s.g1 s.b1 i j) ∧ (33 = 33 ∧ 6 = 6 ∧ s.R = s.R ∧
  ∀ (i j : Nat), i.succ.le s.R → j.succ.le 6 → pk s.g2 s.b2 i j = pk s.g2 s.b2 i j) ∧ (61 = 61 ∧ 3 = 3 ∧ len = len ∧ ∀ (i j : Nat), i.succ.le len → j.succ.le 3 → Value.int IntKind.i64 (h i j) = Value.int IntKind.i64 (h i j)) ∧ True) ∧ true = true) (K (AV.val (Value.bool false)))) False) False) False) False) (K (AV.val (Value.bool false))))) False) False)) False) False)
  (ifb ((↑(ca i.n) : Int) == (↑s.L : Int)) (K (AV.val (Value.bool ((↑(cb i.n) : Int) == (↑s.R : Int))))) (K (AV.val (Value.bool false))))))) False) False) False) := by
  kernel_rfl

end Go.Proofs.Ytmaddijeiniliaa.Ls
