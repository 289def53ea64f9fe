/-
  PtoC: Due, Bring, Persist, the examples.
-/
import Derived.Test.YtppebpacelcndaaPtoB
namespace Go.Proofs.Ytppebpacelcndaa.Pto
open Go Go.RowKit Go.Proofs.Ytppebpacelcndaa.Sy
set_option linter.unusedVariables false
set_option linter.unusedSimpArgs false

theorem due_both (a b : Int) : ifb (decide (a < 0)) (AV.val (Value.int IntKind.i64 (-1)) = iv (dueF a b))
        (ifb (decide (9007199254740991 < a)) (AV.val (Value.int IntKind.i64 (-1)) = iv (dueF a b))
          (AV.val (Value.int IntKind.i64 (max 0 (min (IntKind.i64.wrap (a + max 0 (min b 9007199254740991))) 9007199254740991))) = iv (dueF a b))) := by
  simp only [ifb_ite, decide_eq_true_eq]
  refine ite_in (fun h => iv_eq (if_neg (by omega)).symm) fun h => ite_in (fun h => iv_eq (if_neg (by omega)).symm) fun h => iv_eq ?_
  have hx0 := tm_lo b
  have hx1 := tm_hi b
  unfold dueF
  rw [if_pos (by omega), wr (by omega) (by omega)]
  rfl
theorem due_is (a b : Int) : afn C0 100 17 [iv a, iv b] [] 0 (fun v _ _ => v = iv (dueF a b)) := by
  rw [due_ev a b (fun v => v = iv (dueF a b))]
  have h := due_both a b
  simp only [ifb_ite, decide_eq_true_eq, bne_iff_ne] at h ⊢
  by_cases h1 : a < 0
  · rw [if_pos (by omega)]; rwa [if_pos h1] at h
  · rw [if_neg h1] at h
    by_cases h2 : 9007199254740991 < a
    · rw [if_pos (by omega)]; rwa [if_pos h2] at h
    · rw [if_neg (by omega)]; rwa [if_neg h2] at h
theorem rdue_is (a b : Int) : afn C0 100 18 [iv a, iv b] [] 0 (fun v _ _ => v = iv (dueF a b)) := by
  rw [rdue_ev a b (fun v => v = iv (dueF a b))]
  exact due_both a b
def gDue : List AV → Option AV
  | [.val (.int .i64 a), .val (.int .i64 b)] => some (iv (dueF a b))
  | _ => none
theorem eDue : EntryOK Try.prog 17 (plain gDue) := entry_closed S0 (by kernel_rfl) fun args v h => by
  unfold gDue at h
  split at h
  · cases h; exact ⟨rfl, rfl, 100, due_is _ _⟩
  · cases h
theorem eRDue : EntryOK Try.prog 18 (plain gDue) := entry_closed S0 (by kernel_rfl) fun args v h => by
  unfold gDue at h
  split at h
  · cases h; exact ⟨rfl, rfl, 100, rdue_is _ _⟩
  · cases h

/-! ### Bring -/
theorem tmod_lo {a b : Int} (hb : 0 < b) : -b < a.tmod b ∧ a.tmod b < b := by
  have h1 := Int.tmod_lt_of_pos a hb
  have h2 := Int.lt_tmod_of_pos a hb
  omega
theorem brF_neg {a b : Int} (hb : 0 < b) (h : a.tmod b < 0) : a.tmod b + b = a % b := by
  have h1 := Int.tmod_eq_emod (a := a) (b := b)
  have h2 := Int.emod_nonneg a (by omega : b ≠ 0)
  have h3 : (b.natAbs : Int) = b := by omega
  split at h1 <;> omega
theorem brF_pos {a b : Int} (hb : 0 < b) (h : ¬ a.tmod b < 0) : a.tmod b = a % b := by
  have h1 := Int.tmod_eq_emod (a := a) (b := b)
  have h2 := Int.emod_nonneg a (by omega : b ≠ 0)
  have h3 := Int.emod_lt_of_pos a hb
  have h4 : (b.natAbs : Int) = b := by omega
  split at h1 <;> omega
theorem bring_is (a b : Int) (h0 : 0 < b) (h1 : b ≤ 9223372036854775807) : afn C0 100 20 [iv a, iv b] [] 0 (fun v _ _ => v = iv (brF a b)) := by
  rw [bring_ev a b (fun v => v = iv (brF a b))]
  simp only [ifb_ite, decide_eq_true_eq, bne_iff_ne]
  rw [if_pos (by omega)]
  have h2 := tmod_lo (a := a) h0
  refine ite_in (fun h => iv_eq ?_) fun h => iv_eq (brF_pos h0 h)
  rw [wr (by omega) (by omega)]
  exact brF_neg h0 h
def gBring : List AV → Option (Bool × AV)
  | [.val (.int .i64 a), .val (.int .i64 b)] => some (decide (0 < b) && decide (b ≤ 9223372036854775807), iv (brF a b))
  | _ => none
theorem eBring : EntryOK Try.prog 20 (fun a _ => gBring a) := entry_if (by kernel_rfl) fun args v h => by
  unfold gBring at h
  split at h
  · simp only [Option.some.injEq, Prod.mk.injEq, Bool.and_eq_true, decide_eq_true_eq] at h
    obtain ⟨⟨h1, h2⟩, rfl⟩ := h
    exact ⟨rfl, rfl, C0, S0, rfl, 100, bring_is _ _ h1 h2⟩
  · cases h

/-! ### Persist; the examples -/
noncomputable def T2 : List (Nat × Entry) := [(10, plain gBase), (11, plain gBase), (15, plain gBacked), (16, plain gBacked), (17, plain gDue), (18, plain gDue), (20, fun a _ => gBring a)]
noncomputable def C2 : Cfg := ⟨Try.prog, mkT T2, fun f => hasN inl0 f, fun _ _ => none⟩
theorem T2_ok : ∀ k e, (k, e) ∈ T2 → EntryOK Try.prog k e := entries_cons eBase (entries_cons eRBase (entries_cons eBacked (entries_cons eRBacked (entries_cons eDue (entries_cons eRDue (entries_cons eBring entries_nil))))))
theorem S2 : Sound C2 := ⟨tab_of T2_ok, fun f h => entersB_ok (allN_ok inl0_ok f h), mixed⟩
theorem persist_ev (a b c d e x : Int) (K : AV → Prop) : (afn C2 100 12 [rv a b c d e, iv x] [] 0 (fun v _ _ => K v)) = (
      K (AV.val (Value.int IntKind.i64 (max 0 (min (IntKind.i64.wrap (3 * baseF a b c d e 2 x)) 9007199254740991))))) := by
  kernel_rfl
theorem rpersist_ev (a b c d e x : Int) (K : AV → Prop) : (afn C2 100 13 [rv a b c d e, iv x] [] 0 (fun v _ _ => K v)) = (
      K (AV.val (Value.int IntKind.i64 (max 0 (min (IntKind.i64.wrap (3 * baseF a b c d e 2 x)) 9007199254740991))))) := by
  kernel_rfl
theorem per_leaf (a b c d e x : Int) : AV.val (Value.int IntKind.i64 (max 0 (min (IntKind.i64.wrap (3 * baseF a b c d e 2 x)) 9007199254740991))) = iv (perF a b c d e x) := by
  have h := baseF_lo a b c d e 2 x
  rw [wr (by omega) (by omega)]
  rfl
theorem persist_is (a b c d e x : Int) : afn C2 100 12 [rv a b c d e, iv x] [] 0 (fun v _ _ => v = iv (perF a b c d e x)) := by
  rw [persist_ev a b c d e x (fun v => v = iv (perF a b c d e x))]
  exact per_leaf a b c d e x
theorem rpersist_is (a b c d e x : Int) : afn C2 100 13 [rv a b c d e, iv x] [] 0 (fun v _ _ => v = iv (perF a b c d e x)) := by
  rw [rpersist_ev a b c d e x (fun v => v = iv (perF a b c d e x))]
  exact per_leaf a b c d e x
def gPer : List AV → Option AV
  | [.agg [.val (.int .i64 a), .val (.int .i64 b), .val (.int .i64 c), .val (.int .i64 d), .val (.int .i64 e)], .val (.int .i64 x)] => some (iv (perF a b c d e x))
  | _ => none
theorem ePer : EntryOK Try.prog 12 (plain gPer) := entry_closed S2 (by kernel_rfl) fun args v h => by
  unfold gPer at h
  split at h
  · cases h; exact ⟨rfl, rfl, 100, persist_is _ _ _ _ _ _⟩
  · cases h
theorem eRPer : EntryOK Try.prog 13 (plain gPer) := entry_closed S2 (by kernel_rfl) fun args v h => by
  unfold gPer at h
  split at h
  · cases h; exact ⟨rfl, rfl, 100, rpersist_is _ _ _ _ _ _⟩
  · cases h

noncomputable def T3 : List (Nat × Entry) := (12, plain gPer) :: (13, plain gPer) :: T2
noncomputable def C3 : Cfg := ⟨Try.prog, mkT T3, fun f => hasN inl0 f, fun _ _ => none⟩
theorem T3_ok : ∀ k e, (k, e) ∈ T3 → EntryOK Try.prog k e := entries_cons ePer (entries_cons eRPer T2_ok)
theorem S3 : Sound C3 := ⟨tab_of T3_ok, fun f h => entersB_ok (allN_ok inl0_ok f h), mixed⟩
theorem works_ev (K : AV → Prop) : afn C3 100 14 [] [] 0 (fun v _ _ => K v) = K (bv true) := by kernel_rfl
def gWorks : List AV → Option AV
  | [] => some (bv true)
  | _ => none
theorem eWorks : EntryOK Try.prog 14 (plain gWorks) := entry_closed S3 (by kernel_rfl) fun args v h => by
  unfold gWorks at h
  split at h
  · cases h; exact ⟨rfl, rfl, 100, by rw [works_ev]⟩
  · cases h

noncomputable def T4 : List (Nat × Entry) := (14, plain gWorks) :: T3
noncomputable def C4 : Cfg := ⟨Try.prog, mkT T4, fun f => hasN inl0 f, fun _ _ => none⟩
theorem T4_ok : ∀ k e, (k, e) ∈ T4 → EntryOK Try.prog k e := entries_cons eWorks T3_ok
theorem S4 : Sound C4 := ⟨tab_of T4_ok, fun f h => entersB_ok (allN_ok inl0_ok f h), mixed⟩

theorem tells_ev (a b c d e s x : Int) (K : AV → Prop) : (afn C4 100 3 [rv a b c d e, iv s, iv x] [] 0 (fun v _ _ => K v)) = (
      ifb (baseF a b c d e s x == baseF a b c d e s x)
        (ifb (perF a b c d e x == perF a b c d e x) (K (AV.val (Value.bool true))) (K (AV.val (Value.bool false))))
        (K (AV.val (Value.bool false)))) := by
  kernel_rfl
theorem backs_ev (a b c : Int) (K : AV → Prop) : (afn C4 100 4 [iv a, iv b, iv c] [] 0 (fun v _ _ => K v)) = (
      ifb (bkF a b c == bkF a b c)
        (ifb (dueF a b == dueF a b)
          (ifb (dueF b c == dueF b c) (K (AV.val (Value.bool true))) (K (AV.val (Value.bool false))))
          (K (AV.val (Value.bool false))))
        (K (AV.val (Value.bool false)))) := by
  kernel_rfl
theorem measure_ev (a b c d : Int) (K : AV → Prop) : (afn C4 100 19 [.agg [iv a, iv b, iv c, iv d]] [] 0 (fun v _ _ => K v)) = (
      ifb
        (decide (0 < IntKind.i64.wrap (9007199254740992 - brF a 9007199254740992)) &&
          decide (IntKind.i64.wrap (9007199254740992 - brF a 9007199254740992) ≤ 9223372036854775807))
        (ifb
          (decide (0 < IntKind.i64.wrap (9007199254740992 - brF a 9007199254740992)) &&
            decide (IntKind.i64.wrap (9007199254740992 - brF a 9007199254740992) ≤ 9223372036854775807))
          (K
            (AV.agg
              [AV.val
                  (Value.int IntKind.i64
                    (IntKind.i64.wrap
                      (brF a 9007199254740992 + brF b (IntKind.i64.wrap (9007199254740992 - brF a 9007199254740992))))),
                AV.val (Value.int IntKind.i64 (brF a 9007199254740992)),
                AV.val
                  (Value.int IntKind.i64
                    (IntKind.i64.wrap
                      (brF a 9007199254740992 + brF c (IntKind.i64.wrap (9007199254740992 - brF a 9007199254740992))))),
                AV.val (Value.int IntKind.i64 (brF d 9007199254740992)), AV.val (Value.int IntKind.i64 0)]))
          False)
        False) := by
  kernel_rfl
theorem new_ev (a : Int) (K : AV → Prop) : (afn C4 100 6 [iv a] [] 0 (fun v _ _ => K v)) = (
      ifb
        (baseF 0 0 (IntKind.i64.wrap (1000000 + brF a 59999000001))
            (IntKind.i64.wrap ((IntKind.i64.wrap (1000000 + brF a 59999000001)).tdiv 2)) (-1) 0 9 ==
          IntKind.i64.wrap
            (IntKind.i64.wrap (1000000 + brF a 59999000001) +
              IntKind.i64.wrap (4 * IntKind.i64.wrap ((IntKind.i64.wrap (1000000 + brF a 59999000001)).tdiv 2))))
        (ifb
          (baseF 0 0 (IntKind.i64.wrap (1000000 + brF a 59999000001))
              (IntKind.i64.wrap ((IntKind.i64.wrap (1000000 + brF a 59999000001)).tdiv 2)) (-1) 1 9 ==
            baseF 0 0 (IntKind.i64.wrap (1000000 + brF a 59999000001))
              (IntKind.i64.wrap ((IntKind.i64.wrap (1000000 + brF a 59999000001)).tdiv 2)) (-1) 0 0)
          (ifb
            (baseF 0 0 (IntKind.i64.wrap (1000000 + brF a 59999000001))
                (IntKind.i64.wrap ((IntKind.i64.wrap (1000000 + brF a 59999000001)).tdiv 2)) (-1) 2 9 ==
              IntKind.i64.wrap
                (baseF 0 0 (IntKind.i64.wrap (1000000 + brF a 59999000001))
                    (IntKind.i64.wrap ((IntKind.i64.wrap (1000000 + brF a 59999000001)).tdiv 2)) (-1) 0 0 +
                  9))
            (K (AV.val (Value.bool true))) (K (AV.val (Value.bool false))))
          (K (AV.val (Value.bool false))))
        (K (AV.val (Value.bool false)))) := by
  kernel_rfl
theorem order_ev (a b c x y z : Int) (K : AV → Prop) : (afn C4 100 7 [.agg [iv a, iv b, iv c], .agg [iv x, iv y, iv z]] [] 0 (fun v _ _ => K v)) = (
      ifb (decide (bkF (brF a 9007199254740992) (brF b 64) (brF c 64) < brF a 9007199254740992))
        (K (AV.val (Value.bool false)))
        (ifb (decide (9007199254740991 < bkF (brF a 9007199254740992) (brF b 64) (brF c 64))) (K (AV.val (Value.bool false)))
          (ifb
            (decide (0 < IntKind.i64.wrap (9007199254740992 - brF a 9007199254740992)) &&
              decide (IntKind.i64.wrap (9007199254740992 - brF a 9007199254740992) ≤ 9223372036854775807))
            (ifb
              (decide
                (bkF
                    (IntKind.i64.wrap
                      (brF a 9007199254740992 + brF x (IntKind.i64.wrap (9007199254740992 - brF a 9007199254740992))))
                    (brF b 64) (brF c 64) <
                  bkF (brF a 9007199254740992) (brF b 64) (brF c 64)))
              (K (AV.val (Value.bool false)))
              (ifb
                (decide
                  (bkF (brF a 9007199254740992) (IntKind.i64.wrap (brF b 64 + brF y 64)) (brF c 64) <
                    bkF (brF a 9007199254740992) (brF b 64) (brF c 64)))
                (K (AV.val (Value.bool false)))
                (ifb
                  (decide
                    (bkF (brF a 9007199254740992) (brF b 64) (IntKind.i64.wrap (brF c 64 + brF z 64)) <
                      bkF (brF a 9007199254740992) (brF b 64) (brF c 64)))
                  (K (AV.val (Value.bool false)))
                  (ifb
                    (bkF (brF a 9007199254740992) (brF c 64) (brF c 64) ==
                      bkF (brF a 9007199254740992) (IntKind.i64.wrap (brF c 64 + brF y 1099511627776)) (brF c 64))
                    (K (AV.val (Value.bool true))) (K (AV.val (Value.bool false)))))))
            False))) := by
  kernel_rfl

theorem beq_self (a : Int) : (a == a) = true := by simp
theorem tells_is (a b c d e s x : Int) : afn C4 100 3 [rv a b c d e, iv s, iv x] [] 0 (fun v _ _ => v = bv true) := by
  rw [tells_ev a b c d e s x (fun v => v = bv true)]
  exact ifb_pos (beq_self _) (ifb_pos (beq_self _) rfl)
theorem backs_is (a b c : Int) : afn C4 100 4 [iv a, iv b, iv c] [] 0 (fun v _ _ => v = bv true) := by
  rw [backs_ev a b c (fun v => v = bv true)]
  exact ifb_pos (beq_self _) (ifb_pos (beq_self _) (ifb_pos (beq_self _) rfl))

end Go.Proofs.Ytppebpacelcndaa.Pto
