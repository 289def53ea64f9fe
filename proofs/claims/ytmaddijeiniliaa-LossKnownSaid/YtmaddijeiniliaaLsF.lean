/-
  LsF: Find's reference; both as entries; packets that are the same.
-/
import Derived.Test.YtmaddijeiniliaaLsE
namespace Go.Proofs.Ytmaddijeiniliaa.Ls
open Go Go.RowKit Go.Proofs.Ytmaddijeiniliaa.Sy Go.Proofs.Ytmaddijeiniliaa.Cm
set_option linter.unusedVariables false
set_option linter.unusedSimpArgs false
set_option maxRecDepth 100000
set_option maxHeartbeats 1000000
attribute [local irreducible] afn

theorem ch_two {g : Nat → Nat → Int} {len : Nat} (h : ¬ chF g len = 0) : chF g len = 2 := by
  by_cases hl : okL g len
  · exact absurd (chF_yes hl) h
  · exact chF_no hl
theorem rfind_is (len : Nat) (g : Nat → Nat → Int) (b : Nat → Nat → Bool) (r1 r2 r3 r4 r5 k n : Int) : afn (CF len g b r1 r2 r3 r4 r5 k n (wtF r1 r2 r3 r4 r5)) 100 12 [.view 0 6 0 len, iv k, iv n, rv r1 r2 r3 r4 r5] [(0, some (.row 33 6 len (pk g b)))] 1
    (fun v h _ => Res g b len k n (wtF r1 r2 r3 r4 r5) (feF g len k n r1 r2 r3 r4 r5) v (bk1 v h) (bk2 v h)) := by
  rw [rfind_ev len g b r1 r2 r3 r4 r5 k n (fun v B1 B2 => Res g b len k n (wtF r1 r2 r3 r4 r5) (feF g len k n r1 r2 r3 r4 r5) v B1 B2)]
  have hw := wtF_lo r1 r2 r3 r4 r5
  rw [pk_pk, chF_congr (asG_pk g b)]
  generalize wtF r1 r2 r3 r4 r5 = w at *
  refine ifb_pos (by simp) ?_
  refine ifb_of (fun h1 => res_err ?_ (by simpa using h1)) fun h1 => ifb_of (fun h2 => res_err ?_ (by decide)) fun h2 => ifb_of (fun h3 => res_err ?_ (by decide)) fun h3 => ifb_of (fun h4 => res_err ?_ (by decide)) fun h4 => ifb_of (fun h5 => res_err ?_ (by simpa using h5)) fun h5 => ?_
  · unfold feF
    rw [if_pos (by simpa using h1)]
    exact (ch_two (by simpa using h1)).symm
  all_goals have h1 : chF g len = 0 := by simpa using h1
  · have := of_decide_eq_true h2
    unfold feF
    rw [if_neg (by rw [h1]; simp), if_pos (.inl this)]
  · have := of_decide_eq_true h3
    unfold feF
    rw [if_neg (by rw [h1]; simp), if_pos (.inr (.inl this))]
  · unfold feF
    rw [if_neg (by rw [h1]; simp), if_pos (.inr (.inr (by simpa using h4)))]
  all_goals have h2 : ¬ k < -1 := of_decide_eq_false h2
  all_goals have h3 : ¬ 9007199254740991 < k := of_decide_eq_false h3
  all_goals have h4' : isN n = true := by simpa using h4
  · unfold feF
    rw [if_neg (by rw [h1]; simp), if_neg (by rw [h4']; simp; omega)]
  have h5' : ckF r1 r2 r3 r4 r5 = 0 := by simpa using h5
  have hE : feF g len k n r1 r2 r3 r4 r5 = 0 := by
    unfold feF
    rw [if_neg (by rw [h1]; simp), if_neg (by rw [h4']; simp; omega), h5']
  have hok : okL g len := by
    by_cases h : okL g len
    · exact h
    · rw [chF_no h] at h1; cases h1
  have hn := isN_yes h4
  refine ⟨fun x => x.n ≤ len, ⟨⟨0⟩, Nat.zero_le _, ?_⟩, ?_⟩
  · repeat' first | exact trivial | exact rfl | (intro _ _ _ _; rfl) | refine ⟨?_, ?_⟩
  rintro ⟨m⟩ hm
  have hm : m ≤ len := hm
  have e : 0 + ((m : Nat) : Int).toNat = m := by omega
  dsimp only
  rw [e]
  have h256 := hok.1
  refine ifb_of (fun h6 => ?_) fun h6 => ?_
  · have h6 : (m : Int) < (len : Int) := of_decide_eq_true h6
    have hp := hok.2 m (by omega)
    have h0 := ok_lo hok m (by omega)
    have hp1 := hp.2.1
    have hp2 := hp.2.2.1
    have w1 : IntKind.i64.wrap (k - 3) = k - 3 := wr (by omega) (by omega)
    have w2 : IntKind.i64.wrap (g m 1 + w) = g m 1 + w := wr (by omega) (by omega)
    rw [w1, w2]
    have hL := ls_len (g := g) (k := k) (n := n) (w := w) m
    have bl : (true && decide ((lsL g k n w m).length = (lsL g k n w m).length) && decide (((lsL g k n w m).length + 1) * 32 ≤ 140737488355328)) = true := by simp; omega
    have br : (true && decide ((rsL g k n w m).length = (rsL g k n w m).length) && decide (((rsL g k n w m).length + 1) * 32 ≤ 140737488355328)) = true := by simp; omega
    have hvs := vi_succ (n := m) (by omega)
    have hle := less m len (by omega)
    have hmj : m + 1 ≤ len := by omega
    have hin1 : decide (0 ≤ (m : Int) ∧ (m : Int) < (len : Int)) = true := decide_eq_true (by omega)
    have hin2 : decide (m < len) = true := decide_eq_true (by omega)
    have hlost : ∀ {T : Prop}, lostP g k n w m = true → ((lsL g k n w m).length + 1 = (lsL g k n w (m + 1)).length → (rsL g k n w m).length = (rsL g k n w (m + 1)).length → Value.int .i64 (atF g k n w m) = Value.int .i64 (atF g k n w (m + 1)) →
        (∀ i j : Nat, i.succ.le (lsL g k n w (m + 1)).length → j.succ.le 6 → (if i < (lsL g k n w m).length then subQ g b (lsL g k n w m) i j else [pk g b m 0, pk g b m 1, pk g b m 2, pk g b m 3, pk g b m 4, pk g b m 5][(i - (lsL g k n w m).length) * 6 + j]?.getD undef) = subQ g b (lsL g k n w (m + 1)) i j) →
        (∀ i j : Nat, i.succ.le (rsL g k n w (m + 1)).length → j.succ.le 6 → subQ g b (rsL g k n w m) i j = subQ g b (rsL g k n w (m + 1)) i j) → T) → T := by
      intro T hl hT
      obtain ⟨e1, e2⟩ := ls_yes hl
      refine hT (by rw [e1]; simp) (by rw [e2]) (vi_eq ?_) (fun i j hi hj => sub_app e1 hi hj) (fun i j _ _ => congrArg (fun l => subQ g b l i j) e2.symm)
      exact (if_pos hl).symm
    have hrest : ∀ {T : Prop} {a : Int}, lostP g k n w m = false → a = atF g k n w (m + 1) → ((lsL g k n w m).length = (lsL g k n w (m + 1)).length → (rsL g k n w m).length + 1 = (rsL g k n w (m + 1)).length → Value.int .i64 a = Value.int .i64 (atF g k n w (m + 1)) →
        (∀ i j : Nat, i.succ.le (rsL g k n w (m + 1)).length → j.succ.le 6 → (if i < (rsL g k n w m).length then subQ g b (rsL g k n w m) i j else [pk g b m 0, pk g b m 1, pk g b m 2, pk g b m 3, pk g b m 4, pk g b m 5][(i - (rsL g k n w m).length) * 6 + j]?.getD undef) = subQ g b (rsL g k n w (m + 1)) i j) →
        (∀ i j : Nat, i.succ.le (lsL g k n w (m + 1)).length → j.succ.le 6 → subQ g b (lsL g k n w m) i j = subQ g b (lsL g k n w (m + 1)) i j) → T) → T := by
      intro T a hl ha hT
      obtain ⟨e1, e2⟩ := ls_no hl
      exact hT (by rw [e1]) (by rw [e2]; simp) (vi_eq ha) (fun i j hi hj => sub_app e2 hi hj) (fun i j _ _ => congrArg (fun l => subQ g b l i j) e1.symm)
    have at_no : lostP g k n w m = false → atF g k n w (m + 1) = if g m 0 ≤ k ∧ (atF g k n w m = -1 ∨ min (g m 1 + w) 9007199254740991 < atF g k n w m) then min (g m 1 + w) 9007199254740991 else atF g k n w m := by
      intro hl
      show (if lostP g k n w m = true then _ else _) = _
      rw [if_neg (by rw [hl]; simp)]
    repeat' first | refine ifb_pos hin1 ?_ | refine ifb_pos hin2 ?_ | refine ifb_pos bl ?_ | refine ifb_pos br ?_ | fail
    refine ifb_of (fun h7 => ?_) fun h7 => ?_
    · have h7 := of_decide_eq_true h7
      repeat' first | refine ifb_pos hin1 ?_ | refine ifb_pos hin2 ?_ | refine ifb_pos bl ?_ | refine ifb_pos br ?_ | fail
      refine ifb_of (fun h8 => ?_) fun h8 => ?_
      · have h8 := of_decide_eq_true h8
        repeat' first | refine ifb_pos hin1 ?_ | refine ifb_pos hin2 ?_ | refine ifb_pos bl ?_ | refine ifb_pos br ?_ | fail
        refine hlost (decide_eq_true ⟨h7, .inl (by omega)⟩) fun x1 x2 x3 x4 x5 => ⟨⟨m + 1⟩, ⟨hmj, hle⟩, ?_⟩
        repeat' first | exact trivial | exact x1 | exact x2 | exact x3 | exact x4 | exact x5 | exact hvs | exact rfl | (intro _ _ _ _; rfl) | refine ⟨?_, ?_⟩
      · have h8 := of_decide_eq_false h8
        refine ifb_of (fun h9 => ?_) fun h9 => ?_
        · have h9 := of_decide_eq_true h9
          repeat' first | refine ifb_pos hin1 ?_ | refine ifb_pos hin2 ?_ | refine ifb_pos bl ?_ | refine ifb_pos br ?_ | fail
          refine hlost (decide_eq_true ⟨h7, .inr h9⟩) fun x1 x2 x3 x4 x5 => ⟨⟨m + 1⟩, ⟨hmj, hle⟩, ?_⟩
          repeat' first | exact trivial | exact x1 | exact x2 | exact x3 | exact x4 | exact x5 | exact hvs | exact rfl | (intro _ _ _ _; rfl) | refine ⟨?_, ?_⟩
        · have h9 := of_decide_eq_false h9
          have hl : lostP g k n w m = false := decide_eq_false (by omega)
          repeat' first | refine ifb_pos hin1 ?_ | refine ifb_pos hin2 ?_ | refine ifb_pos bl ?_ | refine ifb_pos br ?_ | fail
          refine ifb_pos (decide_eq_true h7) (ifb_of (fun h10 => ?_) fun h10 => ifb_of (fun h11 => ?_) fun h11 => ?_)
          · have h10 : atF g k n w m = -1 := by simpa using h10
            refine hrest (a := min (g m 1 + w) 9007199254740991) hl (by rw [at_no hl, if_pos ⟨h7, .inl h10⟩]) fun x1 x2 x3 x4 x5 => ⟨⟨m + 1⟩, ⟨hmj, hle⟩, ?_⟩
            repeat' first | exact trivial | exact x1 | exact x2 | exact x3 | exact x4 | exact x5 | exact hvs | exact rfl | (intro _ _ _ _; rfl) | refine ⟨?_, ?_⟩
          · have h11 := of_decide_eq_true h11
            refine hrest (a := min (g m 1 + w) 9007199254740991) hl (by rw [at_no hl, if_pos ⟨h7, .inr h11⟩]) fun x1 x2 x3 x4 x5 => ⟨⟨m + 1⟩, ⟨hmj, hle⟩, ?_⟩
            repeat' first | exact trivial | exact x1 | exact x2 | exact x3 | exact x4 | exact x5 | exact hvs | exact rfl | (intro _ _ _ _; rfl) | refine ⟨?_, ?_⟩
          · have h10 : ¬ atF g k n w m = -1 := by simpa using h10
            have h11 := of_decide_eq_false h11
            refine hrest (a := atF g k n w m) hl (by rw [at_no hl, if_neg (fun h => h.2.elim h10 h11)]) fun x1 x2 x3 x4 x5 => ⟨⟨m + 1⟩, ⟨hmj, hle⟩, ?_⟩
            repeat' first | exact trivial | exact x1 | exact x2 | exact x3 | exact x4 | exact x5 | exact hvs | exact rfl | (intro _ _ _ _; rfl) | refine ⟨?_, ?_⟩
    · have h7' := of_decide_eq_false h7
      have hl : lostP g k n w m = false := decide_eq_false (by omega)
      repeat' first | refine ifb_pos hin1 ?_ | refine ifb_pos hin2 ?_ | refine ifb_pos bl ?_ | refine ifb_pos br ?_ | fail
      refine ifb_neg h7 ?_
      refine hrest (a := atF g k n w m) hl (by rw [at_no hl, if_neg (fun h => h7' h.1)]) fun x1 x2 x3 x4 x5 => ⟨⟨m + 1⟩, ⟨hmj, hle⟩, ?_⟩
      repeat' first | exact trivial | exact x1 | exact x2 | exact x3 | exact x4 | exact x5 | exact hvs | exact rfl | (intro _ _ _ _; rfl) | refine ⟨?_, ?_⟩
  · have h6 := of_decide_eq_false h6
    have em : m = len := by omega
    subst em
    exact res_ok hE (by decide)


/-! entries -/
theorem eDue1 : EntryOK Try.prog 37 gDue := entry_ptr (by kernel_rfl) fun args fh v h => by
  unfold gDue at h
  split at h
  · rename_i n t s x y z i
    split at h
    · rename_i t1 w h1
      cases h
      refine ⟨rfl, [.agg [iv n, iv t, iv s, bv x, bv y, bv z], .elt 1 1 0 0], [(1, some (.row t1 1 1 fun _ q' => nthV [.int .i64 w] q'))], ?_, C3, S3, rfl, 100, ?_⟩
      · simp only [ptrsOf, closedL, closedV, h1, valsOf, allOne, AV.one, Value.oneCell', Bool.and_true, List.length_cons, List.length_nil]
      · show afn C3 100 _ _ _ 2 _
        rw [due_ev n t s w x y z t1 (fun v => v = iv (IntKind.i64.wrap (t + w)))]
    · cases h
  · cases h
theorem T4_ok : ∀ k e, (k, e) ∈ T4 → EntryOK Try.prog k e := entries_cons eDue1 (entries_cons eChk (entries_cons eRChk T3_ok))
theorem SF (len : Nat) (g : Nat → Nat → Int) (b : Nat → Nat → Bool) (r1 r2 r3 r4 r5 k n w : Int) : Sound (CF len g b r1 r2 r3 r4 r5 k n w) := ⟨tab_of T4_ok, fun f h => entersB_ok (allN_ok inlF_ok f h), mixed⟩
noncomputable def gFind (q : Nat → Nat → Value) (len : Nat) : List AV → Option (Bool × TypeId × Nat × (Nat × (Nat → Nat → Value)) × (Nat × (Nat → Nat → Value)) × List Value)
  | [.val (.int .i64 k), .val (.int .i64 n), .agg [.val (.int .i64 r1), .val (.int .i64 r2), .val (.int .i64 r3), .val (.int .i64 r4), .val (.int .i64 r5)]] =>
    some (isPk len q, 33, 6, (if feF (asG q) len k n r1 r2 r3 r4 r5 = 0 then (lsL (asG q) k n (wtF r1 r2 r3 r4 r5) len).length else 0, subQ (asG q) (asB q) (lsL (asG q) k n (wtF r1 r2 r3 r4 r5) len)),
      (if feF (asG q) len k n r1 r2 r3 r4 r5 = 0 then (rsL (asG q) k n (wtF r1 r2 r3 r4 r5) len).length else 0, subQ (asG q) (asB q) (rsL (asG q) k n (wtF r1 r2 r3 r4 r5) len)),
      [.int .i64 (if feF (asG q) len k n r1 r2 r3 r4 r5 = 0 then atF (asG q) k n (wtF r1 r2 r3 r4 r5) len else 0), .int .i64 (feF (asG q) len k n r1 r2 r3 r4 r5)])
  | _ => none
theorem eFind : MEntryOK Try.prog 11 (rowM 6 gFind) := mentry_row (tyr := 33) (by kernel_rfl) fun q len rest ty esz' N1 q1 N2 q2 vals h => by
  unfold gFind at h
  split at h
  · simp only [Option.some.injEq, Prod.mk.injEq] at h
    obtain ⟨h1, rfl, rfl, ⟨rfl, rfl⟩, ⟨rfl, rfl⟩, rfl⟩ := h
    exact ⟨rfl, pk (asG q) (asB q), of_isPk h1, _, SF len (asG q) (asB q) _ _ _ _ _ _ _ _, rfl, 100, find_is len (asG q) (asB q) _ _ _ _ _ _ _⟩
  · cases h
theorem eRFind : MEntryOK Try.prog 12 (rowM 6 gFind) := mentry_row (tyr := 33) (by kernel_rfl) fun q len rest ty esz' N1 q1 N2 q2 vals h => by
  unfold gFind at h
  split at h
  · simp only [Option.some.injEq, Prod.mk.injEq] at h
    obtain ⟨h1, rfl, rfl, ⟨rfl, rfl⟩, ⟨rfl, rfl⟩, rfl⟩ := h
    exact ⟨rfl, pk (asG q) (asB q), of_isPk h1, _, SF len (asG q) (asB q) _ _ _ _ _ _ _ _, rfl, 100, rfind_is len (asG q) (asB q) _ _ _ _ _ _ _⟩
  · cases h

/-! Same -/
def annS (ns : Nat) (n m : Nat) : AnnM := ⟨N1, fun x => setN (setN (setN (List.replicate ns .any) 0 (.view 0 6 0 n)) 1 (.view 1 6 0 m)) 5 (iv x.n), fun x => [], 1000, fun x => n - x.n, [], []⟩
noncomputable def CS (n m : Nat) : Cfg := ⟨Try.prog, mkT [], fun f => false, fun f r => match Nat.beq f 13, Nat.beq f 22 with
  | true, _ => some (annS 26 n m)
  | _, true => some (annS 26 n m)
  | _, _ => none⟩
theorem SS (n m : Nat) : Sound (CS n m) := ⟨tab_nil, fun f h => (by cases h), mixed⟩
theorem same_ev (n m : Nat) (g g' : Nat → Nat → Int) (b b' : Nat → Nat → Bool) (K : AV → Prop) : (afn (CS n m) 100 13 [.view 0 6 0 n, .view 1 6 0 m] [(0, some (.row 33 6 n (pk g b))), (1, some (.row 33 6 m (pk g' b')))] 2 (fun v _ _ => K v)) = (
      ifb ((↑n : Int) != (↑m : Int)) (K (AV.val (Value.bool false))) (∃ (J : (annS 26 n m).I → Prop), (∃ (i : (annS 26 n m).I), J i ∧ ((some 0 = some 0 ∧ 6 = 6 ∧ 0 = 0 ∧ n = n) ∧ (some 1 = some 1 ∧ 6 = 6 ∧ 0 = 0 ∧ m = m) ∧ Value.int IntKind.i64 0 = Value.int IntKind.i64 (↑i.n : Int) ∧ True) ∧ ((33 = 33 ∧ 6 = 6 ∧ n = n ∧ ∀ (i j : Nat), i.succ.le n → j.succ.le 6 → pk g b i j = pk g b i j) ∧ (33 = 33 ∧
  6 = 6 ∧ m = m ∧ ∀ (i j : Nat), i.succ.le m → j.succ.le 6 → pk g' b' i j = pk g' b' i j) ∧ True) ∧ true = true) ∧ ∀ (i : N1), J i → ifb (decide ((↑i.n : Int) < (↑n : Int))) (ifb (decide (0 ≤ (↑i.n : Int) ∧ (↑i.n : Int) < (↑n : Int))) (ifb (decide (0 + (↑i.n : Int).toNat < n)) (ifb (decide (0 ≤ (↑i.n : Int) ∧ (↑i.n : Int) < (↑m : Int))) (ifb (decide (0 + (↑i.n : Int).toNat < m))
  (ifb (!(g (0 + (↑i.n : Int).toNat) 0 == g' (0 + (↑i.n : Int).toNat) 0 && (g (0 + (↑i.n : Int).toNat) 1 == g' (0 + (↑i.n : Int).toNat) 1 && (g (0 + (↑i.n : Int).toNat) 2 == g' (0 + (↑i.n : Int).toNat) 2 && (b (0 + (↑i.n : Int).toNat) 3 == b' (0 + (↑i.n : Int).toNat) 3 && (b (0 + (↑i.n : Int).toNat) 4 == b' (0 + (↑i.n : Int).toNat) 4 && (b (0 + (↑i.n : Int).toNat) 5 == b' (0 + (↑i.n : Int).toNat) 5 && true)))))))
  (K (AV.val (Value.bool false))) (∃ (i' : (annS 26 n m).I), (J i' ∧ (n - i'.n).succ.le (n - i.n)) ∧ ((some 0 = some 0 ∧ 6 = 6 ∧ 0 = 0 ∧ n = n) ∧ (some 1 = some 1 ∧ 6 = 6 ∧ 0 = 0 ∧ m = m) ∧ Value.int IntKind.i64 (IntKind.i64.wrap ((↑i.n : Int) + 1)) = Value.int IntKind.i64 (↑i'.n : Int) ∧ True) ∧ ((33 = 33 ∧ 6 = 6 ∧ n = n ∧ ∀ (i j : Nat), i.succ.le n → j.succ.le 6 → pk g b i j = pk g b i j) ∧
  (33 = 33 ∧ 6 = 6 ∧ m = m ∧ ∀ (i j : Nat), i.succ.le m → j.succ.le 6 → pk g' b' i j = pk g' b' i j) ∧ True) ∧ true = true)) False) False) False) False) (K (AV.val (Value.bool true))))) := by
  kernel_rfl
theorem lsame_ev (n m : Nat) (g g' : Nat → Nat → Int) (b b' : Nat → Nat → Bool) (K : AV → Prop) : (afn (CS n m) 100 22 [.view 0 6 0 n, .view 1 6 0 m] [(0, some (.row 33 6 n (pk g b))), (1, some (.row 33 6 m (pk g' b')))] 2 (fun v _ _ => K v)) = (
      ifb ((↑n : Int) != (↑m : Int)) (K (AV.val (Value.bool false))) (∃ (J : (annS 26 n m).I → Prop), (∃ (i : (annS 26 n m).I), J i ∧ ((some 0 = some 0 ∧ 6 = 6 ∧ 0 = 0 ∧ n = n) ∧ (some 1 = some 1 ∧ 6 = 6 ∧ 0 = 0 ∧ m = m) ∧ Value.int IntKind.i64 0 = Value.int IntKind.i64 (↑i.n : Int) ∧ True) ∧ ((33 = 33 ∧ 6 = 6 ∧ n = n ∧ ∀ (i j : Nat), i.succ.le n → j.succ.le 6 → pk g b i j = pk g b i j) ∧ (33 = 33 ∧
  6 = 6 ∧ m = m ∧ ∀ (i j : Nat), i.succ.le m → j.succ.le 6 → pk g' b' i j = pk g' b' i j) ∧ True) ∧ true = true) ∧ ∀ (i : N1), J i → ifb (decide ((↑i.n : Int) < (↑n : Int))) (ifb (decide (0 ≤ (↑i.n : Int) ∧ (↑i.n : Int) < (↑n : Int))) (ifb (decide (0 + (↑i.n : Int).toNat < n)) (ifb (decide (0 ≤ (↑i.n : Int) ∧ (↑i.n : Int) < (↑m : Int))) (ifb (decide (0 + (↑i.n : Int).toNat < m))
  (ifb (!(g (0 + (↑i.n : Int).toNat) 0 == g' (0 + (↑i.n : Int).toNat) 0 && (g (0 + (↑i.n : Int).toNat) 1 == g' (0 + (↑i.n : Int).toNat) 1 && (g (0 + (↑i.n : Int).toNat) 2 == g' (0 + (↑i.n : Int).toNat) 2 && (b (0 + (↑i.n : Int).toNat) 3 == b' (0 + (↑i.n : Int).toNat) 3 && (b (0 + (↑i.n : Int).toNat) 4 == b' (0 + (↑i.n : Int).toNat) 4 && (b (0 + (↑i.n : Int).toNat) 5 == b' (0 + (↑i.n : Int).toNat) 5 && true)))))))
  (K (AV.val (Value.bool false))) (∃ (i' : (annS 26 n m).I), (J i' ∧ (n - i'.n).succ.le (n - i.n)) ∧ ((some 0 = some 0 ∧ 6 = 6 ∧ 0 = 0 ∧ n = n) ∧ (some 1 = some 1 ∧ 6 = 6 ∧ 0 = 0 ∧ m = m) ∧ Value.int IntKind.i64 (IntKind.i64.wrap ((↑i.n : Int) + 1)) = Value.int IntKind.i64 (↑i'.n : Int) ∧ True) ∧ ((33 = 33 ∧ 6 = 6 ∧ n = n ∧ ∀ (i j : Nat), i.succ.le n → j.succ.le 6 → pk g b i j = pk g b i j) ∧
  (33 = 33 ∧ 6 = 6 ∧ m = m ∧ ∀ (i j : Nat), i.succ.le m → j.succ.le 6 → pk g' b' i j = pk g' b' i j) ∧ True) ∧ true = true)) False) False) False) False) (K (AV.val (Value.bool true))))) := by
  kernel_rfl

end Go.Proofs.Ytmaddijeiniliaa.Ls
