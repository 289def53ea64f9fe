/-
  LsE: Find and its reference answer alike.
-/
import Derived.Test.YtmaddijeiniliaaLsD
namespace Go.Proofs.Ytmaddijeiniliaa.Ls
open Go Go.RowKit Go.Proofs.Ytmaddijeiniliaa.Sy Go.Proofs.Ytmaddijeiniliaa.Cm
set_option linter.unusedVariables false
set_option linter.unusedSimpArgs false
set_option maxRecDepth 100000
set_option maxHeartbeats 1000000
attribute [local irreducible] afn

theorem wtF_lo (a b c d e : Int) : 0 ≤ wtF a b c d e ∧ wtF a b c d e ≤ 9007199254740991 := by
  unfold wtF
  split <;> omega
theorem okP_congr {g g' : Nat → Nat → Int} (h : ∀ i j, j < 3 → g i j = g' i j) (n : Nat) : okP g n ↔ okP g' n := by
  have hl : lastF g n = lastF g' n := by
    cases n with
    | zero => rfl
    | succ m => exact h m 0 (by omega)
  unfold okP
  rw [hl, h n 0 (by omega), h n 1 (by omega), h n 2 (by omega)]
theorem chF_congr {g g' : Nat → Nat → Int} (h : ∀ i j, j < 3 → g i j = g' i j) (len : Nat) : chF g len = chF g' len := by
  have e : okL g len ↔ okL g' len := by
    unfold okL
    constructor
    · exact fun h1 => ⟨h1.1, fun i hi => (okP_congr h i).1 (h1.2 i hi)⟩
    · exact fun h1 => ⟨h1.1, fun i hi => (okP_congr h i).2 (h1.2 i hi)⟩
  by_cases h1 : okL g len
  · rw [chF_yes h1, chF_yes (e.1 h1)]
  · rw [chF_no h1, chF_no (fun h2 => h1 (e.2 h2))]
theorem asG_pk (g : Nat → Nat → Int) (b : Nat → Nat → Bool) : ∀ i j, j < 3 → asG (fun i j => pk g b (0 + i) j) i j = g i j := by
  intro i j hj
  match j, hj with
  | 0, _ => show g (0 + i) 0 = _; rw [Nat.zero_add]
  | 1, _ => show g (0 + i) 1 = _; rw [Nat.zero_add]
  | 2, _ => show g (0 + i) 2 = _; rw [Nat.zero_add]
theorem pk_pk (len : Nat) (g : Nat → Nat → Int) (b : Nat → Nat → Bool) : isPk len (fun i j => pk g b (0 + i) j) = true := isPk_yes fun i j _ hj => by
  match j, hj with
  | 0, _ => rfl
  | 1, _ => rfl
  | 2, _ => rfl
  | 3, _ => rfl
  | 4, _ => rfl
  | 5, _ => rfl
theorem ok_lo {g : Nat → Nat → Int} {len : Nat} (h : okL g len) : ∀ i, i < len → 0 ≤ g i 0 := by
  intro i
  induction i with
  | zero =>
    intro hi
    have := (h.2 0 hi).1
    simp only [lastF] at this
    omega
  | succ i ih =>
    intro hi
    have := (h.2 (i + 1) hi).1
    have := ih (by omega)
    simp only [lastF] at *
    omega

/-! the lists, one longer -/
section
variable {g : Nat → Nat → Int} {b : Nat → Nat → Bool} {k n w : Int} {m : Nat}
theorem ls_yes (h : lostP g k n w m = true) : lsL g k n w (m + 1) = lsL g k n w m ++ [m] ∧ rsL g k n w (m + 1) = rsL g k n w m := by
  unfold lsL rsL
  rw [List.range_succ, List.filter_append, List.filter_append]
  simp [h]
theorem ls_no (h : lostP g k n w m = false) : lsL g k n w (m + 1) = lsL g k n w m ∧ rsL g k n w (m + 1) = rsL g k n w m ++ [m] := by
  unfold lsL rsL
  rw [List.range_succ, List.filter_append, List.filter_append]
  simp [h]
theorem ls_len (m : Nat) : (lsL g k n w m).length ≤ m ∧ (rsL g k n w m).length ≤ m := by
  unfold lsL rsL
  exact ⟨Nat.le_trans (List.length_filter_le _ _) (by simp), Nat.le_trans (List.length_filter_le _ _) (by simp)⟩
theorem ix_app_lt {l : List Nat} {i x : Nat} (h : i < l.length) : ix (l ++ [x]) i = ix l i := by
  unfold ix
  rw [List.getElem?_append_left h]
theorem ix_app_end {l : List Nat} {x : Nat} : ix (l ++ [x]) l.length = x := by
  unfold ix
  simp
theorem app6 {L i j x : Nat} (hi : i = L) (hj : j < 6) : ([pk g b x 0, pk g b x 1, pk g b x 2, pk g b x 3, pk g b x 4, pk g b x 5][(i - L) * 6 + j]?.getD undef) = pk g b x j := by
  subst hi
  rw [Nat.sub_self, Nat.zero_mul, Nat.zero_add]
  match j, hj with
  | 0, _ => rfl
  | 1, _ => rfl
  | 2, _ => rfl
  | 3, _ => rfl
  | 4, _ => rfl
  | 5, _ => rfl
theorem sub_app {l l' : List Nat} {i j x : Nat} (e : l' = l ++ [x]) (hi : i.succ.le l'.length) (hj : j.succ.le 6) :
    (if i < l.length then subQ g b l i j else [pk g b x 0, pk g b x 1, pk g b x 2, pk g b x 3, pk g b x 4, pk g b x 5][(i - l.length) * 6 + j]?.getD undef) = subQ g b l' i j := by
  subst e
  have hi : i < l.length + 1 := by
    have h : i.succ ≤ (l ++ [x]).length := hi
    simp at h
    omega
  unfold subQ
  by_cases h : i < l.length
  · rw [if_pos h, ix_app_lt h]
  · have e : i = l.length := by omega
    rw [if_neg h, app6 e hj, e, ix_app_end]
end

/-! what comes of it -/
noncomputable def feF (g : Nat → Nat → Int) (len : Nat) (k n : Int) (r1 r2 r3 r4 r5 : Int) : Int := if chF g len ≠ 0 then 2 else if k < -1 ∨ 9007199254740991 < k ∨ isN n = false then 9 else ckF r1 r2 r3 r4 r5
def Res (g : Nat → Nat → Int) (b : Nat → Nat → Bool) (len : Nat) (k n w E : Int) (v : AV) (B1 B2 : Option Blk) : Prop :=
  ∃ r1 r2, v = .tup (r1 :: r2 :: [Value.int .i64 (if E = 0 then atF g k n w len else 0), Value.int .i64 E].map .val) ∧ OwnIs B1 33 6 (if E = 0 then (lsL g k n w len).length else 0) (subQ g b (lsL g k n w len)) r1 ∧
    OwnIs B2 33 6 (if E = 0 then (rsL g k n w len).length else 0) (subQ g b (rsL g k n w len)) r2 ∧ apartA r1 r2
theorem res_err {g : Nat → Nat → Int} {b : Nat → Nat → Bool} {len : Nat} {k n w E e : Int} (h : E = e) (he : e ≠ 0) : Res g b len k n w E (.tup [.val (.slice none 0 0), .val (.slice none 0 0), .val (.int .i64 0), .val (.int .i64 e)]) none none := by
  subst h
  refine ⟨.val (.slice none 0 0), .val (.slice none 0 0), ?_, .inl ⟨if_neg he, rfl⟩, .inl ⟨if_neg he, rfl⟩, trivial⟩
  rw [if_neg he]
  rfl
theorem res_ok {g : Nat → Nat → Int} {b : Nat → Nat → Bool} {len : Nat} {k n w E : Int} (h : E = 0) {i1 i2 : Nat} (hi : i1 ≠ i2) : Res g b len k n w E (.tup [.own i1 (lsL g k n w len).length, .own i2 (rsL g k n w len).length, .val (.int .i64 (atF g k n w len)), .val (.int .i64 0)])
    (some (.orow 33 6 (lsL g k n w len).length (subQ g b (lsL g k n w len)))) (some (.orow 33 6 (rsL g k n w len).length (subQ g b (rsL g k n w len)))) := by
  subst h
  exact ⟨_, _, rfl, .inr ⟨i1, _, rfl, rfl, fun _ _ _ _ => rfl⟩, .inr ⟨i2, _, rfl, rfl, fun _ _ _ _ => rfl⟩, hi⟩

theorem find_is (len : Nat) (g : Nat → Nat → Int) (b : Nat → Nat → Bool) (r1 r2 r3 r4 r5 k n : Int) : afn (CF len g b r1 r2 r3 r4 r5 k n (wtF r1 r2 r3 r4 r5)) 100 11 [.view 0 6 0 len, iv k, iv n, rv r1 r2 r3 r4 r5] [(0, some (.row 33 6 len (pk g b)))] 1
    (fun v h _ => Res g b len k n (wtF r1 r2 r3 r4 r5) (feF g len k n r1 r2 r3 r4 r5) v (bk1 v h) (bk2 v h)) := by
  rw [find_ev len g b r1 r2 r3 r4 r5 k n (fun v B1 B2 => Res g b len k n (wtF r1 r2 r3 r4 r5) (feF g len k n r1 r2 r3 r4 r5) v B1 B2)]
  have hw := wtF_lo r1 r2 r3 r4 r5
  rw [pk_pk, chF_congr (asG_pk g b)]
  generalize wtF r1 r2 r3 r4 r5 = w at *
  refine ifb_pos (by simp) ?_
  refine ifb_of (fun h1 => res_err ?_ (by decide)) fun h1 => ifb_of (fun h2 => res_err ?_ (by decide)) fun h2 => ifb_of (fun h3 => res_err ?_ (by decide)) fun h3 => ifb_of (fun h4 => res_err ?_ (by decide)) fun h4 => ifb_of (fun h5 => res_err ?_ (by simpa using h5)) fun h5 => ?_
  · unfold feF
    rw [if_pos (by simpa using h1)]
  all_goals have h1 : chF g len = 0 := by simpa using h1
  · have := of_decide_eq_true h2
    unfold feF
    rw [if_neg (by rw [h1]; simp), if_pos (.inl this)]
  · have := of_decide_eq_true h3
    unfold feF
    rw [if_neg (by rw [h1]; simp), if_pos (.inr (.inl this))]
  · unfold feF
    rw [if_neg (by rw [h1]; simp), if_pos (.inr (.inr (by simpa using h4)))]
  all_goals have h2 : ¬ k < -1 := of_decide_eq_false h2
  all_goals have h3 : ¬ 9007199254740991 < k := of_decide_eq_false h3
  all_goals have h4' : isN n = true := by simpa using h4
  · unfold feF
    rw [if_neg (by rw [h1]; simp), if_neg (by rw [h4']; simp; omega)]
  have h5' : ckF r1 r2 r3 r4 r5 = 0 := by simpa using h5
  have hE : feF g len k n r1 r2 r3 r4 r5 = 0 := by
    unfold feF
    rw [if_neg (by rw [h1]; simp), if_neg (by rw [h4']; simp; omega), h5']
  have hok : okL g len := by
    by_cases h : okL g len
    · exact h
    · rw [chF_no h] at h1; cases h1
  have hn := isN_yes h4
  refine ⟨fun x => x.n ≤ len, ⟨⟨0⟩, Nat.zero_le _, ?_⟩, ?_⟩
  · repeat' first | exact trivial | exact rfl | (intro _ _ _ _; rfl) | refine ⟨?_, ?_⟩
  rintro ⟨m⟩ hm
  have hm : m ≤ len := hm
  have e : 0 + ((m : Nat) : Int).toNat = m := by omega
  dsimp only
  rw [e]
  have h256 := hok.1
  refine ifb_of (fun h6 => ?_) fun h6 => ?_
  · have h6 : (m : Int) < (len : Int) := of_decide_eq_true h6
    have hp := hok.2 m (by omega)
    have h0 := ok_lo hok m (by omega)
    have hp1 := hp.2.1
    have hp2 := hp.2.2.1
    have w1 : IntKind.i64.wrap (k - g m 0) = k - g m 0 := wr (by omega) (by omega)
    have w2 : IntKind.i64.wrap (g m 1 + w) = g m 1 + w := wr (by omega) (by omega)
    rw [w1, w2]
    have hL := ls_len (g := g) (k := k) (n := n) (w := w) m
    have bl : (true && decide ((lsL g k n w m).length = (lsL g k n w m).length) && decide (((lsL g k n w m).length + 1) * 32 ≤ 140737488355328)) = true := by simp; omega
    have br : (true && decide ((rsL g k n w m).length = (rsL g k n w m).length) && decide (((rsL g k n w m).length + 1) * 32 ≤ 140737488355328)) = true := by simp; omega
    have hvs := vi_succ (n := m) (by omega)
    have hle := less m len (by omega)
    have hmj : m + 1 ≤ len := by omega
    refine ifb_pos (decide_eq_true (by omega)) (ifb_pos (decide_eq_true (by omega)) ?_)
    have hlost : ∀ {T : Prop}, lostP g k n w m = true → ((lsL g k n w m).length + 1 = (lsL g k n w (m + 1)).length → (rsL g k n w m).length = (rsL g k n w (m + 1)).length → Value.int .i64 (atF g k n w m) = Value.int .i64 (atF g k n w (m + 1)) →
        (∀ i j : Nat, i.succ.le (lsL g k n w (m + 1)).length → j.succ.le 6 → (if i < (lsL g k n w m).length then subQ g b (lsL g k n w m) i j else [pk g b m 0, pk g b m 1, pk g b m 2, pk g b m 3, pk g b m 4, pk g b m 5][(i - (lsL g k n w m).length) * 6 + j]?.getD undef) = subQ g b (lsL g k n w (m + 1)) i j) →
        (∀ i j : Nat, i.succ.le (rsL g k n w (m + 1)).length → j.succ.le 6 → subQ g b (rsL g k n w m) i j = subQ g b (rsL g k n w (m + 1)) i j) → T) → T := by
      intro T hl hT
      obtain ⟨e1, e2⟩ := ls_yes hl
      refine hT (by rw [e1]; simp) (by rw [e2]) (vi_eq ?_) (fun i j hi hj => sub_app e1 hi hj) (fun i j _ _ => congrArg (fun l => subQ g b l i j) e2.symm)
      exact (if_pos hl).symm
    have hrest : ∀ {T : Prop} {a : Int}, lostP g k n w m = false → a = atF g k n w (m + 1) → ((lsL g k n w m).length = (lsL g k n w (m + 1)).length → (rsL g k n w m).length + 1 = (rsL g k n w (m + 1)).length → Value.int .i64 a = Value.int .i64 (atF g k n w (m + 1)) →
        (∀ i j : Nat, i.succ.le (rsL g k n w (m + 1)).length → j.succ.le 6 → (if i < (rsL g k n w m).length then subQ g b (rsL g k n w m) i j else [pk g b m 0, pk g b m 1, pk g b m 2, pk g b m 3, pk g b m 4, pk g b m 5][(i - (rsL g k n w m).length) * 6 + j]?.getD undef) = subQ g b (rsL g k n w (m + 1)) i j) →
        (∀ i j : Nat, i.succ.le (lsL g k n w (m + 1)).length → j.succ.le 6 → subQ g b (lsL g k n w m) i j = subQ g b (lsL g k n w (m + 1)) i j) → T) → T := by
      intro T a hl ha hT
      obtain ⟨e1, e2⟩ := ls_no hl
      exact hT (by rw [e1]) (by rw [e2]; simp) (vi_eq ha) (fun i j hi hj => sub_app e2 hi hj) (fun i j _ _ => congrArg (fun l => subQ g b l i j) e1.symm)
    have at_no : lostP g k n w m = false → atF g k n w (m + 1) = if g m 0 ≤ k ∧ (atF g k n w m = -1 ∨ min (g m 1 + w) 9007199254740991 < atF g k n w m) then min (g m 1 + w) 9007199254740991 else atF g k n w m := by
      intro hl
      show (if lostP g k n w m = true then _ else _) = _
      rw [if_neg (by rw [hl]; simp)]
    refine ifb_of (fun h7 => ?_) fun h7 => ?_
    · have h7 := of_decide_eq_true h7
      refine ifb_of (fun h8 => ?_) fun h8 => ?_
      · have h8 := of_decide_eq_true h8
        refine ifb_pos bl ?_
        refine hlost (decide_eq_true ⟨h7, .inl h8⟩) fun x1 x2 x3 x4 x5 => ⟨⟨m + 1⟩, ⟨hmj, hle⟩, ?_⟩
        repeat' first | exact trivial | exact x1 | exact x2 | exact x3 | exact x4 | exact x5 | exact hvs | exact rfl | (intro _ _ _ _; rfl) | refine ⟨?_, ?_⟩
      · have h8 := of_decide_eq_false h8
        refine ifb_of (fun h9 => ?_) fun h9 => ?_
        · have h9 := of_decide_eq_true h9
          refine ifb_pos bl ?_
          refine hlost (decide_eq_true ⟨h7, .inr h9⟩) fun x1 x2 x3 x4 x5 => ⟨⟨m + 1⟩, ⟨hmj, hle⟩, ?_⟩
          repeat' first | exact trivial | exact x1 | exact x2 | exact x3 | exact x4 | exact x5 | exact hvs | exact rfl | (intro _ _ _ _; rfl) | refine ⟨?_, ?_⟩
        · have h9 := of_decide_eq_false h9
          have hl : lostP g k n w m = false := decide_eq_false (by omega)
          refine ifb_pos br (ifb_pos (decide_eq_true h7) (ifb_of (fun h10 => ?_) fun h10 => ifb_of (fun h11 => ?_) fun h11 => ?_))
          · have h10 : atF g k n w m = -1 := by simpa using h10
            refine hrest (a := min (g m 1 + w) 9007199254740991) hl (by rw [at_no hl, if_pos ⟨h7, .inl h10⟩]) fun x1 x2 x3 x4 x5 => ⟨⟨m + 1⟩, ⟨hmj, hle⟩, ?_⟩
            repeat' first | exact trivial | exact x1 | exact x2 | exact x3 | exact x4 | exact x5 | exact hvs | exact rfl | (intro _ _ _ _; rfl) | refine ⟨?_, ?_⟩
          · have h11 := of_decide_eq_true h11
            refine hrest (a := min (g m 1 + w) 9007199254740991) hl (by rw [at_no hl, if_pos ⟨h7, .inr h11⟩]) fun x1 x2 x3 x4 x5 => ⟨⟨m + 1⟩, ⟨hmj, hle⟩, ?_⟩
            repeat' first | exact trivial | exact x1 | exact x2 | exact x3 | exact x4 | exact x5 | exact hvs | exact rfl | (intro _ _ _ _; rfl) | refine ⟨?_, ?_⟩
          · have h10 : ¬ atF g k n w m = -1 := by simpa using h10
            have h11 := of_decide_eq_false h11
            refine hrest (a := atF g k n w m) hl (by rw [at_no hl, if_neg (fun h => h.2.elim h10 h11)]) fun x1 x2 x3 x4 x5 => ⟨⟨m + 1⟩, ⟨hmj, hle⟩, ?_⟩
            repeat' first | exact trivial | exact x1 | exact x2 | exact x3 | exact x4 | exact x5 | exact hvs | exact rfl | (intro _ _ _ _; rfl) | refine ⟨?_, ?_⟩
    · have h7' := of_decide_eq_false h7
      have hl : lostP g k n w m = false := decide_eq_false (by omega)
      refine ifb_pos br (ifb_neg h7 ?_)
      refine hrest (a := atF g k n w m) hl (by rw [at_no hl, if_neg (fun h => h7' h.1)]) fun x1 x2 x3 x4 x5 => ⟨⟨m + 1⟩, ⟨hmj, hle⟩, ?_⟩
      repeat' first | exact trivial | exact x1 | exact x2 | exact x3 | exact x4 | exact x5 | exact hvs | exact rfl | (intro _ _ _ _; rfl) | refine ⟨?_, ?_⟩
  · have h6 := of_decide_eq_false h6
    have em : m = len := by omega
    subst em
    exact res_ok hE (by decide)

end Go.Proofs.Ytmaddijeiniliaa.Ls
