/-
  LsN: LossGrows.
-/
import Derived.Test.YtmaddijeiniliaaLsM
namespace Go.Proofs.Ytmaddijeiniliaa.Ls
open Go Go.RowKit Go.Proofs.Ytmaddijeiniliaa.Sy Go.Proofs.Ytmaddijeiniliaa.Cm
set_option linter.unusedVariables false
set_option linter.unusedSimpArgs false
set_option maxRecDepth 100000
set_option maxHeartbeats 1000000
attribute [local irreducible] afn

theorem ls_pw (g : Nat → Nat → Int) (k n w : Int) (m : Nat) : (lsL g k n w m).Pairwise (· < ·) := by
  unfold lsL
  exact List.Pairwise.filter _ List.pairwise_lt_range
theorem ix_get {l : List Nat} {i : Nat} (h : i < l.length) : ix l i = l[i] := by
  unfold ix
  rw [List.getElem?_eq_getElem h]
  rfl
theorem ix_mono {l : List Nat} (h : l.Pairwise (· < ·)) {i j : Nat} (hij : i < j) (hj : j < l.length) : ix l i < ix l j := by
  rw [ix_get (Nat.lt_trans hij hj), ix_get hj]
  exact List.pairwise_iff_getElem.mp h i j _ _ hij
theorem lost_mono {g : Nat → Nat → Int} {k n k' n' w : Int} (hk : k ≤ k') (hn : n ≤ n') {i : Nat} (h : lostP g k n w i = true) : lostP g k' n' w i = true := by
  unfold lostP at *
  have h := of_decide_eq_true h
  exact decide_eq_true (by omega)
theorem ls_sub {g : Nat → Nat → Int} {k n k' n' w : Int} (hk : k ≤ k') (hn : n ≤ n') {N i : Nat} (h : i < (lsL g k n w N).length) : ∃ q, q < (lsL g k' n' w N).length ∧ ix (lsL g k' n' w N) q = ix (lsL g k n w N) i := by
  have hm : (lsL g k n w N)[i] ∈ lsL g k n w N := List.getElem_mem h
  have hm' : (lsL g k n w N)[i] ∈ lsL g k' n' w N := by
    unfold lsL at *
    rw [List.mem_filter] at *
    exact ⟨hm.1, lost_mono hk hn hm.2⟩
  obtain ⟨q, hq, he⟩ := List.getElem_of_mem hm'
  exact ⟨q, hq, by rw [ix_get hq, ix_get h, he]⟩
/-- Of those from i on, each is found from k on. -/
def InvG (l1 l2 : List Nat) (i k : Nat) : Prop := i ≤ l1.length ∧ k ≤ l2.length ∧ ∀ m, i ≤ m → m < l1.length → ∃ q, k ≤ q ∧ q < l2.length ∧ ix l2 q = ix l1 m
theorem invG_k {l1 l2 : List Nat} (h1 : l1.Pairwise (· < ·)) (h2 : l2.Pairwise (· < ·)) {i k : Nat} (h : InvG l1 l2 i k) (hi : i < l1.length) (hk : k < l2.length) (hne : ix l2 k ≠ ix l1 i) : InvG l1 l2 i (k + 1) := by
  obtain ⟨a, b, c⟩ := h
  refine ⟨a, hk, fun m hm hl => ?_⟩
  obtain ⟨q, hq, hql, he⟩ := c m hm hl
  obtain ⟨q0, hq0, hql0, he0⟩ := c i (Nat.le_refl i) hi
  refine ⟨q, ?_, hql, he⟩
  refine Nat.lt_of_le_of_ne hq fun e => ?_
  subst e
  by_cases e0 : q0 = k
  · subst e0
    exact hne he0
  · have l := ix_mono h2 (show k < q0 by omega) hql0
    by_cases em : m = i
    · subst em
      exact hne he
    · have l' := ix_mono h1 (show i < m by omega) hl
      omega
theorem invG_i {l1 l2 : List Nat} {i k : Nat} (h : InvG l1 l2 i k) (hi : i < l1.length) : InvG l1 l2 (i + 1) k :=
  ⟨hi, h.2.1, fun m hm hl => h.2.2 m (by omega) hl⟩

theorem grows_is (h : Nat → Nat → Int) (len : Nat) (x0 x1 x2 x3 m0 m1 : Int) : ∃ C, Sound C ∧ C.P = Try.prog ∧ afn C 100 6 [.view 0 3 0 len, .agg [iv x0, iv x1, iv x2, iv x3], .agg [iv m0, iv m1]] [(0, some (.row 61 3 len fun i j => .int .i64 (h i j)))] 1 (fun v _ _ => v = bv true) := by
  have hx0 := brF_lo x0 (b := 260) (by omega)
  have hx1 := brF_lo x1 (b := 2251799813685248) (by omega)
  have hx2 := brF_lo x2 (b := 20) (by omega)
  have hx3 := brF_lo x3 (b := 2251799813685248) (by omega)
  obtain ⟨hck, hwt⟩ := mea_ok m0 m1
  have hmo : meaOK (brF m0 1099511627776) (min (brF m0 1099511627776) (brF m1 1099511627776)) (brF m1 1099511627776) (brF m0 1099511627776 / 2) m0 m1 = true := decide_eq_true ⟨rfl, rfl, rfl, rfl⟩
  have hg := pG_ok h len
  have hfd := find_ok (pB h) hg (k := brF x0 260 - 1) (n := brF x1 2251799813685248) (by omega) (by omega) hck
  have hfd2 := find_ok (pB h) hg (k := brF x0 260 - 1 + brF x2 20) (n := brF x1 2251799813685248 + brF x3 2251799813685248) (by omega) (by omega) hck
  have hpk := pkOK_yes h len
  rw [hwt] at hfd hfd2
  have hN60 : min len 60 ≤ 60 := by omega
  have hwr : IntKind.i64.wrap (brF x0 260 - 1) = brF x0 260 - 1 := wr (by omega) (by omega)
  have hwr2 : IntKind.i64.wrap (brF x0 260 - 1 + brF x2 20) = brF x0 260 - 1 + brF x2 20 := wr (by omega) (by omega)
  have hwr3 : IntKind.i64.wrap (brF x1 2251799813685248 + brF x3 2251799813685248) = brF x1 2251799813685248 + brF x3 2251799813685248 := wr (by omega) (by omega)
  generalize hw : max 1000000 (9 * max (brF m1 1099511627776) (brF m0 1099511627776) / 8) = w at *
  refine ⟨_, SGw ⟨min len 60, pG h, pB h, brF m0 1099511627776, min (brF m0 1099511627776) (brF m1 1099511627776), brF m1 1099511627776, brF m0 1099511627776 / 2, fun k n => (lsL (pG h) k n w (min len 60)).length, fun k n => (rsL (pG h) k n w (min len 60)).length, fun k n i => pG h (ix (lsL (pG h) k n w (min len 60)) i), fun k n i => pB h (ix (lsL (pG h) k n w (min len 60)) i), fun k n i => pG h (ix (rsL (pG h) k n w (min len 60)) i), fun k n i => pB h (ix (rsL (pG h) k n w (min len 60)) i), fun k n => atF (pG h) k n w (min len 60)⟩
    (lsL (pG h) (brF x0 260 - 1) (brF x1 2251799813685248) w (min len 60)).length (lsL (pG h) (brF x0 260 - 1 + brF x2 20) (brF x1 2251799813685248 + brF x3 2251799813685248) w (min len 60)).length
    (fun i => pG h (ix (lsL (pG h) (brF x0 260 - 1) (brF x1 2251799813685248) w (min len 60)) i)) (fun i => pG h (ix (lsL (pG h) (brF x0 260 - 1 + brF x2 20) (brF x1 2251799813685248 + brF x3 2251799813685248) w (min len 60)) i))
    (fun i => pB h (ix (lsL (pG h) (brF x0 260 - 1) (brF x1 2251799813685248) w (min len 60)) i)) (fun i => pB h (ix (lsL (pG h) (brF x0 260 - 1 + brF x2 20) (brF x1 2251799813685248 + brF x3 2251799813685248) w (min len 60)) i)), rfl, (grows_ev _ _ _ _ _ _ _ h len x0 x1 x2 x3 m0 m1 (fun v => v = bv true)).mpr ?_⟩
  dsimp only
  simp only [Nat.zero_add, hwr, hwr2, hwr3]
  rw [hpk, hmo, hfd, hfd2]
  have hsub : ∀ i, i < (lsL (pG h) (brF x0 260 - 1) (brF x1 2251799813685248) w (min len 60)).length → _ := fun i hi => ls_sub (show brF x0 260 - 1 ≤ brF x0 260 - 1 + brF x2 20 by omega) (show brF x1 2251799813685248 ≤ brF x1 2251799813685248 + brF x3 2251799813685248 by omega) hi
  have hp1 := ls_pw (pG h) (brF x0 260 - 1) (brF x1 2251799813685248) w (min len 60)
  have hp2 := ls_pw (pG h) (brF x0 260 - 1 + brF x2 20) (brF x1 2251799813685248 + brF x3 2251799813685248) w (min len 60)
  have hl1 := (ls_len (g := pG h) (k := brF x0 260 - 1) (n := brF x1 2251799813685248) (w := w) (min len 60)).1
  have hl2 := (ls_len (g := pG h) (k := brF x0 260 - 1 + brF x2 20) (n := brF x1 2251799813685248 + brF x3 2251799813685248) (w := w) (min len 60)).1
  clear hfd hfd2
  generalize lsL (pG h) (brF x0 260 - 1) (brF x1 2251799813685248) w (min len 60) = l1 at *
  generalize lsL (pG h) (brF x0 260 - 1 + brF x2 20) (brF x1 2251799813685248 + brF x3 2251799813685248) w (min len 60) = l2 at *
  refine ifb_pos (by simp) (ifb_pos rfl (ifb_pos (by simp) (ifb_pos (by simp) ?_)))
  refine ⟨fun x => InvG l1 l2 x.i x.k, ⟨⟨0, 0⟩, ⟨Nat.zero_le _, Nat.zero_le _, fun m _ hm => ?_⟩, ?_⟩, ?_⟩
  · obtain ⟨q, hq, he⟩ := hsub m hm
    exact ⟨q, Nat.zero_le _, hq, he⟩
  · repeat' first | exact trivial | exact rfl | (intro _ _ _ _; rfl) | (intro _ _ _ _; trivial) | refine ⟨?_, ?_⟩ | fail
  rintro ⟨i, k⟩ hJ
  have hJ : InvG l1 l2 i k := hJ
  dsimp only
  refine ifb_of (fun h1 => ?_) fun h1 => ?_
  · have h1 : (i : Int) < (l1.length : Int) := of_decide_eq_true h1
    have hi : i < l1.length := by omega
    refine ⟨fun x => x.i = i ∧ InvG l1 l2 i x.k, ⟨⟨i, k⟩, ⟨rfl, hJ⟩, ?_⟩, ?_⟩
    · repeat' first | exact trivial | exact rfl | (intro _ _ _ _; rfl) | (intro _ _ _ _; trivial) | refine ⟨?_, ?_⟩ | fail
    rintro ⟨i', k⟩ hK
    obtain ⟨hi', hK⟩ : i' = i ∧ InvG l1 l2 i k := hK
    subst hi'
    have ei : ((i' : Nat) : Int).toNat = i' := by omega
    have ek : ((k : Nat) : Int).toNat = k := by omega
    have hv1 := vi_succ (n := i') (by omega)
    have hkl := hK.2.1
    have hv2 := vi_succ (n := k) (by omega)
    dsimp only
    rw [ei, ek]
    refine ifb_of (fun h2 => ?_) fun h2 => ?_
    · have h2 : (k : Int) < (l2.length : Int) := of_decide_eq_true h2
      have hk : k < l2.length := by omega
      refine ifb_pos (decide_eq_true (by omega)) (ifb_pos (decide_eq_true hk) (ifb_pos (decide_eq_true (by omega)) (ifb_pos (decide_eq_true hi) (ifb_of (fun h3 => ?_) fun h3 => ?_))))
      · have hne : ix l2 k ≠ ix l1 i' := by
          intro e
          rw [e] at h3
          simp at h3
        have hle : (l2.length - (k + 1)).succ.le (l2.length - k) := less k l2.length hk
        refine ⟨⟨i', k + 1⟩, ⟨⟨rfl, invG_k hp1 hp2 hK hi hk hne⟩, hle⟩, ?_⟩
        repeat' first | exact trivial | exact hv2 | exact rfl | (intro _ _ _ _; rfl) | (intro _ _ _ _; trivial) | refine ⟨?_, ?_⟩ | fail
      · refine ifb_neg (by simp; omega) ?_
        have hle : (l1.length - (i' + 1)).succ.le (l1.length - i') := less i' l1.length hi
        refine ⟨⟨i' + 1, k⟩, ⟨invG_i hK hi, hle⟩, ?_⟩
        repeat' first | exact trivial | exact hv1 | exact rfl | (intro _ _ _ _; rfl) | (intro _ _ _ _; trivial) | refine ⟨?_, ?_⟩ | fail
    · have h2 : ¬ (k : Int) < (l2.length : Int) := of_decide_eq_false h2
      exfalso
      obtain ⟨q, h5, h6, _⟩ := hK.2.2 i' (Nat.le_refl _) hi
      omega
  · exact trivial

end Go.Proofs.Ytmaddijeiniliaa.Ls
