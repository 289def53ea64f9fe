/-
  RtH: RttOrder, RttBounds.
-/
import Derived.Test.YtglbkijmmckkpaaRtG
namespace Go.Proofs.Ytglbkijmmckkpaa.Rt
open Go Go.RowKit Go.Proofs.Ytglbkijmmckkpaa.Sy Go.Proofs.Ytglbkijmmckkpaa.Cm
set_option linter.unusedVariables false
set_option linter.unusedSimpArgs false

theorem okR_br (g : Nat → Nat → Int) (len : Nat) (held : Bool) : okR (brQ g len held) := by
  intro a
  have h0 := brF_lo (g a 0) (b := 9007199254740992) (by omega)
  have h1 := brF_lo (g a 1) (b := 9007199254740992) (by omega)
  have h2 := brF_lo (g a 2) (b := 9007199254740992) (by omega)
  unfold brQ
  by_cases h : len = 0
  · simp only [if_pos h]
    refine ⟨?_, ?_, ?_⟩ <;> (unfold okT; omega)
  · simp only [if_neg h]
    refine ⟨?_, ?_, ?_⟩
    · show okT (brF (g a 0) 9007199254740992)
      unfold okT; omega
    · cases held
      · show okT 0
        unfold okT; omega
      · show okT (brF (g a 1) 9007199254740992)
        unfold okT; omega
    · show okT (brF (g a 2) 9007199254740992)
      unfold okT; omega
theorem br_held (g : Nat → Nat → Int) (len : Nat) (a : Nat) : brQ g len false a 1 = 0 := by
  unfold brQ
  by_cases h : len = 0
  · simp only [if_pos h]
  · simp only [if_neg h]
    rfl
theorem brN_lo (len : Nat) : 1 ≤ brN len ∧ brN len ≤ 60 := by
  unfold brN
  split <;> omega
theorem lq_0 {h : Nat → Nat → Int} {m : Nat} {q : Nat → Nat → Int} (a : Nat) (hm : 0 < m) : lq h m q a 0 = q a 0 + brF (h (a % m) 0) (9007199254740992 - q a 0) := by
  show (match decide (0 < m) with
    | true => q a 0 + brF (h (a % m) 0) (9007199254740992 - q a 0)
    | false => q a 0) = _
  rw [decide_eq_true hm]
theorem lq_n {h : Nat → Nat → Int} {m : Nat} {q : Nat → Nat → Int} (a : Nat) (hm : ¬ 0 < m) : lq h m q a 0 = q a 0 := by
  show (match decide (0 < m) with
    | true => q a 0 + brF (h (a % m) 0) (9007199254740992 - q a 0)
    | false => q a 0) = _
  rw [decide_eq_false hm]
theorem lq_le {h : Nat → Nat → Int} {m : Nat} {q : Nat → Nat → Int} (hq : okR q) (a : Nat) : q a 0 ≤ lq h m q a 0 ∧ lq h m q a 0 ≤ 9007199254740991 := by
  have h0 := (hq a).1
  unfold okT at h0
  by_cases hm : 0 < m
  · rw [lq_0 a hm]
    have := brF_lo (h (a % m) 0) (b := 9007199254740992 - q a 0) (by omega)
    omega
  · rw [lq_n a hm]
    omega
theorem okR_lq {h : Nat → Nat → Int} {m : Nat} {q : Nat → Nat → Int} (hq : okR q) : okR (lq h m q) := by
  intro a
  have h0 := lq_le (h := h) (m := m) hq a
  have h1 := hq a
  have h2 := h1.1
  unfold okT at h2
  exact ⟨by unfold okT; omega, h1.2.1, h1.2.2⟩
theorem app_cond {n : Nat} (h : n ≤ 1000000) : (true && decide (n = n) && decide ((n + 1) * 24 ≤ 140737488355328)) = true := by
  simp
  omega
theorem ns_cond {N : Nat} {q : Nat → Nat → Int} (h : N ≤ 1000000) : ((isNs N 3 fun (a b : Nat) => Value.int IntKind.i64 (q a b)) && decide (N ≤ 1000000) && decide (N ≤ N)) = true := by
  rw [isNs_yes (fun _ _ _ _ => rfl)]
  simp
  exact h
theorem lq_eq {h : Nat → Nat → Int} {m : Nat} {q : Nat → Nat → Int} {n b : Nat} {x y z : Int} (hx : x = lq h m q n 0) (hy : y = q n 1) (hz : z = q n 2) (hb : b < 3) : pick3 x y z b = lq h m q n b := by
  match b, hb with
  | 0, _ => exact hx
  | 1, _ => exact hy
  | 2, _ => exact hz

theorem order_is (g : Nat → Nat → Int) (len : Nat) (h : Nat → Nat → Int) (m : Nat) : ∃ C, Sound C ∧ C.P = Try.prog ∧ afn C 100 6 [.view 0 3 0 len, .view 1 1 0 m] [(0, some (.row 32 3 len fun i j => .int .i64 (g i j))), (1, some (.row 3 1 m fun i j => .int .i64 (h i j)))] 2 (fun v _ _ => v = bv true) := by
  have hq : okR (brQ (asN fun (i j : Nat) => Value.int IntKind.i64 (g (0 + i) j)) len false) := okR_br _ _ _
  have hq1 : ∀ a, brQ (asN fun (i j : Nat) => Value.int IntKind.i64 (g (0 + i) j)) len false a 1 = 0 := br_held _ _
  have hN := brN_lo len
  refine ⟨CO g len h m (brN len) (brQ (asN fun (i j : Nat) => Value.int IntKind.i64 (g (0 + i) j)) len false), SO _ _ _ _ _ _, rfl, ?_⟩
  rw [order_ev g len h m (brN len) (brQ (asN fun (i j : Nat) => Value.int IntKind.i64 (g (0 + i) j)) len false) (fun v => v = bv true)]
  refine ifb_pos (by rw [isNs_yes (fun _ _ _ _ => rfl)]; simp) ?_
  generalize hqe : brQ (asN fun (i j : Nat) => Value.int IntKind.i64 (g (0 + i) j)) len false = q at *
  generalize brN len = N at *
  refine ⟨fun x => x.n ≤ N, ⟨⟨0⟩, Nat.zero_le _, ?_⟩, ?_⟩
  · repeat' first | exact trivial | rfl | (intro _ _ _ _; rfl) | constructor
  · rintro ⟨n⟩ hn
    have hn : n ≤ N := hn
    have e : ((n : Nat) : Int).toNat = n := by omega
    refine ifb_of (fun h1 => ?_) fun h1 => ?_
    · have h1 : (n : Int) < (N : Int) := of_decide_eq_true h1
      have h3 : decide (0 ≤ (n : Int) ∧ (n : Int) < (N : Int)) = true := decide_eq_true (by omega)
      have h4 : decide ((n : Int).toNat < N) = true := decide_eq_true (by omega)
      refine ifb_pos h3 (ifb_pos h4 (ifb_of (fun hm => ?_) fun hm => ?_))
      · have hm : (0 : Int) < (m : Int) := of_decide_eq_true hm
        have et : ((n : Nat) : Int).tmod (m : Int) = ((n % m : Nat) : Int) := (Int.ofNat_tmod n m).symm
        have hlt := Nat.mod_lt n (show m > 0 by omega)
        have e2 : 0 + (((n % m : Nat) : Int)).toNat = n % m := by omega
        have h0 := (hq n).1
        unfold okT at h0
        show ifb ((m : Int) != 0) _ _
        rw [e, et, e2, wr (n := 9007199254740992 - q n 0) (by omega) (by omega)]
        refine ifb_pos (by simp; omega) (ifb_pos (decide_eq_true (by omega)) (ifb_pos (decide_eq_true hlt) (ifb_pos (by simp; omega) (ifb_pos (app_cond (by omega)) ?_))))
        refine ⟨⟨n + 1⟩, ⟨show n + 1 ≤ N by omega, less n N (by omega)⟩, ?_⟩
        repeat' first | exact trivial | exact vi_succ (by omega) | rfl | (intro _ _ _ _; rfl) | constructor
        intro a b ha hb
        have ha : a < n + 1 := ha
        show (if a < n then _ else _) = _
        by_cases hlt : a < n
        · rw [if_pos hlt]
        · have ea : a = n := by omega
          rw [if_neg hlt, app3 ea hb, ea]
          refine vi_eq (lq_eq ?_ rfl rfl hb)
          have hl := brF_lo (h (n % m) 0) (b := 9007199254740992 - q n 0) (by omega)
          rw [lq_0 n (by omega), wr (by omega) (by omega)]
      · have hm : ¬ (0 : Int) < (m : Int) := of_decide_eq_false hm
        show ifb (true && decide (n = n) && decide ((n + 1) * 24 ≤ 140737488355328)) _ _
        rw [e]
        refine ifb_pos (app_cond (by omega)) ?_
        refine ⟨⟨n + 1⟩, ⟨show n + 1 ≤ N by omega, less n N (by omega)⟩, ?_⟩
        repeat' first | exact trivial | exact vi_succ (by omega) | rfl | (intro _ _ _ _; rfl) | constructor
        intro a b ha hb
        have ha : a < n + 1 := ha
        show (if a < n then _ else _) = _
        by_cases hlt : a < n
        · rw [if_pos hlt]
        · have ea : a = n := by omega
          rw [if_neg hlt, app3 ea hb, ea]
          exact vi_eq (lq_eq (lq_n n (by omega)).symm rfl rfl hb)
    · have h1 : ¬ (n : Int) < (N : Int) := of_decide_eq_false h1
      obtain rfl : n = N := by omega
      have hr : okR (lq h m q) := okR_lq hq
      obtain ⟨k, rfl⟩ : ∃ k, n = k + 1 := ⟨n - 1, by omega⟩
      have hmono := runs_mono hq hr hq1 hq1 (fun a => (lq_le hq a).1) k
      refine ifb_pos (ns_cond (by omega)) (ifb_pos (ns_cond (by omega)) ?_)
      have e1 : (asN fun (a b : Nat) => Value.int IntKind.i64 (q a b)) = q := rfl
      have e2 : (asN fun (a b : Nat) => Value.int IntKind.i64 (lq h m q a b)) = lq h m q := rfl
      rw [e1, e2]
      refine ifb_pos ?_ (ifb_pos ?_ (ifb_pos (decide_eq_true hmono.1) (ifb_pos (decide_eq_true hmono.2) rfl)))
      · rw [(goes_all hq k).1]; rfl
      · show ((runS (lq h m q) (k + 1)).2 == 0) = true
        rw [(goes_all hr k).1]; rfl

theorem bounds_is (g : Nat → Nat → Int) (len : Nat) : ∃ C, Sound C ∧ C.P = Try.prog ∧ afn C 100 9 [.view 0 3 0 len] [(0, some (.row 32 3 len fun i j => .int .i64 (g i j)))] 1 (fun v _ _ => v = bv true) := by
  have hq : okR (brQ (asN fun (i j : Nat) => Value.int IntKind.i64 (g (0 + i) j)) len true) := okR_br _ _ _
  have hN := brN_lo len
  refine ⟨CBo (brN len) (brQ (asN fun (i j : Nat) => Value.int IntKind.i64 (g (0 + i) j)) len true), SBo _ _, rfl, ?_⟩
  rw [bounds_ev g len (brN len) (brQ (asN fun (i j : Nat) => Value.int IntKind.i64 (g (0 + i) j)) len true) (fun v => v = bv true)]
  refine ifb_pos (by rw [isNs_yes (fun _ _ _ _ => rfl)]; simp) ?_
  generalize hqe : brQ (asN fun (i j : Nat) => Value.int IntKind.i64 (g (0 + i) j)) len true = q at *
  generalize brN len = N at *
  have z1 : decide ((0 : Int) ≤ 0 ∧ 0 < (N : Int)) = true := decide_eq_true (by omega)
  have z2 : decide (0 < N) = true := decide_eq_true (by omega)
  refine ifb_pos z1 (ifb_pos z2 (ifb_pos z1 (ifb_pos z2 ?_)))
  refine ⟨fun x => x.n ≤ N ∧ x.u = mnF q x.n ∧ x.v = mxF q x.n, ⟨⟨0, q 0 0, q 0 0⟩, ⟨Nat.zero_le _, rfl, rfl⟩, ?_⟩, ?_⟩
  · repeat' first | exact trivial | rfl | (intro _ _ _ _; rfl) | constructor
  · rintro ⟨n, u, v⟩ ⟨hn, hu, hv⟩
    have hn : n ≤ N := hn
    have hu : u = mnF q n := hu
    have hv : v = mxF q n := hv
    have e : ((n : Nat) : Int).toNat = n := by omega
    refine ifb_of (fun h1 => ?_) fun h1 => rfl
    have h1 : (n : Int) < (N : Int) := of_decide_eq_true h1
    have h3 : decide (0 ≤ (n : Int) ∧ (n : Int) < (N : Int)) = true := decide_eq_true (by omega)
    have h4 : decide ((n : Int).toNat < N) = true := decide_eq_true (by omega)
    have ew : IntKind.i64.wrap ((n : Int) + 1) = ((n + 1 : Nat) : Int) := by rw [wr (by omega) (by omega)]; omega
    have e1 : (((n + 1 : Nat) : Int)).toNat - 0 = n + 1 := by omega
    have e2 : (fun (i j : Nat) => Value.int IntKind.i64 (q (0 + i) j)) = fun (i j : Nat) => Value.int IntKind.i64 (q i j) := by
      funext i j
      rw [Nat.zero_add]
    have e3 : (asN fun (a b : Nat) => Value.int IntKind.i64 (q a b)) = q := rfl
    refine ifb_pos h3 (ifb_pos h4 (ifb_pos h3 (ifb_pos h4 ?_)))
    show ifb (true && decide (0 ≤ IntKind.i64.wrap ((n : Int) + 1)) && decide (IntKind.i64.wrap ((n : Int) + 1) ≤ (N : Int))) _ _
    rw [ew, e1, e2, e3, e]
    have hg := goes_all hq n
    have hck := goes_ckO hg
    have hp := (show ckP _ _ _ _ _ from .inr ⟨by unfold ckO at hck; omega, hck⟩)
    obtain ⟨g1, g2, g3, g4, g5, g6, g7, g8, g9, g10, g11, g12, g13⟩ := hg
    have m1 : mnF q (n + 1) = min u (q n 0) := by rw [hu]; rfl
    have m2 : mxF q (n + 1) = max v (q n 0) := by rw [hv]; rfl
    refine ifb_pos (by simp; omega) (ifb_pos ?_ ?_)
    · rw [isNs_yes (fun _ _ _ _ => rfl)]
      simp
      omega
    refine ifb_neg (by rw [g1]; rfl) (ifb_neg ?_ (ifb_pos h3 (ifb_pos (decide_eq_true (by omega)) (ifb_neg ?_ (ifb_pos z1 (ifb_pos z2 (ifb_neg ?_ (ifb_neg ?_ (ifb_neg ?_ (ifb_neg ?_ (ifb_neg ?_ (ifb_neg ?_ (ifb_pos h3 (ifb_pos (decide_eq_true (by omega)) (ifb_neg ?_ ?_)))))))))))))))
    · show ((runS q (n + 1)).1.b != min u (q n 0)) = false
      rw [g3, m1]; exact bneq_self _
    · rw [g2]; exact bneq_self _
    · rw [g4]; exact bneq_self _
    · show decide ((runS q (n + 1)).1.c < min u (q n 0)) = false
      exact decide_eq_false (by rw [← m1]; omega)
    · show decide (max v (q n 0) < (runS q (n + 1)).1.c) = false
      exact decide_eq_false (by rw [← m2]; omega)
    · exact decide_eq_false (by omega)
    · show decide (max v (q n 0) < (runS q (n + 1)).1.d) = false
      exact decide_eq_false (by rw [← m2]; omega)
    · rw [ckF_yes hp]; rfl
    · unfold greatF
      rw [if_pos hp, g2]; exact bneq_self _
    · refine ⟨⟨n + 1, min u (q n 0), max v (q n 0)⟩, ⟨⟨show n + 1 ≤ N by omega, m1.symm, m2.symm⟩, less n N (by omega)⟩, ?_⟩
      repeat' first | exact trivial | exact vi_succ (by omega) | rfl | (intro _ _ _ _; rfl) | constructor

end Go.Proofs.Ytglbkijmmckkpaa.Rt
