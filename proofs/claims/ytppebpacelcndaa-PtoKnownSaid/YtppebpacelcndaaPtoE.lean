/-
  PtoE: why PtoLeast, PtoNew, PtoOrder and PtoTwice hold.
-/
import Derived.Test.YtppebpacelcndaaPtoD
namespace Go.Proofs.Ytppebpacelcndaa.Pto
open Go Go.RowKit Go.Proofs.Ytppebpacelcndaa.Sy
set_option linter.unusedVariables false
set_option linter.unusedSimpArgs false

theorem bv_dec {p : Prop} [Decidable p] (h : p) : AV.val (.bool (decide p)) = bv true := by rw [decide_eq_true h]
theorem bv_eq {b : Bool} (h : b = true) : AV.val (.bool b) = bv true := by rw [h]
theorem baseF_yes {a b c d e s x : Int} (h : ckP a b c d e) (h0 : 0 ≤ s) (h1 : s < 3) : (s = 2 → baseF a b c d e s x = tm (c + max (4 * d) 1000000 + tm x)) ∧ (s ≠ 2 → baseF a b c d e s x = tm (c + max (4 * d) 1000000)) := by
  constructor
  · intro h2
    unfold baseF
    rw [if_pos ⟨h, h0, h1⟩, if_pos h2]
  · intro h2
    unfold baseF
    rw [if_pos ⟨h, h0, h1⟩, if_neg h2, Int.add_zero]

theorem least_is (a b c d s x : Int) : afn C5 100 5 [.agg [iv a, iv b, iv c, iv d], iv s, iv x] [] 0 (fun v _ _ => v = bv true) := by
  rw [least_ev a b c d s x (fun v => v = bv true)]
  have hm := ml_lo a
  have hd := ml_lo d
  have hb := mh_lo a b
  have hc := mh_lo a c
  have hp : ckP (mh a b) (ml a) (mh a c) (ml d) 0 := by unfold ckP ckO; omega
  have hs0 : 0 ≤ brF s 3 ∧ brF s 3 < 3 := by unfold brF; omega
  have hx : 0 ≤ brF x 9007199254740992 ∧ brF x 9007199254740992 ≤ 9007199254740991 := by unfold brF; omega
  have h1 := baseF_yes (x := brF x 9007199254740992) hp hs0.1 hs0.2
  have h2 := baseF_yes (x := 0) hp hs0.1 hs0.2
  have hn := baseF_lo (mh a b) (ml a) (mh a c) (ml d) 0 (brF s 3) (brF x 9007199254740992)
  generalize baseF (mh a b) (ml a) (mh a c) (ml d) 0 (brF s 3) (brF x 9007199254740992) = N at *
  generalize baseF (mh a b) (ml a) (mh a c) (ml d) 0 (brF s 3) 0 = N0 at *
  generalize brF s 3 = s' at *
  generalize brF x 9007199254740992 = x' at *
  generalize mh a c = S at *
  generalize ml d = V at *
  have hW : 1000000 ≤ max (4 * V) 1000000 ∧ 4 * V ≤ max (4 * V) 1000000 ∧ (max (4 * V) 1000000 = 4 * V ∨ max (4 * V) 1000000 = 1000000) ∧ max (4 * V) 1000000 ≤ 36028797018963964 := by omega
  generalize max (4 * V) 1000000 = W at *
  have tmc : ∀ n : Int, 0 ≤ n → (n ≤ 9007199254740991 ∧ tm n = n) ∨ (9007199254740991 < n ∧ tm n = 9007199254740991) := fun n hn => by unfold tm; omega
  have tx := tmc x' hx.1
  have t0 := tmc 0 (by omega)
  have hN : (s' = 2 ∧ N = tm (S + W + tm x')) ∨ (s' ≠ 2 ∧ N = tm (S + W) ∧ N0 = tm (S + W)) := by
    by_cases hs : s' = 2
    · exact .inl ⟨hs, h1.1 hs⟩
    · exact .inr ⟨hs, h1.2 hs, h2.2 hs⟩
  have hx' : tm x' = x' := by omega
  rw [hx'] at hN
  have tA := tmc (S + W + x') (by omega)
  have tB := tmc (S + W) (by omega)
  clear h1 h2 tmc tx t0 hx' hb hp
  generalize tm (S + W + x') = A at *
  generalize tm (S + W) = B at *
  rw [wr (n := S + 1000000) (by omega) (by omega), wr (n := N - S) (by omega) (by omega), wr (n := N - S - x') (by omega) (by omega), wr (n := 4 * V) (by omega) (by omega)]
  simp only [ifb_ite, beq_iff_eq, bne_iff_ne, decide_eq_true_eq]
  repeat' refine ite_in (fun _ => ?_) (fun _ => ?_)
  all_goals first | exact trivial | rfl | exact bv_dec (by omega) | (exfalso; omega)

theorem new_is (a : Int) : afn C4 100 6 [iv a] [] 0 (fun v _ _ => v = bv true) := by
  rw [new_ev a (fun v => v = bv true)]
  have hf : 0 ≤ brF a 59999000001 ∧ brF a 59999000001 < 59999000001 := by unfold brF; omega
  rw [wr (n := 1000000 + brF a 59999000001) (by omega) (by omega)]
  generalize hF : 1000000 + brF a 59999000001 = F
  rw [half (by omega) (by omega), wr (n := 4 * (F / 2)) (by omega) (by omega), wr (n := F + 4 * (F / 2)) (by omega) (by omega)]
  have hp : ckP 0 0 F (F / 2) (-1) := by unfold ckP ckN; omega
  have h0 := (baseF_yes (x := 9) (s := 0) hp (by omega) (by omega)).2 (by omega)
  have h1 := (baseF_yes (x := 9) (s := 1) hp (by omega) (by omega)).2 (by omega)
  have h2 := (baseF_yes (x := 0) (s := 0) hp (by omega) (by omega)).2 (by omega)
  have h3 := (baseF_yes (x := 9) (s := 2) hp (by omega) (by omega)).1 rfl
  unfold tm at h0 h1 h2 h3
  rw [h0, h1, h2, h3]
  rw [wr (n := _ + 9) (by omega) (by omega)]
  refine ifb_pos ?_ (ifb_pos ?_ (ifb_pos ?_ rfl))
  all_goals exact beq_iff_eq.2 (by omega)

/-! greater -/
theorem left_ge {b k : Int} (h0 : 0 ≤ b) (h1 : b ≤ 9007199254740991) : b ≤ left b k := by
  unfold left
  have h2 := pow_pos' k.toNat
  have h3 : b * 1 ≤ b * 2 ^ k.toNat := Int.mul_le_mul_of_nonneg_left h2 h0
  omega
theorem left_base {b c k : Int} (h0 : b ≤ c) : left b k ≤ left c k := by
  unfold left
  have h2 := pow_pos' k.toNat
  have h3 : b * 2 ^ k.toNat ≤ c * 2 ^ k.toNat := Int.mul_le_mul_of_nonneg_right h0 (by omega)
  omega
theorem left_count {b j k : Int} (h0 : 0 ≤ b) (h : j ≤ k) : left b j ≤ left b k := by
  unfold left
  have h2 : (2 : Int) ^ j.toNat ≤ 2 ^ k.toNat := pow_le' (by omega)
  have h3 : b * 2 ^ j.toNat ≤ b * 2 ^ k.toNat := Int.mul_le_mul_of_nonneg_left h2 h0
  omega
theorem left_left {b j k : Int} (h0 : 0 ≤ b) (hj : 0 ≤ j) (hk : 0 ≤ k) : left (left b j) k = left b (j + k) := by
  unfold left
  rw [show (j + k).toNat = k.toNat + j.toNat by omega, Int.pow_add]
  have h1 := pow_pos' k.toNat
  have h2 := pow_pos' j.toNat
  generalize (2 : Int) ^ k.toNat = p at *
  generalize (2 : Int) ^ j.toNat = q at *
  have e : b * (p * q) = b * q * p := by rw [Int.mul_comm p q, Int.mul_assoc]
  rw [e]
  have h3 : 0 ≤ b * q := Int.mul_nonneg h0 (by omega)
  by_cases h4 : b * q ≤ 9007199254740991
  · rw [Int.min_eq_left h4]
  · rw [Int.min_eq_right (a := b * q) (by omega)]
    have h5 : b * q * 1 ≤ b * q * p := Int.mul_le_mul_of_nonneg_left h1 h3
    have h6 : (9007199254740991 : Int) * 1 ≤ 9007199254740991 * p := Int.mul_le_mul_of_nonneg_left h1 (by omega)
    omega

theorem order_is (a b c x y z : Int) : afn C4 100 7 [.agg [iv a, iv b, iv c], .agg [iv x, iv y, iv z]] [] 0 (fun v _ _ => v = bv true) := by
  rw [order_ev a b c x y z (fun v => v = bv true), mh_eq]
  have hm := ml_lo a
  have hM := mh_lo a x
  have hb : 0 ≤ brF b 64 ∧ brF b 64 < 64 := by unfold brF; omega
  have hc : 0 ≤ brF c 64 ∧ brF c 64 < 64 := by unfold brF; omega
  have hy : 0 ≤ brF y 64 ∧ brF y 64 < 64 := by unfold brF; omega
  have hz : 0 ≤ brF z 64 ∧ brF z 64 < 64 := by unfold brF; omega
  have hw : 0 ≤ brF y 1099511627776 ∧ brF y 1099511627776 < 1099511627776 := by unfold brF; omega
  have e : brF a 9007199254740992 = ml a := rfl
  rw [e]
  generalize brF b 64 = b' at *
  generalize brF c 64 = c' at *
  generalize brF y 64 = y' at *
  generalize brF z 64 = z' at *
  generalize brF y 1099511627776 = w' at *
  generalize mh a x = m' at *
  generalize ml a = a' at *
  have t1 : tm a' = a' := by unfold tm; omega
  have t2 : tm m' = m' := by unfold tm; omega
  rw [wr (n := 9007199254740992 - a') (by omega) (by omega), wr (n := b' + y') (by omega) (by omega), wr (n := c' + z') (by omega) (by omega), wr (n := c' + w') (by omega) (by omega)]
  simp only [bkF_left, t1, t2]
  have g1 : a' ≤ left a' (min b' c') := left_ge hm.1 hm.2
  have g2 := left_hi a' (min b' c')
  have g3 : left a' (min b' c') ≤ left m' (min b' c') := left_base hM.1
  have g4 : left a' (min b' c') ≤ left a' (min (b' + y') c') := left_count hm.1 (by omega)
  have g5 : left a' (min b' c') ≤ left a' (min b' (c' + z')) := left_count hm.1 (by omega)
  have g6 : min (c' + w') c' = min c' c' := by omega
  rw [g6]
  simp only [ifb_ite, beq_iff_eq, bne_iff_ne, decide_eq_true_eq, Bool.and_eq_true]
  rw [if_neg (by omega), if_neg (by omega), if_pos (by omega), if_neg (by omega), if_neg (by omega), if_neg (by omega)]
  exact ite_in (fun _ => trivial) fun h => absurd trivial h

theorem twice_is (x y z : Int) : ∃ C, Sound C ∧ C.P = Try.prog ∧ afn C 100 8 [iv x, iv y, iv z] [] 0 (fun v _ _ => v = bv true) := by
  have hb := ml_lo x
  have hp : 0 ≤ brF y 40 ∧ brF y 40 < 40 := by unfold brF; omega
  have hq : 0 ≤ brF z 40 ∧ brF z 40 < 40 := by unfold brF; omega
  let b := brF x 9007199254740992
  let p := brF y 40
  let q := brF z 40
  have hb' : 0 ≤ b ∧ b ≤ 9007199254740991 := hb
  have hp' : 0 ≤ p ∧ p < 40 := hp
  have hq' : 0 ≤ q ∧ q < 40 := hq
  let Q : Int → Int → Prop := fun i w => 0 ≤ i ∧ i ≤ p + q ∧ w = left b i
  have q0 : Q 0 b := ⟨Int.le_refl _, by omega, (left_end (by omega) hb'.1 hb'.2).symm⟩
  refine ⟨CW Q b p q (p + q) ⟨0, b, q0⟩, ⟨tab_of T4_ok, fun f h => entersB_ok (allN_ok inl0_ok f h), mixed⟩, rfl, ?_⟩
  rw [twice_ev Q b p q (p + q) ⟨0, b, q0⟩ x y z (fun v => v = bv true)]
  refine ⟨⟨⟨rfl, rfl, rfl, rfl, vi_eq (wr (by omega) (by omega)), rfl, rfl, trivial⟩, trivial, side0⟩, ?_⟩
  rintro ⟨i, w, h0, h1, h2⟩
  simp only [ifb_ite, beq_iff_eq, decide_eq_true_eq]
  have t1 : tm b = b := by unfold tm; omega
  have l0 : 0 ≤ left b i := left_lo hb'.1
  have l1 := left_hi b i
  refine ite_in (fun hi => ?_) fun hi => ?_
  · refine ⟨⟨i + 1, left b (i + 1), by omega, by omega, rfl⟩, ⟨⟨trivial, trivial, trivial, trivial, trivial, vi_eq ?_, vi_eq (wr (by omega) (by omega)), trivial⟩, trivial, side0⟩, fall hi⟩
    show min (IntKind.i64.wrap (2 * w)) 9007199254740991 = left b (i + 1)
    rw [h2, wr (by omega) (by omega)]
    have h3 := left_left (b := b) (j := i) (k := 1) hb'.1 h0 (by omega)
    rw [← h3]
    unfold left
    rw [show (1 : Int).toNat = 1 from rfl, Int.pow_succ, Int.pow_zero]
    omega
  · have h4 : i = p + q := by omega
    rw [wr (n := p + q) (by omega) (by omega)]
    have t2 : tm (left b p) = left b p := by
      have := left_hi b p
      have := left_lo (b := b) (k := p) hb'.1
      unfold tm
      omega
    simp only [bkF_left, t1]
    rw [show min p (p + q) = p by omega, show min q (p + q) = q by omega, show min (p + q) (p + q) = p + q by omega, t2, left_left hb'.1 hp'.1 hq'.1, h2, h4, if_pos rfl, if_pos rfl]
    exact trivial

end Go.Proofs.Ytppebpacelcndaa.Pto
