/-
  TiL: TimerAlone, TimerLate.
-/
import Derived.Test.YtebogbhjgdihpaaTiK
namespace Go.Proofs.Ytebogbhjgdihpaa.Pto
open Go Go.RowKit Go.Proofs.Ytebogbhjgdihpaa.Sy
set_option linter.unusedVariables false
set_option linter.unusedSimpArgs false
set_option maxRecDepth 100000
set_option maxHeartbeats 1000000

/-! ### TimerAlone -/
theorem or4 (b : Int) : bt (bits BinOp.or IntKind.i64 b 4) 4 = true := by
  have h0 : 4 ≤ brF (bits BinOp.or IntKind.i64 b 4) 8 := by
    have e : bits BinOp.or IntKind.i64 b 4 = IntKind.i64.wrap ((BitVec.ofInt 64 b ||| BitVec.ofInt 64 4).toNat : Int) := rfl
    rw [e, IntKind.wrap_i64]
    generalize hN : (BitVec.ofInt 64 b ||| BitVec.ofInt 64 4).toNat = N
    have h1 : N.testBit 2 = true := by
      rw [← hN, BitVec.toNat_or, Nat.testBit_or]
      have : (BitVec.ofInt 64 4).toNat.testBit 2 = true := by decide
      rw [this, Bool.or_true]
    have h2 : N / 4 % 2 = 1 := by
      rw [Nat.testBit_eq_decide_div_mod_eq] at h1
      simpa using h1
    unfold brF
    omega
  rcases bt_tab (bits BinOp.or IntKind.i64 b 4) with ⟨_, _, _, h⟩ | ⟨_, _, _, h⟩ | ⟨_, h, _⟩ | ⟨_, h, _⟩
  · omega
  · omega
  · exact h
  · exact h
theorem sp0 : spM ⟨0, 0, 0, 0⟩ = ⟨false, -1, -1, 0⟩ := by
  have h1 : bt 0 1 = false := by kernel_rfl
  have h2 : bt 0 2 = false := by kernel_rfl
  have h4 : bt 0 4 = false := by kernel_rfl
  unfold spM
  dsimp only
  rw [h1, h2, h4]
  rfl
theorem alone_law (a1 a2 b1 b2 c1 c2 p1 p2 : Bool) (l1 t1 m1 l2 t2 m2 l3 t3 m3 n k : Int) (hf : okF ⟨⟨a1, l1, t1, m1⟩, ⟨b1, l2, t2, m2⟩, ⟨c1, l3, t3, m3⟩, true, false, p1, n⟩)
    (hk : k = 0 ∧ 0 < m1 ∧ l2 = -1 ∧ m2 = 0 ∧ l3 = -1 ∧ m3 = 0 ∨ k = 1 ∧ 0 < m2 ∧ l1 = -1 ∧ m1 = 0 ∧ l3 = -1 ∧ m3 = 0 ∨ k = 2 ∧ 0 < m3 ∧ l1 = -1 ∧ m1 = 0 ∧ l2 = -1 ∧ m2 = 0) :
    pickF ⟨⟨a1, l1, t1, m1⟩, ⟨b1, l2, t2, m2⟩, ⟨c1, l3, t3, m3⟩, true, false, p1, n⟩ mz = pickF ⟨⟨a2, l1, t1, m1⟩, ⟨b2, l2, t2, m2⟩, ⟨c2, l3, t3, m3⟩, true, false, p2, n⟩ mz ∧
    (pickF ⟨⟨a1, l1, t1, m1⟩, ⟨b1, l2, t2, m2⟩, ⟨c1, l3, t3, m3⟩, true, false, p1, n⟩ mz).s = k ∧ 0 < (pickF ⟨⟨a1, l1, t1, m1⟩, ⟨b1, l2, t2, m2⟩, ⟨c1, l3, t3, m3⟩, true, false, p1, n⟩ mz).k := by
  have hg : okF ⟨⟨a2, l1, t1, m1⟩, ⟨b2, l2, t2, m2⟩, ⟨c2, l3, t3, m3⟩, true, false, p2, n⟩ := hf
  have P := hok_of hf ck_mz
  have Q := hok_of hg ck_mz
  have hlo := lo_spec hf
  have hpb := pb_spec hf wt0 wt1 wt2 (by decide) (by decide) (by decide)
  have e1 : lo3 ⟨⟨a2, l1, t1, m1⟩, ⟨b2, l2, t2, m2⟩, ⟨c2, l3, t3, m3⟩, true, false, p2, n⟩ = lo3 ⟨⟨a1, l1, t1, m1⟩, ⟨b1, l2, t2, m2⟩, ⟨c1, l3, t3, m3⟩, true, false, p1, n⟩ := rfl
  have e2 : pb3 ⟨⟨a2, l1, t1, m1⟩, ⟨b2, l2, t2, m2⟩, ⟨c2, l3, t3, m3⟩, true, false, p2, n⟩ mz = pb3 ⟨⟨a1, l1, t1, m1⟩, ⟨b1, l2, t2, m2⟩, ⟨c1, l3, t3, m3⟩, true, false, p1, n⟩ mz := rfl
  rcases hlo with ⟨h, hl3⟩ | ⟨h, s, hl3, h3, h4⟩
  · rcases hpb with ⟨h5, hp3⟩ | ⟨h5, s, t, hp3, h6, h7, h8, h9, h10, h11, h12⟩
    · exfalso
      unfold ar3 ar2 ar1 at h5
      simp only [Bool.or_eq_false_iff, decide_eq_false_iff_not, Bool.and_true] at h5
      omega
    · rw [pick_pb (r := mz) P (by rw [hl3]; rfl) rfl (by rw [hp3]; dsimp only; omega), pick_pb (r := mz) Q (by rw [e1, hl3]; rfl) rfl (by rw [e2, hp3]; dsimp only; omega), e2, hp3]
      dsimp only at h7
      exact ⟨rfl, by dsimp only; omega, (by show (0 : Int) < 2; decide)⟩
  · rw [pick_lo (r := mz) P (.inl (by rw [hl3]; dsimp only; omega)), pick_lo (r := mz) Q (.inl (by rw [e1, hl3]; dsimp only; omega)), e1, hl3]
    dsimp only at h3
    exact ⟨rfl, by dsimp only; omega, (by show (0 : Int) < 1; decide)⟩
theorem same3 {d e : Dd} (h : d = e) : (d.k == e.k && (d.s == e.s && (d.t == e.t && true))) = true := by rw [h]; simp
theorem alone_is (s b l t m u : Int) : ∃ C, Sound C ∧ C.P = Try.prog ∧ afn C 100 8 [iv s, .agg [iv b, iv l, iv t, iv m], iv u] [] 0 (fun v _ _ => v = bv true) := by
  have hs := brF_lo s (b := 3) (by omega)
  have hx := spM_ok ⟨bits BinOp.or IntKind.i64 b 4, l, t, m⟩
  have hm : 0 < (spM ⟨bits BinOp.or IntKind.i64 b 4, l, t, m⟩).m := (spM_bits ⟨bits BinOp.or IntKind.i64 b 4, l, t, m⟩).2.2.1 (or4 b)
  have hs3 : brF s 3 = 0 ∨ brF s 3 = 1 ∨ brF s 3 = 2 := by omega
  rcases hs3 with h3 | h3 | h3
  · refine ⟨_, S8 (madeF ⟨bits BinOp.or IntKind.i64 b 4, l, t, m⟩ ⟨0, 0, 0, 0⟩ ⟨0, 0, 0, 0⟩ 1 5) 0, rfl, (alone0_ev (madeF ⟨bits BinOp.or IntKind.i64 b 4, l, t, m⟩ ⟨0, 0, 0, 0⟩ ⟨0, 0, 0, 0⟩ 1 5) s ⟨b, l, t, m⟩ u (fun v => v = bv true)).mpr ?_⟩
    refine ifb_pos (decide_eq_true h3) (ifb_pos (decide_eq_true rfl) ?_)
    have hf := made_ok ⟨bits BinOp.or IntKind.i64 b 4, l, t, m⟩ ⟨0, 0, 0, 0⟩ ⟨0, 0, 0, 0⟩ 1 5
    have e : madeF ⟨bits BinOp.or IntKind.i64 b 4, l, t, m⟩ ⟨0, 0, 0, 0⟩ ⟨0, 0, 0, 0⟩ 1 5 = ⟨spM ⟨bits BinOp.or IntKind.i64 b 4, l, t, m⟩, ⟨false, -1, -1, 0⟩, ⟨false, -1, -1, 0⟩, true, false, false, brF 5 1125899906842624⟩ := by
      unfold madeF; rw [sp0, u1.1, u1.2.1, u1.2.2]
    rw [e] at hf ⊢
    generalize spM ⟨bits BinOp.or IntKind.i64 b 4, l, t, m⟩ = S at *
    obtain ⟨k1, l1, t1, m1⟩ := S
    have := alone_law k1 (bits BinOp.and IntKind.i64 (brF u 8 / 1) 1 == 1) false (bits BinOp.and IntKind.i64 (brF u 8 / 2) 1 == 1) false (bits BinOp.and IntKind.i64 (brF u 8 / 4) 1 == 1) false (brF u 16 / 8 == 1) l1 t1 m1 (-1) (-1) 0 (-1) (-1) 0 (brF 5 1125899906842624) 0 hf (.inl ⟨rfl, hm, rfl, rfl, rfl, rfl⟩)
    exact ifb_pos (same3 this.1) (ifb_pos (beq_yes this.2.1) (ifb_pos (decide_eq_true this.2.2) rfl))
  · refine ⟨_, S8 (madeF ⟨0, 0, 0, 0⟩ ⟨bits BinOp.or IntKind.i64 b 4, l, t, m⟩ ⟨0, 0, 0, 0⟩ 1 5) 1, rfl, (alone1_ev (madeF ⟨0, 0, 0, 0⟩ ⟨bits BinOp.or IntKind.i64 b 4, l, t, m⟩ ⟨0, 0, 0, 0⟩ 1 5) s ⟨b, l, t, m⟩ u (fun v => v = bv true)).mpr ?_⟩
    refine ifb_pos (decide_eq_true h3) (ifb_pos (decide_eq_true rfl) ?_)
    have hf := made_ok ⟨0, 0, 0, 0⟩ ⟨bits BinOp.or IntKind.i64 b 4, l, t, m⟩ ⟨0, 0, 0, 0⟩ 1 5
    have e : madeF ⟨0, 0, 0, 0⟩ ⟨bits BinOp.or IntKind.i64 b 4, l, t, m⟩ ⟨0, 0, 0, 0⟩ 1 5 = ⟨⟨false, -1, -1, 0⟩, spM ⟨bits BinOp.or IntKind.i64 b 4, l, t, m⟩, ⟨false, -1, -1, 0⟩, true, false, false, brF 5 1125899906842624⟩ := by
      unfold madeF; rw [sp0, u1.1, u1.2.1, u1.2.2]
    rw [e] at hf ⊢
    generalize spM ⟨bits BinOp.or IntKind.i64 b 4, l, t, m⟩ = S at *
    obtain ⟨k1, l1, t1, m1⟩ := S
    have := alone_law false (bits BinOp.and IntKind.i64 (brF u 8 / 1) 1 == 1) k1 (bits BinOp.and IntKind.i64 (brF u 8 / 2) 1 == 1) false (bits BinOp.and IntKind.i64 (brF u 8 / 4) 1 == 1) false (brF u 16 / 8 == 1) (-1) (-1) 0 l1 t1 m1 (-1) (-1) 0 (brF 5 1125899906842624) 1 hf (.inr (.inl ⟨rfl, hm, rfl, rfl, rfl, rfl⟩))
    exact ifb_pos (same3 this.1) (ifb_pos (beq_yes this.2.1) (ifb_pos (decide_eq_true this.2.2) rfl))
  · refine ⟨_, S8 (madeF ⟨0, 0, 0, 0⟩ ⟨0, 0, 0, 0⟩ ⟨bits BinOp.or IntKind.i64 b 4, l, t, m⟩ 1 5) 2, rfl, (alone2_ev (madeF ⟨0, 0, 0, 0⟩ ⟨0, 0, 0, 0⟩ ⟨bits BinOp.or IntKind.i64 b 4, l, t, m⟩ 1 5) s ⟨b, l, t, m⟩ u (fun v => v = bv true)).mpr ?_⟩
    refine ifb_pos (decide_eq_true h3) (ifb_pos (decide_eq_true rfl) ?_)
    have hf := made_ok ⟨0, 0, 0, 0⟩ ⟨0, 0, 0, 0⟩ ⟨bits BinOp.or IntKind.i64 b 4, l, t, m⟩ 1 5
    have e : madeF ⟨0, 0, 0, 0⟩ ⟨0, 0, 0, 0⟩ ⟨bits BinOp.or IntKind.i64 b 4, l, t, m⟩ 1 5 = ⟨⟨false, -1, -1, 0⟩, ⟨false, -1, -1, 0⟩, spM ⟨bits BinOp.or IntKind.i64 b 4, l, t, m⟩, true, false, false, brF 5 1125899906842624⟩ := by
      unfold madeF; rw [sp0, u1.1, u1.2.1, u1.2.2]
    rw [e] at hf ⊢
    generalize spM ⟨bits BinOp.or IntKind.i64 b 4, l, t, m⟩ = S at *
    obtain ⟨k1, l1, t1, m1⟩ := S
    have := alone_law false (bits BinOp.and IntKind.i64 (brF u 8 / 1) 1 == 1) false (bits BinOp.and IntKind.i64 (brF u 8 / 2) 1 == 1) k1 (bits BinOp.and IntKind.i64 (brF u 8 / 4) 1 == 1) false (brF u 16 / 8 == 1) (-1) (-1) 0 (-1) (-1) 0 l1 t1 m1 (brF 5 1125899906842624) 2 hf (.inr (.inr ⟨rfl, hm, rfl, rfl, rfl, rfl⟩))
    exact ifb_pos (same3 this.1) (ifb_pos (beq_yes this.2.1) (ifb_pos (decide_eq_true this.2.2) rfl))

end Go.Proofs.Ytebogbhjgdihpaa.Pto
