/-
  TimerLateDone: sounderlaw18.TimerLate returns true whatever it is given, and what it was given reads behind the call as it read before.
  Conditions: none.
-/
import Derived.Test.YtebogbhjgdihpaaRows
import Derived.Test.YtebogbhjgdihpaaTiM
import Derived.Test.YtebogbhjgdihpaaSyF
import Derived.WalkKit
import Derived.ProofKit
import Derived.OpenShut
import Derived.ShutString
import Derived.ChangeOld
import Derived.Below
import Derived.Carry
namespace Go.Proofs.Ytebogbhjgdihpaa.timerLateDone
open Go Go.ChangeShapes Go.WideShapes Go.ChangeAt Go.RowKit Go.Proofs.Ytebogbhjgdihpaa.Sy
set_option linter.unusedVariables false

theorem own : ownKnob Try.prog.godebug = none := by kernel_rfl
theorem laidOut : laidOutB Try.prog = true := by kernel_rfl

set_option maxRecDepth 100000 in
set_option maxHeartbeats 4000000 in
theorem lifted (os : Os) (started : os.Started) (H : Type) (enc : TypeId × Value → H) :
    ReturnsInHanded {} Try.checked os 7 .any (Rows.timerLateSpec.pre6 enc Try.prog Try.f7 Rows.timerLateRow.domain false) (Rows.timerLateSpec.post enc Try.prog Try.f7 false true false false) := by
  refine returnsInHanded_of_change (C := Try.checked) own started (by kernel_rfl) Try.func7
    (ChangeSpec.witness6 (enc := enc) (C := Try.checked) false ⟨#[], #[.agg #[.int .i64 0, .int .i64 0, .int .i64 0, .int .i64 0, .int .i64 0, .int .i64 0, .int .i64 0, .int .i64 0, .int .i64 0, .int .i64 0, .int .i64 0, .int .i64 0], .int .i64 0, .agg #[.int .i64 0, .int .i64 0, .int .i64 0, .int .i64 0]], []⟩ 8 (by kernel_rfl) (by kernel_rfl) (by kernel_rfl) (by kernel_rfl)) ?_
  intro W base args ds gs before hval0 hW hcnd _
  have hval : ∀ (j : Nat) t v, Try.f7.params[j]? = some t → args[j]? = some v → Value.okWide Try.prog W .any base t v := hval0
  have hW' := hW
  obtain ⟨p, q, hA0, hV, rfl, hfz, hnd⟩ := hW
  have hA : DataW.TrodAll enc Try.prog W 0 (fun _ => true) true Try.f7.params.toList args.toList ds p := hA0
  rw [Try.params7] at hA hval
  obtain ⟨v0, vs0, d0, ds0, p0, q0, hargs, rfl, rfl, h0, r0⟩ := trodAll_cons hA
  obtain ⟨v1, vs1, d1, ds1, p1, q1, rfl, rfl, rfl, h1, r1⟩ := trodAll_cons r0
  obtain ⟨v2, vs2, d2, ds2, p2, q2, rfl, rfl, rfl, h2, r2⟩ := trodAll_cons r1
  obtain ⟨rfl, rfl, rfl⟩ := trodAll_nil r2
  obtain ⟨rfl, rfl⟩ := trodVars_none hV
  obtain rfl : args = #[v0, v1, v2] := by cases args; simp_all
  have k0 := h0
  have lt0 : ∀ x ∈ p0, x.block < W.heap.size := by obtain ⟨m, hm⟩ := k0; exact DataW.trod_lt m _ _ _ hm
  obtain ⟨cs0, rfl, ok0⟩ := open_flat (n := 8) (ks := [some .i64, some .i64, some .i64, some .i64, some .i64, some .i64, some .i64, some .i64, some .i64, some .i64, some .i64, some .i64]) (by kernel_rfl) (by kernel_rfl) (hval 0 30 v0 rfl rfl) h0
  obtain ⟨x0_0, s0_0, rfl, u0_0, g0_0⟩ := CellsOK.cons_int ok0
  obtain ⟨x0_1, s0_1, rfl, u0_1, g0_1⟩ := CellsOK.cons_int g0_0
  obtain ⟨x0_2, s0_2, rfl, u0_2, g0_2⟩ := CellsOK.cons_int g0_1
  obtain ⟨x0_3, s0_3, rfl, u0_3, g0_3⟩ := CellsOK.cons_int g0_2
  obtain ⟨x0_4, s0_4, rfl, u0_4, g0_4⟩ := CellsOK.cons_int g0_3
  obtain ⟨x0_5, s0_5, rfl, u0_5, g0_5⟩ := CellsOK.cons_int g0_4
  obtain ⟨x0_6, s0_6, rfl, u0_6, g0_6⟩ := CellsOK.cons_int g0_5
  obtain ⟨x0_7, s0_7, rfl, u0_7, g0_7⟩ := CellsOK.cons_int g0_6
  obtain ⟨x0_8, s0_8, rfl, u0_8, g0_8⟩ := CellsOK.cons_int g0_7
  obtain ⟨x0_9, s0_9, rfl, u0_9, g0_9⟩ := CellsOK.cons_int g0_8
  obtain ⟨x0_10, s0_10, rfl, u0_10, g0_10⟩ := CellsOK.cons_int g0_9
  obtain ⟨x0_11, s0_11, rfl, u0_11, g0_11⟩ := CellsOK.cons_int g0_10
  obtain rfl := CellsOK.nil g0_11
  obtain ⟨a1, rfl, rfl, rfl, w1⟩ := open_int Try.underlying3 (hval 1 3 v1 rfl rfl) h1
  have k2 := h2
  have lt2 : ∀ x ∈ p2, x.block < W.heap.size := by obtain ⟨m, hm⟩ := k2; exact DataW.trod_lt m _ _ _ hm
  obtain ⟨cs2, rfl, ok2⟩ := open_flat (n := 8) (ks := [some .i64, some .i64, some .i64, some .i64]) (by kernel_rfl) (by kernel_rfl) (hval 2 57 v2 rfl rfl) h2
  obtain ⟨x2_0, s2_0, rfl, u2_0, g2_0⟩ := CellsOK.cons_int ok2
  obtain ⟨x2_1, s2_1, rfl, u2_1, g2_1⟩ := CellsOK.cons_int g2_0
  obtain ⟨x2_2, s2_2, rfl, u2_2, g2_2⟩ := CellsOK.cons_int g2_1
  obtain ⟨x2_3, s2_3, rfl, u2_3, g2_3⟩ := CellsOK.cons_int g2_2
  obtain rfl := CellsOK.nil g2_3
  clear hA0 hval0
  obtain ⟨C, hS, hC, hw⟩ := Pto.late_is x0_0 x0_1 x0_2 x0_3 x0_4 x0_5 x0_6 x0_7 x0_8 x0_9 x0_10 x0_11 a1 x2_0 x2_1 x2_2 x2_3
  have main := calls_closed (u := .bool true) hS rfl rfl hw W
  rw [hC] at main
  refine main.mono fun e W' ⟨he, bel⟩ => ?_
  subst he
  exact ⟨_, rfl, _, _, _, [], _, [], hW', trodAll_mk1 (shut_bool Try.underlying4 _), (trodAll_cons_mk (Below.trod laidOut (by kernel_rfl) (of_decide_eq_true (by kernel_rfl)) k0 bel lt0) (trodAll_cons_mk (shut_int Try.underlying3 w1) (trodAll_cons_mk (Below.trod laidOut (by kernel_rfl) (of_decide_eq_true (by kernel_rfl)) k2 bel lt2) trodAll_mk0))), rfl, bel.frame _, fun h => by cases h⟩

theorem over : Rows.timerLateRow.holds Try.pinned (OpenSpec.ofChange Rows.timerLateSpec) :=
  OpenClaim.holds_of_wide 7 Try.f7 rfl rfl rfl rfl rfl rfl rfl ⟨rfl, rfl, rfl, rfl, rfl⟩ rfl rfl rfl rfl rfl (by kernel_rfl) Try.func7 (by kernel_rfl)
    (of_decide_eq_true (by kernel_rfl)) (by unfold Func.isWrapper; first | (rw [if_pos (by decide +kernel)]; kernel_rfl) | (rw [if_neg (by decide +kernel)]; exact ⟨rfl, rfl⟩))
    (fun os started H enc _ => lifted os started H enc)

theorem proved : Rows.TimerLateSaid := over
#print axioms proved
end Go.Proofs.Ytebogbhjgdihpaa.timerLateDone
