/-
  TimerTellsDone: sounderlaw18.TimerTells returns true whatever it is given, and what it was given reads behind the call as it read before.
  Conditions: none.
-/
import Derived.Test.YtebogbhjgdihpaaRows
import Derived.Test.YtebogbhjgdihpaaTiG
import Derived.Test.YtebogbhjgdihpaaSyF
import Derived.WalkKit
import Derived.ProofKit
import Derived.OpenShut
import Derived.ShutString
import Derived.ChangeOld
import Derived.Below
import Derived.Carry
namespace Go.Proofs.Ytebogbhjgdihpaa.timerTellsDone
open Go Go.ChangeShapes Go.WideShapes Go.ChangeAt Go.RowKit Go.Proofs.Ytebogbhjgdihpaa.Sy
set_option linter.unusedVariables false

theorem own : ownKnob Try.prog.godebug = none := by kernel_rfl
theorem laidOut : laidOutB Try.prog = true := by kernel_rfl

set_option maxRecDepth 100000 in
set_option maxHeartbeats 4000000 in
theorem lifted (os : Os) (started : os.Started) (H : Type) (enc : TypeId × Value → H) :
    ReturnsInHanded {} Try.checked os 5 .any (Rows.timerTellsSpec.pre6 enc Try.prog Try.f5 Rows.timerTellsRow.domain false) (Rows.timerTellsSpec.post enc Try.prog Try.f5 false true false false) := by
  refine returnsInHanded_of_change (C := Try.checked) own started (by kernel_rfl) Try.func5
    (ChangeSpec.witness6 (enc := enc) (C := Try.checked) false ⟨#[], #[.agg #[.bool false, .int .i64 0, .int .i64 0, .int .i64 0, .bool false, .int .i64 0, .int .i64 0, .int .i64 0, .bool false, .int .i64 0, .int .i64 0, .int .i64 0, .bool false, .bool false, .bool false, .int .i64 0], .agg #[.int .i64 0, .int .i64 0, .int .i64 0, .int .i64 0, .int .i64 0, .int .i64 0, .int .i64 0, .int .i64 0]], []⟩ 8 (by kernel_rfl) (by kernel_rfl) (by kernel_rfl) (by kernel_rfl)) ?_
  intro W base args ds gs before hval0 hW hcnd _
  have hval : ∀ (j : Nat) t v, Try.f5.params[j]? = some t → args[j]? = some v → Value.okWide Try.prog W .any base t v := hval0
  have hW' := hW
  obtain ⟨p, q, hA0, hV, rfl, hfz, hnd⟩ := hW
  have hA : DataW.TrodAll enc Try.prog W 0 (fun _ => true) true Try.f5.params.toList args.toList ds p := hA0
  rw [Try.params5] at hA hval
  obtain ⟨v0, vs0, d0, ds0, p0, q0, hargs, rfl, rfl, h0, r0⟩ := trodAll_cons hA
  obtain ⟨v1, vs1, d1, ds1, p1, q1, rfl, rfl, rfl, h1, r1⟩ := trodAll_cons r0
  obtain ⟨rfl, rfl, rfl⟩ := trodAll_nil r1
  obtain ⟨rfl, rfl⟩ := trodVars_none hV
  obtain rfl : args = #[v0, v1] := by cases args; simp_all
  have k0 := h0
  have lt0 : ∀ x ∈ p0, x.block < W.heap.size := by obtain ⟨m, hm⟩ := k0; exact DataW.trod_lt m _ _ _ hm
  obtain ⟨cs0, rfl, ok0⟩ := open_flat (n := 8) (ks := [none, some .i64, some .i64, some .i64, none, some .i64, some .i64, some .i64, none, some .i64, some .i64, some .i64, none, none, none, some .i64]) (by kernel_rfl) (by kernel_rfl) (hval 0 28 v0 rfl rfl) h0
  obtain ⟨x0_0, s0_0, rfl, g0_0⟩ := CellsOK.cons_bool ok0
  obtain ⟨x0_1, s0_1, rfl, u0_1, g0_1⟩ := CellsOK.cons_int g0_0
  obtain ⟨x0_2, s0_2, rfl, u0_2, g0_2⟩ := CellsOK.cons_int g0_1
  obtain ⟨x0_3, s0_3, rfl, u0_3, g0_3⟩ := CellsOK.cons_int g0_2
  obtain ⟨x0_4, s0_4, rfl, g0_4⟩ := CellsOK.cons_bool g0_3
  obtain ⟨x0_5, s0_5, rfl, u0_5, g0_5⟩ := CellsOK.cons_int g0_4
  obtain ⟨x0_6, s0_6, rfl, u0_6, g0_6⟩ := CellsOK.cons_int g0_5
  obtain ⟨x0_7, s0_7, rfl, u0_7, g0_7⟩ := CellsOK.cons_int g0_6
  obtain ⟨x0_8, s0_8, rfl, g0_8⟩ := CellsOK.cons_bool g0_7
  obtain ⟨x0_9, s0_9, rfl, u0_9, g0_9⟩ := CellsOK.cons_int g0_8
  obtain ⟨x0_10, s0_10, rfl, u0_10, g0_10⟩ := CellsOK.cons_int g0_9
  obtain ⟨x0_11, s0_11, rfl, u0_11, g0_11⟩ := CellsOK.cons_int g0_10
  obtain ⟨x0_12, s0_12, rfl, g0_12⟩ := CellsOK.cons_bool g0_11
  obtain ⟨x0_13, s0_13, rfl, g0_13⟩ := CellsOK.cons_bool g0_12
  obtain ⟨x0_14, s0_14, rfl, g0_14⟩ := CellsOK.cons_bool g0_13
  obtain ⟨x0_15, s0_15, rfl, u0_15, g0_15⟩ := CellsOK.cons_int g0_14
  obtain rfl := CellsOK.nil g0_15
  have k1 := h1
  have lt1 : ∀ x ∈ p1, x.block < W.heap.size := by obtain ⟨m, hm⟩ := k1; exact DataW.trod_lt m _ _ _ hm
  obtain ⟨cs1, rfl, ok1⟩ := open_flat (n := 8) (ks := [some .i64, some .i64, some .i64, some .i64, some .i64, some .i64, some .i64, some .i64]) (by kernel_rfl) (by kernel_rfl) (hval 1 44 v1 rfl rfl) h1
  obtain ⟨x1_0, s1_0, rfl, u1_0, g1_0⟩ := CellsOK.cons_int ok1
  obtain ⟨x1_1, s1_1, rfl, u1_1, g1_1⟩ := CellsOK.cons_int g1_0
  obtain ⟨x1_2, s1_2, rfl, u1_2, g1_2⟩ := CellsOK.cons_int g1_1
  obtain ⟨x1_3, s1_3, rfl, u1_3, g1_3⟩ := CellsOK.cons_int g1_2
  obtain ⟨x1_4, s1_4, rfl, u1_4, g1_4⟩ := CellsOK.cons_int g1_3
  obtain ⟨x1_5, s1_5, rfl, u1_5, g1_5⟩ := CellsOK.cons_int g1_4
  obtain ⟨x1_6, s1_6, rfl, u1_6, g1_6⟩ := CellsOK.cons_int g1_5
  obtain ⟨x1_7, s1_7, rfl, u1_7, g1_7⟩ := CellsOK.cons_int g1_6
  obtain rfl := CellsOK.nil g1_7
  clear hA0 hval0
  obtain ⟨C, hS, hC, hw⟩ := Pto.tells_is x0_0 x0_1 x0_2 x0_3 x0_4 x0_5 x0_6 x0_7 x0_8 x0_9 x0_10 x0_11 x0_12 x0_13 x0_14 x0_15 x1_0 x1_1 x1_2 x1_3 x1_4 x1_5 x1_6 x1_7
  have main := calls_closed (u := .bool true) hS rfl rfl hw W
  rw [hC] at main
  refine main.mono fun e W' ⟨he, bel⟩ => ?_
  subst he
  exact ⟨_, rfl, _, _, _, [], _, [], hW', trodAll_mk1 (shut_bool Try.underlying4 _), (trodAll_cons_mk (Below.trod laidOut (by kernel_rfl) (of_decide_eq_true (by kernel_rfl)) k0 bel lt0) (trodAll_cons_mk (Below.trod laidOut (by kernel_rfl) (of_decide_eq_true (by kernel_rfl)) k1 bel lt1) trodAll_mk0)), rfl, bel.frame _, fun h => by cases h⟩

theorem over : Rows.timerTellsRow.holds Try.pinned (OpenSpec.ofChange Rows.timerTellsSpec) :=
  OpenClaim.holds_of_wide 5 Try.f5 rfl rfl rfl rfl rfl rfl rfl ⟨rfl, rfl, rfl, rfl, rfl⟩ rfl rfl rfl rfl rfl (by kernel_rfl) Try.func5 (by kernel_rfl)
    (of_decide_eq_true (by kernel_rfl)) (by unfold Func.isWrapper; first | (rw [if_pos (by decide +kernel)]; kernel_rfl) | (rw [if_neg (by decide +kernel)]; exact ⟨rfl, rfl⟩))
    (fun os started H enc _ => lifted os started H enc)

theorem proved : Rows.TimerTellsSaid := over
#print axioms proved
end Go.Proofs.Ytebogbhjgdihpaa.timerTellsDone
