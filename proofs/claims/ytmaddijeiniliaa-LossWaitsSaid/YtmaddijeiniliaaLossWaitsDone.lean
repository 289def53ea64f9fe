/-
  LossWaitsDone: sounderlaw09.LossWaits returns true whatever it is given, and what it was given reads behind the call as it read before.
  Conditions: none.
-/
import Derived.Test.YtmaddijeiniliaaRows
import Derived.Test.YtmaddijeiniliaaLsI
import Derived.Test.YtmaddijeiniliaaSyF
import Derived.WalkKit
import Derived.ProofKit
import Derived.OpenShut
import Derived.ShutString
import Derived.ChangeOld
import Derived.Below
import Derived.Carry
namespace Go.Proofs.Ytmaddijeiniliaa.lossWaitsDone
open Go Go.ChangeShapes Go.WideShapes Go.ChangeAt Go.RowKit Go.Proofs.Ytmaddijeiniliaa.Sy
set_option linter.unusedVariables false

theorem own : ownKnob Try.prog.godebug = none := by kernel_rfl
theorem laidOut : laidOutB Try.prog = true := by kernel_rfl

set_option maxRecDepth 100000 in
set_option maxHeartbeats 4000000 in
theorem lifted (os : Os) (started : os.Started) (H : Type) (enc : TypeId × Value → H) :
    ReturnsInHanded {} Try.checked os 4 .any (Rows.lossWaitsSpec.pre6 enc Try.prog Try.f4 Rows.lossWaitsRow.domain false) (Rows.lossWaitsSpec.post enc Try.prog Try.f4 false true false false) := by
  refine returnsInHanded_of_change (C := Try.checked) own started (by kernel_rfl) Try.func4
    (ChangeSpec.witness6 (enc := enc) (C := Try.checked) false ⟨#[], #[.agg #[.int .i64 0, .int .i64 0, .int .i64 0, .int .i64 0, .int .i64 0]], []⟩ 8 (by kernel_rfl) (by kernel_rfl) (by kernel_rfl) (by kernel_rfl)) ?_
  intro W base args ds gs before hval0 hW hcnd _
  have hval : ∀ (j : Nat) t v, Try.f4.params[j]? = some t → args[j]? = some v → Value.okWide Try.prog W .any base t v := hval0
  have hW' := hW
  obtain ⟨p, q, hA0, hV, rfl, hfz, hnd⟩ := hW
  have hA : DataW.TrodAll enc Try.prog W 0 (fun _ => true) true Try.f4.params.toList args.toList ds p := hA0
  rw [Try.params4] at hA hval
  obtain ⟨v0, vs0, d0, ds0, p0, q0, hargs, rfl, rfl, h0, r0⟩ := trodAll_cons hA
  obtain ⟨rfl, rfl, rfl⟩ := trodAll_nil r0
  obtain ⟨rfl, rfl⟩ := trodVars_none hV
  obtain rfl : args = #[v0] := by cases args; simp_all
  have k0 := h0
  have lt0 : ∀ x ∈ p0, x.block < W.heap.size := by obtain ⟨m, hm⟩ := k0; exact DataW.trod_lt m _ _ _ hm
  obtain ⟨cs0, rfl, ok0⟩ := open_flat (n := 8) (ks := [some .i64, some .i64, some .i64, some .i64, some .i64]) (by kernel_rfl) (by kernel_rfl) (hval 0 25 v0 rfl rfl) h0
  obtain ⟨x0_0, s0_0, rfl, u0_0, g0_0⟩ := CellsOK.cons_int ok0
  obtain ⟨x0_1, s0_1, rfl, u0_1, g0_1⟩ := CellsOK.cons_int g0_0
  obtain ⟨x0_2, s0_2, rfl, u0_2, g0_2⟩ := CellsOK.cons_int g0_1
  obtain ⟨x0_3, s0_3, rfl, u0_3, g0_3⟩ := CellsOK.cons_int g0_2
  obtain ⟨x0_4, s0_4, rfl, u0_4, g0_4⟩ := CellsOK.cons_int g0_3
  obtain rfl := CellsOK.nil g0_4
  clear hA0 hval0
  obtain ⟨C, hS, hC, hw⟩ := Ls.waits_is x0_0 x0_1 x0_2 x0_3 x0_4
  have main := calls_closed (u := .bool true) hS rfl rfl hw W
  rw [hC] at main
  refine main.mono fun e W' ⟨he, bel⟩ => ?_
  subst he
  exact ⟨_, rfl, _, _, _, [], _, [], hW', trodAll_mk1 (shut_bool Try.underlying4 _), (trodAll_cons_mk (Below.trod laidOut (by kernel_rfl) (of_decide_eq_true (by kernel_rfl)) k0 bel lt0) trodAll_mk0), rfl, bel.frame _, fun h => by cases h⟩

theorem over : Rows.lossWaitsRow.holds Try.pinned (OpenSpec.ofChange Rows.lossWaitsSpec) :=
  OpenClaim.holds_of_wide 4 Try.f4 rfl rfl rfl rfl rfl rfl rfl ⟨rfl, rfl, rfl, rfl, rfl⟩ rfl rfl rfl rfl rfl (by kernel_rfl) Try.func4 (by kernel_rfl)
    (of_decide_eq_true (by kernel_rfl)) (by unfold Func.isWrapper; first | (rw [if_pos (by decide +kernel)]; kernel_rfl) | (rw [if_neg (by decide +kernel)]; exact ⟨rfl, rfl⟩))
    (fun os started H enc _ => lifted os started H enc)

theorem proved : Rows.LossWaitsSaid := over
#print axioms proved
end Go.Proofs.Ytmaddijeiniliaa.lossWaitsDone
