/-
  RtC: RttHolds, RttTells.
-/
import Derived.Test.YtglbkijmmckkpaaRtB
namespace Go.Proofs.Ytglbkijmmckkpaa.Rt
open Go Go.RowKit Go.Proofs.Ytglbkijmmckkpaa.Sy Go.Proofs.Ytglbkijmmckkpaa.Cm
set_option linter.unusedVariables false
set_option linter.unusedSimpArgs false

theorem holds_is (d m : Int) (k : Bool) : afn C3 100 3 [iv d, iv m, bv k] [] 0 (fun v _ _ => v = bv true) := by
  rw [holds_ev d m k (fun v => v = bv true)]
  exact ifb_pos (beq_self _) rfl
theorem tells_is (a b c d e f x y z : Int) : afn C3 100 8 [rv a b c d e, iv f, .agg [iv x, iv y, iv z]] [] 0 (fun v _ _ => v = bv true) := by
  rw [tells_ev a b c d e f x y z (fun v => v = bv true)]
  exact ifb_neg (by simp) (ifb_neg (by simp) (ifb_neg (by simp) (ifb_neg (by simp) (ifb_pos (beq_self _) (ifb_pos (beq_self _) rfl)))))

end Go.Proofs.Ytglbkijmmckkpaa.Rt
