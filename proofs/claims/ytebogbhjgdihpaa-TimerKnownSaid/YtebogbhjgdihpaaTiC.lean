/-
  TiC: Pick and its reference answer alike.
-/
import Derived.Test.YtebogbhjgdihpaaTiB
namespace Go.Proofs.Ytebogbhjgdihpaa.Pto
open Go Go.RowKit Go.Proofs.Ytebogbhjgdihpaa.Sy
set_option linter.unusedVariables false
set_option linter.unusedSimpArgs false
set_option maxRecDepth 100000
set_option maxHeartbeats 4000000

/-! ### times, facts -/
theorem bv_eq' {a b : Bool} (h : a = b) : AV.val (.bool a) = bv b := by rw [h]
theorem isN_max (n : Int) : (n == max 0 (min n 9007199254740991)) = isN n := by
  unfold isN
  rw [Bool.eq_iff_iff, beq_iff_eq, decide_eq_true_eq]
  omega
theorem is_is (n : Int) : afn CI 100 22 [iv n] [] 0 (fun v _ _ => v = bv (isN n)) := by
  rw [is_ev n (fun v => v = bv (isN n))]
  exact bv_eq' (isN_max n)
theorem ris_is (n : Int) : afn CI 100 37 [iv n] [] 0 (fun v _ _ => v = bv (isN n)) := by
  rw [ris_ev n (fun v => v = bv (isN n)), ifb_ite]
  unfold isN
  refine ite_in (fun h => bv_eq' ?_) fun h => bv_eq' ?_
  · have h := of_decide_eq_true h
    rw [Bool.eq_iff_iff, decide_eq_true_eq, decide_eq_true_eq]
    omega
  · rw [eq_comm, decide_eq_false_iff_not]
    simp only [decide_eq_true_eq] at h
    omega
theorem ist_is (n : Int) : afn CI 100 21 [iv n] [] 0 (fun v _ _ => v = bv (isT n)) := by
  rw [ist_ev n (fun v => v = bv (isT n)), ifb_ite]
  refine ite_in (fun h => bv_eq' ?_) fun h => bv_eq' ?_
  · unfold isT
    rw [eq_comm, decide_eq_true_eq]
    simp only [beq_iff_eq] at h
    omega
  · rw [isN_max]
    unfold isT isN
    rw [Bool.eq_iff_iff, decide_eq_true_eq, decide_eq_true_eq]
    simp only [beq_iff_eq] at h
    omega
theorem rist_is (n : Int) : afn CI 100 36 [iv n] [] 0 (fun v _ _ => v = bv (isT n)) := by
  rw [rist_ev n (fun v => v = bv (isT n))]
  simp only [ifb_ite, beq_iff_eq, decide_eq_true_eq]
  unfold isT
  refine ite_in (fun h => bv_eq' ?_) fun h => ite_in (fun h2 => bv_eq' ?_) fun h2 => bv_eq' ?_
  · rw [eq_comm, decide_eq_true_eq]
    omega
  · rw [Bool.eq_iff_iff, decide_eq_true_eq, decide_eq_true_eq]
    omega
  · rw [eq_comm, decide_eq_false_iff_not]
    omega
theorem eIs : EntryOK Try.prog 22 (plain gIs) := entry_closed SI (by kernel_rfl) fun args v h => by
  unfold gIs at h
  split at h
  · cases h; exact ⟨rfl, rfl, 100, is_is _⟩
  · cases h
theorem eRIs : EntryOK Try.prog 37 (plain gIs) := entry_closed SI (by kernel_rfl) fun args v h => by
  unfold gIs at h
  split at h
  · cases h; exact ⟨rfl, rfl, 100, ris_is _⟩
  · cases h
theorem eIsT : EntryOK Try.prog 21 (plain gIsT) := entry_closed SI (by kernel_rfl) fun args v h => by
  unfold gIsT at h
  split at h
  · cases h; exact ⟨rfl, rfl, 100, ist_is _⟩
  · cases h
theorem eRIsT : EntryOK Try.prog 36 (plain gIsT) := entry_closed SI (by kernel_rfl) fun args v h => by
  unfold gIsT at h
  split at h
  · cases h; exact ⟨rfl, rfl, 100, rist_is _⟩
  · cases h
theorem SM : Sound CM := ⟨tab_of (entries_cons eIsT (entries_cons eRIsT (entries_cons eIs (entries_cons eRIs entries_nil)))), fun f h => (by cases h), mixed⟩
theorem may_both (f : Fa) (h : ∀ K : AV → Prop, afn CM 100 15 [fv f] [] 0 (fun v _ _ => K v) = afn CM 100 15 [fv f] [] 0 (fun v _ _ => K v)) : afn CM 100 15 [fv f] [] 0 (fun v _ _ => v = bv (mayF f)) := by
  rw [may_ev f (fun v => v = bv (mayF f))]
  simp only [ifb_ite, Bool.not_eq_true', decide_eq_true_eq]
  unfold mayF spF
  repeat' refine ite_in (fun _ => ?_) (fun _ => ?_)
  all_goals first
    | (refine bv_eq' ?_; simp only [*, Bool.false_and, Bool.and_false]; done)
    | (refine bv_eq' ?_; simp only [*, Bool.not_eq_false, Bool.false_and, Bool.and_false, Bool.true_and, Bool.and_true]; first | (symm; simp; omega) | rfl | (simp [show 0 ≤ f.x.m by omega, show 0 ≤ f.y.m by omega, show 0 ≤ f.z.m by omega, show f.x.m ≤ 256 by omega, show f.y.m ≤ 256 by omega, show f.z.m ≤ 256 by omega, *]; done) | (simp; omega))
theorem may_is (f : Fa) : afn CM 100 15 [fv f] [] 0 (fun v _ _ => v = bv (mayF f)) := may_both f fun _ => rfl
theorem rmay_is (f : Fa) : afn CM 100 19 [fv f] [] 0 (fun v _ _ => v = bv (mayF f)) := by
  rw [rmay_ev f (fun v => v = bv (mayF f))]
  have := may_is f
  rwa [may_ev f (fun v => v = bv (mayF f))] at this
theorem eMay : EntryOK Try.prog 15 (plain gMay) := entry_closed SM (by kernel_rfl) fun args v h => by
  unfold gMay at h
  split at h
  · cases h; exact ⟨rfl, rfl, 100, may_is ⟨⟨_, _, _, _⟩, ⟨_, _, _, _⟩, ⟨_, _, _, _⟩, _, _, _, _⟩⟩
  · cases h
theorem eRMay : EntryOK Try.prog 19 (plain gMay) := entry_closed SM (by kernel_rfl) fun args v h => by
  unfold gMay at h
  split at h
  · cases h; exact ⟨rfl, rfl, 100, rmay_is ⟨⟨_, _, _, _⟩, ⟨_, _, _, _⟩, ⟨_, _, _, _⟩, _, _, _, _⟩⟩
  · cases h
theorem T2_ok : ∀ k e, (k, e) ∈ T2 → EntryOK Try.prog k e :=
  entries_cons eMay (entries_cons eRMay (entries_cons eCheck (entries_cons eRCheck (entries_cons eBase (entries_cons eRBase (entries_cons eBacked (entries_cons eRBacked (entries_cons eDue (entries_cons eRDue (entries_cons eBring entries_nil))))))))))
theorem S2 : Sound C2 := ⟨tab_of T2_ok, fun f h => entersB_ok (allN_ok inlT_ok f h), mixed⟩

/-! ### the closures -/
theorem eWait : EntryOK Try.prog 24 gWait := entry_ptr (by kernel_rfl) fun args fh v h => by
  unfold gWait at h
  split at h
  · rename_i s i1 i2 i3 i4
    split at h
    · rename_i t1 a b c d e t2 x t3 q t4 m h1 h2 h3 h4
      cases h
      refine ⟨rfl, [iv s, .elt 1 5 0 0, .elt 2 1 0 0, .elt 3 1 0 0, .elt 4 1 0 0], [(1, some (.row t1 5 1 fun _ q' => nthV [.int .i64 a, .int .i64 b, .int .i64 c, .int .i64 d, .int .i64 e] q')), (2, some (.row t2 1 1 fun _ q' => nthV [.int .i64 x] q')), (3, some (.row t3 1 1 fun _ q' => nthV [.int .i64 q] q')), (4, some (.row t4 1 1 fun _ q' => nthV [.int .i64 m] q'))], ?_, C2, S2, rfl, 100, ?_⟩
      · simp only [ptrsOf, h1, h2, h3, h4, valsOf, allOne, AV.one, Value.oneCell', Bool.and_true, List.length_cons, List.length_nil]
      · show afn C2 100 _ _ _ 5 _
        rw [wait_ev a b c d e x q m s t1 t2 t3 t4 (fun v => v = iv (wtF ⟨a, b, c, d, e, x, q, m⟩ s))]
        rfl
    · cases h
  · cases h
theorem eRWait : EntryOK Try.prog 35 (plain gRWait) := entry_closed S2 (by kernel_rfl) fun args v h => by
  unfold gRWait at h
  split at h
  · cases h
    refine ⟨rfl, rfl, 100, ?_⟩
    rw [rwait_ev]
    rfl
  · cases h
theorem eTime : EntryOK Try.prog 27 (plain gTime) := entry_closed S2 (by kernel_rfl) fun args v h => by
  unfold gTime at h
  split at h
  · cases h
    refine ⟨rfl, rfl, 100, ?_⟩
    rw [time_ev]
  · cases h
theorem T3p_ok : ∀ k e, (k, e) ∈ T3p → EntryOK Try.prog k e := entries_cons eWait (entries_cons eRWait (entries_cons eTime T2_ok))
theorem SP (f : Fa) (r : Me) : Sound (CP f r) := ⟨tab_of T3p_ok, fun f h => entersB_ok (allN_ok inlP_ok f h), mixed⟩

end Go.Proofs.Ytebogbhjgdihpaa.Pto
