/-
  TiA: Due, Bring, and what timer's functions reach.
-/
import Derived.Test.YtebogbhjgdihpaaPtoB
namespace Go.Proofs.Ytebogbhjgdihpaa.Pto
open Go Go.RowKit Go.Proofs.Ytebogbhjgdihpaa.Sy
set_option linter.unusedVariables false
set_option linter.unusedSimpArgs false
set_option maxRecDepth 20000

theorem due_both (a b : Int) : ifb (decide (a < 0)) (AV.val (Value.int IntKind.i64 (-1)) = iv (dueF a b))
        (ifb (decide (9007199254740991 < a)) (AV.val (Value.int IntKind.i64 (-1)) = iv (dueF a b))
          (AV.val (Value.int IntKind.i64 (max 0 (min (IntKind.i64.wrap (a + max 0 (min b 9007199254740991))) 9007199254740991))) = iv (dueF a b))) := by
  simp only [ifb_ite, decide_eq_true_eq]
  refine ite_in (fun h => iv_eq (if_neg (by omega)).symm) fun h => ite_in (fun h => iv_eq (if_neg (by omega)).symm) fun h => iv_eq ?_
  have hx0 := tm_lo b
  have hx1 := tm_hi b
  unfold dueF
  rw [if_pos (by omega), wr (by omega) (by omega)]
  rfl
theorem due_is (a b : Int) : afn C0 100 42 [iv a, iv b] [] 0 (fun v _ _ => v = iv (dueF a b)) := by
  rw [due_ev a b (fun v => v = iv (dueF a b))]
  have h := due_both a b
  simp only [ifb_ite, decide_eq_true_eq, bne_iff_ne] at h ⊢
  by_cases h1 : a < 0
  · rw [if_pos (by omega)]; rwa [if_pos h1] at h
  · rw [if_neg h1] at h
    by_cases h2 : 9007199254740991 < a
    · rw [if_pos (by omega)]; rwa [if_pos h2] at h
    · rw [if_neg (by omega)]; rwa [if_neg h2] at h
theorem rdue_is (a b : Int) : afn C0 100 34 [iv a, iv b] [] 0 (fun v _ _ => v = iv (dueF a b)) := by
  rw [rdue_ev a b (fun v => v = iv (dueF a b))]
  exact due_both a b
def gDue : List AV → Option AV
  | [.val (.int .i64 a), .val (.int .i64 b)] => some (iv (dueF a b))
  | _ => none
theorem eDue : EntryOK Try.prog 42 (plain gDue) := entry_closed S0 (by kernel_rfl) fun args v h => by
  unfold gDue at h
  split at h
  · cases h; exact ⟨rfl, rfl, 100, due_is _ _⟩
  · cases h
theorem eRDue : EntryOK Try.prog 34 (plain gDue) := entry_closed S0 (by kernel_rfl) fun args v h => by
  unfold gDue at h
  split at h
  · cases h; exact ⟨rfl, rfl, 100, rdue_is _ _⟩
  · cases h

/-! ### Bring -/
theorem tmod_lo {a b : Int} (hb : 0 < b) : -b < a.tmod b ∧ a.tmod b < b := by
  have h1 := Int.tmod_lt_of_pos a hb
  have h2 := Int.lt_tmod_of_pos a hb
  omega
theorem brF_neg {a b : Int} (hb : 0 < b) (h : a.tmod b < 0) : a.tmod b + b = a % b := by
  have h1 := Int.tmod_eq_emod (a := a) (b := b)
  have h2 := Int.emod_nonneg a (by omega : b ≠ 0)
  have h3 : (b.natAbs : Int) = b := by omega
  split at h1 <;> omega
theorem brF_pos {a b : Int} (hb : 0 < b) (h : ¬ a.tmod b < 0) : a.tmod b = a % b := by
  have h1 := Int.tmod_eq_emod (a := a) (b := b)
  have h2 := Int.emod_nonneg a (by omega : b ≠ 0)
  have h3 := Int.emod_lt_of_pos a hb
  have h4 : (b.natAbs : Int) = b := by omega
  split at h1 <;> omega
theorem brF_lo (a : Int) {b : Int} (h : 0 < b) : 0 ≤ brF a b ∧ brF a b < b := ⟨Int.emod_nonneg a (by omega), Int.emod_lt_of_pos a h⟩
theorem bring_is (a b : Int) (h0 : 0 < b) (h1 : b ≤ 9223372036854775807) : afn C0 100 11 [iv a, iv b] [] 0 (fun v _ _ => v = iv (brF a b)) := by
  rw [bring_ev a b (fun v => v = iv (brF a b))]
  simp only [ifb_ite, decide_eq_true_eq, bne_iff_ne]
  rw [if_pos (by omega)]
  have h2 := tmod_lo (a := a) h0
  refine ite_in (fun h => iv_eq ?_) fun h => iv_eq (brF_pos h0 h)
  rw [wr (by omega) (by omega)]
  exact brF_neg h0 h
def gBring : List AV → Option (Bool × AV)
  | [.val (.int .i64 a), .val (.int .i64 b)] => some (decide (0 < b) && decide (b ≤ 9223372036854775807), iv (brF a b))
  | _ => none
theorem eBring : EntryOK Try.prog 11 (fun a _ => gBring a) := entry_if (by kernel_rfl) fun args v h => by
  unfold gBring at h
  split at h
  · simp only [Option.some.injEq, Prod.mk.injEq, Bool.and_eq_true, decide_eq_true_eq] at h
    obtain ⟨⟨h1, h2⟩, rfl⟩ := h
    exact ⟨rfl, rfl, C0, S0, rfl, 100, bring_is _ _ h1 h2⟩
  · cases h

/-! ### times of the timer -/
def isN (n : Int) : Bool := decide (0 ≤ n ∧ n ≤ 9007199254740991)
def isT (n : Int) : Bool := decide (n = -1 ∨ (0 ≤ n ∧ n ≤ 9007199254740991))
def inlI : List Nat := [22, 38, 47, 37]
theorem inlI_ok : allN (entersB Try.prog) inlI = true := by kernel_rfl
noncomputable def CI : Cfg := ⟨Try.prog, mkT [], fun f => hasN inlI f, fun _ _ => none⟩
theorem SI : Sound CI := ⟨tab_nil, fun f h => entersB_ok (allN_ok inlI_ok f h), mixed⟩
theorem is_ev (n : Int) (K : AV → Prop) : (afn CI 100 22 [iv n] [] 0 (fun v _ _ => K v)) = (
      K (AV.val (Value.bool (n == max 0 (min n 9007199254740991))))) := by
  kernel_rfl
theorem ris_ev (n : Int) (K : AV → Prop) : (afn CI 100 37 [iv n] [] 0 (fun v _ _ => K v)) = (
      ifb (decide (0 ≤ n)) (K (AV.val (Value.bool (decide (n ≤ 9007199254740991))))) (K (AV.val (Value.bool false)))) := by
  kernel_rfl
theorem ist_ev (n : Int) (K : AV → Prop) : (afn CI 100 21 [iv n] [] 0 (fun v _ _ => K v)) = (
      ifb (n == -1) (K (AV.val (Value.bool true))) (K (AV.val (Value.bool (n == max 0 (min n 9007199254740991)))))) := by
  kernel_rfl
theorem rist_ev (n : Int) (K : AV → Prop) : (afn CI 100 36 [iv n] [] 0 (fun v _ _ => K v)) = (
      ifb (n == -1) (K (AV.val (Value.bool true))) (ifb (decide (0 ≤ n)) (K (AV.val (Value.bool (decide (n ≤ 9007199254740991))))) (K (AV.val (Value.bool false))))) := by
  kernel_rfl
def gIs : List AV → Option AV
  | [.val (.int .i64 n)] => some (bv (isN n))
  | _ => none
def gIsT : List AV → Option AV
  | [.val (.int .i64 n)] => some (bv (isT n))
  | _ => none

/-- A space; all. -/
structure Sp where
  k : Bool
  l : Int
  t : Int
  m : Int
structure Fa where
  x : Sp
  y : Sp
  z : Sp
  c : Bool
  d : Bool
  p : Bool
  n : Int
abbrev fv (f : Fa) : AV := .agg [bv f.x.k, iv f.x.l, iv f.x.t, iv f.x.m, bv f.y.k, iv f.y.l, iv f.y.t, iv f.y.m, bv f.z.k, iv f.z.l, iv f.z.t, iv f.z.m, bv f.c, bv f.d, bv f.p, iv f.n]
noncomputable def T1m : List (Nat × Entry) := [(21, plain gIsT), (36, plain gIsT), (22, plain gIs), (37, plain gIs)]
noncomputable def CM : Cfg := ⟨Try.prog, mkT T1m, fun _ => false, fun _ _ => none⟩
theorem may_ev (f : Fa) (K : AV → Prop) : (afn CM 100 15 [fv f] [] 0 (fun v _ _ => K v)) = (
      ifb (!isT f.x.l) (K (AV.val (Value.bool false))) (ifb (!isT f.x.t) (K (AV.val (Value.bool false))) (ifb (decide (f.x.m < 0)) (K (AV.val (Value.bool false))) (ifb (decide (256 < f.x.m)) (K (AV.val (Value.bool false))) (ifb (!isT f.y.l) (K (AV.val (Value.bool false))) (ifb (!isT f.y.t) (K (AV.val (Value.bool false))) (ifb (decide (f.y.m < 0)) (K (AV.val (Value.bool false))) (ifb (decide (256 <
  f.y.m)) (K (AV.val (Value.bool false))) (ifb (!isT f.z.l) (K (AV.val (Value.bool false))) (ifb (!isT f.z.t) (K (AV.val (Value.bool false))) (ifb (decide (f.z.m < 0)) (K (AV.val (Value.bool false))) (ifb (decide (256 < f.z.m)) (K (AV.val (Value.bool false))) (K (AV.val (Value.bool (isN f.n)))))))))))))))) := by
  kernel_rfl
theorem rmay_ev (f : Fa) (K : AV → Prop) : (afn CM 100 19 [fv f] [] 0 (fun v _ _ => K v)) = (
      ifb (!isT f.x.l) (K (AV.val (Value.bool false))) (ifb (!isT f.x.t) (K (AV.val (Value.bool false))) (ifb (decide (f.x.m < 0)) (K (AV.val (Value.bool false))) (ifb (decide (256 < f.x.m)) (K (AV.val (Value.bool false))) (ifb (!isT f.y.l) (K (AV.val (Value.bool false))) (ifb (!isT f.y.t) (K (AV.val (Value.bool false))) (ifb (decide (f.y.m < 0)) (K (AV.val (Value.bool false))) (ifb (decide (256 <
  f.y.m)) (K (AV.val (Value.bool false))) (ifb (!isT f.z.l) (K (AV.val (Value.bool false))) (ifb (!isT f.z.t) (K (AV.val (Value.bool false))) (ifb (decide (f.z.m < 0)) (K (AV.val (Value.bool false))) (ifb (decide (256 < f.z.m)) (K (AV.val (Value.bool false))) (K (AV.val (Value.bool (isN f.n)))))))))))))))) := by
  kernel_rfl
def spF (s : Sp) : Bool := isT s.l && isT s.t && decide (0 ≤ s.m) && decide (s.m ≤ 256)
def mayF (f : Fa) : Bool := spF f.x && spF f.y && spF f.z && isN f.n
def gMay : List AV → Option AV
  | [.agg [.val (.bool xk), .val (.int .i64 xl), .val (.int .i64 xt), .val (.int .i64 xm), .val (.bool yk), .val (.int .i64 yl), .val (.int .i64 yt), .val (.int .i64 ym), .val (.bool zk), .val (.int .i64 zl), .val (.int .i64 zt), .val (.int .i64 zm), .val (.bool c), .val (.bool d), .val (.bool p), .val (.int .i64 n)]] => some (bv (mayF ⟨⟨xk, xl, xt, xm⟩, ⟨yk, yl, yt, ym⟩, ⟨zk, zl, zt, zm⟩, c, d, p, n⟩))
  | _ => none

def inlT : List Nat := [24, 27, 28, 29, 30, 31, 33, 35]
theorem inlT_ok : allN (entersB Try.prog) inlT = true := by kernel_rfl
noncomputable def T2 : List (Nat × Entry) := [(15, plain gMay), (19, plain gMay), (23, plain gCheck), (32, plain gCheck), (26, plain gBase), (46, plain gBase), (25, plain gBacked), (45, plain gBacked), (42, plain gDue), (34, plain gDue), (11, fun a _ => gBring a)]
noncomputable def C2 : Cfg := ⟨Try.prog, mkT T2, fun f => hasN inlT f, fun _ _ => none⟩

end Go.Proofs.Ytebogbhjgdihpaa.Pto
