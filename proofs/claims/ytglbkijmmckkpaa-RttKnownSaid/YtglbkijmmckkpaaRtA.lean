/-
  RtA: the functions of rtt and of its reference.
-/
import Derived.Test.YtglbkijmmckkpaaCm
namespace Go.Proofs.Ytglbkijmmckkpaa.Rt
open Go Go.RowKit Go.Proofs.Ytglbkijmmckkpaa.Sy Go.Proofs.Ytglbkijmmckkpaa.Cm
set_option linter.unusedVariables false
set_option linter.unusedSimpArgs false

structure M where
  a : Int
  b : Int
  c : Int
  d : Int
  e : Int
abbrev mv (m : M) : AV := rv m.a m.b m.c m.d m.e

def inl0 : List Nat := [26, 27, 28, 29, 25]
theorem inl0_ok : allN (entersB Try.prog) inl0 = true := by kernel_rfl
noncomputable def C0 : Cfg := ⟨Try.prog, mkT [], fun f => hasN inl0 f, fun _ _ => none⟩
theorem S0 : Sound C0 := ⟨tab_nil, fun f h => entersB_ok (allN_ok inl0_ok f h), mixed⟩

/-! New -/
def okN (f : Int) : Prop := 1000000 ≤ f ∧ f ≤ 60000000000
instance (f : Int) : Decidable (okN f) := by unfold okN; infer_instance
def zM : M := ⟨0, 0, 0, 0, 0⟩
def newM (f : Int) : M := if okN f then ⟨0, 0, f, f / 2, -1⟩ else zM
def newE (f : Int) : Int := if okN f then 0 else 9
theorem new_ev (a : Int) (K : AV → Prop) : (afn C0 100 14 [iv a] [] 0 (fun v _ _ => K v)) = (
      ifb (decide (a < 1000000)) (K (AV.tup [AV.agg [AV.val (Value.int IntKind.i64 0), AV.val (Value.int IntKind.i64 0), AV.val (Value.int IntKind.i64 0), AV.val (Value.int IntKind.i64 0), AV.val (Value.int IntKind.i64 0)], AV.val (Value.int IntKind.i64 9)])) (ifb (decide (60000000000 < a))
  (K (AV.tup [AV.agg [AV.val (Value.int IntKind.i64 0), AV.val (Value.int IntKind.i64 0), AV.val (Value.int IntKind.i64 0), AV.val (Value.int IntKind.i64 0), AV.val (Value.int IntKind.i64 0)], AV.val (Value.int IntKind.i64 9)])) (K (AV.tup [AV.agg [AV.val (Value.int IntKind.i64 0), AV.val (Value.int IntKind.i64 0), AV.val (Value.int IntKind.i64 a), AV.val (Value.int IntKind.i64 (IntKind.i64.wrap (a.tdiv 2))), AV.val (Value.int IntKind.i64 (-1))], AV.val (Value.int IntKind.i64 0)])))) := by
  kernel_rfl
theorem rnew_ev (a : Int) (K : AV → Prop) : (afn C0 100 15 [iv a] [] 0 (fun v _ _ => K v)) = (
      ifb (decide (a < 1000000)) (K (AV.tup [AV.agg [AV.val (Value.int IntKind.i64 0), AV.val (Value.int IntKind.i64 0), AV.val (Value.int IntKind.i64 0), AV.val (Value.int IntKind.i64 0), AV.val (Value.int IntKind.i64 0)], AV.val (Value.int IntKind.i64 9)])) (ifb (decide (60000000000 < a))
  (K (AV.tup [AV.agg [AV.val (Value.int IntKind.i64 0), AV.val (Value.int IntKind.i64 0), AV.val (Value.int IntKind.i64 0), AV.val (Value.int IntKind.i64 0), AV.val (Value.int IntKind.i64 0)], AV.val (Value.int IntKind.i64 9)])) (K (AV.tup [AV.agg [AV.val (Value.int IntKind.i64 0), AV.val (Value.int IntKind.i64 0), AV.val (Value.int IntKind.i64 a), AV.val (Value.int IntKind.i64 (IntKind.i64.wrap (a.tdiv 2))), AV.val (Value.int IntKind.i64 (-1))], AV.val (Value.int IntKind.i64 0)])))) := by
  kernel_rfl

/-! Check -/
noncomputable def CN (g : List AV → Option AV) : Cfg := ⟨Try.prog, mkT [(14, plain g)], fun f => hasN inl0 f, fun _ _ => none⟩
def gNew : List AV → Option AV
  | [.val (.int .i64 a)] => some (.tup [mv (newM a), iv (newE a)])
  | _ => none
theorem check_ev (a b c d e : Int) (K : AV → Prop) : (afn (CN gNew) 100 21 [rv a b c d e] [] 0 (fun v _ _ => K v)) = (
      ifb (e == -1) (ifb (newE c != 0) (K (AV.val (Value.int IntKind.i64 2))) (ifb (!((newM c).a == a && ((newM c).b == b && ((newM c).c == c && ((newM c).d == d && ((newM c).e == e && true)))))) (K (AV.val (Value.int IntKind.i64 2))) (K (AV.val (Value.int IntKind.i64 0))))) (ifb (decide (e < 0)) (K (AV.val (Value.int IntKind.i64 2))) (ifb (decide (9007199254740991 < e))
  (K (AV.val (Value.int IntKind.i64 2))) (ifb (decide (a < 0)) (K (AV.val (Value.int IntKind.i64 2))) (ifb (decide (9007199254740991 < a)) (K (AV.val (Value.int IntKind.i64 2))) (ifb (decide (b < 0)) (K (AV.val (Value.int IntKind.i64 2))) (ifb (decide (9007199254740991 < b)) (K (AV.val (Value.int IntKind.i64 2))) (ifb (decide (c < 0)) (K (AV.val (Value.int IntKind.i64 2)))
  (ifb (decide (9007199254740991 < c)) (K (AV.val (Value.int IntKind.i64 2))) (ifb (decide (d < 0)) (K (AV.val (Value.int IntKind.i64 2))) (ifb (decide (9007199254740991 < d)) (K (AV.val (Value.int IntKind.i64 2))) (ifb (decide (min a c < b)) (K (AV.val (Value.int IntKind.i64 2))) (K (AV.val (Value.int IntKind.i64 0))))))))))))))) := by
  kernel_rfl
theorem rcheck_ev (a b c d e : Int) (K : AV → Prop) : (afn C0 100 22 [rv a b c d e] [] 0 (fun v _ _ => K v)) = (
      ifb (e == -1) (ifb (a != 0) (K (AV.val (Value.int IntKind.i64 2))) (ifb (b != 0) (K (AV.val (Value.int IntKind.i64 2))) (ifb (decide (c < 1000000)) (K (AV.val (Value.int IntKind.i64 2))) (ifb (decide (60000000000 < c)) (K (AV.val (Value.int IntKind.i64 2))) (ifb (d != IntKind.i64.wrap (c.tdiv 2)) (K (AV.val (Value.int IntKind.i64 2))) (K (AV.val (Value.int IntKind.i64 0))))))))
  (ifb (decide (0 ≤ e)) (ifb (!decide (e ≤ 9007199254740991)) (K (AV.val (Value.int IntKind.i64 2))) (ifb (decide (0 ≤ a)) (ifb (!decide (a ≤ 9007199254740991)) (K (AV.val (Value.int IntKind.i64 2))) (ifb (decide (0 ≤ b)) (ifb (!decide (b ≤ 9007199254740991)) (K (AV.val (Value.int IntKind.i64 2))) (ifb (decide (0 ≤ c)) (ifb (!decide (c ≤ 9007199254740991)) (K (AV.val (Value.int IntKind.i64 2)))
  (ifb (decide (0 ≤ d)) (ifb (!decide (d ≤ 9007199254740991)) (K (AV.val (Value.int IntKind.i64 2))) (ifb (decide (a < b)) (K (AV.val (Value.int IntKind.i64 2))) (ifb (decide (c < b)) (K (AV.val (Value.int IntKind.i64 2))) (K (AV.val (Value.int IntKind.i64 0)))))) (K (AV.val (Value.int IntKind.i64 2))))) (K (AV.val (Value.int IntKind.i64 2))))) (K (AV.val (Value.int IntKind.i64 2)))))
  (K (AV.val (Value.int IntKind.i64 2))))) (K (AV.val (Value.int IntKind.i64 2))))) := by
  kernel_rfl

/-! Sample -/
def gCheck : List AV → Option AV
  | [.agg [.val (.int .i64 a), .val (.int .i64 b), .val (.int .i64 c), .val (.int .i64 d), .val (.int .i64 e)]] => some (iv (ckF a b c d e))
  | _ => none
noncomputable def C1 : Cfg := ⟨Try.prog, mkT [(21, plain gCheck), (22, plain gCheck)], fun f => hasN inl0 f, fun _ _ => none⟩
theorem sample_ev (a b c d e l x n : Int) (K : AV → Prop) : (afn C1 100 16 [rv a b c d e, iv l, iv x, iv n] [] 0 (fun v _ _ => K v)) = (
      ifb (ckF a b c d e != 0) (K (AV.tup [AV.agg [AV.val (Value.int IntKind.i64 0), AV.val (Value.int IntKind.i64 0), AV.val (Value.int IntKind.i64 0), AV.val (Value.int IntKind.i64 0), AV.val (Value.int IntKind.i64 0)], AV.val (Value.int IntKind.i64 (ckF a b c d e))])) (ifb (decide (l < 0))
  (K (AV.tup [AV.agg [AV.val (Value.int IntKind.i64 0), AV.val (Value.int IntKind.i64 0), AV.val (Value.int IntKind.i64 0), AV.val (Value.int IntKind.i64 0), AV.val (Value.int IntKind.i64 0)], AV.val (Value.int IntKind.i64 9)])) (ifb (decide (9007199254740991 < l))
  (K (AV.tup [AV.agg [AV.val (Value.int IntKind.i64 0), AV.val (Value.int IntKind.i64 0), AV.val (Value.int IntKind.i64 0), AV.val (Value.int IntKind.i64 0), AV.val (Value.int IntKind.i64 0)], AV.val (Value.int IntKind.i64 9)])) (ifb (decide (x < 0))
  (K (AV.tup [AV.agg [AV.val (Value.int IntKind.i64 0), AV.val (Value.int IntKind.i64 0), AV.val (Value.int IntKind.i64 0), AV.val (Value.int IntKind.i64 0), AV.val (Value.int IntKind.i64 0)], AV.val (Value.int IntKind.i64 9)])) (ifb (decide (9007199254740991 < x))
  (K (AV.tup [AV.agg [AV.val (Value.int IntKind.i64 0), AV.val (Value.int IntKind.i64 0), AV.val (Value.int IntKind.i64 0), AV.val (Value.int IntKind.i64 0), AV.val (Value.int IntKind.i64 0)], AV.val (Value.int IntKind.i64 9)])) (ifb (decide (n < 0))
  (K (AV.tup [AV.agg [AV.val (Value.int IntKind.i64 0), AV.val (Value.int IntKind.i64 0), AV.val (Value.int IntKind.i64 0), AV.val (Value.int IntKind.i64 0), AV.val (Value.int IntKind.i64 0)], AV.val (Value.int IntKind.i64 9)])) (ifb (decide (9007199254740991 < n))
  (K (AV.tup [AV.agg [AV.val (Value.int IntKind.i64 0), AV.val (Value.int IntKind.i64 0), AV.val (Value.int IntKind.i64 0), AV.val (Value.int IntKind.i64 0), AV.val (Value.int IntKind.i64 0)], AV.val (Value.int IntKind.i64 9)])) (ifb (e == -1)
  (K (AV.tup [AV.agg [AV.val (Value.int IntKind.i64 l), AV.val (Value.int IntKind.i64 l), AV.val (Value.int IntKind.i64 l), AV.val (Value.int IntKind.i64 (IntKind.i64.wrap (l.tdiv 2))), AV.val (Value.int IntKind.i64 n)], AV.val (Value.int IntKind.i64 0)])) (ifb (decide (min b l ≤ IntKind.i64.wrap (l - x))) (ifb (decide (IntKind.i64.wrap (c - IntKind.i64.wrap (l - x)) < 0))
  (K (AV.tup [AV.agg [AV.val (Value.int IntKind.i64 l), AV.val (Value.int IntKind.i64 (min b l)), AV.val (Value.int IntKind.i64 (IntKind.i64.wrap ((IntKind.i64.wrap (IntKind.i64.wrap (7 * c) + IntKind.i64.wrap (l - x))).tdiv 8))), AV.val (Value.int IntKind.i64 (IntKind.i64.wrap ((IntKind.i64.wrap (IntKind.i64.wrap (3 * d) + IntKind.i64.wrap (0 - IntKind.i64.wrap (c - IntKind.i64.wrap (l - x))))).tdiv 4))), AV.val (Value.int IntKind.i64 e)], AV.val (Value.int IntKind.i64 0)]))
  (K (AV.tup [AV.agg [AV.val (Value.int IntKind.i64 l), AV.val (Value.int IntKind.i64 (min b l)), AV.val (Value.int IntKind.i64 (IntKind.i64.wrap ((IntKind.i64.wrap (IntKind.i64.wrap (7 * c) + IntKind.i64.wrap (l - x))).tdiv 8))), AV.val (Value.int IntKind.i64 (IntKind.i64.wrap ((IntKind.i64.wrap (IntKind.i64.wrap (3 * d) + IntKind.i64.wrap (c - IntKind.i64.wrap (l - x)))).tdiv 4))), AV.val (Value.int IntKind.i64 e)], AV.val (Value.int IntKind.i64 0)])))
  (ifb (decide (IntKind.i64.wrap (c - l) < 0))
  (K (AV.tup [AV.agg [AV.val (Value.int IntKind.i64 l), AV.val (Value.int IntKind.i64 (min b l)), AV.val (Value.int IntKind.i64 (IntKind.i64.wrap ((IntKind.i64.wrap (IntKind.i64.wrap (7 * c) + l)).tdiv 8))), AV.val (Value.int IntKind.i64 (IntKind.i64.wrap ((IntKind.i64.wrap (IntKind.i64.wrap (3 * d) + IntKind.i64.wrap (0 - IntKind.i64.wrap (c - l)))).tdiv 4))), AV.val (Value.int IntKind.i64 e)], AV.val (Value.int IntKind.i64 0)])) (K (AV.tup [AV.agg [AV.val (Value.int IntKind.i64 l), AV.val (Value.int IntKind.i64 (min b l)), AV.val (Value.int IntKind.i64 (IntKind.i64.wrap ((IntKind.i64.wrap (IntKind.i64.wrap (7 * c) + l)).tdiv 8))), AV.val (Value.int IntKind.i64 (IntKind.i64.wrap ((IntKind.i64.wrap (IntKind.i64.wrap (3 * d) + IntKind.i64.wrap (c - l))).tdiv 4))), AV.val (Value.int IntKind.i64 e)], AV.val (Value.int IntKind.i64 0)])))))))))))) := by
  kernel_rfl
theorem rsample_ev (a b c d e l x n : Int) (K : AV → Prop) : (afn C1 100 17 [rv a b c d e, iv l, iv x, iv n] [] 0 (fun v _ _ => K v)) = (
      ifb (ckF a b c d e != 0) (K (AV.tup [AV.agg [AV.val (Value.int IntKind.i64 0), AV.val (Value.int IntKind.i64 0), AV.val (Value.int IntKind.i64 0), AV.val (Value.int IntKind.i64 0), AV.val (Value.int IntKind.i64 0)], AV.val (Value.int IntKind.i64 (ckF a b c d e))])) (ifb (decide (0 ≤ l)) (ifb (!decide (l ≤ 9007199254740991))
  (K (AV.tup [AV.agg [AV.val (Value.int IntKind.i64 0), AV.val (Value.int IntKind.i64 0), AV.val (Value.int IntKind.i64 0), AV.val (Value.int IntKind.i64 0), AV.val (Value.int IntKind.i64 0)], AV.val (Value.int IntKind.i64 9)])) (ifb (decide (0 ≤ x)) (ifb (!decide (x ≤ 9007199254740991))
  (K (AV.tup [AV.agg [AV.val (Value.int IntKind.i64 0), AV.val (Value.int IntKind.i64 0), AV.val (Value.int IntKind.i64 0), AV.val (Value.int IntKind.i64 0), AV.val (Value.int IntKind.i64 0)], AV.val (Value.int IntKind.i64 9)])) (ifb (decide (0 ≤ n)) (ifb (!decide (n ≤ 9007199254740991))
  (K (AV.tup [AV.agg [AV.val (Value.int IntKind.i64 0), AV.val (Value.int IntKind.i64 0), AV.val (Value.int IntKind.i64 0), AV.val (Value.int IntKind.i64 0), AV.val (Value.int IntKind.i64 0)], AV.val (Value.int IntKind.i64 9)])) (ifb (e == -1)
  (K (AV.tup [AV.agg [AV.val (Value.int IntKind.i64 l), AV.val (Value.int IntKind.i64 l), AV.val (Value.int IntKind.i64 l), AV.val (Value.int IntKind.i64 (IntKind.i64.wrap (l.tdiv 2))), AV.val (Value.int IntKind.i64 n)], AV.val (Value.int IntKind.i64 0)])) (ifb (decide (IntKind.i64.wrap (min b l + x) ≤ l))
  (K (AV.tup [AV.agg [AV.val (Value.int IntKind.i64 l), AV.val (Value.int IntKind.i64 (min b l)), AV.val (Value.int IntKind.i64 (IntKind.i64.wrap ((IntKind.i64.wrap (IntKind.i64.wrap (7 * c) + IntKind.i64.wrap (l - x))).tdiv 8))), AV.val (Value.int IntKind.i64 (IntKind.i64.wrap ((IntKind.i64.wrap (IntKind.i64.wrap (3 * d) + max (IntKind.i64.wrap (c - IntKind.i64.wrap (l - x))) (IntKind.i64.wrap (IntKind.i64.wrap (l - x) - c)))).tdiv 4))), AV.val (Value.int IntKind.i64 e)], AV.val (Value.int IntKind.i64 0)]))
  (K (AV.tup [AV.agg [AV.val (Value.int IntKind.i64 l), AV.val (Value.int IntKind.i64 (min b l)), AV.val (Value.int IntKind.i64 (IntKind.i64.wrap ((IntKind.i64.wrap (IntKind.i64.wrap (7 * c) + l)).tdiv 8))), AV.val (Value.int IntKind.i64 (IntKind.i64.wrap ((IntKind.i64.wrap (IntKind.i64.wrap (3 * d) + max (IntKind.i64.wrap (c - l)) (IntKind.i64.wrap (l - c)))).tdiv 4))), AV.val (Value.int IntKind.i64 e)], AV.val (Value.int IntKind.i64 0)])))))
  (K (AV.tup [AV.agg [AV.val (Value.int IntKind.i64 0), AV.val (Value.int IntKind.i64 0), AV.val (Value.int IntKind.i64 0), AV.val (Value.int IntKind.i64 0), AV.val (Value.int IntKind.i64 0)], AV.val (Value.int IntKind.i64 9)]))))
  (K (AV.tup [AV.agg [AV.val (Value.int IntKind.i64 0), AV.val (Value.int IntKind.i64 0), AV.val (Value.int IntKind.i64 0), AV.val (Value.int IntKind.i64 0), AV.val (Value.int IntKind.i64 0)], AV.val (Value.int IntKind.i64 9)])))) (K (AV.tup [AV.agg [AV.val (Value.int IntKind.i64 0), AV.val (Value.int IntKind.i64 0), AV.val (Value.int IntKind.i64 0), AV.val (Value.int IntKind.i64 0), AV.val (Value.int IntKind.i64 0)], AV.val (Value.int IntKind.i64 9)])))) := by
  kernel_rfl
theorem held_ev (d m : Int) (k : Bool) (K : AV → Prop) : (afn C1 100 11 [iv d, iv m, bv k] [] 0 (fun v _ _ => K v)) = (
      ifb k (ifb (decide (max 0 (min m 9007199254740991) < max 0 (min d 9007199254740991))) (K (AV.val (Value.int IntKind.i64 (max 0 (min m 9007199254740991))))) (K (AV.val (Value.int IntKind.i64 (max 0 (min d 9007199254740991)))))) (K (AV.val (Value.int IntKind.i64 (max 0 (min d 9007199254740991)))))) := by
  kernel_rfl
theorem rheld_ev (d m : Int) (k : Bool) (K : AV → Prop) : (afn C1 100 12 [iv d, iv m, bv k] [] 0 (fun v _ _ => K v)) = (
      ifb k (K (AV.val (Value.int IntKind.i64 (min (max 0 (min d 9007199254740991)) (max 0 (min m 9007199254740991)))))) (K (AV.val (Value.int IntKind.i64 (max 0 (min d 9007199254740991)))))) := by
  kernel_rfl
theorem great_ev (a b c d e : Int) (K : AV → Prop) : (afn C1 100 23 [rv a b c d e] [] 0 (fun v _ _ => K v)) = (
      ifb (ckF a b c d e != 0) (K (AV.val (Value.int IntKind.i64 0))) (K (AV.val (Value.int IntKind.i64 (max c a))))) := by
  kernel_rfl
theorem rgreat_ev (a b c d e : Int) (K : AV → Prop) : (afn C1 100 24 [rv a b c d e] [] 0 (fun v _ _ => K v)) = (
      ifb (ckF a b c d e != 0) (K (AV.val (Value.int IntKind.i64 0))) (K (AV.val (Value.int IntKind.i64 (max c a))))) := by
  kernel_rfl

end Go.Proofs.Ytglbkijmmckkpaa.Rt
