/-
  TiF0: what the laws of the timer reach: entries.
-/
import Derived.Test.YtebogbhjgdihpaaTiE
namespace Go.Proofs.Ytebogbhjgdihpaa.Pto
open Go Go.RowKit Go.Proofs.Ytebogbhjgdihpaa.Sy
set_option linter.unusedVariables false
set_option linter.unusedSimpArgs false
set_option maxRecDepth 100000
set_option maxHeartbeats 4000000

noncomputable def T4 : List (Nat × Entry) := (16, plain gPick) :: (17, plain gPick) :: T2
theorem T4_ok : ∀ k e, (k, e) ∈ T4 → EntryOK Try.prog k e := entries_cons ePick (entries_cons eRPick T2_ok)
noncomputable def C4 : Cfg := ⟨Try.prog, mkT T4, fun g => false, fun _ _ => none⟩
theorem S4 : Sound C4 := ⟨tab_of T4_ok, fun f h => (by cases h), mixed⟩
theorem own_ev (f : Fa) (K : AV → Prop) : (afn C4 100 18 [fv f] [] 0 (fun v _ _ => K v)) = (
      K (AV.agg [AV.val (Value.bool f.x.k), AV.val (Value.int IntKind.i64 f.x.l), AV.val (Value.int IntKind.i64 f.x.t), AV.val (Value.int IntKind.i64 f.x.m), AV.val (Value.bool f.y.k), AV.val (Value.int IntKind.i64 f.y.l), AV.val (Value.int IntKind.i64 f.y.t), AV.val (Value.int IntKind.i64 f.y.m), AV.val (Value.bool f.z.k), AV.val (Value.int IntKind.i64 f.z.l), AV.val (Value.int IntKind.i64 f.z.t), AV.val (Value.int IntKind.i64 f.z.m), AV.val (Value.bool f.c), AV.val (Value.bool f.d), AV.val (Value.bool f.p), AV.val (Value.int IntKind.i64 f.n)])) := by
  kernel_rfl
theorem meas_ev (K : AV → Prop) : (afn C4 100 14 [] [] 0 (fun v _ _ => K v)) = (
      K (AV.agg [AV.val (Value.int IntKind.i64 100), AV.val (Value.int IntKind.i64 100), AV.val (Value.int IntKind.i64 2000000), AV.val (Value.int IntKind.i64 300000), AV.val (Value.int IntKind.i64 0)])) := by
  kernel_rfl
theorem emp_ev (K : AV → Prop) : (afn C4 100 13 [] [] 0 (fun v _ _ => K v)) = (
      K (AV.agg [AV.val (Value.bool false), AV.val (Value.int IntKind.i64 (-1)), AV.val (Value.int IntKind.i64 (-1)), AV.val (Value.int IntKind.i64 0)])) := by
  kernel_rfl
def gOwn : List AV → Option AV
  | [.agg [.val (.bool xk), .val (.int .i64 xl), .val (.int .i64 xt), .val (.int .i64 xm), .val (.bool yk), .val (.int .i64 yl), .val (.int .i64 yt), .val (.int .i64 ym), .val (.bool zk), .val (.int .i64 zl), .val (.int .i64 zt), .val (.int .i64 zm), .val (.bool c), .val (.bool d), .val (.bool p), .val (.int .i64 n)]] => some (.agg [.val (.bool xk), .val (.int .i64 xl), .val (.int .i64 xt), .val (.int .i64 xm), .val (.bool yk), .val (.int .i64 yl), .val (.int .i64 yt), .val (.int .i64 ym), .val (.bool zk), .val (.int .i64 zl), .val (.int .i64 zt), .val (.int .i64 zm), .val (.bool c), .val (.bool d), .val (.bool p), .val (.int .i64 n)])
  | _ => none
theorem own_is (f : Fa) : ∃ C, Sound C ∧ C.P = Try.prog ∧ ∃ n, afn C n 18 [fv f] [] 0 (fun v _ _ => v = fv f) := ⟨C4, S4, rfl, 100, by
  rw [own_ev f (fun v => v = fv f)]⟩
theorem eOwn : EntryOK Try.prog 18 (plain gOwn) := entry_of (by kernel_rfl) fun args v h => by
  unfold gOwn at h
  split at h
  · cases h; exact ⟨rfl, rfl, own_is ⟨⟨_, _, _, _⟩, ⟨_, _, _, _⟩, ⟨_, _, _, _⟩, _, _, _, _⟩⟩
  · cases h
def gMeas : List AV → Option AV
  | [] => some (rv 100 100 2000000 300000 0)
  | _ => none
theorem eMeas : EntryOK Try.prog 14 (plain gMeas) := entry_closed S4 (by kernel_rfl) fun args v h => by
  unfold gMeas at h
  split at h
  · cases h
    refine ⟨rfl, rfl, 100, ?_⟩
    rw [meas_ev (fun v => v = rv 100 100 2000000 300000 0)]
  · cases h
def gEmp : List AV → Option AV
  | [] => some (.agg [bv false, iv (-1), iv (-1), iv 0])
  | _ => none
theorem eEmp : EntryOK Try.prog 13 (plain gEmp) := entry_closed S4 (by kernel_rfl) fun args v h => by
  unfold gEmp at h
  split at h
  · cases h
    refine ⟨rfl, rfl, 100, ?_⟩
    rw [emp_ev (fun v => v = .agg [bv false, iv (-1), iv (-1), iv 0])]
  · cases h
noncomputable def T4a : List (Nat × Entry) := (18, plain gOwn) :: (14, plain gMeas) :: (13, plain gEmp) :: T4
theorem T4a_ok : ∀ k e, (k, e) ∈ T4a → EntryOK Try.prog k e := entries_cons eOwn (entries_cons eMeas (entries_cons eEmp T4_ok))
noncomputable def C4a : Cfg := ⟨Try.prog, mkT T4a, fun g => false, fun _ _ => none⟩
theorem S4a : Sound C4a := ⟨tab_of T4a_ok, fun f h => (by cases h), mixed⟩
def mz : Me := ⟨100, 100, 2000000, 300000, 0, 5000000, 1, 10⟩
theorem due0_ev (f : Fa) (K : AV → Prop) : (afn C4a 100 10 [fv f] [] 0 (fun v _ _ => K v)) = (
      K (AV.agg [AV.val (Value.int IntKind.i64 (pickF { x := { k := f.x.k, l := f.x.l, t := f.x.t, m := f.x.m }, y := { k := f.y.k, l := f.y.l, t := f.y.t, m := f.y.m }, z := { k := f.z.k, l := f.z.l, t := f.z.t, m := f.z.m }, c := f.c, d := f.d, p := f.p, n := f.n } { a := 100, b := 100, c := 2000000, d := 300000, e := 0, x := 5000000, q := 1, m := 10 }).k), AV.val (Value.int IntKind.i64 (pickF { x := { k := f.x.k, l := f.x.l, t := f.x.t, m := f.x.m }, y := { k := f.y.k, l := f.y.l, t := f.y.t, m := f.y.m }, z := { k := f.z.k, l := f.z.l, t := f.z.t, m := f.z.m }, c := f.c, d := f.d, p := f.p, n := f.n } { a := 100, b := 100, c := 2000000, d := 300000, e := 0, x := 5000000, q := 1, m := 10 }).s), AV.val (Value.int IntKind.i64 (pickF { x := { k := f.x.k, l := f.x.l, t := f.x.t, m := f.x.m }, y := { k := f.y.k, l := f.y.l, t := f.y.t, m := f.y.m }, z := { k := f.z.k, l := f.z.l, t := f.z.t, m := f.z.m }, c := f.c, d := f.d, p := f.p, n := f.n } { a := 100, b := 100, c := 2000000, d := 300000, e := 0, x := 5000000, q := 1, m := 10 }).t)])) := by
  kernel_rfl
def gDue0 : List AV → Option AV
  | [.agg [.val (.bool xk), .val (.int .i64 xl), .val (.int .i64 xt), .val (.int .i64 xm), .val (.bool yk), .val (.int .i64 yl), .val (.int .i64 yt), .val (.int .i64 ym), .val (.bool zk), .val (.int .i64 zl), .val (.int .i64 zt), .val (.int .i64 zm), .val (.bool c), .val (.bool d), .val (.bool p), .val (.int .i64 n)]] => some (dv (pickF ⟨⟨xk, xl, xt, xm⟩, ⟨yk, yl, yt, ym⟩, ⟨zk, zl, zt, zm⟩, c, d, p, n⟩ mz))
  | _ => none
theorem due0_is (f : Fa) : ∃ C, Sound C ∧ C.P = Try.prog ∧ ∃ n, afn C n 10 [fv f] [] 0 (fun v _ _ => v = dv (pickF f mz)) := ⟨C4a, S4a, rfl, 100, by
  rw [due0_ev f (fun v => v = dv (pickF f mz))]
  rfl⟩
theorem eDue0 : EntryOK Try.prog 10 (plain gDue0) := entry_of (by kernel_rfl) fun args v h => by
  unfold gDue0 at h
  split at h
  · cases h; exact ⟨rfl, rfl, due0_is ⟨⟨_, _, _, _⟩, ⟨_, _, _, _⟩, ⟨_, _, _, _⟩, _, _, _, _⟩⟩
  · cases h
noncomputable def T4b : List (Nat × Entry) := (10, plain gDue0) :: T4a
theorem T4b_ok : ∀ k e, (k, e) ∈ T4b → EntryOK Try.prog k e := entries_cons eDue0 T4a_ok
noncomputable def C4b : Cfg := ⟨Try.prog, mkT T4b, fun g => false, fun _ _ => none⟩
theorem S4b : Sound C4b := ⟨tab_of T4b_ok, fun f h => (by cases h), mixed⟩

end Go.Proofs.Ytebogbhjgdihpaa.Pto
