/-
  TiN: TimerKnown, evaluated.
-/
import Derived.Test.YtebogbhjgdihpaaTiH
namespace Go.Proofs.Ytebogbhjgdihpaa.Pto
open Go Go.RowKit Go.Proofs.Ytebogbhjgdihpaa.Sy
set_option linter.unusedVariables false
set_option linter.unusedSimpArgs false
set_option maxRecDepth 100000
set_option maxHeartbeats 1000000

def gTells : List AV → Option AV
  | [.agg [.val (.bool xk), .val (.int .i64 xl), .val (.int .i64 xt), .val (.int .i64 xm), .val (.bool yk), .val (.int .i64 yl), .val (.int .i64 yt), .val (.int .i64 ym), .val (.bool zk), .val (.int .i64 zl), .val (.int .i64 zt), .val (.int .i64 zm), .val (.bool c), .val (.bool d), .val (.bool p), .val (.int .i64 n)],
      .agg [.val (.int .i64 a), .val (.int .i64 b), .val (.int .i64 g), .val (.int .i64 h), .val (.int .i64 e), .val (.int .i64 x), .val (.int .i64 q), .val (.int .i64 m)]] => some (bv true)
  | _ => none
theorem eTells : EntryOK Try.prog 5 (plain gTells) := entry_of (by kernel_rfl) fun args v h => by
  unfold gTells at h
  split at h
  · cases h
    obtain ⟨C, h1, h2, h3⟩ := tells_is _ _ _ _ _ _ _ _ _ _ _ _ _ _ _ _ _ _ _ _ _ _ _ _
    exact ⟨rfl, rfl, C, h1, h2, 100, h3⟩
  · cases h
def endsL : List Int := [-9223372036854775808, -2, -1, 0, 1, 256, 257, 9007199254740991, 9007199254740992, 9223372036854775807]
structure K2 where
  i : Int
  k : Int
def hpK : Hp := [(100000, some (.orow 3 1 10 fun i j => .int .i64 (nthI endsL (i * 1 + j))))]
def tmK : List AV := setN (setN (List.replicate 117 .any) 0 (bv false)) 1 (.own 100000 10)
def one1 : List (Nat × Nat) := [(1, 100000)]
def annK3 : AnnM := ⟨K2, fun x => setN tmK 2 (iv x.i), fun _ => hpK, 200000, fun x => (10 - x.i).toNat, one1, one1⟩
def annK6 : AnnM := ⟨K2, fun x => setN (setN tmK 2 (iv x.i)) 3 (iv x.k), fun _ => hpK, 200000, fun x => (10 - x.k).toNat, one1, one1⟩
noncomputable def TK : List (Nat × Entry) := (5, plain gTells) :: (rowsId, rowsE) :: T5
noncomputable def CK : Cfg := ⟨Try.prog, mkT TK, fun f => false, fun f r => match Nat.beq f 4, Nat.beq r 3, Nat.beq r 6 with
  | true, true, _ => some annK3
  | true, _, true => some annK6
  | _, _, _ => none⟩
theorem SK : Sound CK := ⟨tab_of (entries_cons eTells (entries_cons rowsE_ok T5_ok)), fun f h => (by cases h), mixed⟩
theorem known_ev (K : AV → Prop) : (afn CK 100 4 [] [] 0 (fun v _ _ => K v)) = (
      ∃ (J : annK3.I → Prop), (∃ (i : annK3.I), J i ∧ (Value.bool false = Value.bool false ∧ (some 16 = some 16 ∧ 10 = 10) ∧ Value.int IntKind.i64 0 = Value.int IntKind.i64 i.i ∧ True) ∧ ((3 = 3 ∧ 1 = 1 ∧ 10 = 10 ∧
  ∀ (i j : Nat), i.succ.le 10 → j.succ.le 1 → Value.int IntKind.i64 ([-9223372036854775808, -2, -1, 0, 1, 256, 257, 9007199254740991, 9007199254740992, 9223372036854775807][i * 1 + j]?.getD 0) = Value.int IntKind.i64 (endsL[i * 1 + j]?.getD 0)) ∧ True) ∧ true = true) ∧ ∀ (i : K2), J i → ifb (decide (i.i < 10)) (∃ (J_1 : annK6.I → Prop), (∃ (i_1 : annK6.I), J_1 i_1 ∧
  (Value.bool false = Value.bool false ∧ (some 100000 = some 100000 ∧ 10 = 10) ∧ Value.int IntKind.i64 i.i = Value.int IntKind.i64 i_1.i ∧ Value.int IntKind.i64 0 = Value.int IntKind.i64 i_1.k ∧ True) ∧ ((3 = 3 ∧ 1 = 1 ∧ 10 = 10 ∧ ∀ (i j : Nat), i.succ.le 10 → j.succ.le 1 → Value.int IntKind.i64 (endsL[i * 1 + j]?.getD 0) = Value.int IntKind.i64 (endsL[i * 1 + j]?.getD 0)) ∧ True) ∧ true = true) ∧
  ∀ (i_1 : K2), J_1 i_1 → ifb (decide (i_1.k < 10)) (ifb (decide (0 ≤ i_1.i ∧ i_1.i < 10)) (ifb (decide (i_1.i.toNat < 10)) (ifb (decide (0 ≤ i_1.k ∧ i_1.k < 10)) (ifb (decide (i_1.k.toNat < 10)) (ifb (decide (0 ≤ i_1.k ∧ i_1.k < 10)) (ifb (decide (i_1.k.toNat < 10)) (ifb (decide (0 ≤ i_1.i ∧ i_1.i < 10)) (ifb (decide (i_1.i.toNat < 10)) (ifb (decide (0 ≤ i_1.i ∧ i_1.i < 10))
  (ifb (decide (i_1.i.toNat < 10)) (ifb (decide (0 ≤ i_1.k ∧ i_1.k < 10)) (ifb (decide (i_1.k.toNat < 10)) (ifb (decide (0 ≤ i_1.i ∧ i_1.i < 10)) (ifb (decide (i_1.i.toNat < 10)) (ifb (decide (0 ≤ i_1.k ∧ i_1.k < 10)) (ifb (decide (i_1.k.toNat < 10)) (ifb (decide (0 ≤ i_1.k ∧ i_1.k < 10)) (ifb (decide (i_1.k.toNat < 10)) (ifb (decide (0 ≤ i_1.i ∧ i_1.i < 10)) (ifb (decide (i_1.i.toNat < 10))
  (ifb (decide (0 ≤ i_1.k ∧ i_1.k < 10)) (ifb (decide (i_1.k.toNat < 10)) (ifb (decide (0 ≤ i_1.k ∧ i_1.k < 10)) (ifb (decide (i_1.k.toNat < 10)) (ifb (decide (0 ≤ i_1.i ∧ i_1.i < 10)) (ifb (decide (i_1.i.toNat < 10)) (ifb (decide (0 ≤ i_1.i ∧ i_1.i < 10)) (ifb (decide (i_1.i.toNat < 10)) (ifb (decide (0 ≤ i_1.k ∧ i_1.k < 10)) (ifb (decide (i_1.k.toNat < 10)) (ifb (decide (0 ≤ i_1.i ∧ i_1.i < 10))
  (ifb (decide (i_1.i.toNat < 10)) (ifb (decide (0 ≤ i_1.k ∧ i_1.k < 10)) (ifb (decide (i_1.k.toNat < 10)) (ifb (decide (0 ≤ i_1.k ∧ i_1.k < 10)) (ifb (decide (i_1.k.toNat < 10)) (ifb (decide (0 ≤ i_1.i ∧ i_1.i < 10)) (ifb (decide (i_1.i.toNat < 10)) (ifb (decide (0 ≤ i_1.k ∧ i_1.k < 10)) (ifb (decide (i_1.k.toNat < 10)) (ifb (decide (0 ≤ i_1.k ∧ i_1.k < 10)) (ifb (decide (i_1.k.toNat < 10))
  (ifb (decide (0 ≤ i_1.i ∧ i_1.i < 10)) (ifb (decide (i_1.i.toNat < 10)) (ifb (decide (0 ≤ i_1.i ∧ i_1.i < 10)) (ifb (decide (i_1.i.toNat < 10)) (ifb (decide (0 ≤ i_1.k ∧ i_1.k < 10)) (ifb (decide (i_1.k.toNat < 10)) (ifb (decide (0 ≤ i_1.i ∧ i_1.i < 10)) (ifb (decide (i_1.i.toNat < 10)) (ifb (decide (0 ≤ i_1.k ∧ i_1.k < 10)) (ifb (decide (i_1.k.toNat < 10)) (ifb (decide (0 ≤ i_1.k ∧ i_1.k < 10))
  (ifb (decide (i_1.k.toNat < 10)) (∃ (i' : annK6.I), (J_1 i' ∧ (10 - i'.k).toNat.succ.le (10 - i_1.k).toNat) ∧ (Value.bool false = Value.bool false ∧ (some 100000 = some 100000 ∧ 10 = 10) ∧ Value.int IntKind.i64 i_1.i = Value.int IntKind.i64 i'.i ∧ Value.int IntKind.i64 (IntKind.i64.wrap (i_1.k + 1)) = Value.int IntKind.i64 i'.k ∧ True) ∧ ((3 = 3 ∧ 1 = 1 ∧ 10 = 10 ∧
  ∀ (i j : Nat), i.succ.le 10 → j.succ.le 1 → Value.int IntKind.i64 (endsL[i * 1 + j]?.getD 0) = Value.int IntKind.i64 (endsL[i * 1 + j]?.getD 0)) ∧ True) ∧
  true = true) False) False) False) False) False) False) False) False) False) False) False) False) False) False) False) False) False) False) False) False) False) False) False) False) False) False) False) False) False) False) False) False) False) False) False) False) False) False) False) False) False) False) False) False) False) False) False) False) False) False) False) False) False) False) (∃ (i' : annK3.I), (J i' ∧
  (10 - i'.i).toNat.succ.le (10 - i.i).toNat) ∧ (Value.bool false = Value.bool false ∧ (some 100000 = some 100000 ∧ 10 = 10) ∧ Value.int IntKind.i64 (IntKind.i64.wrap (i_1.i + 1)) = Value.int IntKind.i64 i'.i ∧ True) ∧ ((3 = 3 ∧ 1 = 1 ∧ 10 = 10 ∧ ∀ (i j : Nat), i.succ.le 10 → j.succ.le 1 → Value.int IntKind.i64 (endsL[i * 1 + j]?.getD 0) = Value.int IntKind.i64 (endsL[i * 1 + j]?.getD 0)) ∧ True) ∧
  true = true)) (K (AV.val (Value.bool true)))) := by
  kernel_rfl

theorem inR10 {i : Int} (h0 : 0 ≤ i) (h1 : i < 10) : decide (0 ≤ i ∧ i < 10) = true := decide_eq_true ⟨h0, h1⟩
theorem inN10 {i : Int} (h0 : 0 ≤ i) (h1 : i < 10) : decide (i.toNat < 10) = true := decide_eq_true (by omega)
theorem fall10 {i : Int} (h0 : 0 ≤ i) (h1 : i < 10) : (10 - (i + 1)).toNat.succ.le (10 - i).toNat := by
  show (10 - (i + 1)).toNat + 1 ≤ (10 - i).toNat
  omega
theorem known_is : ∃ C, Sound C ∧ C.P = Try.prog ∧ afn C 100 4 [] [] 0 (fun v _ _ => v = bv true) := ⟨CK, SK, rfl, by
  rw [known_ev (fun v => v = bv true)]
  refine ⟨fun x => 0 ≤ x.i ∧ x.i ≤ 10, ⟨⟨0, 0⟩, by decide, ⟨rfl, ⟨rfl, rfl⟩, rfl, trivial⟩, ⟨⟨rfl, rfl, rfl, fun _ _ _ _ => rfl⟩, trivial⟩, rfl⟩, fun x hx => ?_⟩
  refine ifb_of (fun h1 => ?_) fun _ => rfl
  have h1 := of_decide_eq_true h1
  refine ⟨fun y => y.i = x.i ∧ 0 ≤ y.k ∧ y.k ≤ 10, ⟨⟨x.i, 0⟩, ⟨rfl, by simp, by simp⟩, ⟨rfl, ⟨rfl, rfl⟩, rfl, rfl, trivial⟩, ⟨⟨rfl, rfl, rfl, fun _ _ _ _ => rfl⟩, trivial⟩, rfl⟩, fun y hy => ?_⟩
  have hi0 : 0 ≤ y.i := by rw [hy.1]; exact hx.1
  have hi1 : y.i < 10 := by rw [hy.1]; exact h1
  refine ifb_of (fun h2 => ?_) fun h2 => ⟨⟨y.i + 1, 0⟩, ⟨⟨show 0 ≤ y.i + 1 by omega, show y.i + 1 ≤ 10 by omega⟩, by rw [← hy.1]; exact fall10 hi0 hi1⟩, ⟨rfl, ⟨rfl, rfl⟩, vi_eq (wr (by omega) (by omega)), trivial⟩, ⟨⟨rfl, rfl, rfl, fun _ _ _ _ => rfl⟩, trivial⟩, rfl⟩
  have h2 := of_decide_eq_true h2
  repeat' first
    | refine ifb_pos (inR10 hi0 hi1) ?_
    | refine ifb_pos (inN10 hi0 hi1) ?_
    | refine ifb_pos (inR10 hy.2.1 h2) ?_
    | refine ifb_pos (inN10 hy.2.1 h2) ?_
  exact ⟨⟨y.i, y.k + 1⟩, ⟨⟨hy.1, show 0 ≤ y.k + 1 by omega, show y.k + 1 ≤ 10 by omega⟩, fall10 hy.2.1 h2⟩, ⟨rfl, ⟨rfl, rfl⟩, rfl, vi_eq (wr (by omega) (by omega)), trivial⟩, ⟨⟨rfl, rfl, rfl, fun _ _ _ _ => rfl⟩, trivial⟩, rfl⟩⟩

end Go.Proofs.Ytebogbhjgdihpaa.Pto
