/-
  PtoD: PtoLeast, PtoNew, PtoOrder, PtoTwice.
-/
import Derived.Test.YtppebpacelcndaaPtoC
namespace Go.Proofs.Ytppebpacelcndaa.Pto
open Go Go.RowKit Go.Proofs.Ytppebpacelcndaa.Sy
set_option linter.unusedVariables false
set_option linter.unusedSimpArgs false

def ml (a : Int) : Int := a % 9007199254740992
def mh (a b : Int) : Int := ml a + b % (9007199254740992 - ml a)
theorem ml_lo (a : Int) : 0 ≤ ml a ∧ ml a ≤ 9007199254740991 := by unfold ml; omega
theorem mh_lo (a b : Int) : ml a ≤ mh a b ∧ mh a b ≤ 9007199254740991 := by
  have h := ml_lo a
  have h1 := Int.emod_nonneg b (show 9007199254740992 - ml a ≠ 0 by omega)
  have h2 := Int.emod_lt_of_pos b (show 0 < 9007199254740992 - ml a by omega)
  unfold mh
  omega
theorem mh_eq (a b : Int) : IntKind.i64.wrap (brF a 9007199254740992 + brF b (IntKind.i64.wrap (9007199254740992 - brF a 9007199254740992))) = mh a b := by
  have h := ml_lo a
  have h3 := mh_lo a b
  show IntKind.i64.wrap (ml a + brF b (IntKind.i64.wrap (9007199254740992 - ml a))) = mh a b
  rw [wr (n := 9007199254740992 - ml a) (by omega) (by omega)]
  show IntKind.i64.wrap (mh a b) = mh a b
  exact wr (by omega) (by omega)
theorem measure_is (a b c d : Int) : afn C4 100 19 [.agg [iv a, iv b, iv c, iv d]] [] 0 (fun v _ _ => v = rv (mh a b) (ml a) (mh a c) (ml d) 0) := by
  rw [measure_ev a b c d (fun v => v = rv (mh a b) (ml a) (mh a c) (ml d) 0)]
  have h := ml_lo a
  have h2 : IntKind.i64.wrap (9007199254740992 - brF a 9007199254740992) = 9007199254740992 - ml a := wr (by show _ ≤ 9007199254740992 - ml a; omega) (by show 9007199254740992 - ml a ≤ _; omega)
  rw [mh_eq, mh_eq, h2]
  have h3 : (decide (0 < 9007199254740992 - ml a) && decide (9007199254740992 - ml a ≤ 9223372036854775807)) = true := by simp; omega
  exact ifb_pos h3 (ifb_pos h3 rfl)
def gMeasure : List AV → Option AV
  | [.agg [.val (.int .i64 a), .val (.int .i64 b), .val (.int .i64 c), .val (.int .i64 d)]] => some (rv (mh a b) (ml a) (mh a c) (ml d) 0)
  | _ => none
theorem eMeasure : EntryOK Try.prog 19 (plain gMeasure) := entry_closed S4 (by kernel_rfl) fun args v h => by
  unfold gMeasure at h
  split at h
  · cases h; exact ⟨rfl, rfl, 100, measure_is _ _ _ _⟩
  · cases h
noncomputable def T5 : List (Nat × Entry) := (19, plain gMeasure) :: T4
noncomputable def C5 : Cfg := ⟨Try.prog, mkT T5, fun f => hasN inl0 f, fun _ _ => none⟩
theorem T5_ok : ∀ k e, (k, e) ∈ T5 → EntryOK Try.prog k e := entries_cons eMeasure T4_ok
theorem S5 : Sound C5 := ⟨tab_of T5_ok, fun f h => entersB_ok (allN_ok inl0_ok f h), mixed⟩

theorem least_ev (a b c d s x : Int) (K : AV → Prop) : (afn C5 100 5 [.agg [iv a, iv b, iv c, iv d], iv s, iv x] [] 0 (fun v _ _ => K v)) = (
      ifb
        (decide
          (baseF (mh a b) (ml a) (mh a c) (ml d) 0 (brF s 3) (brF x 9007199254740992) <
            min (IntKind.i64.wrap (mh a c + 1000000)) 9007199254740991))
        (K (AV.val (Value.bool false)))
        (ifb (decide (9007199254740991 < baseF (mh a b) (ml a) (mh a c) (ml d) 0 (brF s 3) (brF x 9007199254740992)))
          (K (AV.val (Value.bool false)))
          (ifb (decide (brF s 3 < 2))
            (ifb
              (baseF (mh a b) (ml a) (mh a c) (ml d) 0 (brF s 3) (brF x 9007199254740992) !=
                baseF (mh a b) (ml a) (mh a c) (ml d) 0 (brF s 3) 0)
              (K (AV.val (Value.bool false)))
              (ifb (baseF (mh a b) (ml a) (mh a c) (ml d) 0 (brF s 3) (brF x 9007199254740992) == 9007199254740991)
                (K (AV.val (Value.bool true)))
                (ifb (brF s 3 == 2)
                  (ifb
                    (IntKind.i64.wrap
                        (IntKind.i64.wrap
                            (baseF (mh a b) (ml a) (mh a c) (ml d) 0 (brF s 3) (brF x 9007199254740992) - mh a c) -
                          brF x 9007199254740992) ==
                      1000000)
                    (ifb (decide (IntKind.i64.wrap (4 * ml d) ≤ 1000000)) (K (AV.val (Value.bool true)))
                      (ifb
                        (IntKind.i64.wrap
                            (IntKind.i64.wrap
                                (baseF (mh a b) (ml a) (mh a c) (ml d) 0 (brF s 3) (brF x 9007199254740992) - mh a c) -
                              brF x 9007199254740992) ==
                          IntKind.i64.wrap (4 * ml d))
                        (K
                          (AV.val
                            (Value.bool
                              (decide
                                (1000000 ≤
                                  IntKind.i64.wrap
                                    (IntKind.i64.wrap
                                        (baseF (mh a b) (ml a) (mh a c) (ml d) 0 (brF s 3) (brF x 9007199254740992) -
                                          mh a c) -
                                      brF x 9007199254740992))))))
                        (K (AV.val (Value.bool false)))))
                    (ifb
                      (IntKind.i64.wrap
                          (IntKind.i64.wrap
                              (baseF (mh a b) (ml a) (mh a c) (ml d) 0 (brF s 3) (brF x 9007199254740992) - mh a c) -
                            brF x 9007199254740992) ==
                        IntKind.i64.wrap (4 * ml d))
                      (K
                        (AV.val
                          (Value.bool
                            (decide
                              (1000000 ≤
                                IntKind.i64.wrap
                                  (IntKind.i64.wrap
                                      (baseF (mh a b) (ml a) (mh a c) (ml d) 0 (brF s 3) (brF x 9007199254740992) - mh a c) -
                                    brF x 9007199254740992))))))
                      (K (AV.val (Value.bool false)))))
                  (ifb
                    (IntKind.i64.wrap (baseF (mh a b) (ml a) (mh a c) (ml d) 0 (brF s 3) (brF x 9007199254740992) - mh a c) ==
                      1000000)
                    (ifb (decide (IntKind.i64.wrap (4 * ml d) ≤ 1000000)) (K (AV.val (Value.bool true)))
                      (ifb
                        (IntKind.i64.wrap
                            (baseF (mh a b) (ml a) (mh a c) (ml d) 0 (brF s 3) (brF x 9007199254740992) - mh a c) ==
                          IntKind.i64.wrap (4 * ml d))
                        (K
                          (AV.val
                            (Value.bool
                              (decide
                                (1000000 ≤
                                  IntKind.i64.wrap
                                    (baseF (mh a b) (ml a) (mh a c) (ml d) 0 (brF s 3) (brF x 9007199254740992) - mh a c))))))
                        (K (AV.val (Value.bool false)))))
                    (ifb
                      (IntKind.i64.wrap
                          (baseF (mh a b) (ml a) (mh a c) (ml d) 0 (brF s 3) (brF x 9007199254740992) - mh a c) ==
                        IntKind.i64.wrap (4 * ml d))
                      (K
                        (AV.val
                          (Value.bool
                            (decide
                              (1000000 ≤
                                IntKind.i64.wrap
                                  (baseF (mh a b) (ml a) (mh a c) (ml d) 0 (brF s 3) (brF x 9007199254740992) - mh a c))))))
                      (K (AV.val (Value.bool false))))))))
            (ifb (baseF (mh a b) (ml a) (mh a c) (ml d) 0 (brF s 3) (brF x 9007199254740992) == 9007199254740991)
              (K (AV.val (Value.bool true)))
              (ifb (brF s 3 == 2)
                (ifb
                  (IntKind.i64.wrap
                      (IntKind.i64.wrap
                          (baseF (mh a b) (ml a) (mh a c) (ml d) 0 (brF s 3) (brF x 9007199254740992) - mh a c) -
                        brF x 9007199254740992) ==
                    1000000)
                  (ifb (decide (IntKind.i64.wrap (4 * ml d) ≤ 1000000)) (K (AV.val (Value.bool true)))
                    (ifb
                      (IntKind.i64.wrap
                          (IntKind.i64.wrap
                              (baseF (mh a b) (ml a) (mh a c) (ml d) 0 (brF s 3) (brF x 9007199254740992) - mh a c) -
                            brF x 9007199254740992) ==
                        IntKind.i64.wrap (4 * ml d))
                      (K
                        (AV.val
                          (Value.bool
                            (decide
                              (1000000 ≤
                                IntKind.i64.wrap
                                  (IntKind.i64.wrap
                                      (baseF (mh a b) (ml a) (mh a c) (ml d) 0 (brF s 3) (brF x 9007199254740992) - mh a c) -
                                    brF x 9007199254740992))))))
                      (K (AV.val (Value.bool false)))))
                  (ifb
                    (IntKind.i64.wrap
                        (IntKind.i64.wrap
                            (baseF (mh a b) (ml a) (mh a c) (ml d) 0 (brF s 3) (brF x 9007199254740992) - mh a c) -
                          brF x 9007199254740992) ==
                      IntKind.i64.wrap (4 * ml d))
                    (K
                      (AV.val
                        (Value.bool
                          (decide
                            (1000000 ≤
                              IntKind.i64.wrap
                                (IntKind.i64.wrap
                                    (baseF (mh a b) (ml a) (mh a c) (ml d) 0 (brF s 3) (brF x 9007199254740992) - mh a c) -
                                  brF x 9007199254740992))))))
                    (K (AV.val (Value.bool false)))))
                (ifb
                  (IntKind.i64.wrap (baseF (mh a b) (ml a) (mh a c) (ml d) 0 (brF s 3) (brF x 9007199254740992) - mh a c) ==
                    1000000)
                  (ifb (decide (IntKind.i64.wrap (4 * ml d) ≤ 1000000)) (K (AV.val (Value.bool true)))
                    (ifb
                      (IntKind.i64.wrap
                          (baseF (mh a b) (ml a) (mh a c) (ml d) 0 (brF s 3) (brF x 9007199254740992) - mh a c) ==
                        IntKind.i64.wrap (4 * ml d))
                      (K
                        (AV.val
                          (Value.bool
                            (decide
                              (1000000 ≤
                                IntKind.i64.wrap
                                  (baseF (mh a b) (ml a) (mh a c) (ml d) 0 (brF s 3) (brF x 9007199254740992) - mh a c))))))
                      (K (AV.val (Value.bool false)))))
                  (ifb
                    (IntKind.i64.wrap (baseF (mh a b) (ml a) (mh a c) (ml d) 0 (brF s 3) (brF x 9007199254740992) - mh a c) ==
                      IntKind.i64.wrap (4 * ml d))
                    (K
                      (AV.val
                        (Value.bool
                          (decide
                            (1000000 ≤
                              IntKind.i64.wrap
                                (baseF (mh a b) (ml a) (mh a c) (ml d) 0 (brF s 3) (brF x 9007199254740992) - mh a c))))))
                    (K (AV.val (Value.bool false)))))))))) := by
  kernel_rfl

structure LW (P : Int → Int → Prop) where
  i : Int
  w : Int
  ok : P i w
def annW (P : Int → Int → Prop) (b p q m : Int) (i0 : LW P) : Ann := ⟨LW P, fun x => ⟨setN (setN (setN (setN (setN (setN (setN (List.replicate 55 .any) 0 (iv b)) 1 (iv p)) 2 (iv q)) 7 (iv m)) 8 (iv x.w)) 9 (iv x.i)) 6 (bv false), [], 0, 0⟩, fun x => (m - x.i).toNat, i0, fun _ => none, fun _ => none⟩
noncomputable def CW (P : Int → Int → Prop) (b p q m : Int) (i0 : LW P) : Cfg := ⟨Try.prog, mkT T4, fun f => hasN inl0 f, fun f r => match Nat.beq f 8 && Nat.beq r 5 with | true => some (annW P b p q m i0) | false => none⟩
theorem twice_ev (P : Int → Int → Prop) (b p q m : Int) (i0 : LW P) (x y z : Int) (K : AV → Prop) : (afn (CW P b p q m i0) 100 8 [iv x, iv y, iv z] [] 0 (fun v _ _ => K v)) = (
      ((Value.int IntKind.i64 (brF x 9007199254740992) = Value.int IntKind.i64 b ∧
            Value.int IntKind.i64 (brF y 40) = Value.int IntKind.i64 p ∧
              Value.int IntKind.i64 (brF z 40) = Value.int IntKind.i64 q ∧
                Value.bool false = Value.bool false ∧
                  Value.int IntKind.i64 (IntKind.i64.wrap (brF y 40 + brF z 40)) = Value.int IntKind.i64 m ∧
                    Value.int IntKind.i64 (brF x 9007199254740992) = Value.int IntKind.i64 i0.w ∧
                      Value.int IntKind.i64 0 = Value.int IntKind.i64 i0.i ∧ True) ∧
          True ∧ Side (annW P b p q m i0).s0 0 0 0) ∧
        ∀ (i : LW P),
          ifb (decide (i.i < m))
            (∃ (i' : (annW P b p q m i0).I),
              ((Value.int IntKind.i64 b = Value.int IntKind.i64 b ∧
                    Value.int IntKind.i64 p = Value.int IntKind.i64 p ∧
                      Value.int IntKind.i64 q = Value.int IntKind.i64 q ∧
                        Value.bool false = Value.bool false ∧
                          Value.int IntKind.i64 m = Value.int IntKind.i64 m ∧
                            Value.int IntKind.i64 (min (IntKind.i64.wrap (2 * i.w)) 9007199254740991) =
                                Value.int IntKind.i64 i'.w ∧
                              Value.int IntKind.i64 (IntKind.i64.wrap (i.i + 1)) = Value.int IntKind.i64 i'.i ∧ True) ∧
                  True ∧ Side (annW P b p q m i0).s1 0 0 0) ∧
                (m - i'.i).toNat.succ.le (m - i.i).toNat)
            (ifb (bkF (bkF b p m) q m == bkF b (IntKind.i64.wrap (p + q)) m)
              (ifb (bkF b (IntKind.i64.wrap (p + q)) m == i.w) (K (AV.val (Value.bool true))) (K (AV.val (Value.bool false))))
              (K (AV.val (Value.bool false))))) := by
  kernel_rfl

end Go.Proofs.Ytppebpacelcndaa.Pto
