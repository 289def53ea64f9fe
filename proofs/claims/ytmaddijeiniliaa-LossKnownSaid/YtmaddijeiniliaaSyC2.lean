/-
  SyC2: one operation: stores, comparisons, addresses, slices, literals.
-/
import Derived.Test.YtmaddijeiniliaaSyC
import Derived.Laws.StructEq
namespace Go.Proofs.Ytmaddijeiniliaa.Sy
open Go Go.RowKit
set_option linter.unusedVariables false

section
variable {P : Program} {T : Tab} {key : Nat} {avs : List AV} {fh : Hp} {v : AV} {ds : Dl} {W : World} {ρ : Env} {hf : Nat → Option Blk} {F : Nat → Prop} {w : World} {ev : Operand → Value} {o : Oper}

theorem splice_length : ∀ (xs cs : List AV) (k : Nat), (splice cs k xs).length = cs.length
  | [], _, _ => rfl
  | x :: r, cs, k => by simp [splice, splice_length r, setN_length]

/-- What splice does, on values. -/
def spliceV (vs : List Value) : Nat → List Value → List Value
  | _, [] => vs
  | k, x :: r => spliceV (vs.set k x) (k + 1) r

theorem splice_rel : ∀ (xs : List AV) (us : List Value) (cs : List AV) (vs : List Value) (k : Nat), RelL ρ cs vs → RelL ρ xs us → RelL ρ (splice cs k xs) (spliceV vs k us)
  | [], us, cs, vs, k, h, hx => by rw [hx.nil_inv]; exact h
  | x :: r, us, cs, vs, k, h, hx => by
    obtain ⟨u, s, rfl, h1, h2⟩ := hx.cons_inv
    exact splice_rel r s _ _ (k + 1) (h.setN h1) h2

theorem spliceV_eq : ∀ (us vs : List Value) (k : Nat), k + us.length ≤ vs.length → spliceV vs k us = vs.take k ++ us ++ vs.drop (k + us.length)
  | [], vs, k, h => by simp [spliceV]
  | u :: r, vs, k, h => by
    simp only [List.length_cons] at h
    rw [spliceV, spliceV_eq r _ (k + 1) (by simp; omega)]
    have hk : k < vs.length := by omega
    have h1 : (vs.set k u).take (k + 1) = vs.take k ++ [u] := by
      rw [List.take_set, List.take_succ_eq_append_getElem hk, List.set_append_right _ _ (by simp; omega)]
      simp [show min k vs.length = k by omega]
    have h2 : (vs.set k u).drop (k + 1 + r.length) = vs.drop (k + (r.length + 1)) := by
      rw [List.drop_set_of_lt (by omega)]
      congr 1
      omega
    rw [h1, h2]
    simp

theorem valsOf_rel : ∀ {xs : List AV} {us vs : List Value}, valsOf xs = some vs → RelL ρ xs us → us = vs
  | [], us, vs, h, hr => by simp [valsOf] at h; rw [hr.nil_inv, h]
  | x :: r, us, vs, h, hr => by
    obtain ⟨u, s, rfl, h1, h2⟩ := hr.cons_inv
    cases x <;> simp only [valsOf] at h <;> try (cases h; done)
    rename_i v
    split at h
    · rename_i l hl
      cases h
      cases h1
      rw [valsOf_rel hl h2]
    · cases h

/-- A store through an address. -/
theorem storeA_run (H : HR W ρ hf F w) {t : TypeId} {x y : AV} {u z : Value} (hfh : ∀ id, id ∈ x.ids → look fh id = hf id) (h : storeA P t x y fh = some (true, ds)) (hx : Rel ρ x u) (hy : Rel ρ y z) :
    ∃ w', (Instr.storeAt t u z).run P w = .ok () w' ∧ HR W ρ (appD hf ds) F w' := by
  unfold storeA at h
  split at h
  · rename_i xs n hxs hn
    have hrel := cellsOf_rel hxs hy
    split at h
    · rename_i hq
      simp only [Bool.and_eq_true] at hq
      obtain ⟨q1, q2⟩ := hq
      have hlen : z.cells.toList.length = n := by rw [← hrel.1]; exact nbeq.1 q1
      have hone := allOne_rel q2 hrel
      have hsz : z.cells.size = n := by simpa using hlen
      split at h
      · rename_i id k
        obtain ⟨b, o, c, he, rfl⟩ := hx.ptr_inv
        have hl := hfh id (by simp [AV.ids])
        split at h
        · rename_i ty cs hc
          rw [hl] at hc
          split at h
          · rename_i hle
            have hle' := nble.1 hle
            cases h
            obtain ⟨rfl, hW, vs, hb, hcs⟩ := H.blk id b o c _ he hc
            have hvl : vs.toList.length = cs.length := hcs.1.symm
            have hrun := run_storeCells_at P b k ty z.cells.toList 0 vs w hb (by simp at hvl ⊢; omega) hone
            simp only [Nat.add_zero] at hrun
            refine ⟨w.setRow b (vs.toList.take k ++ z.cells.toList ++ vs.toList.drop (k + z.cells.toList.length)).toArray, ?_, H.rewrite (fun _ h => h) he hc hW _ ?_⟩
            · simp only [Instr.storeAt, Instr.sureAddr, storeVar, Sem.run_bind, Sem.run_pure, Result.andThen_ok, sizeT_run hn]
              rw [if_neg (by simp [hsz])]
              simp only [Nat.zero_add]
              exact hrun
            · refine ⟨rfl, hW, _, setRow_heap w b vs _ ty _ hb, ?_⟩
              have h1 := splice_rel xs _ cs _ k hcs hrel
              rw [spliceV_eq _ _ _ (by simp at hvl ⊢; omega)] at h1
              simpa using h1
          · cases h
        · cases h
      · rename_i id esz i j
        obtain ⟨b, o, c, he, rfl⟩ := hx.elt_inv
        have hl := hfh id (by simp [AV.ids])
        split at h
        · rename_i ty esz' m f vals hc hvals
          rw [hl] at hc
          split at h
          · rename_i hq
            simp only [Bool.and_eq_true] at hq
            obtain ⟨q3, q4⟩ := hq
            obtain rfl := nbeq.1 q3
            have q4' := nble.1 q4
            simp only [Option.some.injEq, Prod.mk.injEq, decide_eq_true_eq] at h
            obtain ⟨hi, rfl⟩ := h
            obtain ⟨rfl, hW, vs, hb, hsize, hmc, hblk⟩ := H.blk id b o c _ he hc
            have hzv : z.cells.toList = vals := valsOf_rel hvals hrel
            have hin : i * esz' + j + n ≤ vs.size := by
              rw [hsize]
              have : (i + 1) * esz' ≤ c * esz' := Nat.mul_le_mul_right _ (by omega)
              rw [Nat.add_mul, Nat.one_mul] at this
              omega
            have hrun := run_storeCells_at P b (i * esz' + j) ty z.cells.toList 0 vs w hb (by rw [hlen]; omega) hone
            simp only [Nat.add_zero] at hrun
            refine ⟨w.setRow b (vs.toList.take (i * esz' + j) ++ z.cells.toList ++ vs.toList.drop (i * esz' + j + z.cells.toList.length)).toArray, ?_, H.rewrite (fun _ h => h) he hc hW _ ?_⟩
            · simp only [Instr.storeAt, Instr.sureAddr, storeVar, Sem.run_bind, Sem.run_pure, Result.andThen_ok, sizeT_run hn]
              rw [if_neg (by simp [hsz])]
              simp only [Nat.zero_add]
              exact hrun
            · refine ⟨rfl, hW, _, setRow_heap w b vs _ ty _ hb, ?_, hmc, ?_⟩
              · simp only [List.size_toArray, List.length_append, List.length_take, List.length_drop, Array.length_toList, hlen]
                rw [← hsize]
                omega
              · intro i' j' hi' hj'
                have hold := hblk i' j' hi' hj'
                dsimp only
                have hsp := spliceV_eq z.cells.toList vs.toList (i * esz' + j) (by rw [hlen]; simpa using hin)
                rw [List.getElem?_toArray]
                have hin' : i' * esz' + j' < vs.size := (Array.getElem?_eq_some_iff.1 hold.1).1
                by_cases hcase : i' = i ∧ j ≤ j' ∧ j' < j + n
                · obtain ⟨rfl, h1, h2⟩ := hcase
                  rw [if_pos ⟨rfl, h1, h2⟩]
                  rw [List.getElem?_append_left (by simp [hlen]; omega), List.getElem?_append_right (by simp; omega)]
                  simp only [List.length_take, Array.length_toList]
                  rw [show min (i' * esz' + j) vs.size = i' * esz' + j by omega, show i' * esz' + j' - (i' * esz' + j) = j' - j by omega, hzv]
                  have hlt : j' - j < vals.length := by rw [← hzv, hlen]; omega
                  have hmem : vals[j' - j] ∈ z.cells.toList := by rw [hzv]; exact List.getElem_mem hlt
                  simp only [nthV, List.getElem?_eq_getElem hlt, Option.getD_some]
                  exact ⟨trivial, hone _ hmem⟩
                · rw [if_neg hcase]
                  refine ⟨?_, hold.2⟩
                  rw [← hold.1]
                  by_cases hlow : i' * esz' + j' < i * esz' + j
                  · rw [List.getElem?_append_left (by simp [hlen]; omega), List.getElem?_append_left (by simp; omega)]
                    simp [hlow]
                  · have hhigh : i * esz' + j + n ≤ i' * esz' + j' := by
                      by_cases e : i' = i
                      · subst e; omega
                      · by_cases e2 : i' < i
                        · have : (i' + 1) * esz' ≤ i * esz' := Nat.mul_le_mul_right _ (by omega)
                          rw [Nat.add_mul, Nat.one_mul] at this
                          omega
                        · have : (i + 1) * esz' ≤ i' * esz' := Nat.mul_le_mul_right _ (by omega)
                          rw [Nat.add_mul, Nat.one_mul] at this
                          omega
                    rw [List.getElem?_append_right (by simp [hlen]; omega)]
                    simp only [List.length_append, List.length_take, Array.length_toList, hlen, List.getElem?_drop]
                    rw [show i * esz' + j + n + (i' * esz' + j' - (min (i * esz' + j) vs.size + n)) = i' * esz' + j' by omega]
                    simp
          · cases h
        · cases h
      · cases h
    · cases h
  · cases h

/-! equality of structs -/
theorem eqFields_run (a b : Array Value) (d : Nat) : ∀ (fs : List Field) (k : Nat) (xs ys : List AV) (r : Bool), eqCells P fs k xs ys = some r →
    RelL ρ xs (a.toList.drop k) → RelL ρ ys (b.toList.drop k) → (Op.eqFields (d + 1) a b fs).run P w = .ok r w
  | [], k, xs, ys, r, he, hx, hy => by
    cases xs <;> cases ys <;> simp [eqCells] at he
    subst he
    simp [Op.eqFields]
  | f :: fs, k, xs, ys, r, he, hx, hy => by
    unfold eqCells at he
    split at he
    · rename_i heq; cases heq
    · rename_i k _ _ _ _ f' fs' u xs z ys heq
      cases heq
      obtain ⟨u', us, e1, hu, hus⟩ := hx.cons_inv
      obtain ⟨z', zs, e2, hz, hzs⟩ := hy.cons_inv
      cases hu
      cases hz
      have hau : a[k]? = some u := by
        have : (a.toList.drop k)[0]? = some u := by rw [e1]; rfl
        simpa using this
      have hbz : b[k]? = some z := by
        have : (b.toList.drop k)[0]? = some z := by rw [e2]; rfl
        simpa using this
      have hus' : RelL ρ xs (a.toList.drop (k + 1)) := by
        have : a.toList.drop (k + 1) = us := by rw [← List.drop_drop, e1]; rfl
        rw [this]; exact hus
      have hzs' : RelL ρ ys (b.toList.drop (k + 1)) := by
        have : b.toList.drop (k + 1) = zs := by rw [← List.drop_drop, e2]; rfl
        rw [this]; exact hzs
      have step : ∀ (c t : Bool) (d' : TypeDesc), (Nat.beq f.offset k && f.name != "_") = true → P.underlying f.type = some d' → isAggT P f.type = some false → (Op.equalIn (d + 1) f.type u z).run P w = .ok c w → eqCells P fs (k + 1) xs ys = some t → r = (c && t) → (Op.eqFields (d + 1) a b (f :: fs)).run P w = .ok r w := by
        intro c t d' hq hd hag hc ht hr
        simp only [Bool.and_eq_true] at hq
        have hoff : f.offset = k := nbeq.1 hq.1
        have hname : f.name ≠ "_" := by simpa using hq.2
        have hpa : (part f.type a f.offset).run P w = .ok u w := by rw [hoff]; simp [part, isAggT_run hag, hau]
        have hpb : (part f.type b f.offset).run P w = .ok z w := by rw [hoff]; simp [part, isAggT_run hag, hbz]
        have ih := eqFields_run a b d fs (k + 1) xs ys t ht hus' hzs'
        rw [Op.eqFields]
        simp only [if_pos hname, Sem.run_bind, hpa, hpb, hc, Result.andThen_ok]
        subst hr
        cases c
        · simp
        · simpa using ih
      split at he
      · rename_i kk kk1 p kk2 q hq hd
        split at he
        · rename_i t hkk ht
          cases he
          have hkk' : kk1 = kk2 := of_decide_eq_true hkk
          subst hkk'
          exact step _ t _ hq hd (by simp [isAggT, hd]) (run_equalIn_int w d f.type _ _ p q hd) ht rfl
        · cases he
      · rename_i p q hq hd
        split at he
        · rename_i t ht
          cases he
          exact step _ t _ hq hd (by simp [isAggT, hd]) (run_equalIn_bool w d f.type p q hd) ht rfl
        · cases he
      · cases he
    · cases he

theorem eqFlat_run {t : TypeId} {xs ys : List AV} {a b : Array Value} {r : Bool} (h : eqFlat P t xs ys = some r) (hx : RelL ρ xs a.toList) (hy : RelL ρ ys b.toList) (w : World) :
    (Op.equalIn 10000 t (.agg a) (.agg b)).run P w = .ok r w ∧ P.eqGuardType P.depth t = false := by
  unfold eqFlat at h
  split at h
  · rename_i fs hu
    split at h
    · rename_i hq
      simp only [Bool.and_eq_true, Bool.not_eq_true'] at hq
      have hff : P.fieldsOf t = fs := by simp [Program.fieldsOf, hu]
      refine ⟨?_, hq.2⟩
      rw [run_equalIn_struct w 9999 t a b (by rw [hff]; exact hu) hq.1, hff]
      exact eqFields_run (ρ := ρ) a b 9998 fs.toList 0 xs ys r h (by simpa using hx) (by simpa using hy)
    · cases h
  · cases h

theorem intOp_run {op : BinOp} {k : IntKind} {a b : Int} {v : Value} (h : intOp op k a b = some (true, v)) (t : TypeId) (w : World) : (binOp op t (.int k a) (.int k b)).run P w = .ok v w := by
  unfold intOp at h
  split at h <;> simp only [Option.some.injEq, Prod.mk.injEq, true_and, reduceCtorEq, Bool.and_eq_true, decide_eq_true_eq] at h <;> (try subst h)
  · simp [binOp_add, Op.intArith]
  · simp [binOp_sub, Op.intArith]
  · simp [binOp_mul, Op.intArith]
  · obtain ⟨h1, rfl⟩ := h
    have : b ≠ 0 := by simpa using h1
    simp [binOp_quo, Op.intDiv, this]
  · obtain ⟨h1, rfl⟩ := h
    have : b ≠ 0 := by simpa using h1
    simp [binOp_rem, Op.intDiv, this]
  · simp [binOp_and, intBits_and]
  · simp [binOp_or, intBits_or]
  · simp [binOp_eql]
  · simp [binOp_neq]
  · simp [binOp_lss]
  · simp [binOp_leq]
  · simp [binOp_gtr]
  · simp [binOp_geq]
  · obtain ⟨⟨h1, h2⟩, rfl⟩ := h
    rw [binOp_shr, shift_shr k k a b h1 h2]
    rfl

theorem binA_run {op : BinOp} {t : TypeId} {x y : AV} {u z : Value} (h : binA P op t x y = some (true, v)) (hx : Rel ρ x u) (hy : Rel ρ y z) (xo yo : Operand) (w : World) :
    ∃ v', (do eqGuard op t xo yo u z; binOp op t u z : Sem Value).run P w = .ok v' w ∧ Rel ρ v v' := by
  unfold binA at h
  split at h
  · rename_i k a k' b
    cases hx; cases hy
    split at h
    · rename_i hk
      have hk' : k = k' := of_decide_eq_true hk
      subst hk'
      split at h
      · rename_i c v0 hv
        simp only [Option.some.injEq, Prod.mk.injEq] at h
        obtain ⟨rfl, rfl⟩ := h
        exact ⟨v0, by simp [eqGuard_at_int, intOp_run hv], .val _⟩
      · cases h
    · split at h
      · simp only [Option.some.injEq, Prod.mk.injEq, Bool.and_eq_true, decide_eq_true_eq] at h
        obtain ⟨⟨h1, h2⟩, rfl⟩ := h
        refine ⟨.int k (a / 2 ^ b.toNat), ?_, .val _⟩
        simp [eqGuard_at_int, binOp_shr, shift_shr k k' a b h1 h2]
      · cases h
  · rename_i a b
    cases hx; cases hy
    split at h
    · rename_i hu
      cases h
      refine ⟨.bool (a == b), ?_, .val _⟩
      simp [eqGuard_at_bool, binOp, Op.equal, Op.maxDepth, run_equalIn_bool w 9999 t a b hu]
    · rename_i hu
      cases h
      refine ⟨.bool (!(a == b)), ?_, .val _⟩
      simp [eqGuard_at_bool, binOp, Op.equal, Op.maxDepth, run_equalIn_bool w 9999 t a b hu]
    · cases h
  · rename_i xs ys
    obtain ⟨a, rfl, ha⟩ := hx.agg_inv
    obtain ⟨b, rfl, hb⟩ := hy.agg_inv
    split at h
    · rename_i r hr
      cases h
      obtain ⟨h1, h2⟩ := eqFlat_run hr ha hb w
      refine ⟨.bool r, ?_, .val _⟩
      simp [run_eqGuard_agg w .eql t xo yo a b h2, binOp, Op.equal, Op.maxDepth, h1]
    · rename_i r hr
      cases h
      obtain ⟨h1, h2⟩ := eqFlat_run hr ha hb w
      refine ⟨.bool (!r), ?_, .val _⟩
      simp [run_eqGuard_agg w .neq t xo yo a b h2, binOp, Op.equal, Op.maxDepth, h1]
    · cases h
  · cases h
end

end Go.Proofs.Ytmaddijeiniliaa.Sy
