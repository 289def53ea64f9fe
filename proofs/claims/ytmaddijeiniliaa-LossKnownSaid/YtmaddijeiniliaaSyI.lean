/-
  SyI: functions that read what their arguments point at (cells of plain values), as entries.
-/
import Derived.Test.YtmaddijeiniliaaSyH
namespace Go.Proofs.Ytmaddijeiniliaa.Sy
open Go Go.RowKit
set_option linter.unusedVariables false

/-- Arguments that point at cells of plain values, as rows of one element. -/
def ptrsOf : List AV → Hp → Nat → Option (List AV × Hp)
  | [], _, _ => some ([], [])
  | .ptr id 0 :: r, fh, j => match look fh id, ptrsOf r fh (j + 1) with
    | some (.cells ty cs), some (as, hp) => match valsOf cs, allOne cs with
      | some vs, true => some (.elt j cs.length 0 0 :: as, (j, some (.row ty cs.length 1 fun _ q => nthV vs q)) :: hp)
      | _, _ => none
    | _, _ => none
  | .val v :: r, fh, j => match ptrsOf r fh (j + 1) with
    | some (as, hp) => some (.val v :: as, hp)
    | none => none
  | .agg cs :: r, fh, j => match closedL cs, ptrsOf r fh (j + 1) with
    | some _, some (as, hp) => some (.agg cs :: as, hp)
    | _, _ => none
  | _, _, _ => none

theorem nthV_at {ρ : Env} : ∀ {cs : List AV} {us vs : List Value}, valsOf cs = some us → allOne cs = true → RelL ρ cs vs → cs.length = vs.length ∧ ∀ q, q < cs.length → vs[q]? = some (nthV us q) ∧ (nthV us q).oneCell' = true
  | [], us, vs, h, _, hr => by
    rw [hr.nil_inv]
    exact ⟨rfl, fun q hq => by simp at hq⟩
  | c :: r, us, vs, h, ho, hr => by
    obtain ⟨v, s, rfl, h1, h2⟩ := hr.cons_inv
    cases c <;> simp only [valsOf] at h <;> try (cases h; done)
    rename_i u
    split at h
    · rename_i l hl
      cases h
      simp only [allOne, Bool.and_eq_true] at ho
      obtain ⟨h3, h4⟩ := nthV_at hl ho.2 h2
      refine ⟨by simp [h3], fun q hq => ?_⟩
      cases q with
      | zero =>
        rw [h1.val_inv]
        exact ⟨rfl, ho.1⟩
      | succ q =>
        have := h4 q (by simpa using hq)
        simpa [nthV] using this
    · cases h

theorem ptrs_ok {W : World} {ρ : Env} {hf : Nat → Option Blk} {F : Nat → Prop} {w : World} (H : HR W ρ hf F w) {fh : Hp} : ∀ {args as : List AV} {hp : Hp} {vs : List Value} {j : Nat}, ptrsOf args fh j = some (as, hp) →
    (∀ id, id ∈ AV.idsL args → look fh id = hf id) → RelL ρ args vs →
    ∃ ρ' : Env, (∀ id, id < j ∨ j + args.length ≤ id → ρ' id = none) ∧ (∀ id b o c, ρ' id = some (b, o, c) → b < w.heap.size) ∧
      (∀ id b o c B, ρ' id = some (b, o, c) → look hp id = some B → BlkAt w ρ' w b o c B) ∧ RelL ρ' as vs
  | [], as, hp, vs, j, h, _, hr => by
    simp only [ptrsOf, Option.some.injEq, Prod.mk.injEq] at h
    obtain ⟨rfl, rfl⟩ := h
    rw [hr.nil_inv]
    exact ⟨(fun _ => none), (fun _ _ => rfl), (fun _ _ _ _ h => by cases h), (fun _ _ _ _ _ h => by cases h), RelL.nil⟩
  | a :: r, as, hp, vs, j, h, hfh, hr => by
    obtain ⟨v, s, rfl, h1, h2⟩ := hr.cons_inv
    have hrest : ∀ {as' hp'}, ptrsOf r fh (j + 1) = some (as', hp') → _ := fun hq => ptrs_ok H hq (fun id hid => hfh id (by simp only [AV.idsL, List.mem_append]; exact .inr hid)) h2
    cases a with
    | ptr id k =>
      cases k with
      | succ k => simp [ptrsOf] at h
      | zero =>
        simp only [ptrsOf] at h
        split at h
        · rename_i ty cs as' hp' hl hq
          split at h
          · rename_i us hv ho
            simp only [Option.some.injEq, Prod.mk.injEq] at h
            obtain ⟨rfl, rfl⟩ := h
            obtain ⟨ρ', k1, k2, k3, k4⟩ := hrest hq
            obtain ⟨b, o, c, hb, rfl⟩ := h1.ptr_inv
            have hlook := hfh id (by simp [AV.idsL, AV.ids])
            obtain ⟨rfl, _, ws, hw, hws⟩ := H.blk id b o c _ hb (hlook ▸ hl)
            obtain ⟨hlen, hat⟩ := nthV_at hv ho hws
            have hj : ρ' j = none := k1 j (.inl (by omega))
            have hext := addE_ext hj (b, 0, c)
            have hbs := H.old id b 0 c hb
            refine ⟨addE ρ' j (b, 0, c), fun id' hid => ?_, fun id' b' o' c' hx => ?_, fun id' b' o' c' B hx hB => ?_, .cons ?_ (k4.mono hext)⟩
            · unfold addE
              simp only [List.length_cons] at hid
              split
              · rename_i e; omega
              · exact k1 id' (by omega)
            · unfold addE at hx
              split at hx
              · cases hx; exact hbs
              · exact k2 id' b' o' c' hx
            · unfold addE at hx
              split at hx
              · rename_i e
                cases hx
                subst e
                simp only [look] at hB
                rw [nbeq.2 rfl] at hB
                cases hB
                refine ⟨hbs, fun i q hi hq' => ?_⟩
                have hi0 : i = 0 := by omega
                subst hi0
                rw [cells_here hw]
                simpa using hat q hq'
              · rename_i hne
                have hB' : look hp' id' = some B := by
                  simp only [look] at hB
                  split at hB
                  · rename_i hq'
                    exact absurd (nbeq.1 hq').symm hne
                  · exact hB
                exact (k3 id' b' o' c' B hx hB').mono hext
            · have := Rel.elt (ρ := addE ρ' j (b, 0, c)) (id := j) (esz := cs.length) (i := 0) (j := 0) (b := b) (o := 0) (c := c) (by simp [addE])
              simpa using this
          · cases h
        · cases h
    | val v' =>
      simp only [ptrsOf] at h
      split at h
      · rename_i as' hp' hq
        cases h
        obtain ⟨ρ', k1, k2, k3, k4⟩ := hrest hq
        refine ⟨ρ', fun id hid => k1 id (by simp only [List.length_cons] at hid; omega), k2, k3, .cons ?_ k4⟩
        rw [h1.val_inv]
        exact .val _
      · cases h
    | agg cs =>
      simp only [ptrsOf] at h
      split at h
      · rename_i l as' hp' hl hq
        cases h
        obtain ⟨ρ', k1, k2, k3, k4⟩ := hrest hq
        refine ⟨ρ', fun id hid => k1 id (by simp only [List.length_cons] at hid; omega), k2, k3, .cons ?_ k4⟩
        have hc : closedV (.agg cs) = some (.agg l.toArray) := by simp only [closedV, hl]
        rw [closedV_rel _ _ _ hc h1]
        exact closedV_mk _ _ hc
      · cases h
    | any => simp [ptrsOf] at h
    | elt _ _ _ _ => simp [ptrsOf] at h
    | slc _ _ _ _ => simp [ptrsOf] at h
    | view _ _ _ _ => simp [ptrsOf] at h
    | own _ _ => simp [ptrsOf] at h
    | tup _ => simp [ptrsOf] at h
    | fn _ _ _ => simp [ptrsOf] at h

/-- A function whose arguments point at plain cells, as an entry. -/
theorem entry_ptr {P : Program} {f : FuncId} {g : Entry} (hf : entersB P f = true)
    (h : ∀ args fh v, g args fh = some (true, v) → (closedV v).isSome = true ∧ ∃ as hp, ptrsOf args fh 0 = some (as, hp) ∧ ∃ C, Sound C ∧ C.P = P ∧ ∃ n, afn C n f as hp args.length fun x _ _ => x = v) : EntryOK P f g := by
  refine fun args fh v hv => ⟨entersB_ok hf, fun W ρ hf F w vs H hfh hr => ?_⟩
  obtain ⟨h1, as, hp, h2, C, S, hC, n, h3⟩ := h args fh v hv
  obtain ⟨u, hu⟩ := Option.isSome_iff_exists.1 h1
  obtain ⟨ρ', k1, k2, k3, k4⟩ := ptrs_ok H h2 hfh hr
  rw [← hC]
  have H' := hr_old (hp := hp) (nx := args.length) k2 (fun id hid => k1 id (.inr (by omega))) k3
  exact (calls_rows S hu h3 H' k4).mono fun e w' ⟨h4, h5⟩ => ⟨u, h4, closedV_mk v u hu, h5⟩

end Go.Proofs.Ytmaddijeiniliaa.Sy
