/-
  SyC3: one operation: addresses, slices, append, literals; then all of aop.
-/
import Derived.Test.YtmaddijeiniliaaSyC2
namespace Go.Proofs.Ytmaddijeiniliaa.Sy
open Go Go.RowKit
set_option linter.unusedVariables false

section
variable {P : Program} {T : Tab} {key : Nat} {avs : List AV} {fh : Hp} {v : AV} {ds : Dl} {W : World} {ρ : Env} {hf : Nat → Option Blk} {F : Nat → Prop} {w : World} {ev : Operand → Value} {o : Oper}

theorem fieldOff_run {t : TypeId} {f k : Nat} (h : fieldOff P t f = some k) (b p : Nat) (w : World) : (Instr.fieldAt t (.pointer (some ⟨b, p, none⟩)) f).run P w = .ok (.pointer (some ⟨b, p + k, none⟩)) w := by
  unfold fieldOff at h
  split at h
  · rename_i fs hu
    split at h
    · rename_i d hd
      split at h
      · rename_i n hn
        cases h
        have hd' : fs[f]? = some d := by simpa using hd
        simp [Instr.fieldAt, run_underlying hu, hd', Instr.sureAddr, fieldPlace, sizeT_run hn, addr_add]
      · cases h
    · cases h
  · cases h

theorem inR_iff {i : Int} {n : Nat} : inR i n = true ↔ 0 ≤ i ∧ i < (n : Int) := by simp [inR]

theorem indexAddrA_run {t : TypeId} {x : AV} {k : IntKind} {i : Int} {u : Value} (h : indexAddrA P t x i fh = some (true, v)) (hx : Rel ρ x u) :
    ∃ v', (Instr.indexAt t u (.int k i)).run P w = .ok v' w ∧ Rel ρ v v' := by
  unfold indexAddrA at h
  split at h
  · rename_i id p
    obtain ⟨b, o, c, he, rfl⟩ := hx.ptr_inv
    split at h
    · rename_i n e hn
      split at h
      · rename_i s hs
        split at h
        · simp only [Option.some.injEq, Prod.mk.injEq] at h
          obtain ⟨hi, rfl⟩ := h
          have hi' := inR_iff.1 hi
          have hu := arrT_und hn
          refine ⟨_, ?_, .ptr (k := p + i.toNat * s) he⟩
          simp [Instr.indexAt, asIntOf, run_underlying hu, Instr.sureAddr, sizeT_run hs, addr_add, hi'.1, hi'.2, Nat.add_assoc]
        · cases h
      · cases h
    · cases h
  · rename_i id esz i0 j
    obtain ⟨b, o, c, he, rfl⟩ := hx.elt_inv
    split at h
    · rename_i n e hn
      split at h
      · rename_i s hs
        split at h
        · simp only [Option.some.injEq, Prod.mk.injEq] at h
          obtain ⟨hi, rfl⟩ := h
          have hi' := inR_iff.1 hi
          have hu := arrT_und hn
          refine ⟨_, ?_, .elt (esz := esz) (i := i0) (j := j + i.toNat * s) he⟩
          simp [Instr.indexAt, asIntOf, run_underlying hu, Instr.sureAddr, sizeT_run hs, addr_add, hi'.1, hi'.2, Nat.add_assoc]
        · cases h
      · cases h
    · cases h
  · rename_i id p len cap
    obtain ⟨b, o, c, he, hlc, rfl⟩ := hx.slc_inv
    split at h
    · rename_i e hn
      split at h
      · rename_i s hs
        simp only [Option.some.injEq, Prod.mk.injEq] at h
        obtain ⟨hi, rfl⟩ := h
        have hi' := inR_iff.1 hi
        have hu := elemT_und hn
        refine ⟨_, ?_, .ptr (k := p + i.toNat * s) he⟩
        simp [Instr.indexAt, asIntOf, run_underlying hu, sizeT_run hs, addr_add, hi'.1, hi'.2, Nat.add_assoc]
      · cases h
    · cases h
  · rename_i id esz i0 len
    split at h
    · rename_i e hn
      split at h
      · rename_i s hs
        split at h
        · rename_i hq
          obtain rfl := nbeq.1 hq
          simp only [Option.some.injEq, Prod.mk.injEq] at h
          obtain ⟨hi, rfl⟩ := h
          have hi' := inR_iff.1 hi
          have hu := elemT_und hn
          rcases hx.view_inv with ⟨rfl, a, c, rfl⟩ | ⟨b, o, c, c', he, hl, rfl⟩
          · omega
          · refine ⟨_, ?_, .elt (i := i0 + i.toNat) (esz := s) (j := 0) he⟩
            simp [Instr.indexAt, asIntOf, run_underlying hu, sizeT_run hs, addr_add, hi'.1, hi'.2, Nat.add_mul, Nat.add_assoc]
        · cases h
      · cases h
    · cases h
  · rename_i id len
    split at h
    · rename_i e ty esz n f hn hc
      split at h
      · rename_i s hs
        split at h
        · rename_i hq
          obtain rfl := nbeq.1 hq
          simp only [Option.some.injEq, Prod.mk.injEq] at h
          obtain ⟨hi, rfl⟩ := h
          have hi' := inR_iff.1 hi
          have hu := elemT_und hn
          rcases hx.own_inv with ⟨rfl, rfl⟩ | ⟨b, c, he, hl, rfl⟩
          · omega
          · refine ⟨_, ?_, .elt (i := i.toNat) (esz := s) (j := 0) he⟩
            simp [Instr.indexAt, asIntOf, run_underlying hu, sizeT_run hs, addr_add, hi'.1, hi'.2]
        · cases h
      · cases h
    · cases h
  · cases h

theorem lenA_run {t e ty : TypeId} {x : AV} {u : Value} {n : Nat} (h : lenA x = some n) (ht : elemT P t = some e) (hx : Rel ρ x u) (w : World) : (Builtin.len_ #[t] ty #[u]).run P w = .ok (.int .i64 n) w := by
  have hu := elemT_und ht
  unfold lenA at h
  split at h <;> (try (cases h; done)) <;> cases h
  · obtain ⟨b, o, c, _, _, rfl⟩ := hx.slc_inv
    simp [Builtin.len_, run_underlying hu, goInt]
  · rcases hx.view_inv with ⟨rfl, a, c, rfl⟩ | ⟨b, o, c, c', he, hl, rfl⟩
    · simp [Builtin.len_, run_underlying hu, goInt]
    · simp [Builtin.len_, run_underlying hu, goInt]
  · rcases hx.own_inv with ⟨rfl, rfl⟩ | ⟨b, c, he, hl, rfl⟩
    · simp [Builtin.len_, run_underlying hu, goInt]
    · simp [Builtin.len_, run_underlying hu, goInt]
  · cases hx
    simp [Builtin.len_, run_underlying hu, goInt]

/-- A slice expression's bounds. -/
theorem slice_run {t e : TypeId} {s : Nat} (ht : elemT P t = some e) (hs : sizeT P e = some s) {a : Option Addr} {len cap : Nat} {lo hi : Option Value} {l h : Int}
    (hlo : (lo = none ∧ l = 0) ∨ ∃ k, lo = some (.int k l)) (hhi : (hi = none ∧ h = len) ∨ ∃ k, hi = some (.int k h)) (h0 : 0 ≤ l) (h1 : l ≤ h) (h2 : h ≤ len) (hlc : len ≤ cap) (w : World) :
    (Instr.slice t (.slice a len cap) lo hi none).run P w = .ok (.slice (if cap = l.toNat then a else a.map (·.add (l.toNat * s))) (h.toNat - l.toNat) (cap - l.toNat)) w := by
  have hu := elemT_und ht
  have h3 : h ≤ (cap : Int) := by omega
  rcases hlo with ⟨rfl, rfl⟩ | ⟨k, rfl⟩ <;> rcases hhi with ⟨rfl, rfl⟩ | ⟨k', rfl⟩
  · simp [Instr.slice, run_underlying hu, Instr.sliceBounds, sizeT_run hs]
  · simp [Instr.slice, run_underlying hu, Instr.sliceBounds, Instr.sliceBound, asIntOf, sizeT_run hs, h1, h3]
  · have h4 : l ≤ ((len : Nat) : Int) := by omega
    simp [Instr.slice, run_underlying hu, Instr.sliceBounds, Instr.sliceBound, asIntOf, sizeT_run hs, h0, h4]
  · have h5 : (0 : Int) ≤ h := by omega
    have h6 : l ≤ ((h.toNat : Nat) : Int) := by omega
    have h6' : l ≤ max h 0 := by omega
    simp [Instr.slice, run_underlying hu, Instr.sliceBounds, Instr.sliceBound, asIntOf, sizeT_run hs, h0, h5, h3, h6']

theorem sliceA_run {t : TypeId} {x : AV} {lo hi : Option AV} {u : Value} {lo' hi' : Option Value} (h : sliceA P t x lo hi fh = some (true, v)) (hx : Rel ρ x u)
    (hlo : (lo = none ∧ lo' = none) ∨ ∃ a b, lo = some a ∧ lo' = some b ∧ Rel ρ a b) (hhi : (hi = none ∧ hi' = none) ∨ ∃ a b, hi = some a ∧ hi' = some b ∧ Rel ρ a b) :
    ∃ v', (Instr.slice t u lo' hi' none).run P w = .ok v' w ∧ Rel ρ v v' := by
  unfold sliceA at h
  split at h
  · rename_i e len hte hlen
    split at h
    · rename_i s l hh hs hl hhh
      have hL : (lo' = none ∧ l = 0) ∨ ∃ k, lo' = some (.int k l) := by
        rcases hlo with ⟨rfl, rfl⟩ | ⟨a, b, rfl, rfl, hr⟩
        · simp at hl; exact .inl ⟨rfl, hl.symm⟩
        · unfold intA at hl
          simp only at hl
          split at hl
          · cases hl; cases hr; exact .inr ⟨_, rfl⟩
          · cases hl
      have hR : (hi' = none ∧ hh = len) ∨ ∃ k, hi' = some (.int k hh) := by
        rcases hhi with ⟨rfl, rfl⟩ | ⟨a, b, rfl, rfl, hr⟩
        · simp at hhh; exact .inl ⟨rfl, hhh.symm⟩
        · unfold intA at hhh
          simp only at hhh
          split at hhh
          · cases hhh; cases hr; exact .inr ⟨_, rfl⟩
          · cases hhh
      split at h
      · rename_i id k m cap
        simp only [Option.some.injEq, Prod.mk.injEq, Bool.and_eq_true, decide_eq_true_eq] at h
        obtain ⟨⟨⟨q1, q2⟩, q3⟩, rfl⟩ := h
        simp only [lenA, Option.some.injEq] at hlen
        subst hlen
        obtain ⟨b, o, c, he, hlc, rfl⟩ := hx.slc_inv
        refine ⟨_, slice_run hte hs hL hR q1 q2 q3 hlc w, ?_⟩
        cases hb : Nat.beq cap l.toNat
        · have hne : cap ≠ l.toNat := by
            rintro rfl
            simp at hb
          rw [if_neg hne]
          simp only [Option.map_some, addr_add]
          have := Rel.slc (ρ := ρ) (k := k + l.toNat * s) (len := hh.toNat - l.toNat) (cap := cap - l.toNat) he (by omega)
          rw [← Nat.add_assoc] at this
          exact this
        · rw [if_pos (nbeq.1 hb)]
          exact Rel.slc (ρ := ρ) (k := k) (len := hh.toNat - l.toNat) (cap := cap - l.toNat) he (by omega)
      · rename_i id esz i m
        split at h
        · rename_i hq
          obtain rfl := nbeq.1 hq
          simp only [Option.some.injEq, Prod.mk.injEq, Bool.and_eq_true, decide_eq_true_eq] at h
          obtain ⟨⟨⟨q1, q2⟩, q3⟩, rfl⟩ := h
          simp only [lenA, Option.some.injEq] at hlen
          subst hlen
          rcases hx.view_inv with ⟨rfl, a, c, rfl⟩ | ⟨b, o, c, c', he, hl', rfl⟩
          · have e1 : l = 0 := by omega
            have e2 : hh = 0 := by omega
            subst e1; subst e2
            exact ⟨_, slice_run hte hs hL hR (by omega) (by omega) (by omega) (Nat.zero_le _) w, .view0 _ _⟩
          · refine ⟨_, slice_run hte hs hL hR q1 q2 q3 hl' w, ?_⟩
            by_cases hz : hh.toNat - l.toNat = 0
            · rw [hz]; exact .view0 _ _
            · have hne : c' ≠ l.toNat := by omega
              rw [if_neg hne]
              simp only [Option.map_some, addr_add]
              have := Rel.view (ρ := ρ) (esz := s) (i := i + l.toNat) (len := hh.toNat - l.toNat) (c' := c' - l.toNat) he (by omega)
              rw [Nat.add_mul, ← Nat.add_assoc] at this
              exact this
        · cases h
      · rename_i id m
        split at h
        · rename_i ty esz n f hc
          split at h
          · rename_i hq
            obtain rfl := nbeq.1 hq
            simp only [Option.some.injEq, Prod.mk.injEq, Bool.and_eq_true, decide_eq_true_eq] at h
            obtain ⟨⟨⟨q1, q2⟩, q3⟩, rfl⟩ := h
            simp only [lenA, Option.some.injEq] at hlen
            subst hlen
            rcases hx.own_inv with ⟨rfl, rfl⟩ | ⟨b, c, he, hl', rfl⟩
            · have e1 : l = 0 := by omega
              have e2 : hh = 0 := by omega
              subst e1; subst e2
              exact ⟨_, slice_run hte hs hL hR (by omega) (by omega) (by omega) (Nat.zero_le _) w, .view0 _ _⟩
            · refine ⟨_, slice_run hte hs hL hR q1 q2 q3 hl' w, ?_⟩
              by_cases hz : hh.toNat - l.toNat = 0
              · rw [hz]; exact .view0 _ _
              · have hne : c ≠ l.toNat := by omega
                rw [if_neg hne]
                simp only [Option.map_some, addr_add]
                exact Rel.view (ρ := ρ) (esz := s) (i := l.toNat) (len := hh.toNat - l.toNat) (c' := c - l.toNat) he (by omega)
          · cases h
        · cases h
      · cases h
    · cases h
  · cases h
end

end Go.Proofs.Ytmaddijeiniliaa.Sy
