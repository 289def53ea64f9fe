/-
  SyG: functions that read a row: as entries; and laws that are given rows.
-/
import Derived.Test.YtmaddijeiniliaaSyF
namespace Go.Proofs.Ytmaddijeiniliaa.Sy
open Go Go.RowKit Go.ChangeShapes Go.WideShapes
set_option linter.unusedVariables false

/-- What the evaluator tells, with memory that is there. -/
theorem calls_rows {C : Cfg} (S : Sound C) {n : Nat} {f : FuncId} {args : List AV} {hp : Hp} {nx : Nat} {vs : List Value} {r : AV} {u : Value} {ρ : Env} {w : World} (hr : closedV r = some u)
    (h : afn C n f args hp nx fun v _ _ => v = r) (H : HR w ρ (look hp) (fun id => nx ≤ id) w) (ha : RelL ρ args vs) : Calls C.P f vs.toArray w (fun e w' => e = .returned u ∧ Below w.heap.size w w') :=
  (afn_calls S.tab S.inl S.mix h H ha).mono fun e w' ⟨v', ρ', v, h', nx', h1, _, h2, h3, h4⟩ => ⟨by rw [h1, closedV_rel _ _ _ (h4 ▸ hr) h2], h3.below⟩

/-- A world whose rows are all old. -/
theorem hr_old {w : World} {ρ : Env} {hp : Hp} {nx : Nat} (h1 : ∀ id b o c, ρ id = some (b, o, c) → b < w.heap.size) (h2 : ∀ id, nx ≤ id → ρ id = none)
    (h3 : ∀ id b o c B, ρ id = some (b, o, c) → look hp id = some B → BlkAt w ρ w b o c B) : HR w ρ (look hp) (fun id => nx ≤ id) w where
  below := Below.refl _ _
  old := h1
  free := h2
  blk := h3
  apart := fun id id' b o c o' c' B B' h _ _ _ hb => absurd (h1 id b o c h) (by omega)

def one (p : Option (Nat × Nat × Nat)) : Env := fun id => match Nat.beq id 0 with
  | true => p
  | false => none
def two (p q : Option (Nat × Nat × Nat)) : Env := fun id => match Nat.beq id 0 with
  | true => p
  | false => match Nat.beq id 1 with
    | true => q
    | false => none
theorem one_some {p : Option (Nat × Nat × Nat)} {id : Nat} {x : Nat × Nat × Nat} (h : one p id = some x) : id = 0 ∧ p = some x := by
  unfold one at h
  split at h
  · rename_i hq; exact ⟨nbeq.1 hq, h⟩
  · cases h
theorem one_free {p : Option (Nat × Nat × Nat)} {id : Nat} (h : 1 ≤ id) : one p id = none := by
  cases hp : one p id with
  | none => rfl
  | some x => have := (one_some hp).1; omega
theorem two_some {p q : Option (Nat × Nat × Nat)} {id : Nat} {x : Nat × Nat × Nat} (h : two p q id = some x) : (id = 0 ∧ p = some x) ∨ (id = 1 ∧ q = some x) := by
  unfold two at h
  split at h
  · rename_i hq; exact .inl ⟨nbeq.1 hq, h⟩
  · split at h
    · rename_i hq; exact .inr ⟨nbeq.1 hq, h⟩
    · cases h
theorem two_free {p q : Option (Nat × Nat × Nat)} {id : Nat} (h : 2 ≤ id) : two p q id = none := by
  cases hp : two p q id with
  | none => rfl
  | some x => have := two_some hp; omega

/-- A row that is at a place. -/
def RowAt (w : World) (p : Option (Nat × Nat × Nat)) (esz len : Nat) (f : Nat → Nat → Value) : Prop :=
  ∀ b o c, p = some (b, o, c) → b < w.heap.size ∧ ∀ i j, i < len → j < esz → w.cell? ⟨b, o + (i * esz + j), none⟩ = some (f i j) ∧ (f i j).oneCell' = true
/-- A slice's value that is such a row. -/
def SliceAt (p : Option (Nat × Nat × Nat)) (len : Nat) (v : Value) : Prop := (len = 0 ∧ ∃ a c, v = .slice a 0 c) ∨ ∃ b o c c', p = some (b, o, c) ∧ len ≤ c' ∧ v = .slice (some ⟨b, o, none⟩) len c'
theorem SliceAt.rel {p : Option (Nat × Nat × Nat)} {len : Nat} {v : Value} (h : SliceAt p len v) {ρ : Env} {id esz : Nat} (hp : ρ id = p) : Rel ρ (.view id esz 0 len) v := by
  rcases h with ⟨rfl, a, c, rfl⟩ | ⟨b, o, c, c', h1, h2, rfl⟩
  · exact .view0 a c
  · have := Rel.view (esz := esz) (i := 0) (hp.trans h1) h2
    simpa using this

theorem RowAt.ints {w : World} {p : Option (Nat × Nat × Nat)} {len : Nat} {ks : List (Option IntKind)} {g : Nat → Nat → Int} {bb : Nat → Nat → Bool} (h : RowAt w p ks.length len (rowF ks g bb)) (hk : ∀ k, k ∈ ks → k = some .i64) : RowAt w p ks.length len (fun i j => .int .i64 (g i j)) := by
  intro b o c hp
  refine ⟨(h b o c hp).1, fun i j hi hj => ?_⟩
  have h1 := (h b o c hp).2 i j hi hj
  have h2 : rowF ks g bb i j = .int .i64 (g i j) := by
    unfold rowF
    rw [List.getElem?_eq_getElem hj, hk _ (List.getElem_mem hj)]
  rw [h2] at h1
  exact h1

theorem hr_one {w : World} {p : Option (Nat × Nat × Nat)} {ty esz len : Nat} {f : Nat → Nat → Value} (h : RowAt w p esz len f) : HR w (one p) (look [(0, some (.row ty esz len f))]) (fun id => 1 ≤ id) w := by
  refine hr_old (fun id b o c h1 => (h b o c (one_some h1).2).1) (fun id h1 => one_free h1) fun id b o c B h1 h2 => ?_
  obtain ⟨rfl, hp⟩ := one_some h1
  cases h2
  exact h b o c hp
theorem hr_two {w : World} {p q : Option (Nat × Nat × Nat)} {ty esz len ty' esz' len' : Nat} {f g : Nat → Nat → Value} (h : RowAt w p esz len f) (h' : RowAt w q esz' len' g) : HR w (two p q) (look [(0, some (.row ty esz len f)), (1, some (.row ty' esz' len' g))]) (fun id => 2 ≤ id) w := by
  refine hr_old (fun id b o c h1 => ?_) (fun id h1 => two_free h1) fun id b o c B h1 h2 => ?_
  · rcases two_some h1 with ⟨_, hp⟩ | ⟨_, hp⟩
    · exact (h b o c hp).1
    · exact (h' b o c hp).1
  · rcases two_some h1 with ⟨rfl, hp⟩ | ⟨rfl, hp⟩
    · cases h2
      exact h b o c hp
    · cases h2
      exact h' b o c hp

/-- A function of a row (and of what names no memory), as an entry: g tells the result, out of the row, how long it is, and the other arguments. -/
def rowEntry (esz : Nat) (g : (Nat → Nat → Value) → Nat → List AV → Option (Bool × AV)) : Entry := fun args fh => match args with
  | .view id e i0 len :: rest => match look fh id with
    | some (.row _ e' n f) => match Nat.beq e esz && Nat.beq e' esz with
      | true => match g (fun i j => f (i0 + i) j) len rest with
        | some (c, v) => some (c && decide (i0 + len ≤ n), v)
        | none => none
      | false => none
    | some (.orow _ e' n f) => match Nat.beq e esz && Nat.beq e' esz with
      | true => match g (fun i j => f (i0 + i) j) len rest with
        | some (c, v) => some (c && decide (i0 + len ≤ n), v)
        | none => none
      | false => none
    | _ => none
  | .own id len :: rest => match look fh id with
    | some (.orow _ e' n f) => match Nat.beq e' esz with
      | true => match g f len rest with
        | some (c, v) => some (c && decide (len ≤ n), v)
        | none => none
      | false => none
    | _ => none
  | _ => none

theorem entry_row {P : Program} {f : FuncId} {esz ty : Nat} {g : (Nat → Nat → Value) → Nat → List AV → Option (Bool × AV)} (hf : entersB P f = true)
    (h : ∀ q len rest v, g q len rest = some (true, v) → (closedL rest).isSome = true ∧ (closedV v).isSome = true ∧ ∃ q', (∀ i j, i < len → j < esz → q i j = q' i j) ∧ ∃ C, Sound C ∧ C.P = P ∧ ∃ n, afn C n f (.view 0 esz 0 len :: rest) [(0, some (.row ty esz len q'))] 1 fun x _ _ => x = v) : EntryOK P f (rowEntry esz g) := by
  have main : ∀ (q : Nat → Nat → Value) (len : Nat) (rest : List AV) (v : AV), g q len rest = some (true, v) → ∀ (w : World) (ρ : Env) (p : Option (Nat × Nat × Nat)) (s : Value) (vs : List Value), RowAt w p esz len q → SliceAt p len s → RelL ρ rest vs →
      Calls P f (s :: vs).toArray w (fun e w' => ∃ v', e = .returned v' ∧ Rel ρ v v' ∧ Below w.heap.size w w') := by
    intro q len rest v hg w ρ p s vs h1 h2 h3
    obtain ⟨k1, k2, q', hqq, C, S, hC, n, k3⟩ := h q len rest v hg
    have h1 : RowAt w p esz len q' := fun b o c hp => ⟨(h1 b o c hp).1, fun i j hi hj => by rw [← hqq i j hi hj]; exact (h1 b o c hp).2 i j hi hj⟩
    obtain ⟨l, hl⟩ := Option.isSome_iff_exists.1 k1
    obtain ⟨u, hu⟩ := Option.isSome_iff_exists.1 k2
    have e := closedL_rel rest l vs hl h3
    rw [e, ← hC]
    exact (calls_rows S hu k3 (hr_one h1) (.cons (h2.rel rfl) (closedL_mk rest l hl))).mono fun e w' ⟨h4, h5⟩ => ⟨u, h4, closedV_mk v u hu, h5⟩
  intro args fh v hv
  refine ⟨entersB_ok hf, fun W ρ hf F w vs H hfh hr => ?_⟩
  unfold rowEntry at hv
  split at hv
  · rename_i id e i0 len rest
    obtain ⟨s, vs', rfl, hs, hrest⟩ := hr.cons_inv
    have hlook := hfh id (by simp [AV.idsL, AV.ids])
    -- where the slice is
    have hsl : ∀ (n : Nat) (fn : Nat → Nat → Value), (∀ b o c, ρ id = some (b, o, c) → b < w.heap.size ∧ ∀ i j, i < n → j < esz → w.cell? ⟨b, o + (i * esz + j), none⟩ = some (fn i j) ∧ (fn i j).oneCell' = true) → e = esz → i0 + len ≤ n →
        ∃ p, RowAt w p esz len (fun i j => fn (i0 + i) j) ∧ SliceAt p len s := by
      intro n fn hn he hle
      subst he
      rcases hs.view_inv with ⟨rfl, a, c, rfl⟩ | ⟨b, o, c, c', h1, h2, rfl⟩
      · exact ⟨none, (fun _ _ _ h => by cases h), .inl ⟨rfl, a, c, rfl⟩⟩
      · refine ⟨some (b, o + i0 * e, c), fun b' o' c'' hq => ?_, .inr ⟨b, o + i0 * e, c, c', rfl, h2, rfl⟩⟩
        cases hq
        obtain ⟨h3, h4⟩ := hn b o c h1
        refine ⟨h3, fun i j hi hj => ?_⟩
        have := h4 (i0 + i) j (by omega) hj
        rwa [Nat.add_mul, show o + (i0 * e + i * e + j) = o + i0 * e + (i * e + j) by omega] at this
    split at hv
    · rename_i ty' e' n fn hl
      split at hv
      · rename_i hq
        simp only [Bool.and_eq_true] at hq
        have hq1 := nbeq.1 hq.1
        have hq2 := nbeq.1 hq.2
        split at hv
        · rename_i c u hg
          simp only [Option.some.injEq, Prod.mk.injEq, Bool.and_eq_true, decide_eq_true_eq] at hv
          obtain ⟨⟨rfl, hle⟩, rfl⟩ := hv
          obtain ⟨p, h1, h2⟩ := hsl n fn (fun b o c hb => by
            have := H.blk id b o c _ hb (hlook ▸ hl)
            subst hq2
            obtain ⟨h1, h2⟩ := this
            exact ⟨H.old id b o c hb, h2⟩) hq1 hle
          exact main _ len rest _ hg w ρ p s vs' h1 h2 hrest
        · cases hv
      · cases hv
    · rename_i ty' e' n fn hl
      split at hv
      · rename_i hq
        simp only [Bool.and_eq_true] at hq
        have hq1 := nbeq.1 hq.1
        have hq2 := nbeq.1 hq.2
        split at hv
        · rename_i c u hg
          simp only [Option.some.injEq, Prod.mk.injEq, Bool.and_eq_true, decide_eq_true_eq] at hv
          obtain ⟨⟨rfl, hle⟩, rfl⟩ := hv
          obtain ⟨p, h1, h2⟩ := hsl n fn (fun b o c hb => by
            have := H.blk id b o c _ hb (hlook ▸ hl)
            subst hq2
            obtain ⟨rfl, h2, vs, h3, h4, h5, h6⟩ := this
            refine ⟨H.old id b 0 c hb, fun i j hi hj => ?_⟩
            rw [cells_here h3, Nat.zero_add]
            exact h6 i j hi hj) hq1 hle
          exact main _ len rest _ hg w ρ p s vs' h1 h2 hrest
        · cases hv
      · cases hv
    · cases hv
  · rename_i id len rest
    obtain ⟨s, vs', rfl, hs, hrest⟩ := hr.cons_inv
    have hlook := hfh id (by simp [AV.idsL, AV.ids])
    split at hv
    · rename_i ty' e' n fn hl
      split at hv
      · rename_i hq
        have hq2 := nbeq.1 hq
        split at hv
        · rename_i c u hg
          simp only [Option.some.injEq, Prod.mk.injEq, Bool.and_eq_true, decide_eq_true_eq] at hv
          obtain ⟨⟨rfl, hle⟩, rfl⟩ := hv
          rcases hs.own_inv with ⟨rfl, rfl⟩ | ⟨b, c, h1, h2, rfl⟩
          · exact main _ 0 rest _ hg w ρ none _ vs' (fun _ _ _ h => by cases h) (.inl ⟨rfl, none, 0, rfl⟩) hrest
          · refine main _ len rest _ hg w ρ (some (b, 0, c)) _ vs' (fun b' o' c' hb => ?_) (.inr ⟨b, 0, c, c, rfl, h2, rfl⟩) hrest
            cases hb
            have := H.blk id b 0 c _ h1 (hlook ▸ hl)
            subst hq2
            obtain ⟨_, h2, vs, h3, h4, h5, h6⟩ := this
            refine ⟨H.old id b 0 c h1, fun i j hi hj => ?_⟩
            rw [cells_here h3, Nat.zero_add]
            exact h6 i j (by omega) hj
        · cases hv
      · cases hv
    · cases hv
  · cases hv

/-- A slice of plain elements that came in, as a row. -/
theorem open_view {H : Type} {enc : TypeId × Value → H} {P : Program} {w : World} {base : Nat} {spare : Nat → Bool} {held : Bool} {t e : TypeId} {a : Option Addr} {len cap : Nat} {d : DataW H} {ps : List MemPlace} {n : Nat} {ks : List (Option IntKind)}
    (ht : P.underlying t = some (.slice e)) (hk : kinds P n e = some ks) (hcells : P.cellsOf e = ks.length) (hpos : 1 ≤ ks.length) (h : DataW.Trod enc P w base spare held t (.slice a len cap) d ps) :
    ∃ (p : Option (Nat × Nat × Nat)) (g : Nat → Nat → Int) (bb : Nat → Nat → Bool), RowAt w p ks.length len (rowF ks g bb) ∧ SliceAt p len (.slice a len cap) ∧ ∀ i j k, i < len → ks[j]? = some (some k) → (Lit.int k (g i j)).wf = true := by
  rcases open_rows ht hk hcells hpos h with rfl | ⟨b, o, rfl, hlc, hcm, hb, g, bb, hg⟩
  · exact ⟨none, fun _ _ => 0, fun _ _ => false, (fun _ _ _ h => by cases h), .inl ⟨rfl, a, cap, rfl⟩, fun i _ _ hi => absurd hi (by omega)⟩
  · refine ⟨some (b, o, 0), g, bb, fun b' o' c' hq => ?_, .inr ⟨b, o, 0, cap, rfl, hlc, rfl⟩, fun i j k hi hj => (hg i j hi (List.getElem?_eq_some_iff.1 hj).1).2.2 k hj⟩
    cases hq
    exact ⟨hb, fun i j hi hj => ⟨(hg i j hi hj).1, (hg i j hi hj).2.1⟩⟩

end Go.Proofs.Ytmaddijeiniliaa.Sy
