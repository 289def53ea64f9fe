/-
  SyH: functions that read a row and hand back a slice of their own, in a table.
-/
import Derived.Test.YtmaddijeiniliaaSyG
namespace Go.Proofs.Ytmaddijeiniliaa.Sy
open Go Go.RowKit
set_option linter.unusedVariables false

/-- A row among the arguments, the first one: under which condition, the row, how long, the others. -/
def rowArgs (esz : Nat) (args : List AV) (fh : Hp) : Option (Bool × (Nat → Nat → Value) × Nat × List AV) :=
  match args with
  | .view id e i0 len :: rest => match look fh id with
    | some (.row _ e' n f) => match Nat.beq e esz && Nat.beq e' esz with
      | true => some (decide (i0 + len ≤ n), fun i j => f (i0 + i) j, len, rest)
      | false => none
    | some (.orow _ e' n f) => match Nat.beq e esz && Nat.beq e' esz with
      | true => some (decide (i0 + len ≤ n), fun i j => f (i0 + i) j, len, rest)
      | false => none
    | _ => none
  | .own id len :: rest => match look fh id with
    | some (.orow _ e' n f) => match Nat.beq e' esz with
      | true => some (decide (len ≤ n), f, len, rest)
      | false => none
    | _ => none
  | _ => none

theorem rowArgs_ok {esz : Nat} {args : List AV} {fh : Hp} {q : Nat → Nat → Value} {len : Nat} {rest : List AV} (hv : rowArgs esz args fh = some (true, q, len, rest))
    {W : World} {ρ : Env} {hf : Nat → Option Blk} {F : Nat → Prop} {w : World} {vs : List Value} (H : HR W ρ hf F w) (hfh : ∀ id, id ∈ AV.idsL args → look fh id = hf id) (hr : RelL ρ args vs) :
    ∃ s vs' p, vs = s :: vs' ∧ RowAt w p esz len q ∧ SliceAt p len s ∧ RelL ρ rest vs' := by
  unfold rowArgs at hv
  split at hv
  · rename_i id e i0 len' rest'
    obtain ⟨s, vs', rfl, hs, hrest⟩ := hr.cons_inv
    have hlook := hfh id (by simp [AV.idsL, AV.ids])
    have hsl : ∀ (n : Nat) (fn : Nat → Nat → Value), (∀ b o c, ρ id = some (b, o, c) → b < w.heap.size ∧ ∀ i j, i < n → j < esz → w.cell? ⟨b, o + (i * esz + j), none⟩ = some (fn i j) ∧ (fn i j).oneCell' = true) → e = esz → i0 + len' ≤ n →
        ∃ p, RowAt w p esz len' (fun i j => fn (i0 + i) j) ∧ SliceAt p len' s := by
      intro n fn hn he hle
      subst he
      rcases hs.view_inv with ⟨rfl, a, c, rfl⟩ | ⟨b, o, c, c', h1, h2, rfl⟩
      · exact ⟨none, (fun _ _ _ h => by cases h), .inl ⟨rfl, a, c, rfl⟩⟩
      · refine ⟨some (b, o + i0 * e, c), fun b' o' c'' hq => ?_, .inr ⟨b, o + i0 * e, c, c', rfl, h2, rfl⟩⟩
        cases hq
        obtain ⟨h3, h4⟩ := hn b o c h1
        refine ⟨h3, fun i j hi hj => ?_⟩
        have := h4 (i0 + i) j (by omega) hj
        rwa [Nat.add_mul, show o + (i0 * e + i * e + j) = o + i0 * e + (i * e + j) by omega] at this
    split at hv
    · rename_i ty' e' n fn hl
      split at hv
      · rename_i hq
        simp only [Bool.and_eq_true] at hq
        have hq1 := nbeq.1 hq.1
        have hq2 := nbeq.1 hq.2
        simp only [Option.some.injEq, Prod.mk.injEq, decide_eq_true_eq] at hv
        obtain ⟨hle, rfl, rfl, rfl⟩ := hv
        obtain ⟨p, h1, h2⟩ := hsl n fn (fun b o c hb => by
          have := H.blk id b o c _ hb (hlook ▸ hl)
          subst hq2
          obtain ⟨h1, h2⟩ := this
          exact ⟨H.old id b o c hb, h2⟩) hq1 hle
        exact ⟨s, vs', p, rfl, h1, h2, hrest⟩
      · cases hv
    · rename_i ty' e' n fn hl
      split at hv
      · rename_i hq
        simp only [Bool.and_eq_true] at hq
        have hq1 := nbeq.1 hq.1
        have hq2 := nbeq.1 hq.2
        simp only [Option.some.injEq, Prod.mk.injEq, decide_eq_true_eq] at hv
        obtain ⟨hle, rfl, rfl, rfl⟩ := hv
        obtain ⟨p, h1, h2⟩ := hsl n fn (fun b o c hb => by
          have := H.blk id b o c _ hb (hlook ▸ hl)
          subst hq2
          obtain ⟨rfl, h2, vs, h3, h4, h5, h6⟩ := this
          refine ⟨H.old id b 0 c hb, fun i j hi hj => ?_⟩
          rw [cells_here h3, Nat.zero_add]
          exact h6 i j hi hj) hq1 hle
        exact ⟨s, vs', p, rfl, h1, h2, hrest⟩
      · cases hv
    · cases hv
  · rename_i id len' rest'
    obtain ⟨s, vs', rfl, hs, hrest⟩ := hr.cons_inv
    have hlook := hfh id (by simp [AV.idsL, AV.ids])
    split at hv
    · rename_i ty' e' n fn hl
      split at hv
      · rename_i hq
        have hq2 := nbeq.1 hq
        simp only [Option.some.injEq, Prod.mk.injEq, decide_eq_true_eq] at hv
        obtain ⟨hle, rfl, rfl, rfl⟩ := hv
        rcases hs.own_inv with ⟨rfl, rfl⟩ | ⟨b, c, h1, h2, rfl⟩
        · exact ⟨_, vs', none, rfl, (fun _ _ _ h => by cases h), .inl ⟨rfl, none, 0, rfl⟩, hrest⟩
        · refine ⟨_, vs', some (b, 0, c), rfl, fun b' o' c' hb => ?_, .inr ⟨b, 0, c, c, rfl, h2, rfl⟩, hrest⟩
          cases hb
          have := H.blk id b 0 c _ h1 (hlook ▸ hl)
          subst hq2
          obtain ⟨_, h2, vs, h3, h4, h5, h6⟩ := this
          refine ⟨H.old id b 0 c h1, fun i j hi hj => ?_⟩
          rw [cells_here h3, Nat.zero_add]
          exact h6 i j (by omega) hj
      · cases hv
    · cases hv
  · cases hv

/-! a slice of its own, handed back -/
abbrev OEntry := List AV → Hp → Option (Bool × TypeId × Nat × Nat × (Nat → Nat → Value))
def findO : List (Nat × OEntry) → Nat → Option OEntry
  | [], _ => none
  | (k, e) :: r, f => match Nat.beq k f with
    | true => some e
    | false => findO r f
def mkO (es : List (Nat × Entry)) (os : List (Nat × OEntry)) : Tab := fun f args fh key => match findO os f with
  | some g => match g args fh with
    | some (c, ty, esz, N, q) => some (c, .own key N, [(key, some (.orow ty esz N q))])
    | none => none
  | none => mkT es f args fh key

def OwnAt (w w' : World) (ty : TypeId) (esz N : Nat) (q : Nat → Nat → Value) (v : Value) : Prop :=
  (N = 0 ∧ v = .slice none 0 0) ∨ ∃ b c, w.heap.size ≤ b ∧ b < w'.heap.size ∧ N ≤ c ∧ v = .slice (some ⟨b, 0, none⟩) N c ∧
    ∃ vs : Array Value, w'.heap[b]? = some (.cells vs ty (0, 0)) ∧ vs.size = c * esz ∧ ∀ i j, i < N → j < esz → vs[i * esz + j]? = some (q i j) ∧ (q i j).oneCell' = true
def OEntryOK (P : Program) (f : FuncId) (g : OEntry) : Prop := ∀ args fh ty esz N q, g args fh = some (true, ty, esz, N, q) → Enters P f ∧
  ∀ (W : World) (ρ : Env) (hf : Nat → Option Blk) (F : Nat → Prop) (w : World) (vs : List Value), HR W ρ hf F w → (∀ id, id ∈ AV.idsL args → look fh id = hf id) → RelL ρ args vs →
    Calls P f vs.toArray w (fun e w' => ∃ v', e = .returned v' ∧ OwnAt w w' ty esz N q v' ∧ Below w.heap.size w w')

theorem tabO_of {P : Program} {es : List (Nat × Entry)} {os : List (Nat × OEntry)} (h : ∀ k e, (k, e) ∈ es → EntryOK P k e) (ho : ∀ k e, (k, e) ∈ os → OEntryOK P k e) : TabOK P (mkO es os) := by
  intro g args fh key v ds hv
  unfold mkO at hv
  split at hv
  · rename_i en hen
    split at hv
    · rename_i c ty esz N q hg
      cases hv
      have hmem : ∀ (es : List (Nat × OEntry)) (g : Nat) (en : OEntry), findO es g = some en → (g, en) ∈ es := by
        intro es
        induction es with
        | nil => intro g en h; simp [findO] at h
        | cons x r ih =>
          intro g en h
          obtain ⟨k, e⟩ := x
          simp only [findO] at h
          split at h
          · rename_i hk
            cases h
            rw [nbeq.1 hk]
            simp
          · exact List.mem_cons_of_mem _ (ih g en h)
      obtain ⟨h1, h2⟩ := ho g en (hmem os g en hen) args fh ty esz N q hg
      refine ⟨h1, fun W ρ hf F w vs H hkey hfh hr => (h2 W ρ hf F w vs H hfh hr).mono fun e w' ⟨v', he, hown, hb⟩ => ⟨v', he, ?_⟩⟩
      have hk : F key := hkey key (Nat.le_refl _) (by simp [stride])
      have H' := H.same (F' := fun id => F id ∧ ¬ (key ≤ id ∧ id < key + stride)) (fun _ h => h.1) hb
      rcases hown with ⟨rfl, rfl⟩ | ⟨b, c, hb1, hb2, hNc, rfl, vs', h3, h4, h5⟩
      · refine ⟨ρ, Ext.refl ρ, .own0, ⟨H'.below, H'.old, H'.free, fun id b o c B h1 h2 => ?_, fun id id' b o c o' c' B B' h1 h2 h3 h4 h5 => ?_⟩⟩
        · have hne : id ≠ key := fun e => by subst e; rw [H.free _ hk] at h1; cases h1
          exact H'.blk id b o c B h1 (by simpa [appD, updF, hne] using h2)
        · have hne : id ≠ key := fun e => by subst e; rw [H.free _ hk] at h1; cases h1
          have hne' : id' ≠ key := fun e => by subst e; rw [H.free _ hk] at h2; cases h2
          exact H'.apart id id' b o c o' c' B B' h1 h2 (by simpa [appD, updF, hne] using h3) (by simpa [appD, updF, hne'] using h4) h5
      · have hext := addE_ext (H.free key hk) (b, 0, c)
        have hWw := H.below.size
        refine ⟨addE ρ key (b, 0, c), hext, .own (by simp [addE]) hNc, ⟨H'.below, fun id b' o' c' h1 => ?_, fun id h1 => ?_, fun id b' o' c' B h1 h2 => ?_, fun id id' b' o' c' o2 c2 B B' h1 h2 h6 h7 h8 => ?_⟩⟩
        · unfold addE at h1
          split at h1
          · cases h1; exact hb2
          · exact H'.old id b' o' c' h1
        · unfold addE
          split
          · rename_i e
            subst e
            exact absurd ⟨Nat.le_refl _, by simp [stride]⟩ h1.2
          · exact H'.free id h1
        · unfold addE at h1
          split at h1
          · rename_i e
            subst e
            cases h1
            simp [appD, updF] at h2
            subst h2
            exact ⟨rfl, by omega, vs', h3, h4, hNc, h5⟩
          · rename_i hne
            exact (H'.blk id b' o' c' B h1 (by simpa [appD, updF, hne] using h2)).mono hext
        · unfold addE at h1 h2
          split at h1
          · split at h2
            · rename_i e1 e2; rw [e1, e2]
            · cases h1
              have := H.old id' b o2 c2 h2
              omega
          · split at h2
            · cases h2
              have := H.old id b o' c' h1
              omega
            · rename_i n1 n2
              exact H'.apart id id' b' o' c' o2 c2 B B' h1 h2 (by simpa [appD, updF, n1] using h6) (by simpa [appD, updF, n2] using h7) h8
    · cases hv
  · exact tab_of h g args fh key v ds hv

/-- The block of a slice of its own. -/
def blkOf (v : AV) (h : Hp) : Option Blk := match v with
  | .own id _ => Go.Proofs.Ytmaddijeiniliaa.Sy.look h id
  | _ => none
def rowO (esz : Nat) (g : (Nat → Nat → Value) → Nat → List AV → Option (Bool × TypeId × Nat × Nat × (Nat → Nat → Value))) : OEntry := fun args fh => match rowArgs esz args fh with
  | some (c, q, len, rest) => match g q len rest with
    | some (c', r) => some (c && c', r)
    | none => none
  | none => none

/-- A function of a row that hands back a slice of its own. -/
theorem oentry_row {P : Program} {f : FuncId} {esz tyr : Nat} {g : (Nat → Nat → Value) → Nat → List AV → Option (Bool × TypeId × Nat × Nat × (Nat → Nat → Value))} (hf : entersB P f = true)
    (h : ∀ q len rest ty esz' N out, g q len rest = some (true, ty, esz', N, out) → (closedL rest).isSome = true ∧ ∃ q', (∀ i j, i < len → j < esz → q i j = q' i j) ∧ ∃ C, Sound C ∧ C.P = P ∧ ∃ n, afn C n f (.view 0 esz 0 len :: rest) [(0, some (.row tyr esz len q'))] 1 fun x h' _ =>
      ∃ id out', x = .own id N ∧ blkOf x h' = some (.orow ty esz' N out') ∧ ∀ i j, i < N → j < esz' → out' i j = out i j) :
    OEntryOK P f (rowO esz g) := by
  intro args fh ty esz' N out hv
  unfold rowO at hv
  refine ⟨entersB_ok hf, fun W ρ hf F w vs H hfh hr => ?_⟩
  split at hv
  · rename_i c q len rest hrow
    split at hv
    · rename_i c' r hg
      simp only [Option.some.injEq, Prod.mk.injEq, Bool.and_eq_true] at hv
      obtain ⟨⟨rfl, rfl⟩, rfl⟩ := hv
      obtain ⟨s, vs', p, rfl, h1, h2, h3⟩ := rowArgs_ok hrow H hfh hr
      obtain ⟨k1, q', hqq, C, S, hC, n, k3⟩ := h q len rest ty esz' N out hg
      obtain ⟨l, hl⟩ := Option.isSome_iff_exists.1 k1
      have e := closedL_rel rest l vs' hl h3
      have h1 : RowAt w p esz len q' := fun b o c hp => ⟨(h1 b o c hp).1, fun i j hi hj => by rw [← hqq i j hi hj]; exact (h1 b o c hp).2 i j hi hj⟩
      rw [e, ← hC]
      refine (afn_calls S.tab S.inl S.mix k3 (hr_one h1) (.cons (h2.rel rfl) (closedL_mk rest l hl))).mono fun e w' ⟨v', ρ', v, h', nx', h4, _, h5, h6, id, out', hx, hlk, hag⟩ => ⟨v', h4, ?_, h6.below⟩
      subst hx
      rcases h5.own_inv with ⟨rfl, rfl⟩ | ⟨b, c, h7, h8, rfl⟩
      · exact .inl ⟨rfl, rfl⟩
      · obtain ⟨_, h9, vs, h10, h11, h12, h13⟩ := h6.blk id b 0 c _ h7 hlk
        exact .inr ⟨b, c, h9, h6.old id b 0 c h7, h8, rfl, vs, h10, h11, fun i j hi hj => by rw [← hag i j hi hj]; exact h13 i j hi hj⟩
    · cases hv
  · cases hv

theorem oentries_cons {P : Program} {k : Nat} {e : OEntry} {r : List (Nat × OEntry)} (h : OEntryOK P k e) (hr : ∀ k e, (k, e) ∈ r → OEntryOK P k e) : ∀ k' e', (k', e') ∈ (k, e) :: r → OEntryOK P k' e' := by
  intro k' e' hm
  rcases List.mem_cons.1 hm with h' | h'
  · cases h'; exact h
  · exact hr k' e' h'
theorem oentries_nil {P : Program} : ∀ k e, (k, e) ∈ ([] : List (Nat × OEntry)) → OEntryOK P k e := by simp

end Go.Proofs.Ytmaddijeiniliaa.Sy
