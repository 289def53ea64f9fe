/-
  SyE: tables of known functions; closed values.
-/
import Derived.Test.YtmaddijeiniliaaSyD2
namespace Go.Proofs.Ytmaddijeiniliaa.Sy
open Go Go.RowKit
set_option linter.unusedVariables false

theorem ifb_true (p q : Prop) : ifb true p q = p := rfl
theorem ifb_false (p q : Prop) : ifb false p q = q := rfl
theorem ifb_ite (c : Bool) (p q : Prop) : ifb c p q = if c = true then p else q := by cases c <;> simp [ifb]
/-- Both ways. -/
theorem ifb_of {c : Bool} {p q : Prop} (h1 : c = true → p) (h2 : c = false → q) : ifb c p q := by
  cases c
  · exact h2 rfl
  · exact h1 rfl
theorem ifb_pos {c : Bool} {p q : Prop} (h : c = true) (hp : p) : ifb c p q := by subst h; exact hp
theorem ifb_neg {c : Bool} {p q : Prop} (h : c = false) (hq : q) : ifb c p q := by subst h; exact hq

/-! values that name no memory -/
mutual
def closedV : AV → Option Value
  | .val v => some v
  | .agg cs => match closedL cs with
    | some l => some (.agg l.toArray)
    | none => none
  | .tup cs => match closedL cs with
    | some l => some (.tuple l.toArray)
    | none => none
  | _ => none
def closedL : List AV → Option (List Value)
  | [] => some []
  | c :: r => match closedV c, closedL r with
    | some v, some l => some (v :: l)
    | _, _ => none
end

mutual
theorem closedV_rel {ρ : Env} : ∀ (a : AV) (u v : Value), closedV a = some u → Rel ρ a v → v = u
  | .any, u, v, h, _ => by simp [closedV] at h
  | .val x, u, v, h, hr => by simp [closedV] at h; rw [← h]; exact hr.val_inv
  | .ptr _ _, u, v, h, _ => by simp [closedV] at h
  | .elt _ _ _ _, u, v, h, _ => by simp [closedV] at h
  | .slc _ _ _ _, u, v, h, _ => by simp [closedV] at h
  | .view _ _ _ _, u, v, h, _ => by simp [closedV] at h
  | .own _ _, u, v, h, _ => by simp [closedV] at h
  | .agg cs, u, v, h, hr => by
    simp only [closedV] at h
    split at h
    · rename_i l hl
      cases h
      obtain ⟨a, rfl, ha⟩ := hr.agg_inv
      have := closedL_rel cs l a.toList hl ha
      congr 1
      apply Array.ext'
      simpa using this
    · cases h
  | .tup cs, u, v, h, hr => by
    simp only [closedV] at h
    split at h
    · rename_i l hl
      cases h
      obtain ⟨a, rfl, ha⟩ := hr.tup_inv
      have := closedL_rel cs l a.toList hl ha
      congr 1
      apply Array.ext'
      simpa using this
    · cases h
  | .fn _ _ _, u, v, h, _ => by simp [closedV] at h
theorem closedL_rel {ρ : Env} : ∀ (cs : List AV) (l vs : List Value), closedL cs = some l → RelL ρ cs vs → vs = l
  | [], l, vs, h, hr => by simp [closedL] at h; rw [hr.nil_inv, ← h]
  | c :: r, l, vs, h, hr => by
    obtain ⟨v, s, rfl, h1, h2⟩ := hr.cons_inv
    simp only [closedL] at h
    split at h
    · rename_i u l' hu hl
      cases h
      rw [closedV_rel c u v hu h1, closedL_rel r l' s hl h2]
    · cases h
end

mutual
theorem closedV_mk {ρ : Env} : ∀ (a : AV) (u : Value), closedV a = some u → Rel ρ a u
  | .any, u, h => by simp [closedV] at h
  | .val x, u, h => by simp [closedV] at h; rw [← h]; exact .val _
  | .ptr _ _, u, h => by simp [closedV] at h
  | .elt _ _ _ _, u, h => by simp [closedV] at h
  | .slc _ _ _ _, u, h => by simp [closedV] at h
  | .view _ _ _ _, u, h => by simp [closedV] at h
  | .own _ _, u, h => by simp [closedV] at h
  | .agg cs, u, h => by
    simp only [closedV] at h
    split at h
    · rename_i l hl
      cases h
      exact Rel.agg_mk (closedL_mk cs l hl)
    · cases h
  | .tup cs, u, h => by
    simp only [closedV] at h
    split at h
    · rename_i l hl
      cases h
      exact Rel.tup_mk (closedL_mk cs l hl)
    · cases h
  | .fn _ _ _, u, h => by simp [closedV] at h
theorem closedL_mk {ρ : Env} : ∀ (cs : List AV) (l : List Value), closedL cs = some l → RelL ρ cs l
  | [], l, h => by simp [closedL] at h; rw [h]; exact .nil
  | c :: r, l, h => by
    simp only [closedL] at h
    split at h
    · rename_i u l' hu hl
      cases h
      exact .cons (closedV_mk c u hu) (closedL_mk r l' hl)
    · cases h
end

/-! what may be entered -/
def entersB (P : Program) (f : FuncId) : Bool :=
  match P.funcs.toList[f]? with
  | some fn => !(fn.name == "runtime.NumGoroutine") && !fn.body.isNone
  | none => false
theorem entersB_ok {P : Program} {f : FuncId} (h : entersB P f = true) : Enters P f := by
  unfold entersB at h
  split at h
  · rename_i fn hf
    simp only [Bool.and_eq_true, Bool.not_eq_true'] at h
    exact enters_of (by simpa using hf) h.1 h.2
  · cases h
def allN (p : Nat → Bool) : List Nat → Bool
  | [] => true
  | x :: r => p x && allN p r
theorem allN_ok {p : Nat → Bool} : ∀ {l : List Nat}, allN p l = true → ∀ x, hasN l x = true → p x = true
  | [], _, x, h => by simp [hasN] at h
  | y :: r, h, x, hx => by
    simp only [allN, Bool.and_eq_true] at h
    simp only [hasN, Bool.or_eq_true] at hx
    rcases hx with hx | hx
    · rw [← nbeq.1 hx]; exact h.1
    · exact allN_ok h.2 x hx

/-- A loop's body, by its first region: and how much fuel is left there. -/
def locC (r : Nat) : Nat → Code → Option (Nat × Code)
  | 0, _ => none
  | n + 1, c => match c with
    | .seq a b => match locC r n a with
      | some x => some x
      | none => locC r n b
    | .cond _ a b => match locC r n a with
      | some x => some x
      | none => locC r n b
    | .block _ c => locC r n c
    | .scope c => locC r n c
    | .loop c => match Nat.beq (firstReg c) r with
      | true => some (n, c)
      | false => locC r n c
    | _ => none
def locate (P : Program) (n : Nat) (f : FuncId) (r : Nat) : Nat × Code :=
  match enterA P f with
  | some (_, c) => (locC r n c).getD (0, .skip)
  | none => (0, .skip)

structure Sound (C : Cfg) : Prop where
  tab : TabOK C.P C.T
  inl : ∀ f, C.inl f = true → Enters C.P f
  mix : C.P.follows .mixedOrders = true

/-! tables -/
abbrev Entry := List AV → Hp → Option (Bool × AV)
def findE : List (Nat × Entry) → Nat → Option Entry
  | [], _ => none
  | (k, e) :: r, f => match Nat.beq k f with
    | true => some e
    | false => findE r f
def mkT (es : List (Nat × Entry)) : Tab := fun f args fh _ => match findE es f with
  | some g => match g args fh with
    | some (c, v) => some (c, v, [])
    | none => none
  | none => none
/-- Without a condition. -/
def plain (g : List AV → Option AV) : Entry := fun a _ => match g a with
  | some v => some (true, v)
  | none => none

def EntryOK (P : Program) (f : FuncId) (g : Entry) : Prop := ∀ args fh v, g args fh = some (true, v) → Enters P f ∧
  ∀ (W : World) (ρ : Env) (hf : Nat → Option Blk) (F : Nat → Prop) (w : World) (vs : List Value), HR W ρ hf F w → (∀ id, id ∈ AV.idsL args → look fh id = hf id) → RelL ρ args vs →
    Calls P f vs.toArray w (fun e w' => ∃ v', e = .returned v' ∧ Rel ρ v v' ∧ Below w.heap.size w w')

theorem tab_of {P : Program} {es : List (Nat × Entry)} (h : ∀ k e, (k, e) ∈ es → EntryOK P k e) : TabOK P (mkT es) := by
  intro g args fh key v ds hv
  unfold mkT at hv
  split at hv
  · rename_i en hen
    split at hv
    · rename_i c v' hv'
      cases hv
      have hmem : ∀ (es : List (Nat × Entry)) (g : Nat) (en : Entry), findE es g = some en → (g, en) ∈ es := by
        intro es
        induction es with
        | nil => intro g en h; simp [findE] at h
        | cons x r ih =>
          intro g en h
          obtain ⟨k, e⟩ := x
          simp only [findE] at h
          split at h
          · rename_i hk
            cases h
            rw [nbeq.1 hk]
            simp
          · exact List.mem_cons_of_mem _ (ih g en h)
      obtain ⟨h1, h2⟩ := h g en (hmem es g en hen) args fh v hv'
      refine ⟨h1, fun W ρ hf F w vs H _ hfh hr => (h2 W ρ hf F w vs H hfh hr).mono fun e w' ⟨v', he, hrv, hb⟩ => ⟨v', he, ρ, Ext.refl ρ, hrv, ?_⟩⟩
      exact H.same (fun _ h => h.1) hb
    · cases hv
  · cases hv

/-- With it a slice of plain numbers that is laid out is a row. -/
def rowsE : Entry := fun _ _ => some (false, .any)
theorem rowsE_ok {P : Program} : EntryOK P rowsId rowsE := fun _ _ _ h => by simp [rowsE] at h

theorem tab_nil {P : Program} : TabOK P (mkT []) := tab_of (by simp)
theorem entries_cons {P : Program} {k : Nat} {e : Entry} {r : List (Nat × Entry)} (h : EntryOK P k e) (hr : ∀ k e, (k, e) ∈ r → EntryOK P k e) : ∀ k' e', (k', e') ∈ (k, e) :: r → EntryOK P k' e' := by
  intro k' e' hm
  rcases List.mem_cons.1 hm with h' | h'
  · cases h'; exact h
  · exact hr k' e' h'
theorem entries_nil {P : Program} : ∀ k e, (k, e) ∈ ([] : List (Nat × Entry)) → EntryOK P k e := by simp

/-- A function whose arguments and result name no memory. -/
theorem calls_closed {C : Cfg} (S : Sound C) {n : Nat} {f : FuncId} {args : List AV} {vs : List Value} {r : AV} {u : Value} (ha : closedL args = some vs) (hr : closedV r = some u)
    (h : afn C n f args [] 0 fun v _ _ => v = r) (w : World) : Calls C.P f vs.toArray w (fun e w' => e = .returned u ∧ Below w.heap.size w w') :=
  (afn_pure S.tab S.inl S.mix h (closedL_mk args vs ha) w).mono fun e w' ⟨v', ρ', v, h1, h2, h3, h4⟩ => ⟨by rw [h1, closedV_rel _ _ _ (h3 ▸ hr) h2], h4⟩

/-- Such a function, as an entry. -/
theorem entry_if {P : Program} {f : FuncId} {g : List AV → Option (Bool × AV)} (hf : entersB P f = true)
    (h : ∀ args v, g args = some (true, v) → (closedL args).isSome = true ∧ (closedV v).isSome = true ∧ ∃ C, Sound C ∧ C.P = P ∧ ∃ n, afn C n f args [] 0 fun x _ _ => x = v) : EntryOK P f (fun a _ => g a) := by
  refine fun args fh v hv => ⟨entersB_ok hf, fun W ρ hf F w vs H _ hr => ?_⟩
  obtain ⟨h1, h2, C, S, hC, n, h3⟩ := h args v hv
  obtain ⟨l, hl⟩ := Option.isSome_iff_exists.1 h1
  obtain ⟨u, hu⟩ := Option.isSome_iff_exists.1 h2
  have e := closedL_rel args l vs hl hr
  rw [e, ← hC]
  exact (calls_closed S hl hu h3 w).mono fun e w' ⟨h4, h5⟩ => ⟨u, h4, closedV_mk v u hu, h5⟩
theorem entry_of {P : Program} {f : FuncId} {g : List AV → Option AV} (hf : entersB P f = true)
    (h : ∀ args v, g args = some v → (closedL args).isSome = true ∧ (closedV v).isSome = true ∧ ∃ C, Sound C ∧ C.P = P ∧ ∃ n, afn C n f args [] 0 fun x _ _ => x = v) : EntryOK P f (plain g) :=
  entry_if (g := fun a => match g a with
    | some v => some (true, v)
    | none => none) hf fun args v hv => h args v (by
      split at hv
      · rename_i u hu
        cases hv
        exact hu
      · cases hv)
theorem entry_closed {C : Cfg} (S : Sound C) {f : FuncId} {g : List AV → Option AV} (hf : entersB C.P f = true)
    (h : ∀ args v, g args = some v → (closedL args).isSome = true ∧ (closedV v).isSome = true ∧ ∃ n, afn C n f args [] 0 fun x _ _ => x = v) : EntryOK C.P f (plain g) :=
  entry_of hf fun args v hv => ⟨(h args v hv).1, (h args v hv).2.1, C, S, rfl, (h args v hv).2.2⟩

end Go.Proofs.Ytmaddijeiniliaa.Sy
