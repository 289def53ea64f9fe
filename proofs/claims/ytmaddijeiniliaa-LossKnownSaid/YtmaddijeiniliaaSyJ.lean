/-
  SyJ: rows that are laid out in known cells; functions of two rows; functions that hand back two slices of their own.
-/
import Derived.Test.YtmaddijeiniliaaSyI
namespace Go.Proofs.Ytmaddijeiniliaa.Sy
open Go Go.RowKit
set_option linter.unusedVariables false

/-- An argument that is a row: under which condition, the row, how long. -/
def rowA (esz : Nat) (a : AV) (fh : Hp) : Option (Bool × (Nat → Nat → Value) × Nat) :=
  match a with
  | .view id e i0 len => match Sy.look fh id with
    | some (.row _ e' n f) => match Nat.beq e esz && Nat.beq e' esz with
      | true => some (decide (i0 + len ≤ n), fun i j => f (i0 + i) j, len)
      | false => none
    | some (.orow _ e' n f) => match Nat.beq e esz && Nat.beq e' esz with
      | true => some (decide (i0 + len ≤ n), fun i j => f (i0 + i) j, len)
      | false => none
    | _ => none
  | .own id len => match Sy.look fh id with
    | some (.orow _ e' n f) => match Nat.beq e' esz with
      | true => some (decide (len ≤ n), f, len)
      | false => none
    | _ => none
  | .slc id k m _ => match Sy.look fh id with
    | some (.cells _ cs) => match Nat.ble (k + m * esz) cs.length && allOne ((cs.drop k).take (m * esz)), valsOf ((cs.drop k).take (m * esz)) with
      | true, some vs => some (true, fun i j => nthV vs (i * esz + j), m)
      | _, _ => none
    | _ => none
  | .val (.slice none 0 0) => some (true, fun _ _ => undef, 0)
  | _ => none

theorem rowA_ok {esz : Nat} {a : AV} {fh : Hp} {q : Nat → Nat → Value} {len : Nat} (hv : rowA esz a fh = some (true, q, len))
    {W : World} {ρ : Env} {hf : Nat → Option Blk} {F : Nat → Prop} {w : World} {v : Value} (H : HR W ρ hf F w) (hfh : ∀ id, id ∈ a.ids → Sy.look fh id = hf id) (hr : Rel ρ a v) :
    ∃ p, RowAt w p esz len q ∧ SliceAt p len v := by
  have viaArgs : ∀ a', (∃ id e i0 l, a' = .view id e i0 l) ∨ (∃ id l, a' = .own id l) → a = a' → rowArgs esz [a'] fh = some (true, q, len, []) → ∃ p, RowAt w p esz len q ∧ SliceAt p len v := by
    intro a' _ ha h
    subst ha
    obtain ⟨s, vs', p, e, h1, h2, _⟩ := rowArgs_ok h H (fun id hid => hfh id (by simpa [AV.idsL] using hid)) (RelL.cons hr .nil)
    cases e
    exact ⟨p, h1, h2⟩
  cases a with
  | view id e i0 l =>
    refine viaArgs _ (.inl ⟨id, e, i0, l, rfl⟩) rfl ?_
    simp only [rowA] at hv
    simp only [rowArgs]
    split at hv
    · rename_i hl
      simp only [hl]
      split at hv
      · rename_i hq
        simp only [hq]
        simp only [Option.some.injEq, Prod.mk.injEq] at hv ⊢
        exact ⟨hv.1, hv.2.1, hv.2.2, trivial⟩
      · cases hv
    · rename_i hl
      simp only [hl]
      split at hv
      · rename_i hq
        simp only [hq]
        simp only [Option.some.injEq, Prod.mk.injEq] at hv ⊢
        exact ⟨hv.1, hv.2.1, hv.2.2, trivial⟩
      · cases hv
    · cases hv
  | own id l =>
    refine viaArgs _ (.inr ⟨id, l, rfl⟩) rfl ?_
    simp only [rowA] at hv
    simp only [rowArgs]
    split at hv
    · rename_i hl
      simp only [hl]
      split at hv
      · rename_i hq
        simp only [hq]
        simp only [Option.some.injEq, Prod.mk.injEq] at hv ⊢
        exact ⟨hv.1, hv.2.1, hv.2.2, trivial⟩
      · cases hv
    · cases hv
  | slc id k m c =>
    simp only [rowA] at hv
    split at hv
    · rename_i ty cs hl
      split at hv
      · rename_i vs hq hvs
        simp only [Option.some.injEq, Prod.mk.injEq, true_and] at hv
        obtain ⟨rfl, rfl⟩ := hv
        simp only [Bool.and_eq_true] at hq
        obtain ⟨b, o, c', h1, h2, rfl⟩ := hr.slc_inv
        obtain ⟨rfl, _, ws, hw, hws⟩ := H.blk id b o c' _ h1 ((hfh id (by simp [AV.ids])) ▸ hl)
        obtain ⟨h3, h4⟩ := nthV_at hvs hq.2 ((hws.drop k).take (m * esz))
        refine ⟨some (b, k, c'), fun b' o' c'' hp => ?_, .inr ⟨b, k, c', c, rfl, h2, by simp⟩⟩
        cases hp
        refine ⟨H.old id b 0 c' h1, fun i j hi hj => ?_⟩
        have hlt : i * esz + j < m * esz := by
          have : i * esz + esz ≤ m * esz := by rw [← Nat.succ_mul]; exact Nat.mul_le_mul_right _ hi
          omega
        have hle := nble.1 hq.1
        have h5 := h4 (i * esz + j) (by simp; omega)
        rw [cells_here hw]
        refine ⟨?_, h5.2⟩
        have h6 := h5.1
        rw [List.getElem?_take_of_lt hlt, List.getElem?_drop] at h6
        simpa using h6
      · cases hv
    · cases hv
  | val x =>
    simp only [rowA] at hv
    split at hv <;> try (cases hv; done)
    all_goals rename_i heq
    all_goals cases heq
    simp only [Option.some.injEq, Prod.mk.injEq, true_and] at hv
    obtain ⟨rfl, rfl⟩ := hv
    rw [hr.val_inv]
    exact ⟨none, (fun _ _ _ h => by cases h), .inl ⟨rfl, none, 0, rfl⟩⟩
  | any => simp [rowA] at hv
  | ptr _ _ => simp [rowA] at hv
  | elt _ _ _ _ => simp [rowA] at hv
  | agg _ => simp [rowA] at hv
  | tup _ => simp [rowA] at hv
  | fn _ _ _ => simp [rowA] at hv

/-! a function of one row; of two -/
def row1 (esz : Nat) (g : (Nat → Nat → Value) → Nat → List AV → Option (Bool × AV)) : Entry := fun args fh => match args with
  | a :: rest => match rowA esz a fh with
    | some (c, q, len) => match g q len rest with
      | some (c', v) => some (c && c', v)
      | none => none
    | none => none
  | [] => none
theorem entry_row1 {P : Program} {f : FuncId} {esz ty : Nat} {g : (Nat → Nat → Value) → Nat → List AV → Option (Bool × AV)} (hf : entersB P f = true)
    (h : ∀ q len rest v, g q len rest = some (true, v) → (closedL rest).isSome = true ∧ (closedV v).isSome = true ∧ ∃ q', (∀ i j, i < len → j < esz → q i j = q' i j) ∧ ∃ C, Sound C ∧ C.P = P ∧ ∃ n, afn C n f (.view 0 esz 0 len :: rest) [(0, some (.row ty esz len q'))] 1 fun x _ _ => x = v) : EntryOK P f (row1 esz g) := by
  intro args fh v hv
  refine ⟨entersB_ok hf, fun W ρ hf F w vs H hfh hr => ?_⟩
  unfold row1 at hv
  split at hv
  · rename_i a rest
    obtain ⟨s, vs', rfl, hs, hrest⟩ := hr.cons_inv
    split at hv
    · rename_i c q len hrow
      split at hv
      · rename_i c' u hg
        simp only [Option.some.injEq, Prod.mk.injEq, Bool.and_eq_true] at hv
        obtain ⟨⟨rfl, rfl⟩, rfl⟩ := hv
        obtain ⟨p, h1, h2⟩ := rowA_ok hrow H (fun id hid => hfh id (by simp [AV.idsL, hid])) hs
        obtain ⟨k1, k2, q', hqq, C, S, hC, n, k3⟩ := h q len rest _ hg
        have h1 : RowAt w p esz len q' := fun b o c hp => ⟨(h1 b o c hp).1, fun i j hi hj => by rw [← hqq i j hi hj]; exact (h1 b o c hp).2 i j hi hj⟩
        obtain ⟨l, hl⟩ := Option.isSome_iff_exists.1 k1
        obtain ⟨u, hu⟩ := Option.isSome_iff_exists.1 k2
        have e := closedL_rel rest l vs' hl hrest
        rw [e, ← hC]
        exact (calls_rows S hu k3 (hr_one h1) (.cons (h2.rel rfl) (closedL_mk rest l hl))).mono fun e w' ⟨h4, h5⟩ => ⟨u, h4, closedV_mk _ u hu, h5⟩
      · cases hv
    · cases hv
  · cases hv
def row2 (esz esz' : Nat) (g : (Nat → Nat → Value) → Nat → (Nat → Nat → Value) → Nat → List AV → Option (Bool × AV)) : Entry := fun args fh => match args with
  | a :: b :: rest => match rowA esz a fh, rowA esz' b fh with
    | some (c, q, len), some (d, r, m) => match g q len r m rest with
      | some (c', v) => some (c && (d && c'), v)
      | none => none
    | _, _ => none
  | _ => none
theorem entry_row2 {P : Program} {f : FuncId} {esz ty esz' ty' : Nat} {g : (Nat → Nat → Value) → Nat → (Nat → Nat → Value) → Nat → List AV → Option (Bool × AV)} (hf : entersB P f = true)
    (h : ∀ q len r m rest v, g q len r m rest = some (true, v) → (closedL rest).isSome = true ∧ (closedV v).isSome = true ∧ ∃ q' r', (∀ i j, i < len → j < esz → q i j = q' i j) ∧ (∀ i j, i < m → j < esz' → r i j = r' i j) ∧ ∃ C, Sound C ∧ C.P = P ∧ ∃ n,
      afn C n f (.view 0 esz 0 len :: .view 1 esz' 0 m :: rest) [(0, some (.row ty esz len q')), (1, some (.row ty' esz' m r'))] 2 fun x _ _ => x = v) : EntryOK P f (row2 esz esz' g) := by
  intro args fh v hv
  refine ⟨entersB_ok hf, fun W ρ hf F w vs H hfh hr => ?_⟩
  unfold row2 at hv
  split at hv
  · rename_i a b rest
    obtain ⟨s, vs1, rfl, hs, hrest1⟩ := hr.cons_inv
    obtain ⟨t, vs', rfl, ht, hrest⟩ := hrest1.cons_inv
    split at hv
    · rename_i c q len d r m hrow hrow'
      split at hv
      · rename_i c' u hg
        simp only [Option.some.injEq, Prod.mk.injEq, Bool.and_eq_true] at hv
        obtain ⟨⟨rfl, rfl, rfl⟩, rfl⟩ := hv
        obtain ⟨p, h1, h2⟩ := rowA_ok hrow H (fun id hid => hfh id (by simp [AV.idsL, hid])) hs
        obtain ⟨p', h1', h2'⟩ := rowA_ok hrow' H (fun id hid => hfh id (by simp [AV.idsL, hid])) ht
        obtain ⟨k1, k2, q', r', hqq, hrr, C, S, hC, n, k3⟩ := h q len r m rest _ hg
        have h1 : RowAt w p esz len q' := fun b o c hp => ⟨(h1 b o c hp).1, fun i j hi hj => by rw [← hqq i j hi hj]; exact (h1 b o c hp).2 i j hi hj⟩
        have h1' : RowAt w p' esz' m r' := fun b o c hp => ⟨(h1' b o c hp).1, fun i j hi hj => by rw [← hrr i j hi hj]; exact (h1' b o c hp).2 i j hi hj⟩
        obtain ⟨l, hl⟩ := Option.isSome_iff_exists.1 k1
        obtain ⟨u, hu⟩ := Option.isSome_iff_exists.1 k2
        have e := closedL_rel rest l vs' hl hrest
        rw [e, ← hC]
        exact (calls_rows S hu k3 (hr_two h1 h1') (.cons (h2.rel rfl) (.cons (h2'.rel rfl) (closedL_mk rest l hl)))).mono fun e w' ⟨h4, h5⟩ => ⟨u, h4, closedV_mk _ u hu, h5⟩
      · cases hv
    · cases hv
  · cases hv

/-! two slices of its own, handed back with plain values -/
abbrev MEntry := List AV → Hp → Option (Bool × TypeId × Nat × (Nat × (Nat → Nat → Value)) × (Nat × (Nat → Nat → Value)) × List Value)
def findM : List (Nat × MEntry) → Nat → Option MEntry
  | [], _ => none
  | (k, e) :: r, f => match Nat.beq k f with
    | true => some e
    | false => findM r f
def mkM (es : List (Nat × Entry)) (os : List (Nat × OEntry)) (ms : List (Nat × MEntry)) : Tab := fun f args fh key => match findM ms f with
  | some g => match g args fh with
    | some (c, ty, esz, (N, q), (N', q'), vs) => some (c, .tup (.own key N :: .own (key + 1) N' :: vs.map .val), [(key, some (.orow ty esz N q)), (key + 1, some (.orow ty esz N' q'))])
    | none => none
  | none => mkO es os f args fh key
def MEntryOK (P : Program) (f : FuncId) (g : MEntry) : Prop := ∀ args fh ty esz N q N' q' vals, g args fh = some (true, ty, esz, (N, q), (N', q'), vals) → Enters P f ∧
  ∀ (W : World) (ρ : Env) (hf : Nat → Option Blk) (F : Nat → Prop) (w : World) (vs : List Value), HR W ρ hf F w → (∀ id, id ∈ AV.idsL args → Sy.look fh id = hf id) → RelL ρ args vs →
    Calls P f vs.toArray w (fun e w' => ∃ v v', e = .returned (.tuple (v :: v' :: vals).toArray) ∧ OwnAt w w' ty esz N q v ∧ OwnAt w w' ty esz N' q' v' ∧ (∀ b c c', v = .slice (some ⟨b, 0, none⟩) N c → v' = .slice (some ⟨b, 0, none⟩) N' c' → False) ∧ Below w.heap.size w w')

theorem addOwn {W : World} {ρ : Env} {hf : Nat → Option Blk} {F F' : Nat → Prop} {w0 w' : World} {ty esz N key : Nat} {q : Nat → Nat → Value} {v : Value} (H : HR W ρ hf F w') (hW : W.heap.size ≤ w0.heap.size) (hown : OwnAt w0 w' ty esz N q v)
    (hk : F key) (hF : ∀ id, F' id → F id ∧ id ≠ key) (hne : ∀ id b o c c', ρ id = some (b, o, c) → v = .slice (some ⟨b, 0, none⟩) N c' → False) :
    ∃ ρ', Ext ρ ρ' ∧ Rel ρ' (.own key N) v ∧ HR W ρ' (updF hf key (some (.orow ty esz N q))) F' w' ∧ ∀ id b o c, ρ' id = some (b, o, c) → ρ id = some (b, o, c) ∨ v = .slice (some ⟨b, 0, none⟩) N c := by
  rcases hown with ⟨rfl, rfl⟩ | ⟨b, c, hb1, hb2, hNc, rfl, vs', h3, h4, h5⟩
  · refine ⟨ρ, Ext.refl ρ, .own0, ⟨H.below, H.old, fun id h => H.free id (hF id h).1, fun id b o c B h1 h2 => ?_, fun id id' b o c o' c' B B' h1 h2 h3 h4 h5 => ?_⟩, fun id b o c h => .inl h⟩
    · have hne : id ≠ key := fun e => by subst e; rw [H.free _ hk] at h1; cases h1
      exact H.blk id b o c B h1 (by simpa [updF, hne] using h2)
    · have hne : id ≠ key := fun e => by subst e; rw [H.free _ hk] at h1; cases h1
      have hne' : id' ≠ key := fun e => by subst e; rw [H.free _ hk] at h2; cases h2
      exact H.apart id id' b o c o' c' B B' h1 h2 (by simpa [updF, hne] using h3) (by simpa [updF, hne'] using h4) h5
  · have hext := addE_ext (H.free key hk) (b, 0, c)
    refine ⟨addE ρ key (b, 0, c), hext, .own (by simp [addE]) hNc, ⟨H.below, fun id b' o' c' h1 => ?_, fun id h1 => ?_, fun id b' o' c' B h1 h2 => ?_, fun id id' b' o' c' o2 c2 B B' h1 h2 h6 h7 h8 => ?_⟩, fun id b' o' c' h1 => ?_⟩
    · unfold addE at h1
      split at h1
      · cases h1; exact hb2
      · exact H.old id b' o' c' h1
    · unfold addE
      rw [if_neg (hF id h1).2]
      exact H.free id (hF id h1).1
    · unfold addE at h1
      split at h1
      · rename_i e
        subst e
        cases h1
        simp [updF] at h2
        subst h2
        exact ⟨rfl, by omega, vs', h3, h4, hNc, h5⟩
      · rename_i hn
        exact (H.blk id b' o' c' B h1 (by simpa [updF, hn] using h2)).mono hext
    · unfold addE at h1 h2
      split at h1
      · split at h2
        · rename_i e1 e2; rw [e1, e2]
        · cases h1
          exact (hne id' b o2 c2 c h2 rfl).elim
      · split at h2
        · cases h2
          exact (hne id b o' c' c h1 rfl).elim
        · rename_i n1 n2
          exact H.apart id id' b' o' c' o2 c2 B B' h1 h2 (by simpa [updF, n1] using h6) (by simpa [updF, n2] using h7) h8
    · unfold addE at h1
      split at h1
      · cases h1; exact .inr rfl
      · exact .inl h1

theorem tabM_of {P : Program} {es : List (Nat × Entry)} {os : List (Nat × OEntry)} {ms : List (Nat × MEntry)} (h : ∀ k e, (k, e) ∈ es → EntryOK P k e) (ho : ∀ k e, (k, e) ∈ os → OEntryOK P k e) (hm : ∀ k e, (k, e) ∈ ms → MEntryOK P k e) : TabOK P (mkM es os ms) := by
  intro g args fh key v ds hv
  unfold mkM at hv
  split at hv
  · rename_i en hen
    split at hv
    · rename_i c ty esz N q N' q' vals hg
      cases hv
      have hmem : ∀ (es : List (Nat × MEntry)) (g : Nat) (en : MEntry), findM es g = some en → (g, en) ∈ es := by
        intro es
        induction es with
        | nil => intro g en h; simp [findM] at h
        | cons x r ih =>
          intro g en h
          obtain ⟨k, e⟩ := x
          simp only [findM] at h
          split at h
          · rename_i hk
            cases h
            rw [nbeq.1 hk]
            simp
          · exact List.mem_cons_of_mem _ (ih g en h)
      obtain ⟨h1, h2⟩ := hm g en (hmem ms g en hen) args fh ty esz N q N' q' vals hg
      refine ⟨h1, fun W ρ hf F w vs H hkey hfh hr => (h2 W ρ hf F w vs H hfh hr).mono fun e w' ⟨v1, v2, he, o1, o2, hne, hb⟩ => ⟨_, he, ?_⟩⟩
      have hk1 : F key := hkey key (Nat.le_refl _) (by simp [stride])
      have hk2 : F (key + 1) := hkey (key + 1) (by omega) (by simp [stride])
      have H0 := H.same (F' := F) (fun _ h => h) hb
      have hWw := H.below.size
      obtain ⟨ρ1, x1, r1, H1, y1⟩ := addOwn (F' := fun id => F id ∧ id ≠ key) H0 hWw o1 hk1 (fun id h => h) (fun id b o c c' hid hv => by
        have := H.old id b o c hid
        rcases o1 with ⟨_, e⟩ | ⟨b', c2, hb1, _, _, e, _⟩
        · rw [e] at hv; cases hv
        · rw [e] at hv; cases hv; omega)
      obtain ⟨ρ2, x2, r2, H2, y2⟩ := addOwn (F' := fun id => F id ∧ ¬ (key ≤ id ∧ id < key + stride)) H1 hWw o2 ⟨hk2, by omega⟩ (fun id h => ⟨⟨h.1, fun e => h.2 ⟨by omega, by simp [stride]; omega⟩⟩, fun e => h.2 ⟨by omega, by simp [stride]; omega⟩⟩) (fun id b o c c' hid hv => by
        rcases y1 id b o c hid with h3 | h3
        · have := H.old id b o c h3
          rcases o2 with ⟨_, e⟩ | ⟨b', c2, hb1, _, _, e, _⟩
          · rw [e] at hv; cases hv
          · rw [e] at hv; cases hv; omega
        · exact hne b c c' h3 hv)
      refine ⟨ρ2, x1.trans x2, Rel.tup_mk (.cons (r1.mono x2) (.cons r2 (RelL.vals vals))), H2⟩
    · cases hv
  · exact tabO_of h ho g args fh key v ds hv

/-- What is handed back is a slice of its own, or nothing. -/
def OwnIs (B : Option Blk) (ty esz N : Nat) (q : Nat → Nat → Value) (r : AV) : Prop :=
  (N = 0 ∧ r = .val (.slice none 0 0)) ∨ ∃ id o, r = .own id N ∧ B = some (.orow ty esz N o) ∧ ∀ i j, i < N → j < esz → o i j = q i j
/-- The blocks of the first two that are handed back. -/
def bk1 (v : AV) (h : Hp) : Option Blk := match v with
  | .tup (r :: _) => blkOf r h
  | _ => none
def bk2 (v : AV) (h : Hp) : Option Blk := match v with
  | .tup (_ :: r :: _) => blkOf r h
  | _ => none
def apartA : AV → AV → Prop
  | .own i _, .own j _ => i ≠ j
  | _, _ => True

theorem OwnIs.at {h : Hp} {ty esz N : Nat} {q : Nat → Nat → Value} {r : AV} (ho : OwnIs (blkOf r h) ty esz N q r) {w w' : World} {ρ : Env} {F : Nat → Prop} (H : HR w ρ (Sy.look h) F w') {v : Value} (hr : Rel ρ r v) :
    OwnAt w w' ty esz N q v := by
  rcases ho with ⟨rfl, rfl⟩ | ⟨id, o, rfl, hl, ha⟩
  · rw [hr.val_inv]; exact .inl ⟨rfl, rfl⟩
  · rcases hr.own_inv with ⟨rfl, rfl⟩ | ⟨b, c, h7, h8, rfl⟩
    · exact .inl ⟨rfl, rfl⟩
    · obtain ⟨_, h9, vs, h10, h11, h12, h13⟩ := H.blk id b 0 c _ h7 hl
      exact .inr ⟨b, c, h9, H.old id b 0 c h7, h8, rfl, vs, h10, h11, fun i j hi hj => by rw [← ha i j hi hj]; exact h13 i j hi hj⟩

def rowM (esz : Nat) (g : (Nat → Nat → Value) → Nat → List AV → Option (Bool × TypeId × Nat × (Nat × (Nat → Nat → Value)) × (Nat × (Nat → Nat → Value)) × List Value)) : MEntry := fun args fh => match args with
  | a :: rest => match rowA esz a fh with
    | some (c, q, len) => match g q len rest with
      | some (c', r) => some (c && c', r)
      | none => none
    | none => none
  | [] => none
theorem mentry_row {P : Program} {f : FuncId} {esz tyr : Nat} {g : (Nat → Nat → Value) → Nat → List AV → Option (Bool × TypeId × Nat × (Nat × (Nat → Nat → Value)) × (Nat × (Nat → Nat → Value)) × List Value)} (hf : entersB P f = true)
    (h : ∀ q len rest ty esz' N1 q1 N2 q2 vals, g q len rest = some (true, ty, esz', (N1, q1), (N2, q2), vals) → (closedL rest).isSome = true ∧ ∃ q', (∀ i j, i < len → j < esz → q i j = q' i j) ∧ ∃ C, Sound C ∧ C.P = P ∧ ∃ n, afn C n f (.view 0 esz 0 len :: rest) [(0, some (.row tyr esz len q'))] 1 fun x h' _ =>
      ∃ r1 r2, x = .tup (r1 :: r2 :: vals.map .val) ∧ OwnIs (bk1 x h') ty esz' N1 q1 r1 ∧ OwnIs (bk2 x h') ty esz' N2 q2 r2 ∧ apartA r1 r2) :
    MEntryOK P f (rowM esz g) := by
  intro args fh ty esz' N1 q1 N2 q2 vals hv
  refine ⟨entersB_ok hf, fun W ρ hf F w vs H hfh hr => ?_⟩
  unfold rowM at hv
  split at hv
  · rename_i a rest
    obtain ⟨s, vs', rfl, hs, hrest⟩ := hr.cons_inv
    split at hv
    · rename_i c q len hrow
      split at hv
      · rename_i c' r hg
        simp only [Option.some.injEq, Prod.mk.injEq, Bool.and_eq_true] at hv
        obtain ⟨⟨rfl, rfl⟩, rfl⟩ := hv
        obtain ⟨p, h1, h2⟩ := rowA_ok hrow H (fun id hid => hfh id (by simp [AV.idsL, hid])) hs
        obtain ⟨k1, q', hqq, C, S, hC, n, k3⟩ := h q len rest _ _ _ _ _ _ _ hg
        have h1 : RowAt w p esz len q' := fun b o c hp => ⟨(h1 b o c hp).1, fun i j hi hj => by rw [← hqq i j hi hj]; exact (h1 b o c hp).2 i j hi hj⟩
        obtain ⟨l, hl⟩ := Option.isSome_iff_exists.1 k1
        have e := closedL_rel rest l vs' hl hrest
        rw [e, ← hC]
        refine (afn_calls S.tab S.inl S.mix k3 (hr_one h1) (.cons (h2.rel rfl) (closedL_mk rest l hl))).mono fun e w' ⟨v', ρ', v, h', nx', h4, _, h5, h6, r1, r2, hx, o1, o2, hap⟩ => ?_
        subst hx
        have o1 : OwnIs (blkOf r1 h') ty esz' N1 q1 r1 := o1
        have o2 : OwnIs (blkOf r2 h') ty esz' N2 q2 r2 := o2
        obtain ⟨ar, rfl, hl⟩ := h5.tup_inv
        obtain ⟨v1, t1, e1, hv1, hl1⟩ := hl.cons_inv
        obtain ⟨v2, t2, e2, hv2, hl2⟩ := hl1.cons_inv
        have e3 : t2 = vals := by
          have : ∀ (l : List Value) (m : List Value), RelL ρ' (l.map .val) m → m = l := by
            intro l
            induction l with
            | nil => intro m hm; exact hm.nil_inv
            | cons x l ih =>
              intro m hm
              obtain ⟨y, m', rfl, hy, hm'⟩ := hm.cons_inv
              rw [hy.val_inv, ih m' hm']
          exact this vals t2 hl2
        subst e3
        refine ⟨v1, v2, ?_, o1.at h6 hv1, o2.at h6 hv2, fun b c1 c2 g1 g2 => ?_, h6.below⟩
        · rw [h4]
          congr 1
          congr 1
          apply Array.ext'
          rw [e1, e2]
        · rcases o1 with ⟨_, rfl⟩ | ⟨i1, p1, rfl, l1, _⟩
          · rw [hv1.val_inv] at g1; cases g1
          · rcases o2 with ⟨_, rfl⟩ | ⟨i2, p2, rfl, l2, _⟩
            · rw [hv2.val_inv] at g2; cases g2
            · rcases hv1.own_inv with ⟨_, rfl⟩ | ⟨b1, d1, h7, h8, rfl⟩
              · cases g1
              · rcases hv2.own_inv with ⟨_, rfl⟩ | ⟨b2, d2, h9, h10, rfl⟩
                · cases g2
                · cases g1
                  cases g2
                  have hbl := H
                  have := (h6.blk i1 b 0 _ _ h7 l1).2.1
                  exact hap (h6.apart i1 i2 b 0 _ 0 _ _ _ h7 h9 l1 l2 this)
      · cases hv
    · cases hv
  · cases hv
theorem mentries_cons {P : Program} {k : Nat} {e : MEntry} {r : List (Nat × MEntry)} (h : MEntryOK P k e) (hr : ∀ k e, (k, e) ∈ r → MEntryOK P k e) : ∀ k' e', (k', e') ∈ (k, e) :: r → MEntryOK P k' e' := by
  intro k' e' hm
  rcases List.mem_cons.1 hm with h' | h'
  · cases h'; exact h
  · exact hr k' e' h'
theorem mentries_nil {P : Program} : ∀ k e, (k, e) ∈ ([] : List (Nat × MEntry)) → MEntryOK P k e := by simp

end Go.Proofs.Ytmaddijeiniliaa.Sy
