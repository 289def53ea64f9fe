/-
  SyF: what may be read as data at a type without pointers: its cells, kind by kind; slices of such.
-/
import Derived.Test.YtmaddijeiniliaaSyE
import Derived.OpenShut
import Derived.ProofKit
namespace Go.Proofs.Ytmaddijeiniliaa.Sy
open Go Go.RowKit
set_option linter.unusedVariables false

/-- The kinds of a type's cells: an integer's kind, or none for a bool. -/
def catK : Option (List (Option IntKind)) → Option (List (Option IntKind)) → Option (List (Option IntKind))
  | some a, some b => some (a ++ b)
  | _, _ => none
def repK (ks : List (Option IntKind)) : Nat → List (Option IntKind)
  | 0 => []
  | n + 1 => ks ++ repK ks n
def fieldsK (kinds : TypeId → Option (List (Option IntKind))) (P : Program) : List Field → Nat → Option (List (Option IntKind))
  | [], _ => some []
  | f :: r, off => match kinds f.type with
    | some ks => match Nat.beq f.offset off && Nat.beq (P.cellsOf f.type) ks.length with
      | true => catK (some ks) (fieldsK kinds P r (off + ks.length))
      | false => none
    | none => none
def kinds (P : Program) : Nat → TypeId → Option (List (Option IntKind))
  | 0, _ => none
  | n + 1, t => match P.underlying t with
    | some (.int k) => some [some k]
    | some .bool => some [none]
    | some (.struct fs) => match fieldsK (kinds P n) P fs.toList 0 with
      | some ks => match Nat.beq (P.cellsOf t) ks.length with
        | true => some ks
        | false => none
      | none => none
    | some (.array m e) => match kinds P n e with
      | some ks => match Nat.beq (P.cellsOf e) ks.length && Nat.beq (P.cellsOf t) (m * ks.length) with
        | true => some (repK ks m)
        | false => none
      | none => none
    | _ => none

def CellsOK : List (Option IntKind) → List Value → Prop
  | [], [] => True
  | some k :: r, v :: s => (∃ n, v = .int k n ∧ (Lit.int k n).wf = true) ∧ CellsOK r s
  | none :: r, v :: s => (∃ b, v = .bool b) ∧ CellsOK r s
  | _, _ => False

theorem CellsOK.length : ∀ {ks : List (Option IntKind)} {cs : List Value}, CellsOK ks cs → cs.length = ks.length
  | [], [], _ => rfl
  | some k :: r, v :: s, h => by simp [CellsOK.length h.2]
  | none :: r, v :: s, h => by simp [CellsOK.length h.2]
  | [], _ :: _, h => False.elim h
  | none :: _, [], h => False.elim h
  | some _ :: _, [], h => False.elim h
theorem CellsOK.nil {cs : List Value} (h : CellsOK [] cs) : cs = [] := by
  cases cs with
  | nil => rfl
  | cons _ _ => exact False.elim h
theorem CellsOK.cons_int {k : IntKind} {r : List (Option IntKind)} {cs : List Value} (h : CellsOK (some k :: r) cs) : ∃ n s, cs = .int k n :: s ∧ (Lit.int k n).wf = true ∧ CellsOK r s := by
  cases cs with
  | nil => exact False.elim h
  | cons v s =>
    obtain ⟨⟨n, rfl, hw⟩, h2⟩ := h
    exact ⟨n, s, rfl, hw, h2⟩
theorem CellsOK.cons_bool {r : List (Option IntKind)} {cs : List Value} (h : CellsOK (none :: r) cs) : ∃ b s, cs = .bool b :: s ∧ CellsOK r s := by
  cases cs with
  | nil => exact False.elim h
  | cons v s =>
    obtain ⟨⟨n, rfl⟩, h2⟩ := h
    exact ⟨n, s, rfl, h2⟩
theorem CellsOK.append : ∀ {ks js : List (Option IntKind)} {cs ds : List Value}, CellsOK ks cs → CellsOK js ds → CellsOK (ks ++ js) (cs ++ ds)
  | [], js, [], ds, _, h => h
  | some k :: r, js, v :: s, ds, h, h' => ⟨h.1, CellsOK.append h.2 h'⟩
  | none :: r, js, v :: s, ds, h, h' => ⟨h.1, CellsOK.append h.2 h'⟩
  | [], _, _ :: _, _, h, _ => False.elim h
  | none :: _, _, [], _, h, _ => False.elim h
  | some _ :: _, _, [], _, h, _ => False.elim h

section
variable {H : Type} {enc : TypeId × Value → H} {P : Program} {w : World} {base : Nat} {spare : Nat → Bool} {held : Bool}

theorem trod_kinds : ∀ (n : Nat) (fuel : Nat) (t : TypeId) (ks : List (Option IntKind)) (cs : List Value) (x : DataW H × List MemPlace), kinds P n t = some ks → DataW.trod enc P w base spare held fuel t cs = some x → CellsOK ks cs := by
  intro n
  induction n with
  | zero => intro fuel t ks cs x h; simp [kinds] at h
  | succ n ih =>
    intro fuel t ks cs x h hx
    simp only [kinds] at h
    split at h
    · rename_i k hu
      cases h
      obtain ⟨m, rfl, _, hw⟩ := DataW.trod_int hu hx
      exact ⟨⟨m, rfl, hw⟩, trivial⟩
    · rename_i hu
      cases h
      obtain ⟨b, rfl, _⟩ := DataW.trod_bool hu hx
      exact ⟨⟨b, rfl⟩, trivial⟩
    · rename_i fs hu
      split at h
      · rename_i ks' hks
        split at h
        · rename_i hq
          cases h
          have hq' := nbeq.1 hq
          obtain ⟨xs, m, _, _, hl, hxl, hf⟩ := DataW.trod_struct hu hx
          have main : ∀ (l : List Field) (i off : Nat) (js : List (Option IntKind)), fieldsK (kinds P n) P l off = some js → (∀ j f, l[j]? = some f → fs[i + j]? = some f) → off + js.length = cs.length → CellsOK js (cs.drop off) := by
            intro l
            induction l with
            | nil =>
              intro i off js hj _ hlen
              simp only [fieldsK, Option.some.injEq] at hj
              subst hj
              simp at hlen
              rw [List.drop_eq_nil_of_le (by omega)]
              trivial
            | cons f r ihl =>
              intro i off js hj hget hlen
              simp only [fieldsK] at hj
              split at hj
              · rename_i kf hkf
                split at hj
                · rename_i hq2
                  simp only [Bool.and_eq_true] at hq2
                  have e1 := nbeq.1 hq2.1
                  have e2 := nbeq.1 hq2.2
                  cases hr : fieldsK (kinds P n) P r (off + kf.length) with
                  | none => simp [hr, catK] at hj
                  | some jr =>
                    rw [hr] at hj
                    simp only [catK, Option.some.injEq] at hj
                    subst hj
                    have hfi := hget 0 f (by simp)
                    rw [Nat.add_zero] at hfi
                    have h1 := hf i f hfi
                    have hxi : i < xs.length := by
                      rw [hxl]
                      exact (Array.getElem?_eq_some_iff.1 hfi).1
                    rw [List.getElem?_eq_getElem hxi] at h1
                    have h2 := ih m f.type kf _ _ hkf h1
                    rw [e1, e2] at h2
                    have h3 := ihl (i + 1) (off + kf.length) jr hr (fun j g hg => by
                      have := hget (j + 1) g (by simpa using hg)
                      rwa [show i + (j + 1) = i + 1 + j by omega] at this) (by simp at hlen; omega)
                    have h4 := h2.append h3
                    rwa [← List.drop_drop, List.take_append_drop] at h4
                · cases hj
              · cases hj
          have := main fs.toList 0 0 ks hks (fun j f hj => by simpa using hj) (by omega)
          simpa using this
        · cases h
      · cases h
    · rename_i m e hu
      split at h
      · rename_i ke hke
        split at h
        · rename_i hq
          cases h
          simp only [Bool.and_eq_true] at hq
          have e1 := nbeq.1 hq.1
          have e2 := nbeq.1 hq.2
          obtain ⟨xs, mm, _, _, hl, hxl, hf⟩ := DataW.trod_array hu hx
          have main : ∀ (q : Nat), q ≤ m → CellsOK (repK ke q) (cs.drop ((m - q) * ke.length)) := by
            intro q
            induction q with
            | zero =>
              intro _
              rw [List.drop_eq_nil_of_le (by rw [hl, e2]; exact Nat.le_refl _)]
              trivial
            | succ q ihq =>
              intro hq'
              have h1 := hf (m - (q + 1)) (by omega)
              have hxi : m - (q + 1) < xs.length := by rw [hxl]; omega
              rw [List.getElem?_eq_getElem hxi] at h1
              have h2 := ih mm e ke _ _ hke h1
              rw [e1] at h2
              have h3 := ihq (by omega)
              have e3 : (m - q) * ke.length = (m - (q + 1)) * ke.length + ke.length := by
                rw [show m - q = m - (q + 1) + 1 by omega, Nat.add_mul, Nat.one_mul]
              rw [e3] at h3
              have h4 := h2.append h3
              rw [← List.drop_drop, List.take_append_drop] at h4
              exact h4
          have := main m (Nat.le_refl _)
          simpa using this
        · cases h
      · cases h
    · cases h

/-- An aggregate that came in: its cells. -/
theorem open_flat {r : Reach} {b0 : Nat} {t : TypeId} {v : Value} {d : DataW H} {p : List MemPlace} {n : Nat} {ks : List (Option IntKind)} (hk : kinds P n t = some ks) (hag : isAggT P t = some true)
    (hv : Value.okWide P w r b0 t v) (h : DataW.Trod enc P w base spare held t v d p) : ∃ cs : List Value, v = .agg cs.toArray ∧ CellsOK ks cs := by
  have hcs : ∃ cs, v = .agg cs := by
    unfold isAggT at hag
    unfold Value.okWide at hv
    split at hag
    · rename_i fs hu
      rw [hu] at hv
      obtain ⟨cs, h1, _⟩ := hv
      exact ⟨cs, h1⟩
    · rename_i m e hu
      rw [hu] at hv
      obtain ⟨cs, h1, _⟩ := hv
      exact ⟨cs, h1⟩
    · cases hag
    · cases hag
  obtain ⟨cs, rfl⟩ := hcs
  obtain ⟨fuel, hf⟩ := h
  exact ⟨cs.toList, by simp, trod_kinds n fuel t ks cs.toList _ hk hf⟩

/-- The value at a place in a row, by its kind. -/
def rowF (ks : List (Option IntKind)) (g : Nat → Nat → Int) (b : Nat → Nat → Bool) (i j : Nat) : Value :=
  match ks[j]? with
  | some (some k) => .int k (g i j)
  | some none => .bool (b i j)
  | none => undef

def asI : Value → Int
  | .int _ n => n
  | _ => 0
def asB : Value → Bool
  | .bool b => b
  | _ => false

theorem CellsOK.get : ∀ {ks : List (Option IntKind)} {cs : List Value}, CellsOK ks cs → ∀ (j : Nat) (v : Value), cs[j]? = some v →
    (match ks[j]? with
     | some (some k) => v = .int k (asI v) ∧ (Lit.int k (asI v)).wf = true
     | some none => v = .bool (asB v)
     | none => False)
  | [], [], _, j, v, h => by simp at h
  | some k :: r, u :: s, hc, j, v, h => by
    cases j with
    | zero =>
      simp at h
      subst h
      obtain ⟨n, rfl, hw⟩ := hc.1
      exact ⟨rfl, hw⟩
    | succ j => exact CellsOK.get hc.2 j v (by simpa using h)
  | none :: r, u :: s, hc, j, v, h => by
    cases j with
    | zero =>
      simp at h
      subst h
      obtain ⟨b, rfl⟩ := hc.1
      rfl
    | succ j => exact CellsOK.get hc.2 j v (by simpa using h)
  | [], _ :: _, h, _, _, _ => False.elim h
  | none :: _, [], h, _, _, _ => False.elim h
  | some _ :: _, [], h, _, _, _ => False.elim h

/-- A slice of such elements that came in. -/
theorem open_rows {t e : TypeId} {a : Option Addr} {len cap : Nat} {d : DataW H} {p : List MemPlace} {n : Nat} {ks : List (Option IntKind)} (ht : P.underlying t = some (.slice e)) (hk : kinds P n e = some ks) (hcells : P.cellsOf e = ks.length) (hpos : 1 ≤ ks.length)
    (h : DataW.Trod enc P w base spare held t (.slice a len cap) d p) :
    len = 0 ∨ ∃ b o, a = some ⟨b, o, none⟩ ∧ len ≤ cap ∧ cap ≤ maxLen ∧ b < w.heap.size ∧ ∃ (g : Nat → Nat → Int) (bb : Nat → Nat → Bool), ∀ i j, i < len → j < ks.length →
      w.cell? ⟨b, o + (i * ks.length + j), none⟩ = some (rowF ks g bb i j) ∧ (rowF ks g bb i j).oneCell' = true ∧ (∀ k, ks[j]? = some (some k) → (Lit.int k (g i j)).wf = true) := by
  obtain ⟨fuel, hf⟩ := h
  rcases DataW.trod_slice ht hf with ⟨h1, _⟩ | ⟨ad, l, c, elems, rest, m, _, h1, h2, _, hlc, hcm, hel, hget, _, _⟩
  · simp [Value.cells] at h1
    exact .inl h1.2.1
  · simp [Value.cells] at h1
    obtain ⟨rfl, rfl, rfl⟩ := h1
    by_cases h0 : len = 0
    · exact .inl h0
    · refine .inr ?_
      -- each element's cells
      have helem : ∀ i, i < len → ∃ cs : List Value, w.cells? base (ad.add (i * ks.length)) ks.length = some cs ∧ CellsOK ks cs := by
        intro i hi
        have h3 := hget i hi
        rw [hcells] at h3
        have hil : i < elems.length := by omega
        rw [List.getElem?_eq_getElem hil] at h3
        cases hc : w.cells? base (ad.add (i * ks.length)) ks.length with
        | none => simp [hc] at h3
        | some cs =>
          rw [hc] at h3
          exact ⟨cs, rfl, trod_kinds n m e ks cs _ hk h3⟩
      have hcell : ∀ i j, i < len → j < ks.length → ∃ v, w.cell? ((ad.add (i * ks.length)).add j) = some v ∧
          (match ks[j]? with
           | some (some k) => v = .int k (asI v) ∧ (Lit.int k (asI v)).wf = true
           | some none => v = .bool (asB v)
           | none => False) := by
        intro i j hi hj
        obtain ⟨cs, hc, hok⟩ := helem i hi
        obtain ⟨_, hl, hg⟩ := World.cells?_some hc
        have hjl : j < cs.length := by rw [hok.length]; exact hj
        exact ⟨cs[j], by rw [hg j (by omega)]; simp [hjl], hok.get j _ (by simp [hjl])⟩
      obtain ⟨b, o, sp⟩ := ad
      have hsp : sp = none := by
        obtain ⟨v, hv, _⟩ := hcell 0 0 (by omega) (by omega)
        rw [Nat.zero_mul] at hv
        simp only [Addr.add, if_true] at hv
        cases sp with
        | none => rfl
        | some q =>
          unfold World.cell? at hv
          split at hv
          · simp at hv
          · cases hv
      subst hsp
      have hadd : ∀ i j, ((⟨b, o, none⟩ : Addr).add (i * ks.length)).add j = ⟨b, o + (i * ks.length + j), none⟩ := by
        intro i j
        rw [addr_add, addr_add, Nat.add_assoc]
      have hb : b < w.heap.size := by
        obtain ⟨v, hv, _⟩ := hcell 0 0 (by omega) (by omega)
        rw [hadd] at hv
        exact World.block_lt_of_cell? w _ hv
      refine ⟨b, o, rfl, hlc, hcm, hb, fun i j => asI ((w.cell? ⟨b, o + (i * ks.length + j), none⟩).getD undef), fun i j => asB ((w.cell? ⟨b, o + (i * ks.length + j), none⟩).getD undef), fun i j hi hj => ?_⟩
      obtain ⟨v, hv, hm⟩ := hcell i j hi hj
      rw [hadd] at hv
      simp only [rowF, hv, Option.getD_some]
      split at hm
      · rename_i k hkj
        obtain ⟨h3, h4⟩ := hm
        simp only [hkj]
        refine ⟨by rw [← h3], rfl, fun k' hk' => ?_⟩
        simp only [Option.some.injEq] at hk'
        rw [← hk']
        exact h4
      · rename_i hkj
        simp only [hkj]
        exact ⟨by rw [← hm], rfl, fun k' hk' => by simp at hk'⟩
      · exact hm.elim
end

end Go.Proofs.Ytmaddijeiniliaa.Sy
