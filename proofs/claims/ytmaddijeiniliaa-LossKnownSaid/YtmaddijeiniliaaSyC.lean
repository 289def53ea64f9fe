/-
  SyC: one operation: what aop tells is what the model's operation does.
-/
import Derived.Test.YtmaddijeiniliaaSyB
namespace Go.Proofs.Ytmaddijeiniliaa.Sy
open Go Go.RowKit
set_option linter.unusedVariables false

theorem nble {a b : Nat} : Nat.ble a b = true ↔ a ≤ b := by simp

def OpRun (P : Program) (R : Value → World → Prop) : Result Next → Prop
  | .ok (.value v) w' => R v w'
  | .ok .skip w' => R undef w'
  | .ok (.enter f args) w' => Calls P f args w' (fun e w'' => ∃ v, e = .returned v ∧ R v w'')
  | _ => False

theorem wp_of_opRun {P : Program} {o : Oper} {a : Act} {w : World} {K : Act → World → Prop} {Q : Exit → Act → World → Prop}
    (h : OpRun P (fun v w' => K (a.put o.dst v) w') ((execOp a.eval o).run P w)) : o.wp P a w K Q := by
  unfold Oper.wp
  generalize (execOp a.eval o).run P w = r at h
  cases r with
  | ok n w' =>
    cases n <;> simp only [OpRun] at h <;> simp only [Oper.upon]
    case value v => exact h
    case skip => exact h
    case enter f args => exact h.mono fun e w'' ⟨v, he, hr⟩ => by subst he; exact hr
  | halt x w' => simp only [OpRun] at h

/-- What is known behind an operation. -/
def Post (W : World) (ρ : Env) (hf : Nat → Option Blk) (F : Nat → Prop) (key : Nat) (v : AV) (ds : Dl) (v' : Value) (w' : World) : Prop :=
  ∃ ρ', Ext ρ ρ' ∧ Rel ρ' v v' ∧ HR W ρ' (appD hf ds) (fun id => F id ∧ ¬ (key ≤ id ∧ id < key + stride)) w'

def Enters (P : Program) (g : FuncId) : Prop := ∀ (vs : Array Value) (w : World), (callFunc g vs).run P w = .ok (.enter g vs) w

def TabOK (P : Program) (T : Tab) : Prop := ∀ g args fh key v ds, T g args fh key = some (true, v, ds) → Enters P g ∧
  ∀ (W : World) (ρ : Env) (hf : Nat → Option Blk) (F : Nat → Prop) (w : World) (vs : List Value), HR W ρ hf F w →
    (∀ id, key ≤ id → id < key + stride → F id) → (∀ id, id ∈ AV.idsL args → look fh id = hf id) → RelL ρ args vs →
    Calls P g vs.toArray w (fun e w' => ∃ v', e = .returned v' ∧ Post W ρ hf F key v ds v' w')

theorem Post.plain {W : World} {ρ : Env} {hf : Nat → Option Blk} {F : Nat → Prop} {key : Nat} {v : AV} {v' : Value} {w : World} (H : HR W ρ hf F w) (h : Rel ρ v v') : Post W ρ hf F key v [] v' w :=
  ⟨ρ, Ext.refl ρ, h, H.congr (fun _ h => h.1) (fun _ => rfl)⟩

section
variable {P : Program} {T : Tab} {key : Nat} {avs : List AV} {fh : Hp} {v : AV} {ds : Dl} {W : World} {ρ : Env} {hf : Nat → Option Blk} {F : Nat → Prop} {w : World} {ev : Operand → Value} {o : Oper}

theorem isAggT_run {t : TypeId} {b : Bool} (h : isAggT P t = some b) (w : World) : (isAgg t).run P w = .ok b w := by
  unfold isAggT at h
  unfold isAgg
  cases hu : P.underlying t with
  | none => simp [hu] at h
  | some d =>
    simp only [hu] at h
    simp only [Sem.run_bind, run_underlying hu, Result.andThen_ok]
    cases d <;> simp_all

theorem sizeT_info {t : TypeId} {n : Nat} (h : sizeT P t = some n) : ∃ i, P.info? t = some i ∧ i.size = n := by
  unfold sizeT at h
  split at h
  · rename_i i hi; cases h; exact ⟨i, hi, rfl⟩
  · cases h

theorem sizeT_run {t : TypeId} {n : Nat} (h : sizeT P t = some n) (w : World) : (sizeOf t).run P w = .ok n w := by
  obtain ⟨i, hi, rfl⟩ := sizeT_info h
  simp [sizeOf, typeInfo, hi]

theorem zeroA_run {t : TypeId} {z : List AV} (h : zeroA P t = some z) (w : World) : ∃ zv : Value, (zeroValue t).run P w = .ok zv w ∧ z = zv.cells.toList.map .val := by
  unfold zeroA at h
  split at h
  · rename_i i hi
    split at h
    · rename_i zv hz
      cases h
      exact ⟨zv, by simp [zeroValue, typeInfo, hi, hz], rfl⟩
    · cases h
  · cases h

theorem elemT_und {t e : TypeId} (h : elemT P t = some e) : P.underlying t = some (.slice e) := by
  unfold elemT at h
  split at h
  · rename_i hu; cases h; exact hu
  · cases h

theorem arrT_und {t e : TypeId} {n : Nat} (h : arrT P t = some (n, e)) : P.underlying t = some (.array n e) := by
  unfold arrT at h
  split at h
  · rename_i hu; cases h; exact hu
  · cases h

theorem oneCell_cells {v : Value} (h : v.oneCell' = true) : v.cells = #[v] := by
  cases v <;> first | rfl | simp [Value.oneCell'] at h

/-- The cells of a value. -/
theorem cellsOf_rel {x : AV} {cs : List AV} {u : Value} (h : x.cellsOf = some cs) (hr : Rel ρ x u) : RelL ρ cs u.cells.toList := by
  cases x with
  | any => simp [AV.cellsOf] at h
  | tup cs => simp [AV.cellsOf] at h
  | agg ds =>
    simp only [AV.cellsOf, Option.some.injEq] at h
    subst h
    obtain ⟨a, rfl, hl⟩ := hr.agg_inv
    exact hl
  | val v =>
    simp only [AV.cellsOf] at h
    split at h
    · rename_i h1
      cases h
      cases hr
      rw [oneCell_cells h1]
      exact .cons (.val _) .nil
    · cases h
  | ptr id k =>
    cases h
    obtain ⟨b, o, c, h1, rfl⟩ := hr.ptr_inv
    exact .cons hr .nil
  | elt id e i j =>
    cases h
    obtain ⟨b, o, c, h1, rfl⟩ := hr.elt_inv
    exact .cons hr .nil
  | slc id k l c =>
    cases h
    obtain ⟨b, o, c, h1, h2, rfl⟩ := hr.slc_inv
    exact .cons hr .nil
  | view id e i l =>
    cases h
    rcases hr.view_inv with ⟨_, a, c, rfl⟩ | ⟨b, o, c, c', h1, h2, rfl⟩
    · exact .cons hr .nil
    · exact .cons hr .nil
  | own id l =>
    cases h
    rcases hr.own_inv with ⟨_, rfl⟩ | ⟨b, c, h1, h2, rfl⟩
    · exact .cons hr .nil
    · exact .cons hr .nil
  | fn f a b =>
    cases h
    obtain ⟨a, b, rfl, h1, h2⟩ := hr.fn_inv
    exact .cons hr .nil

theorem one_rel {x : AV} {u : Value} (h : x.one = true) (hr : Rel ρ x u) : u.oneCell' = true := by
  cases hr <;> first | rfl | (simp [AV.one] at h; done) | (simpa [AV.one] using h)

theorem allOne_rel : ∀ {cs : List AV} {vs : List Value}, allOne cs = true → RelL ρ cs vs → ∀ u, u ∈ vs → u.oneCell' = true
  | [], vs, _, hr, u, hu => by rw [hr.nil_inv] at hu; cases hu
  | x :: r, vs, h, hr, u, hu => by
    obtain ⟨v, s, rfl, h1, h2⟩ := hr.cons_inv
    simp only [allOne, Bool.and_eq_true] at h
    rcases List.mem_cons.1 hu with rfl | hu
    · exact one_rel h.1 h1
    · exact allOne_rel h.2 h2 u hu

/-- A new block of known cells. -/
theorem post_cells (H : HR W ρ hf F w) (hkey : ∀ id, key ≤ id → id < key + stride → F id) {ty : TypeId} {cs : List AV} {vs : Array Value} (hr : RelL ρ cs vs.toList) {v : AV} {v' : Value}
    (hv : ∀ ρ', Ext ρ ρ' → ρ' key = some (w.heap.size, 0, 0) → Rel ρ' v v') :
    Post W ρ hf F key v [(key, some (.cells ty cs))] v' (w.alloc (.cells vs ty)) := by
  have hk : F key := hkey key (Nat.le_refl _) (by simp [stride])
  have hext := addE_ext (H.free key hk) (w.heap.size, 0, 0)
  refine ⟨addE ρ key (w.heap.size, 0, 0), hext, hv _ hext (by simp [addE]), ?_⟩
  refine (H.alloc hk (F' := fun id => F id ∧ ¬ (key ≤ id ∧ id < key + stride)) (fun id h => ⟨h.1, ?_⟩) vs ty 0 (.cells ty cs) ?_)
  · rintro rfl
    exact h.2 ⟨Nat.le_refl _, by simp [stride]⟩
  · exact ⟨rfl, H.below.size, vs, heap_alloc_new w _, hr.mono hext⟩

theorem partA_run {t : TypeId} {cs : List AV} {k : Nat} {v : AV} {a : Array Value} (h : partA P t cs k = some v) (hr : RelL ρ cs a.toList) (w : World) :
    ∃ v', (part t a k).run P w = .ok v' w ∧ Rel ρ v v' := by
  unfold partA at h
  split at h
  · rename_i hag
    split at h
    · rename_i n hn
      split at h
      · cases h
        rename_i hle
        refine ⟨.agg (a.extract k (k + n)), ?_, ?_⟩
        · simp [part, isAggT_run hag, sizeT_run hn]
        · have h1 := (hr.drop k).take n
          have h2 := Rel.agg_mk h1
          have e : (List.take n (List.drop k a.toList)).toArray = a.extract k (k + n) := by
            apply Array.ext'
            simp [Array.toList_extract, List.extract_eq_take_drop]
          rwa [e] at h2
      · cases h
    · cases h
  · rename_i hag
    rw [nth?_eq] at h
    obtain ⟨v', h1, h2⟩ := hr.get h
    refine ⟨v', ?_, h2⟩
    have h3 : a[k]? = some v' := by simpa using h1
    simp [part, isAggT_run hag, h3]
  · cases h

theorem cells_here {w : World} {b k : Nat} {vs : Array Value} {ty : TypeId} (h : w.heap[b]? = some (.cells vs ty (0, 0))) : w.cell? ⟨b, k, none⟩ = vs[k]? := by
  simp [World.cell?, h]

theorem addr_add (b o k : Nat) : (⟨b, o, none⟩ : Addr).add k = ⟨b, o + k, none⟩ := by
  unfold Addr.add
  split
  · subst_vars; rfl
  · rfl

/-- A whole value read out of known cells. -/
theorem loadVar_cells {t : TypeId} {b k : Nat} {vs : Array Value} {ty : TypeId} (hb : w.heap[b]? = some (.cells vs ty (0, 0))) {cs : List AV} {v : AV} (h : partA P t cs k = some v) (hr : RelL ρ cs vs.toList) :
    ∃ v', (loadVar t ⟨b, k, none⟩).run P w = .ok v' w ∧ Rel ρ v v' := by
  unfold partA at h
  split at h
  · rename_i hag
    split at h
    · rename_i n hn
      split at h
      · cases h
        rename_i hle
        have hle' : k + n ≤ cs.length := nble.1 hle
        have hl : (List.take n (List.drop k vs.toList)).length = n := by
          have := hr.1
          simp only [List.length_take, List.length_drop]
          omega
        refine ⟨.agg (List.take n (List.drop k vs.toList)).toArray, ?_, Rel.agg_mk ((hr.drop k).take n)⟩
        have hrun := run_loadCells_list (P := P) w ⟨b, k, none⟩ (List.take n (List.drop k vs.toList)) (fun j u hu => by
          rw [addr_add, cells_here hb]
          rw [List.getElem?_take] at hu
          split at hu
          · rw [List.getElem?_drop] at hu; simpa using hu
          · cases hu)
        rw [hl] at hrun
        simp [loadVar, isAggT_run hag, sizeT_run hn, hrun]
      · cases h
    · cases h
  · rename_i hag
    rw [nth?_eq] at h
    obtain ⟨v', h1, h2⟩ := hr.get h
    refine ⟨v', ?_, h2⟩
    have h3 : w.cell? ⟨b, k, none⟩ = some v' := by rw [cells_here hb]; simpa using h1
    simp [loadVar, isAggT_run hag, h3]
  · cases h

/-- A whole value read out of a row. -/
theorem loadVar_row {t : TypeId} {b o esz i j m n : Nat} {f : Nat → Nat → Value} {ag : Bool} (hag : isAggT P t = some ag) (hm : sizeT P t = some m) (hj : j + m ≤ esz) (h1 : ag = true ∨ m = 1) (hi : i < n)
    (hc : ∀ i j, i < n → j < esz → w.cell? ⟨b, o + (i * esz + j), none⟩ = some (f i j)) :
    (loadVar t ⟨b, o + (i * esz + j), none⟩).run P w = .ok (match ag with
      | true => .agg ((List.range' j m).map fun q => f i q).toArray
      | false => f i j) w := by
  cases ag with
  | true =>
    have hl : ((List.range' j m).map fun q => f i q).length = m := by simp
    have hrun := run_loadCells_list (P := P) w ⟨b, o + (i * esz + j), none⟩ ((List.range' j m).map fun q => f i q) (fun q u hu => by
      rw [addr_add]
      have hq : q < m := by
        have := (List.getElem?_eq_some_iff.1 hu).1
        simpa using this
      have e : f i (j + q) = u := by simpa [List.getElem?_range', hq] using hu
      have := hc i (j + q) hi (by omega)
      rw [e] at this
      rw [show o + (i * esz + j) + q = o + (i * esz + (j + q)) by omega]
      exact this)
    rw [hl] at hrun
    simp [loadVar, isAggT_run hag, sizeT_run hm, hrun]
  | false =>
    have hm1 : m = 1 := by rcases h1 with h | h; cases h; exact h
    simp [loadVar, isAggT_run hag, hc i j hi (by omega)]

theorem vals_map (l : List Nat) (f : Nat → Value) : RelL ρ (l.map fun q => .val (f q)) (l.map f) := by
  have := RelL.vals (ρ := ρ) (l.map f)
  rwa [List.map_map] at this

/-- A value read through an address. -/
theorem loadA_run (H : HR W ρ hf F w) {t : TypeId} {x : AV} {u : Value} (hfh : ∀ id, id ∈ x.ids → look fh id = hf id) (h : loadA P t x fh = some (true, v)) (hr : Rel ρ x u) :
    ∃ v', (Instr.loadAt t u).run P w = .ok v' w ∧ (∃ a, u = .pointer (some a) ∧ (loadVar t a).run P w = .ok v' w) ∧ Rel ρ v v' := by
  unfold loadA at h
  split at h
  · rename_i id k
    obtain ⟨b, o, c, he, rfl⟩ := hr.ptr_inv
    have hl := hfh id (by simp [AV.ids])
    split at h
    · rename_i ty cs hc
      split at h
      · rename_i v0 hp
        cases h
        rw [hl] at hc
        obtain ⟨rfl, _, vs, hb, hcs⟩ := H.blk id b o c _ he hc
        obtain ⟨v', h1, h2⟩ := loadVar_cells (P := P) hb hp hcs
        rw [Nat.zero_add]
        exact ⟨v', by simp [Instr.loadAt, Instr.sureAddr, h1], ⟨_, rfl, h1⟩, h2⟩
      · cases h
    · cases h
  · rename_i id esz i j
    obtain ⟨b, o, c, he, rfl⟩ := hr.elt_inv
    have hl := hfh id (by simp [AV.ids])
    have key : ∀ (n : Nat) (f : Nat → Nat → Value) (esz' : Nat) (ag : Bool) (m : Nat), isAggT P t = some ag → sizeT P t = some m → (Nat.beq esz' esz && Nat.ble (j + m) esz && (ag || Nat.beq m 1)) = true → i < n →
        (∀ i j, i < n → j < esz' → w.cell? ⟨b, o + (i * esz' + j), none⟩ = some (f i j)) →
        ∃ v', (Instr.loadAt t (.pointer (some ⟨b, o + (i * esz + j), none⟩))).run P w = .ok v' w ∧ (∃ a, (Value.pointer (some ⟨b, o + (i * esz + j), none⟩)) = .pointer (some a) ∧ (loadVar t a).run P w = .ok v' w) ∧ Rel ρ (match ag with
          | true => .agg ((List.range' j m).map fun q => .val (f i q))
          | false => .val (f i j)) v' := by
      intro n f esz' ag m hag hm hq hi hc
      simp only [Bool.and_eq_true, Bool.or_eq_true] at hq
      obtain ⟨⟨q1, q2⟩, q3⟩ := hq
      obtain rfl := nbeq.1 q1
      have hrun := loadVar_row (P := P) hag hm (nble.1 q2) (q3.imp (fun h => h) nbeq.1) hi hc
      refine ⟨_, by simp only [Instr.loadAt, Instr.sureAddr, Sem.run_bind, Sem.run_pure, Result.andThen_ok]; exact hrun, ⟨_, rfl, hrun⟩, ?_⟩
      cases ag with
      | true => exact Rel.agg_mk (vals_map _ _)
      | false => exact .val _
    split at h
    · rename_i ty esz' n f hc
      rw [hl] at hc
      split at h
      · rename_i ag m hag hm
        split at h
        · rename_i hq
          simp only [Option.some.injEq, Prod.mk.injEq, decide_eq_true_eq] at h
          obtain ⟨hi, rfl⟩ := h
          have hblk := H.blk id b o c _ he hc
          exact key n f esz' ag m hag hm hq hi (fun i j h1 h2 => (hblk.2 i j h1 h2).1)
        · cases h
      · cases h
    · rename_i ty esz' n f hc
      rw [hl] at hc
      split at h
      · rename_i ag m hag hm
        split at h
        · rename_i hq
          simp only [Option.some.injEq, Prod.mk.injEq, decide_eq_true_eq] at h
          obtain ⟨hi, rfl⟩ := h
          obtain ⟨rfl, _, vs, hb, _, _, hblk⟩ := H.blk id b o c _ he hc
          exact key n f esz' ag m hag hm hq hi (fun i j h1 h2 => by rw [cells_here hb, Nat.zero_add]; exact (hblk i j h1 h2).1)
        · cases h
      · cases h
    · cases h
  · cases h
end

end Go.Proofs.Ytmaddijeiniliaa.Sy
