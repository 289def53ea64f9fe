/-
  SyC5: one operation: composite literals; then all of aop.
-/
import Derived.Test.YtmaddijeiniliaaSyC4
namespace Go.Proofs.Ytmaddijeiniliaa.Sy
open Go Go.RowKit
set_option linter.unusedVariables false

section
variable {P : Program} {T : Tab} {key : Nat} {avs : List AV} {fh : Hp} {v : AV} {ds : Dl} {W : World} {ρ : Env} {hf : Nat → Option Blk} {F : Nat → Prop} {w : World} {ev : Operand → Value} {o : Oper}

/-- Parts of a literal: places and values. -/
inductive RelP (ρ : Env) : List (Nat × AV) → List (Nat × Value) → Prop where
  | nil : RelP ρ [] []
  | cons {i : Nat} {a : AV} {v : Value} {r : List (Nat × AV)} {s : List (Nat × Value)} : Rel ρ a v → RelP ρ r s → RelP ρ ((i, a) :: r) ((i, v) :: s)

theorem relP_zip : ∀ (ps : List (Nat × Operand)) (avs : List AV), RelL ρ avs (ps.map fun p => ev p.2) → RelP ρ (zipP ps avs) (ps.map fun p => (p.1, ev p.2))
  | [], avs, h => by cases avs <;> exact .nil
  | (i, x) :: r, avs, h => by
    cases avs with
    | nil => have := h.1; simp at this
    | cons a s =>
      obtain ⟨v, t, e, h1, h2⟩ := h.cons_inv
      simp only [List.map_cons, List.cons.injEq] at e
      obtain ⟨rfl, rfl⟩ := e
      exact .cons h1 (relP_zip r s h2)

theorem foldl_splice : ∀ (l : List Value) (j off : Nat) (cs : Array Value), ((l.zipIdx j).foldl (fun (cs : Array Value) (p : Value × Nat) => cs.setIfInBounds (off + p.2) p.1) cs).toList = spliceV cs.toList (off + j) l
  | [], j, off, cs => by simp [spliceV]
  | u :: r, j, off, cs => by
    simp only [List.zipIdx_cons, List.foldl_cons, spliceV]
    rw [foldl_splice r (j + 1) off, Array.toList_setIfInBounds]
    rfl

theorem fillA_run {place : Nat → Option (Nat × Nat)} {ps : List (Nat × AV)} {vs : List (Nat × Value)} (hp : RelP ρ ps vs) : ∀ {cs cs' : List AV} {a : Array Value}, fillA place cs ps = some cs' → RelL ρ cs a.toList →
    ∃ a', Instr.fill place a vs = some a' ∧ RelL ρ cs' a'.toList := by
  induction hp with
  | nil =>
    intro cs cs' a h hr
    simp only [fillA, Option.some.injEq] at h
    subst h
    exact ⟨a, rfl, hr⟩
  | @cons i x u r s h1 h2 ih =>
    intro cs cs' a h hr
    simp only [fillA] at h
    split at h
    · rename_i off size xs hpl hxs
      split at h
      · rename_i hq
        simp only [Bool.and_eq_true] at hq
        have q1 := nbeq.1 hq.1
        have q2 := nble.1 hq.2
        have hxr := cellsOf_rel hxs h1
        have hlen : u.cells.size = size := by
          have := hxr.1
          simp at this
          omega
        have hal : cs.length = a.size := by simpa using hr.1
        have hs := splice_rel xs _ cs _ off hr hxr
        have hf0 := foldl_splice u.cells.toList 0 off a
        rw [Nat.add_zero] at hf0
        have e : u.cells.zipIdx.foldl (fun (cs : Array Value) (p : Value × Nat) => cs.setIfInBounds (off + p.2) p.1) a = (u.cells.toList.zipIdx 0).foldl (fun (cs : Array Value) (p : Value × Nat) => cs.setIfInBounds (off + p.2) p.1) a := by
          rw [← Array.foldl_toList]
          simp
        obtain ⟨a', h3, h4⟩ := ih (a := u.cells.zipIdx.foldl (fun (cs : Array Value) (p : Value × Nat) => cs.setIfInBounds (off + p.2) p.1) a) h (by rw [e, hf0]; exact hs)
        refine ⟨a', ?_, h4⟩
        simp only [Instr.fill, hpl]
        rw [if_neg (by simp [hlen]; omega)]
        exact h3
      · cases h
    · cases h

theorem fill_congr {p q : Nat → Option (Nat × Nat)} (h : ∀ i, p i = q i) (a : Array Value) (vs : List (Nat × Value)) : Instr.fill p a vs = Instr.fill q a vs := by
  have : p = q := funext h
  rw [this]

theorem mapM_sizes : ∀ (fs : List Field), (fs.all fun f => (P.info? f.type).isSome) = true → (fs.mapM (m := Sem) fun f => do pure (f.offset, ← sizeOf f.type)).run P w = .ok (fs.map fun f => (f.offset, P.cellsOf f.type)) w
  | [], _ => by simp
  | f :: r, h => by
    simp only [List.all_cons, Bool.and_eq_true] at h
    obtain ⟨i, hi⟩ := Option.isSome_iff_exists.1 h.1
    have ih := mapM_sizes r h.2
    have hs : (sizeOf f.type).run P w = .ok i.size w := by simp [sizeOf, typeInfo, hi]
    rw [List.mapM_cons]
    simp only [Sem.run_bind, hs, Result.andThen_ok, Sem.run_pure]
    rw [ih]
    simp [Program.cellsOf, hi]

theorem buildA_run {t : TypeId} {ps : List (Nat × AV)} {parts : Array (Nat × Value)} (h : buildA P t ps = some v) (hp : RelP ρ ps parts.toList) (w : World) :
    ∃ v', (Instr.build t parts).run P w = .ok v' w ∧ Rel ρ v v' := by
  unfold buildA at h
  split at h
  · rename_i z fs hz hu
    obtain ⟨zv, hzv, rfl⟩ := zeroA_run hz w
    split at h
    · rename_i hall
      split at h
      · rename_i cs hcs
        cases h
        obtain ⟨a', h1, h2⟩ := fillA_run hp (a := zv.cells) hcs (RelL.vals _)
        have hm := mapM_sizes (P := P) (w := w) fs.toList hall
        have hplace : ∀ i, ((fs.map fun f => (f.offset, P.cellsOf f.type))[i]?) = placeS P fs.toList i := by
          intro i
          simp only [placeS]
          cases hf0 : fs.toList[i]? with
          | none =>
            have : fs[i]? = none := by simpa using hf0
            simp [this]
          | some f =>
            have hfi : fs[i]? = some f := by simpa using hf0
            have hmem : f ∈ fs.toList := List.mem_of_getElem? hf0
            obtain ⟨inf, hinf⟩ := Option.isSome_iff_exists.1 (List.all_eq_true.1 hall f hmem)
            simp [hfi, sizeT, hinf, Program.cellsOf]
        refine ⟨.agg a', ?_, Rel.agg (by simpa using h2.1) fun i c v hc hv => h2.2 i c v hc (by simpa using hv)⟩
        have hfill : Instr.fill (fun i => (fs.map fun f => (f.offset, P.cellsOf f.type))[i]?) zv.cells parts.toList = some a' := by rw [fill_congr hplace]; exact h1
        have hmA : (fs.mapM (m := Sem) fun f => do pure (f.offset, ← sizeOf f.type)).run P w = .ok (fs.map fun f => (f.offset, P.cellsOf f.type)) w := by
          rw [Array.mapM_eq_mapM_toList]
          simp only [Sem.run_map, hm, Result.andThen_ok]
          congr 1
          apply Array.ext'
          simp
        simp only [Instr.build, Sem.run_bind, hzv, Result.andThen_ok, Sem.run_pure, run_underlying hu, hmA, hfill]
      · cases h
    · cases h
  · rename_i z n e hz hu
    obtain ⟨zv, hzv, rfl⟩ := zeroA_run hz w
    split at h
    · rename_i s hs
      split at h
      · rename_i cs hcs
        cases h
        obtain ⟨a', h1, h2⟩ := fillA_run hp (a := zv.cells) hcs (RelL.vals _)
        refine ⟨.agg a', ?_, Rel.agg (by simpa using h2.1) fun i c v hc hv => h2.2 i c v hc (by simpa using hv)⟩
        simp only [Instr.build, Sem.run_bind, hzv, Result.andThen_ok, Sem.run_pure, run_underlying hu, sizeT_run hs, h1]
      · cases h
    · cases h
  · cases h

theorem repA_eq (z : List AV) : ∀ (n : Nat) (i : Nat), 1 ≤ z.length → i < n * z.length → (repA z n)[i]? = z[i % z.length]?
  | 0, i, _, h => by simp at h
  | n + 1, i, h1, h => by
    simp only [repA]
    by_cases hi : i < z.length
    · rw [List.getElem?_append_left hi, Nat.mod_eq_of_lt hi]
    · rw [List.getElem?_append_right (by omega), repA_eq z n (i - z.length) h1 (by rw [Nat.add_mul, Nat.one_mul] at h; omega)]
      rw [Nat.mod_eq_sub_mod (a := i) (by omega)]

theorem repA_length (z : List AV) : ∀ n, (repA z n).length = n * z.length
  | 0 => by simp [repA]
  | n + 1 => by simp [repA, repA_length z n, Nat.add_mul]; omega

theorem buildSliceA_run {t e : TypeId} {len : Nat} {ps : List (Nat × AV)} {cs : List AV} {parts : Array (Nat × Value)} (h : buildSliceA P t len ps = some (e, cs)) (hp : RelP ρ ps parts.toList) (w : World) :
    ∃ vs : Array Value, (Instr.buildSlice t len parts).run P w = .ok (.slice (some ⟨w.heap.size, 0, none⟩) len len) (w.alloc (.cells vs e)) ∧ RelL ρ cs vs.toList := by
  unfold buildSliceA at h
  split at h
  · rename_i e' he
    split at h
    · rename_i s z hs hz
      split at h
      · rename_i hq
        simp only [Bool.and_eq_true] at hq
        obtain ⟨⟨⟨q1, q2⟩, q3⟩, q4⟩ := hq
        have q1 := nbeq.1 q1
        have q2 := nble.1 q2
        have q3 := nble.1 q3
        have q4 := nble.1 q4
        split at h
        · rename_i cs' hcs
          cases h
          obtain ⟨zv, hzv, hzl⟩ := zeroA_run hz w
          have hzs : zv.cells.size = s := by rw [hzl] at q1; simpa using q1
          have hstart : RelL ρ (repA z len) ((Array.range (len * s)).map (zv.cells[· % zv.cells.size]!)).toList := by
            refine ⟨by simp [repA_length, q1], fun i c v hc hv => ?_⟩
            have hi : i < len * s := by
              have := (List.getElem?_eq_some_iff.1 hc).1
              rwa [repA_length, q1] at this
            rw [repA_eq z len i (by omega) (by rw [q1]; exact hi), q1, hzl] at hc
            have hm : i % s < zv.cells.size := by rw [hzs]; exact Nat.mod_lt _ (by omega)
            simp only [List.getElem?_map, Array.getElem?_toList] at hc
            rw [Array.getElem?_eq_getElem hm] at hc
            simp at hc
            subst hc
            simp [hi, hzs] at hv
            rw [getElem!_pos zv.cells (i % s) hm] at hv
            subst hv
            exact .val _
          obtain ⟨a', h1, h2⟩ := fillA_run hp hcs hstart
          refine ⟨a', ?_, h2⟩
          have hz0 : ¬ (len * s = 0) := by
            have : 1 * 1 ≤ len * s := Nat.mul_le_mul q4 q2
            omega
          have hbig : ¬ (len * s > 16777216) := by omega
          have h224 : (2 : Nat) ^ 24 = 16777216 := by decide
          simp only [Instr.buildSlice, Sem.run_bind, run_underlying (elemT_und he), Result.andThen_ok, Sem.run_pure, sizeT_run hs, h224, if_neg hbig, if_neg hz0, hzv, h1, newRow, run_newObj, World.alloc_eq]
        · cases h
      · cases h
    · cases h
  · cases h

theorem intsOf_rel : ∀ {xs : List AV} {us : List Value} {ns : List Int}, intsOf xs = some ns → RelL ρ xs us → us = ns.map (Value.int .i64)
  | [], us, ns, h, hr => by simp [intsOf] at h; rw [hr.nil_inv, h]; rfl
  | x :: r, us, ns, h, hr => by
    obtain ⟨u, s, rfl, h1, h2⟩ := hr.cons_inv
    unfold intsOf at h
    split at h
    · rename_i heq
      cases heq
    · rename_i n r' heq
      cases heq
      split at h
      · rename_i l hl
        cases h
        rw [h1.val_inv, intsOf_rel hl h2]
        rfl
      · cases h
    · cases h

theorem post_row (H : HR W ρ hf F w) (hkey : ∀ id, key ≤ id → id < key + stride → F id) {ty : TypeId} {len : Nat} {cs : List AV} {vs : Array Value} {v : AV} {ds : Dl} (h : rowOf P T key len ty cs = some (v, ds)) (hr : RelL ρ cs vs.toList) :
    Post W ρ hf F key v ds (.slice (some ⟨w.heap.size, 0, none⟩) len len) (w.alloc (.cells vs ty)) := by
  unfold rowOf at h
  split at h
  · split at h
    · rename_i s ns hs hns
      split at h
      · rename_i hq
        cases h
        have hq := nbeq.1 hq
        have e := intsOf_rel hns hr
        have hl : ns.length = len * s := by
          have h1 : vs.toList.length = cs.length := hr.1.symm
          rw [e, List.length_map] at h1
          omega
        have hk : F key := hkey key (Nat.le_refl _) (by simp [stride])
        have hext := addE_ext (H.free key hk) (w.heap.size, 0, len)
        refine ⟨addE ρ key (w.heap.size, 0, len), hext, Rel.own (by simp [addE]) (Nat.le_refl _), ?_⟩
        refine (H.alloc hk (F' := fun id => F id ∧ ¬ (key ≤ id ∧ id < key + stride)) (fun id h => ⟨h.1, ?_⟩) vs ty len _ ?_)
        · rintro rfl
          exact h.2 ⟨Nat.le_refl _, by simp [stride]⟩
        · refine ⟨rfl, H.below.size, vs, heap_alloc_new w _, by rw [← Array.length_toList, e, List.length_map, hl], Nat.le_refl _, fun i j hi hj => ⟨?_, rfl⟩⟩
          have hlt : i * s + j < ns.length := by
            have : (i + 1) * s ≤ len * s := Nat.mul_le_mul_right s hi
            rw [Nat.add_mul, Nat.one_mul] at this
            omega
          rw [← Array.getElem?_toList, e, List.getElem?_map]
          unfold nthI
          simp [List.getElem?_eq_getElem hlt]
      · cases h
    · cases h
  · cases h

theorem relL_one {a : AV} {vs : List Value} (h : RelL ρ [a] vs) : ∃ u, vs = [u] ∧ Rel ρ a u := by
  obtain ⟨u, r, rfl, h1, h2⟩ := h.cons_inv
  rw [h2.nil_inv]
  exact ⟨u, rfl, h1⟩
theorem relL_two {a b : AV} {vs : List Value} (h : RelL ρ [a, b] vs) : ∃ u z, vs = [u, z] ∧ Rel ρ a u ∧ Rel ρ b z := by
  obtain ⟨u, r, rfl, h1, h2⟩ := h.cons_inv
  obtain ⟨z, rfl, h3⟩ := relL_one h2
  exact ⟨u, z, rfl, h1, h3⟩
theorem relL_three {a b c : AV} {vs : List Value} (h : RelL ρ [a, b, c] vs) : ∃ u z y, vs = [u, z, y] ∧ Rel ρ a u ∧ Rel ρ b z ∧ Rel ρ c y := by
  obtain ⟨u, r, rfl, h1, h2⟩ := h.cons_inv
  obtain ⟨z, y, rfl, h3, h4⟩ := relL_two h2
  exact ⟨u, z, y, rfl, h1, h3, h4⟩

theorem idsL_mem {x : AV} {l : List AV} (h : x ∈ l) {id : Nat} (hi : id ∈ x.ids) : id ∈ AV.idsL l := by
  induction l with
  | nil => cases h
  | cons c r ih =>
    simp only [AV.idsL, List.mem_append]
    rcases List.mem_cons.1 h with rfl | h
    · exact .inl hi
    · exact .inr (ih h)

theorem idsL_append : ∀ (a b : List AV), AV.idsL (a ++ b) = AV.idsL a ++ AV.idsL b
  | [], b => by simp [AV.idsL]
  | x :: r, b => by simp [AV.idsL, idsL_append r b]

theorem sliceA_elem {t : TypeId} {x : AV} {lo hi : Option AV} {r : Bool × AV} (h : sliceA P t x lo hi fh = some r) : ∃ e, elemT P t = some e := by
  unfold sliceA at h
  split at h
  · exact ⟨_, by assumption⟩
  · cases h

theorem sliceAt_eq {t e : TypeId} (h : elemT P t = some e) (x : Value) (lo hi mx : Option Value) (w : World) : (Instr.sliceAt t x lo hi mx).run P w = (Instr.slice t x lo hi mx).run P w := by
  have hu := elemT_und h
  simp [Instr.sliceAt, run_underlying hu]

/-- **What aop tells of an operation, the model does.** -/
theorem aop_sound (hT : TabOK P T) (H : HR W ρ hf F w) (hkey : ∀ id, key ≤ id → id < key + stride → F id) (hfh : ∀ id, id ∈ AV.idsL avs → look fh id = hf id)
    (hev : RelL ρ avs (o.op.operands.toList.map ev)) (h : aop P T key o.op avs fh = some (true, v, ds)) :
    OpRun P (Post W ρ hf F key v ds) ((execOp ev o).run P w) := by
  obtain ⟨dst, op, ty, pos, after, guard⟩ := o
  simp only at hev h ⊢
  unfold aop at h
  split at h
  · -- move
    obtain ⟨u, e, h1⟩ := relL_one hev
    simp [Op.operands] at e
    cases h
    subst e
    simpa [execOp, OpRun] using Post.plain H h1
  · obtain ⟨u, e, h1⟩ := relL_one hev
    simp [Op.operands] at e
    cases h
    subst e
    simpa [execOp, OpRun] using Post.plain H h1
  · -- pick
    rename_i c a b
    obtain ⟨u, z, y, e, h1, h2, h3⟩ := relL_three hev
    simp [Op.operands] at e
    obtain ⟨e1, e2, e3⟩ := e
    cases h1
    simp only [Option.some.injEq, Prod.mk.injEq, true_and] at h
    obtain ⟨rfl, rfl⟩ := h
    cases c
    · simpa [execOp, OpRun, e1, asBool, e3] using Post.plain H h3
    · simpa [execOp, OpRun, e1, asBool, e2] using Post.plain H h2
  · -- alloc
    rename_i t
    split at h
    · rename_i z hz
      cases h
      obtain ⟨zv, hzv, rfl⟩ := zeroA_run hz w
      have := post_cells (v := .ptr key 0) (v' := .pointer (some ⟨w.heap.size, 0, none⟩)) H hkey (ty := t) (cs := zv.cells.toList.map .val) (vs := zv.cells) (RelL.vals _) (fun ρ' _ he => by simpa using Rel.ptr (k := 0) he)
      simpa [execOp, OpRun, Instr.alloc, hzv, newVar, newRow] using this
    · cases h
  · -- box
    rename_i t xo x
    obtain ⟨u, e, h1⟩ := relL_one hev
    simp [Op.operands] at e
    split at h
    · rename_i cs hcs
      cases h
      have hr := cellsOf_rel hcs h1
      have := post_cells (v := .ptr key 0) (v' := .pointer (some ⟨w.heap.size, 0, none⟩)) H hkey (ty := t) hr (fun ρ' _ he => by simpa using Rel.ptr (k := 0) he)
      simpa [execOp, OpRun, Instr.box, e, newVar, newRow] using this
    · cases h
  · -- build
    rename_i t ps
    unfold okV at h
    split at h
    · rename_i x hx
      cases h
      have hp := relP_zip (ρ := ρ) (ev := ev) ps.toList avs (by simpa [Op.operands, Function.comp_def] using hev)
      obtain ⟨v', h1, h2⟩ := buildA_run (parts := ps.map fun (i, x) => (i, ev x)) hx (by simpa using hp) w
      simpa [execOp, OpRun, h1] using Post.plain H h2
    · cases h
  · -- buildSlice
    rename_i t len ps
    split at h
    · rename_i e cs hcs
      have hrow := h
      clear h
      have hp := relP_zip (ρ := ρ) (ev := ev) ps.toList avs (by simpa [Op.operands, Function.comp_def] using hev)
      obtain ⟨vs, h1, h2⟩ := buildSliceA_run (parts := ps.map fun (i, x) => (i, ev x)) hcs (by simpa using hp) w
      split at hrow
      · rename_i v0 ds0 hr0
        cases hrow
        have := post_row (ty := e) H hkey hr0 h2
        simpa [execOp, OpRun, h1] using this
      · cases hrow
        have := post_cells (v := .slc key 0 len len) (v' := .slice (some ⟨w.heap.size, 0, none⟩) len len) H hkey (ty := e) h2 (fun ρ' _ he => by simpa using Rel.slc (k := 0) he (Nat.le_refl len))
        simpa [execOp, OpRun, h1] using this
    · cases h
  · -- load
    rename_i t ao x
    obtain ⟨u, e, h1⟩ := relL_one hev
    simp [Op.operands] at e
    unfold okC at h
    split at h
    · rename_i c x hx
      cases h
      obtain ⟨v', h2, _, h3⟩ := loadA_run H (fun id hid => hfh id (idsL_mem (by simp) hid)) hx h1
      simpa [execOp, OpRun, e, h2] using Post.plain H h3
    · cases h
  · -- store
    rename_i t ao vo x y
    obtain ⟨u, z, e, h1, h2⟩ := relL_two hev
    simp [Op.operands] at e
    split at h
    · rename_i c ds' hx
      cases h
      obtain ⟨w', h3, h4⟩ := storeA_run H (fun id hid => hfh id (idsL_mem (by simp) hid)) hx h1 h2
      have : Post W ρ hf F key vu ds undef w' := ⟨ρ, Ext.refl ρ, .val _, h4.congr (fun _ h => h.1) (fun _ => rfl)⟩
      simpa [execOp, OpRun, e, h3] using this
    · cases h
  · -- binOp
    rename_i bop t xo yo yt x y
    obtain ⟨u, z, e, h1, h2⟩ := relL_two hev
    simp [Op.operands] at e
    unfold okC at h
    split at h
    · rename_i c r hx
      cases h
      obtain ⟨v', h3, h4⟩ := binA_run hx h1 h2 xo yo w
      have : (execOp ev ⟨dst, .binOp bop t xo yo yt, ty, pos, after, guard⟩).run P w = .ok (.value v') w := by
        simp only [execOp, Sem.run_bind, e.1, e.2] at h3 ⊢
        rw [h3]
        rfl
      rw [this]
      exact Post.plain H h4
    · cases h
  · -- not
    rename_i t xo b
    obtain ⟨u, e, h1⟩ := relL_one hev
    simp [Op.operands] at e
    cases h1
    cases h
    simpa [execOp, OpRun, e, Op.unary] using Post.plain H (.val _)
  · -- neg
    rename_i t xo k a
    obtain ⟨u, e, h1⟩ := relL_one hev
    simp [Op.operands] at e
    cases h1
    cases h
    simpa [execOp, OpRun, e, Op.unary, Op.intArith] using Post.plain H (.val (.int k (k.wrap (0 - a))))
  · -- fieldAddr
    rename_i t xo f id k
    obtain ⟨u, e, h1⟩ := relL_one hev
    simp [Op.operands] at e
    split at h
    · rename_i off hoff
      cases h
      obtain ⟨b, p, c, hρ, rfl⟩ := h1.ptr_inv
      have h3 := fieldOff_run hoff b (p + k) w
      have := Rel.ptr (ρ := ρ) (k := k + off) hρ
      rw [← Nat.add_assoc] at this
      simpa [execOp, OpRun, e, h3] using Post.plain H this
    · cases h
  · rename_i t xo f id esz i j
    obtain ⟨u, e, h1⟩ := relL_one hev
    simp [Op.operands] at e
    split at h
    · rename_i off hoff
      cases h
      obtain ⟨b, p, c, hρ, rfl⟩ := h1.elt_inv
      have h3 := fieldOff_run hoff b (p + (i * esz + j)) w
      have := Rel.elt (ρ := ρ) (esz := esz) (i := i) (j := j + off) hρ
      rw [show p + (i * esz + (j + off)) = p + (i * esz + j) + off by omega] at this
      simpa [execOp, OpRun, e, h3] using Post.plain H this
    · cases h
  · -- indexAddr
    rename_i t xo io x k i
    obtain ⟨u, z, e, h1, h2⟩ := relL_two hev
    simp [Op.operands] at e
    cases h2
    unfold okC at h
    split at h
    · rename_i c r hx
      cases h
      obtain ⟨v', h3, h4⟩ := indexAddrA_run (P := P) (w := w) (k := k) hx h1
      simpa [execOp, OpRun, e.1, e.2, h3] using Post.plain H h4
    · cases h
  · -- index
    rename_i t xo io cs k i
    obtain ⟨u, z, e, h1, h2⟩ := relL_two hev
    simp [Op.operands] at e
    cases h2
    split at h
    · rename_i n el hn
      split at h
      · rename_i s hs
        split at h
        · rename_i x hx
          simp only [Option.some.injEq, Prod.mk.injEq] at h
          obtain ⟨hi, rfl, rfl⟩ := h
          have hi' := inR_iff.1 hi
          obtain ⟨a, rfl, ha⟩ := h1.agg_inv
          obtain ⟨v', h3, h4⟩ := partA_run (P := P) hx ha w
          have hu := arrT_und hn
          simpa [execOp, OpRun, e.1, e.2, Instr.index, asIntOf, run_underlying hu, hi'.1, hi'.2, sizeT_run hs, h3] using Post.plain H h4
        · cases h
      · cases h
    · cases h
  · -- extract
    rename_i to i vs
    obtain ⟨u, e, h1⟩ := relL_one hev
    simp [Op.operands] at e
    unfold okV at h
    split at h
    · rename_i x hx
      cases h
      rw [nth?_eq] at hx
      obtain ⟨a, rfl, ha⟩ := h1.tup_inv
      obtain ⟨v', h3, h4⟩ := ha.get hx
      have h5 : a[i]? = some v' := by simpa using h3
      simpa [execOp, OpRun, e, Instr.extract, h5] using Post.plain H h4
    · cases h
  · -- makeFunc
    rename_i f first cap
    cases h
    simp only [Op.operands, Array.toList_append, List.map_append] at hev
    have h1 := hev.take first.size
    have h2 := hev.drop first.size
    rw [List.take_left' (by simp)] at h1
    rw [List.drop_left' (by simp)] at h2
    have := Rel.fn_mk (f := f) h1 h2
    have e1 : (first.toList.map ev).toArray = first.map ev := by apply Array.ext'; simp
    have e2 : (cap.toList.map ev).toArray = cap.map ev := by apply Array.ext'; simp
    rw [e1, e2] at this
    simpa [execOp, OpRun, Instr.makeFunc] using Post.plain H this
  · -- slices
    rename_i t xo x
    obtain ⟨u, e, h1⟩ := relL_one hev
    simp [Op.operands] at e
    unfold okC at h
    split at h
    · rename_i c r hx
      cases h
      obtain ⟨el, hel⟩ := sliceA_elem hx
      obtain ⟨v', h3, h4⟩ := sliceA_run (P := P) (w := w) (lo' := none) (hi' := none) hx h1 (.inl ⟨rfl, rfl⟩) (.inl ⟨rfl, rfl⟩)
      simpa [execOp, OpRun, e, sliceAt_eq hel, h3] using Post.plain H h4
    · cases h
  · rename_i t xo lo x l
    obtain ⟨u, z, e, h1, h2⟩ := relL_two hev
    simp [Op.operands] at e
    unfold okC at h
    split at h
    · rename_i c r hx
      cases h
      obtain ⟨el, hel⟩ := sliceA_elem hx
      obtain ⟨v', h3, h4⟩ := sliceA_run (P := P) (w := w) (lo' := some z) (hi' := none) hx h1 (.inr ⟨_, _, rfl, rfl, h2⟩) (.inl ⟨rfl, rfl⟩)
      simpa [execOp, OpRun, e.1, e.2, sliceAt_eq hel, h3] using Post.plain H h4
    · cases h
  · rename_i t xo lo x l
    obtain ⟨u, z, e, h1, h2⟩ := relL_two hev
    simp [Op.operands] at e
    unfold okC at h
    split at h
    · rename_i c r hx
      cases h
      obtain ⟨el, hel⟩ := sliceA_elem hx
      obtain ⟨v', h3, h4⟩ := sliceA_run (P := P) (w := w) (lo' := none) (hi' := some z) hx h1 (.inl ⟨rfl, rfl⟩) (.inr ⟨_, _, rfl, rfl, h2⟩)
      simpa [execOp, OpRun, e.1, e.2, sliceAt_eq hel, h3] using Post.plain H h4
    · cases h
  · rename_i t xo lo ho x l hh
    obtain ⟨u, z, y, e, h1, h2, h3⟩ := relL_three hev
    simp [Op.operands] at e
    unfold okC at h
    split at h
    · rename_i c r hx
      cases h
      obtain ⟨el, hel⟩ := sliceA_elem hx
      obtain ⟨v', h4, h5⟩ := sliceA_run (P := P) (w := w) (lo' := some z) (hi' := some y) hx h1 (.inr ⟨_, _, rfl, rfl, h2⟩) (.inr ⟨_, _, rfl, rfl, h3⟩)
      simpa [execOp, OpRun, e.1, e.2.1, e.2.2, sliceAt_eq hel, h4] using Post.plain H h5
    · cases h
  · -- calls
    rename_i c
    obtain ⟨callee, args, argTypes⟩ := c
    have hargs : ∀ {l : List Value}, args.toList.map ev = l → args.map ev = l.toArray := by
      intro l hl
      apply Array.ext'
      simpa using hl
    have htys : ∀ {l : List TypeId}, argTypes.toList = l → argTypes = l.toArray := by
      intro l hl
      apply Array.ext'
      simpa using hl
    simp only at h
    split at h
    · -- len
      rename_i x
      simp only [Op.operands, Call.operands, Array.empty_append] at hev
      obtain ⟨u, e, h1⟩ := relL_one hev
      split at h
      · rename_i t ht
        split at h
        · rename_i el n hel hn
          cases h
          have h3 := lenA_run (P := P) (ty := ty) hn hel h1 w
          simpa [execOp, OpRun, resolve, invoke, builtin, hargs e, htys ht, h3] using Post.plain H (.val (.int .i64 n))
        · cases h
      · cases h
    · -- min
      rename_i k a k' b
      simp only [Op.operands, Call.operands, Array.empty_append] at hev
      obtain ⟨u, z, e, h1, h2⟩ := relL_two hev
      cases h1
      cases h2
      split at h
      · rename_i hk
        have hk' : k = k' := of_decide_eq_true hk
        subst hk'
        cases h
        have hm : (if b < a then b else a) = min a b := by
          rw [Int.min_def]
          split <;> split <;> omega
        simpa [execOp, OpRun, resolve, invoke, builtin, hargs e, Builtin.min_, Builtin.min2, hm] using Post.plain H (.val (.int k (min a b)))
      · cases h
    · -- max
      rename_i k a k' b
      simp only [Op.operands, Call.operands, Array.empty_append] at hev
      obtain ⟨u, z, e, h1, h2⟩ := relL_two hev
      cases h1
      cases h2
      split at h
      · rename_i hk
        have hk' : k = k' := of_decide_eq_true hk
        subst hk'
        cases h
        have hm : (if a < b then b else a) = max a b := by
          rw [Int.max_def]
          split <;> split <;> omega
        simpa [execOp, OpRun, resolve, invoke, builtin, hargs e, Builtin.max_, Builtin.max2, hm] using Post.plain H (.val (.int k (max a b)))
      · cases h
    · -- append
      rename_i s x
      simp only [Op.operands, Call.operands, Array.empty_append] at hev
      obtain ⟨u, z, e, h1, h2⟩ := relL_two hev
      split at h
      · rename_i t t' ht
        split at h
        · rename_i htt
          obtain rfl := nbeq.1 htt
          obtain ⟨v', w', h3, h4⟩ := appendA_run (P := P) (ty := ty) H hkey (fun id hid => hfh id (idsL_mem (by simp) hid)) (fun id hid => hfh id (idsL_mem (by simp) hid)) h h1 h2
          simpa [execOp, OpRun, resolve, invoke, builtin, hargs e, htys ht, h3] using h4
        · cases h
      · cases h
    · -- a function's value is called
      rename_i fo g first cap rest
      simp only [Op.operands, Call.operands, Array.toList_append, List.map_append] at hev
      obtain ⟨u, r, e, h1, h2⟩ := hev.cons_inv
      simp at e
      obtain ⟨e1, e2⟩ := e
      obtain ⟨a, b, rfl, ha, hb⟩ := h1.fn_inv
      split at h
      · rename_i v0 ds0 hTT
        cases h
        obtain ⟨hen, hcall⟩ := hT _ _ _ _ _ _ hTT
        have hrel := (ha.append h2).append hb
        have := hcall W ρ hf F w _ H hkey (fun id hid => hfh id (by
          rw [idsL_append, idsL_append] at hid
          simp only [AV.idsL, AV.ids, List.mem_append] at hid ⊢
          rcases hid with (hid | hid) | hid
          · exact .inl (.inl hid)
          · exact .inr hid
          · exact .inl (.inr hid))) hrel
        have hr : (a.toList ++ r ++ b.toList).toArray = a ++ args.map ev ++ b := by
          apply Array.ext'
          rw [hargs e2]
          simp
        rw [hr] at this
        simp only [execOp, resolve, Sem.run_bind, Deferred.ofValue, e1, Sem.run_pure, Result.andThen_ok, invoke]
        rw [hen]
        exact this
      · cases h
    · cases h
  · cases h
end

end Go.Proofs.Ytmaddijeiniliaa.Sy
