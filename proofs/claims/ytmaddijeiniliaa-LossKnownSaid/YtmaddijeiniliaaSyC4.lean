/-
  SyC4: one operation: append, composite literals.
-/
import Derived.Test.YtmaddijeiniliaaSyC3
namespace Go.Proofs.Ytmaddijeiniliaa.Sy
open Go Go.RowKit
set_option linter.unusedVariables false

section
variable {P : Program} {T : Tab} {key : Nat} {avs : List AV} {fh : Hp} {v : AV} {ds : Dl} {W : World} {ρ : Env} {hf : Nat → Option Blk} {F : Nat → Prop} {w : World} {ev : Operand → Value} {o : Oper}

/-- The elements of a slice lie where it says. -/
theorem elemsA_run (H : HR W ρ hf F w) {x : AV} {u : Value} {esz m : Nat} {g : Nat → Nat → Value} (he : 1 ≤ esz) (hfh : ∀ id, id ∈ x.ids → look fh id = hf id) (h : elemsA x esz fh = some (true, m, g)) (hx : Rel ρ x u) :
    (m = 0 ∧ ∃ a c, u = .slice a 0 c) ∨ ∃ b p c, u = .slice (some ⟨b, p, none⟩) m c ∧ ∀ i j, i < m → j < esz → w.cell? ⟨b, p + (i * esz + j), none⟩ = some (g i j) ∧ (g i j).oneCell' = true := by
  unfold elemsA at h
  split at h
  · rename_i id k n cap
    obtain ⟨b, o, c, hρ, hnc, rfl⟩ := hx.slc_inv
    have hl := hfh id (by simp [AV.ids])
    split at h
    · rename_i ty cs hc
      rw [hl] at hc
      split at h
      · rename_i vs hq hvs
        simp only [Bool.and_eq_true] at hq
        cases h
        obtain ⟨q1, q2⟩ := hq
        have q1' := nble.1 q1
        obtain ⟨rfl, hW, ws, hb, hcs⟩ := H.blk id b o c _ hρ hc
        have hrel := (hcs.drop k).take (m * esz)
        have hval := valsOf_rel hvs hrel
        have hone := allOne_rel q2 hrel
        refine .inr ⟨b, 0 + k, cap, rfl, fun i j hi hj => ?_⟩
        have hlt : i * esz + j < m * esz := by
          have : (i + 1) * esz ≤ m * esz := Nat.mul_le_mul_right _ (by omega)
          rw [Nat.add_mul, Nat.one_mul] at this
          omega
        have hlen : cs.length = ws.toList.length := hcs.1
        have hlen2 : vs.length = m * esz := by
          rw [← hval]
          simp only [List.length_take, List.length_drop]
          omega
        have hv : vs[i * esz + j]? = some (nthV vs (i * esz + j)) := by
          simp only [nthV]
          rw [List.getElem?_eq_getElem (by omega)]
          rfl
        have hmem : nthV vs (i * esz + j) ∈ List.take (m * esz) (List.drop k ws.toList) := by
          rw [hval]
          exact List.mem_of_getElem? hv
        refine ⟨?_, hone _ hmem⟩
        rw [cells_here hb]
        have h2 : (List.take (m * esz) (List.drop k ws.toList))[i * esz + j]? = some (nthV vs (i * esz + j)) := by rw [hval]; exact hv
        rw [List.getElem?_take, if_pos hlt, List.getElem?_drop] at h2
        rw [Nat.zero_add]
        simpa using h2
      · cases h
    · cases h
  · rename_i id esz' i0 n
    have hl := hfh id (by simp [AV.ids])
    have key : ∀ (esz'' N : Nat) (f : Nat → Nat → Value), (Nat.beq esz' esz && Nat.beq esz'' esz) = true → i0 + n ≤ N →
        (∀ b o c, ρ id = some (b, o, c) → ∀ i j, i < N → j < esz'' → w.cell? ⟨b, o + (i * esz'' + j), none⟩ = some (f i j) ∧ (f i j).oneCell' = true) →
        (n = 0 ∧ ∃ a c, u = .slice a 0 c) ∨ ∃ b p c, u = .slice (some ⟨b, p, none⟩) n c ∧ ∀ i j, i < n → j < esz → w.cell? ⟨b, p + (i * esz + j), none⟩ = some (f (i0 + i) j) ∧ (f (i0 + i) j).oneCell' = true := by
      intro esz'' N f hq hN hc
      simp only [Bool.and_eq_true] at hq
      obtain rfl := nbeq.1 hq.1
      obtain rfl := nbeq.1 hq.2
      rcases hx.view_inv with ⟨rfl, a, c, rfl⟩ | ⟨b, o, c, c', hρ, hnc, rfl⟩
      · exact .inl ⟨rfl, a, c, rfl⟩
      · refine .inr ⟨b, _, c', rfl, fun i j hi hj => ?_⟩
        have := hc b o c hρ (i0 + i) j (by omega) hj
        rw [show o + ((i0 + i) * esz'' + j) = o + i0 * esz'' + (i * esz'' + j) by rw [Nat.add_mul]; omega] at this
        exact this
    split at h
    · rename_i ty esz'' N f hc
      rw [hl] at hc
      split at h
      · rename_i hq
        simp only [Option.some.injEq, Prod.mk.injEq, decide_eq_true_eq] at h
        obtain ⟨hN, rfl, rfl⟩ := h
        exact key esz'' N f hq hN (fun b o c hρ => (H.blk id b o c _ hρ hc).2)
      · cases h
    · rename_i ty esz'' N f hc
      rw [hl] at hc
      split at h
      · rename_i hq
        simp only [Option.some.injEq, Prod.mk.injEq, decide_eq_true_eq] at h
        obtain ⟨hN, rfl, rfl⟩ := h
        refine key esz'' N f hq hN (fun b o c hρ i j hi hj => ?_)
        obtain ⟨rfl, _, vs, hb, _, _, hblk⟩ := H.blk id b o c _ hρ hc
        rw [cells_here hb, Nat.zero_add]
        exact hblk i j hi hj
      · cases h
    · cases h
  · cases h

/-- A row's elements, one behind another. -/
def flat (esz m : Nat) (g : Nat → Nat → Value) : List Value := (List.range (m * esz)).map fun q => g (q / esz) (q % esz)
theorem flat_length (esz m : Nat) (g : Nat → Nat → Value) : (flat esz m g).length = m * esz := by simp [flat]
theorem flat_at {esz m : Nat} {g : Nat → Nat → Value} (he : 1 ≤ esz) {q : Nat} {u : Value} (h : (flat esz m g)[q]? = some u) : q / esz < m ∧ q % esz < esz ∧ u = g (q / esz) (q % esz) ∧ q = q / esz * esz + q % esz := by
  have hq : q < m * esz := by
    have := (List.getElem?_eq_some_iff.1 h).1
    rwa [flat_length] at this
  refine ⟨?_, Nat.mod_lt _ (by omega), ?_, ?_⟩
  · exact (Nat.div_lt_iff_lt_mul (by omega)).2 hq
  · simp [flat, hq] at h
    exact h.symm
  · rw [Nat.mul_comm]; exact (Nat.div_add_mod q esz).symm
theorem flat_get {esz m : Nat} {g : Nat → Nat → Value} (he : 1 ≤ esz) {i j : Nat} (hi : i < m) (hj : j < esz) : (flat esz m g)[i * esz + j]? = some (g i j) := by
  have hlt : i * esz + j < m * esz := by
    have : (i + 1) * esz ≤ m * esz := Nat.mul_le_mul_right _ (by omega)
    rw [Nat.add_mul, Nat.one_mul] at this
    omega
  have e1 : (i * esz + j) / esz = i := by
    rw [Nat.mul_comm, Nat.mul_add_div (by omega), Nat.div_eq_of_lt hj, Nat.add_zero]
  have e2 : (i * esz + j) % esz = j := by
    rw [Nat.mul_comm, Nat.mul_add_mod, Nat.mod_eq_of_lt hj]
  simp [flat, hlt, e1, e2]

theorem F_key {F : Nat → Prop} {key id : Nat} (h : F id ∧ ¬ (key ≤ id ∧ id < key + stride)) : F id ∧ id ≠ key := ⟨h.1, by
  rintro rfl
  exact h.2 ⟨Nat.le_refl _, by simp [stride]⟩⟩

theorem appendA_run (H : HR W ρ hf F w) (hkey : ∀ id, key ≤ id → id < key + stride → F id) {t ty : TypeId} {s x : AV} {u z : Value} (hs : ∀ id, id ∈ s.ids → look fh id = hf id) (hxx : ∀ id, id ∈ x.ids → look fh id = hf id)
    (h : appendA P t s x fh key = some (true, v, ds)) (hu : Rel ρ s u) (hz : Rel ρ x z) :
    ∃ v' w', (Builtin.append_ #[t, t] ty #[u, z]).run P w = .ok v' w' ∧ Post W ρ hf F key v ds v' w' := by
  have hk : F key := hkey key (Nat.le_refl _) (by simp [stride])
  unfold appendA at h
  split at h
  · rename_i e hte
    have hund := elemT_und hte
    split at h
    · rename_i i zs hi hzs
      split at h
      · rename_i c m g hq hel
        simp only [Bool.and_eq_true] at hq
        obtain ⟨⟨q1, q2⟩, q3⟩ := hq
        have q1' := nbeq.1 q1
        have q2' := nble.1 q2
        have q3' := nble.1 q3
        obtain ⟨zv, hzv, hzl⟩ := zeroA_run hzs w
        obtain ⟨zv', hzi, hzc⟩ : ∃ zv', i.zero = some zv' ∧ zs = zv'.cells.toList.map .val := by
          unfold zeroA at hzs
          rw [hi] at hzs
          simp only at hzs
          split at hzs
          · rename_i zv' hz'
            cases hzs
            exact ⟨zv', hz', rfl⟩
          · cases hzs
        have hzsize : zv'.cells.size = i.size := by
          rw [hzc] at q1'
          simpa using q1'
        have hb1 : ∀ n : Nat, n * i.bytes ≤ 140737488355328 → n ≤ 140737488355328 := fun n hn => Nat.le_trans (Nat.le_mul_of_pos_right _ (by omega)) hn
        -- an empty source leaves all as it is; else it lies where it says
        -- the fresh block
        have fresh : ∀ (hf' : Nat → Option Blk), HR W ρ hf' F w → ∀ (olds news : List Value) (cap : Nat) (N : Nat) (f : Nat → Nat → Value), N ≤ cap → olds.length + news.length = N * i.size →
            (∀ a b, a < N → b < i.size → (olds ++ news)[a * i.size + b]? = some (f a b) ∧ (f a b).oneCell' = true) →
            ∃ ρ', Ext ρ ρ' ∧ Rel ρ' (.own key N) (.slice (some ⟨w.heap.size, 0, none⟩) N cap) ∧
              HR W ρ' (updF hf' key (some (.orow e i.size N f))) (fun id => F id ∧ ¬ (key ≤ id ∧ id < key + stride)) (w.drew.alloc (.cells (olds.toArray ++ news.toArray ++ Builtin.zeroCells zv'.cells (cap - N)) e)) := by
          intro hf' H' olds news cap N f hN hl hel'
          have hext := addE_ext (H.free key hk) (w.heap.size, 0, cap)
          refine ⟨addE ρ key (w.heap.size, 0, cap), hext, .own (by simp [addE]) hN, ?_⟩
          refine (H'.drew.alloc hk (fun id h => F_key h) _ e cap _ ?_)
          refine ⟨rfl, H.below.size, _, heap_alloc_new w.drew _, ?_, hN, fun a b ha hb => ?_⟩
          · simp only [Array.size_append, List.size_toArray, size_zeroCells, hzsize]
            rw [hl, ← Nat.add_mul]
            congr 1
            omega
          · have h1 := hel' a b ha hb
            refine ⟨?_, h1.2⟩
            have hlt : a * i.size + b < (olds ++ news).length := (List.getElem?_eq_some_iff.1 h1.1).1
            have hap : olds.toArray ++ news.toArray = (olds ++ news).toArray := by simp
            rw [hap, Array.getElem?_append_left (by simpa using hlt)]
            simpa using h1.1
        have hsrc := fun (hc : c = true) => elemsA_run H q2' hxx (by rw [hel, hc]) hz
        split at h
        · cases hu
          simp only [Option.some.injEq, Prod.mk.injEq, Bool.and_eq_true, decide_eq_true_eq] at h
          obtain ⟨⟨hc, hby⟩, rfl, rfl⟩ := h
          have hm := hb1 m hby
          rcases hsrc hc with ⟨rfl, a, cc, rfl⟩ | ⟨b, p, cc, rfl, hcell⟩
          · refine ⟨.slice none 0 0, w, ?_, ρ, Ext.refl ρ, .own0, H.name (fun _ h => h.1) hk _⟩
            cases a <;> simp [Builtin.append_, run_underlying hund, sizeOf, typeInfo, hi, Builtin.lenOf, Builtin.firstCells, loadCells, loadCellsFrom]
          · by_cases hm0 : m = 0
            · subst hm0
              refine ⟨.slice none 0 0, w, ?_, ρ, Ext.refl ρ, .own0, H.name (fun _ h => h.1) hk _⟩
              simp [Builtin.append_, run_underlying hund, sizeOf, typeInfo, hi, Builtin.lenOf, Builtin.firstCells, loadCells, loadCellsFrom]
            · have hrun := run_append_nil (P := P) w t ty e i zv' hund hi hzi ⟨b, p, none⟩ m cc (flat i.size m g) (flat_length _ _ _) (fun j u hu => by
                obtain ⟨h1, h2, rfl, h4⟩ := flat_at q2' hu
                rw [addr_add]
                have := (hcell _ _ h1 h2).1
                rw [← h4] at this
                exact this) (by omega) (by omega) (by omega)
              have hcap := grownCap_ge w m 0 e
              obtain ⟨ρ', h1, h2, h3⟩ := fresh hf H [] (flat i.size m g) (grownCap w m 0 e) m g hcap (by simp [flat_length]) (fun a b ha hb => by
                rw [List.nil_append]
                exact ⟨flat_get q2' ha hb, (hcell a b ha hb).2⟩)
              refine ⟨_, _, hrun, ρ', h1, h2, ?_⟩
              simpa [appD] using h3
        · rename_i id n
          have hl := hs id (by simp [AV.ids])
          split at h
          · rename_i ty' esz n' f hc0
            rw [hl] at hc0
            split at h
            · rename_i hq2
              simp only [Bool.and_eq_true] at hq2
              obtain rfl := nbeq.1 hq2.1
              have hesz := nbeq.1 hq2.2
              subst hesz
              simp only [Option.some.injEq, Prod.mk.injEq, Bool.and_eq_true, decide_eq_true_eq] at h
              obtain ⟨⟨⟨hc, rfl⟩, hby⟩, rfl, rfl⟩ := h
              have hm := hb1 (n' + m) hby
              have happ : appD hf [(id, none), (key, some (Blk.orow ty' i.size (n' + m) fun a b => if a < n' then f a b else g (a - n') b))] = updF (updF hf id none) key (some (Blk.orow ty' i.size (n' + m) fun a b => if a < n' then f a b else g (a - n') b)) := rfl
              rcases hu.own_inv with ⟨rfl, rfl⟩ | ⟨gb, cap, hρ, hnc, rfl⟩
              · -- nothing yet
                have hff : (fun a b => if a < 0 then f a b else g (a - 0) b) = g := by
                  funext a b
                  simp
                rw [Nat.zero_add] at hby hm ⊢
                rcases hsrc hc with ⟨rfl, a, cc, rfl⟩ | ⟨b, p, cc, rfl, hcell⟩
                · refine ⟨.slice none 0 0, w, ?_, ρ, Ext.refl ρ, .own0, (H.drop id).name (fun _ h => h.1) hk _⟩
                  cases a <;> simp [Builtin.append_, run_underlying hund, sizeOf, typeInfo, hi, Builtin.lenOf, Builtin.firstCells, loadCells, loadCellsFrom]
                · by_cases hm0 : m = 0
                  · subst hm0
                    refine ⟨.slice none 0 0, w, ?_, ρ, Ext.refl ρ, .own0, (H.drop id).name (fun _ h => h.1) hk _⟩
                    simp [Builtin.append_, run_underlying hund, sizeOf, typeInfo, hi, Builtin.lenOf, Builtin.firstCells, loadCells, loadCellsFrom]
                  · have hrun := run_append_nil (P := P) w t ty ty' i zv' hund hi hzi ⟨b, p, none⟩ m cc (flat i.size m g) (flat_length _ _ _) (fun j u hu => by
                      obtain ⟨h1, h2, rfl, h4⟩ := flat_at q2' hu
                      rw [addr_add]
                      have := (hcell _ _ h1 h2).1
                      rw [← h4] at this
                      exact this) (by omega) (by omega) (by omega)
                    have hcap := grownCap_ge w m 0 ty'
                    obtain ⟨ρ', h1, h2, h3⟩ := fresh _ (H.drop id) [] (flat i.size m g) (grownCap w m 0 ty') m g hcap (by simp [flat_length]) (fun a b ha hb => by
                      rw [List.nil_append]
                      exact ⟨flat_get q2' ha hb, (hcell a b ha hb).2⟩)
                    refine ⟨_, _, hrun, ρ', h1, h2, ?_⟩
                    simp only [appD]
                    rw [hff]
                    simpa using h3
              · obtain ⟨_, hW, cur, hb, hsize, hnc', hblk⟩ := H.blk id gb 0 cap _ hρ hc0
                -- the source's cells, as a list
                obtain ⟨news, hnl, hnone, hnget, hsource⟩ : ∃ news : List Value, news.length = m * i.size ∧ (∀ u, u ∈ news → u.oneCell' = true) ∧ (∀ a b, a < m → b < i.size → news[a * i.size + b]? = some (g a b) ∧ (g a b).oneCell' = true) ∧
                    ((m = 0 ∧ ∃ a cc, z = .slice a 0 cc) ∨ ∃ b p cc, z = .slice (some ⟨b, p, none⟩) m cc ∧ ∀ j u, news[j]? = some u → w.cell? ((⟨b, p, none⟩ : Addr).add j) = some u) := by
                  rcases hsrc hc with ⟨rfl, a, cc, rfl⟩ | ⟨b, p, cc, rfl, hcell⟩
                  · exact ⟨[], by simp, by simp, fun a b ha => by omega, .inl ⟨rfl, a, cc, rfl⟩⟩
                  · refine ⟨flat i.size m g, flat_length _ _ _, fun u hu => ?_, fun a b ha hb => ⟨flat_get q2' ha hb, (hcell a b ha hb).2⟩, .inr ⟨b, p, cc, rfl, fun j u hu => ?_⟩⟩
                    · obtain ⟨q, hq⟩ := List.getElem?_of_mem hu
                      obtain ⟨h1, h2, rfl, h4⟩ := flat_at q2' hq
                      exact (hcell _ _ h1 h2).2
                    · obtain ⟨h1, h2, rfl, h4⟩ := flat_at q2' hu
                      rw [addr_add]
                      have := (hcell _ _ h1 h2).1
                      rw [← h4] at this
                      exact this
                have hold : ∀ a b, a < n' → b < i.size → cur.toList[a * i.size + b]? = some (f a b) ∧ (f a b).oneCell' = true := fun a b ha hb => by simpa using hblk a b ha hb
                have hn_le : n' * i.size ≤ cur.size := by rw [hsize]; exact Nat.mul_le_mul_right _ hnc
                by_cases hroom : n' + m ≤ cap
                · -- in place
                  have hfit : n' * i.size + news.length ≤ cur.size := by rw [hnl, hsize, ← Nat.add_mul]; exact Nat.mul_le_mul_right _ hroom
                  have hrun : (Builtin.append_ #[t, t] ty #[.slice (some ⟨gb, 0, none⟩) n' cap, z]).run P w = .ok (.slice (some ⟨gb, 0, none⟩) (n' + m) cap) (w.setRow gb (cur.toList.take (n' * i.size) ++ news ++ cur.toList.drop (n' * i.size + news.length)).toArray) := by
                    rcases hsource with ⟨rfl, a, cc, rfl⟩ | ⟨b, p, cc, rfl, hcell⟩
                    · have hn0 : news = [] := List.eq_nil_of_length_eq_zero (by simpa using hnl)
                      subst hn0
                      have hself : w.setRow gb (cur.toList.take (n' * i.size) ++ [] ++ cur.toList.drop (n' * i.size + ([] : List Value).length)).toArray = w := by
                        simp only [List.append_nil, List.length_nil, Nat.add_zero, List.take_append_drop, Array.toArray_toList]
                        exact setRow_self w gb cur ty' (0, 0) hb
                      rw [hself]
                      cases a <;> simp [Builtin.append_, run_underlying hund, sizeOf, typeInfo, hi, Builtin.lenOf, Builtin.firstCells, loadCells, loadCellsFrom, storeCells, hnc]
                    · exact run_append_room (P := P) w t ty ty' i hund hi gb n' cap cur hb ⟨b, p, none⟩ m cc news hnl hcell hnone hroom hfit
                  have hext := addE_ext (H.free key hk) (gb, 0, cap)
                  refine ⟨_, _, hrun, addE ρ key (gb, 0, cap), hext, .own (by simp [addE]) hroom, ?_⟩
                  refine H.rename hk (fun id h => F_key h) hρ hc0 hW _ ?_
                  refine ⟨rfl, hW, _, setRow_heap w gb cur _ ty' _ hb, ?_, hroom, fun a b ha hb' => ?_⟩
                  · simp only [List.size_toArray, List.length_append, List.length_take, List.length_drop, Array.length_toList]
                    omega
                  · rw [List.getElem?_toArray]
                    by_cases hlt : a < n'
                    · have h1 := hold a b hlt hb'
                      have h2 : a * i.size + b < n' * i.size := by
                        have : (a + 1) * i.size ≤ n' * i.size := Nat.mul_le_mul_right _ (by omega)
                        rw [Nat.add_mul, Nat.one_mul] at this
                        omega
                      rw [List.append_assoc, List.getElem?_append_left (by simp; omega), List.getElem?_take, if_pos h2]
                      simpa [hlt] using h1
                    · have h1 := hnget (a - n') b (by omega) hb'
                      have h2 : a * i.size + b = n' * i.size + ((a - n') * i.size + b) := by
                        rw [show a = n' + (a - n') by omega, Nat.add_mul]
                        have : n' + (a - n') - n' = a - n' := by omega
                        rw [this]
                        omega
                      have h3 : (a - n') * i.size + b < news.length := (List.getElem?_eq_some_iff.1 h1.1).1
                      rw [List.getElem?_append_left (by simp; omega), List.getElem?_append_right (by simp; omega)]
                      simp only [List.length_take, Array.length_toList]
                      rw [show min (n' * i.size) cur.size = n' * i.size by omega, show a * i.size + b - n' * i.size = (a - n') * i.size + b by omega]
                      simpa [hlt] using h1
                · -- it grows
                  have hm0 : m ≠ 0 := by omega
                  obtain ⟨b, p, cc, rfl, hcell⟩ : ∃ b p cc, z = .slice (some ⟨b, p, none⟩) m cc ∧ ∀ j u, news[j]? = some u → w.cell? ((⟨b, p, none⟩ : Addr).add j) = some u := by
                    rcases hsource with ⟨h0, _⟩ | h
                    · exact absurd h0 hm0
                    · exact h
                  have hrun := run_append_grow (P := P) w t ty ty' i zv' hund hi hzi ⟨gb, 0, none⟩ n' cap (cur.toList.take (n' * i.size)) (by simp; omega) (fun j u hu => by
                    rw [addr_add, cells_here hb, Nat.zero_add]
                    rw [List.getElem?_take] at hu
                    split at hu
                    · simpa using hu
                    · cases hu) ⟨b, p, none⟩ m cc news hnl hcell (by omega) (by omega) (growslice_fits (by omega) hby)
                  have hcap := grownCap_ge w (n' + m) cap ty'
                  have htl : (cur.toList.take (n' * i.size)).length = n' * i.size := by simp; omega
                  obtain ⟨ρ', h1, h2, h3⟩ := fresh _ (H.drop id) (cur.toList.take (n' * i.size)) news (grownCap w (n' + m) cap ty') (n' + m) (fun a b => if a < n' then f a b else g (a - n') b) hcap
                    (by rw [htl, hnl, Nat.add_mul]) (fun a b ha hb' => by
                      by_cases hlt : a < n'
                      · have h1 := hold a b hlt hb'
                        have h2 : a * i.size + b < n' * i.size := by
                          have : (a + 1) * i.size ≤ n' * i.size := Nat.mul_le_mul_right _ (by omega)
                          rw [Nat.add_mul, Nat.one_mul] at this
                          omega
                        rw [List.getElem?_append_left (by rw [htl]; exact h2), List.getElem?_take, if_pos h2]
                        simpa [hlt] using h1
                      · have h1 := hnget (a - n') b (by omega) hb'
                        have h2 : a * i.size + b = n' * i.size + ((a - n') * i.size + b) := by
                          rw [show a = n' + (a - n') by omega, Nat.add_mul]
                          have : n' + (a - n') - n' = a - n' := by omega
                          rw [this]
                          omega
                        rw [List.getElem?_append_right (by rw [htl]; omega), htl, show a * i.size + b - n' * i.size = (a - n') * i.size + b by omega]
                        simpa [hlt] using h1)
                  exact ⟨_, _, hrun, ρ', h1, h2, h3⟩
            · cases h
          · cases h
        · cases h
      · cases h
    · cases h
  · cases h
end

end Go.Proofs.Ytmaddijeiniliaa.Sy
