/-
  SyD2: code and calls: what the evaluator tells of a function, its calls do.
-/
import Derived.Test.YtmaddijeiniliaaSyD1
import Derived.Deep.LoopGhost
namespace Go.Proofs.Ytmaddijeiniliaa.Sy
open Go Go.RowKit
set_option linter.unusedVariables false

def toExit : X → Exit
  | .normal => .normal
  | .exit id => .exit id
  | .ret => .ret

structure Good (W : World) (ρ0 ρ : Env) (σ : St) (a : Act) (w : World) : Prop where
  ext : Ext ρ0 ρ
  low : ∀ id x, ρ0 id = some x → id < σ.lo
  tr : TR ρ σ.tm a
  hr : HR W ρ (look σ.h) (fun id => σ.nx ≤ id) w

theorem enters_of {P : Program} {f : FuncId} {fn : Func} (hf : P.funcs[f]? = some fn) (hn : (fn.name == "runtime.NumGoroutine") = false) (hb : fn.body.isNone = false) : Enters P f := by
  intro vs w
  simp only [callFunc, Sem.run_bind, run_program, Result.andThen_ok, hf, hn, hb, Bool.false_eq_true, if_false, Sem.run_pure]

/-! weakening -/
theorem weakL_get {r : AV → AV → Prop} : ∀ {as bs : List AV}, WeakL r as bs → as.length = bs.length ∧ ∀ (i : Nat) (a b : AV), as[i]? = some a → bs[i]? = some b → b = .any ∨ r a b
  | [], [], _ => ⟨rfl, fun i a b h => by simp at h⟩
  | a :: as, b :: bs, h => by
    have h' : (b = .any ∨ r a b) ∧ WeakL r as bs := by
      cases b <;> simp only [WeakL] at h <;> first | exact ⟨.inl rfl, h⟩ | exact ⟨.inr h.1, h.2⟩
    obtain ⟨h1, h2⟩ := h'
    obtain ⟨h3, h4⟩ := weakL_get h2
    refine ⟨by simp [h3], fun i x y hx hy => ?_⟩
    cases i with
    | zero => simp at hx hy; subst hx; subst hy; exact h1
    | succ i => exact h4 i x y (by simpa using hx) (by simpa using hy)
  | [], _ :: _, h => by simp only [WeakL] at h
  | _ :: _, [], h => by simp only [WeakL] at h

/-- Names anew. -/
def viaE (s : Nat → Option Nat) (ρ : Env) : Env := fun id => (s id).bind ρ
theorem viaE_some {s : Nat → Option Nat} {ρ : Env} {id id' : Nat} (h : s id = some id') : viaE s ρ id = ρ id' := by simp [viaE, h]

theorem Rel.agg_mk' {ρ : Env} {cs : List AV} {a : Array Value} (h : RelL ρ cs a.toList) : Rel ρ (.agg cs) (.agg a) :=
  .agg (by simpa using h.1) fun i c v hc hv => h.2 i c v hc (by simpa using hv)
theorem Rel.fn_mk' {ρ : Env} {f : Fn} {xs ys : List AV} {a b : Array Value} (h : RelL ρ xs a.toList) (k : RelL ρ ys b.toList) : Rel ρ (.fn f xs ys) (.func f a b) :=
  .fn (by simpa using h.1) (fun i c v hc hv => h.2 i c v hc (by simpa using hv)) (by simpa using k.1) (fun i c v hc hv => k.2 i c v hc (by simpa using hv))
mutual
theorem weakD_rel {s : Nat → Option Nat} {ρ : Env} : ∀ (b a : AV) (v : Value), WeakD s b a → Rel ρ a v → Rel (viaE s ρ) b v
  | .any, a, v, _, _ => .any v
  | .val u, a, v, h, hr => by
    cases a <;> simp only [WeakD] at h
    subst h
    rw [hr.val_inv]
    exact .val _
  | .ptr id k, a, v, h, hr => by
    cases a <;> simp only [WeakD] at h
    obtain ⟨h1, rfl⟩ := h
    obtain ⟨b, o, c, h2, rfl⟩ := hr.ptr_inv
    exact .ptr (by rw [viaE_some h1]; exact h2)
  | .elt _ _ _ _, a, v, h, _ => by simp only [WeakD] at h
  | .slc _ _ _ _, a, v, h, _ => by simp only [WeakD] at h
  | .view _ _ _ _, a, v, h, _ => by simp only [WeakD] at h
  | .own _ _, a, v, h, _ => by simp only [WeakD] at h
  | .tup _, a, v, h, _ => by simp only [WeakD] at h
  | .agg cs, a, v, h, hr => by
    cases a <;> simp only [WeakD] at h
    obtain ⟨ar, rfl, hl⟩ := hr.agg_inv
    exact Rel.agg_mk' (weakDL_rel cs _ ar.toList h hl)
  | .fn f xs ys, a, v, h, hr => by
    cases a <;> simp only [WeakD] at h
    obtain ⟨rfl, h1, h2⟩ := h
    obtain ⟨p, q, rfl, h3, h4⟩ := hr.fn_inv
    exact Rel.fn_mk' (weakDL_rel xs _ p.toList h1 h3) (weakDL_rel ys _ q.toList h2 h4)
theorem weakDL_rel {s : Nat → Option Nat} {ρ : Env} : ∀ (bs as : List AV) (vs : List Value), WeakDL s bs as → RelL ρ as vs → RelL (viaE s ρ) bs vs
  | [], as, vs, h, hr => by
    cases as <;> simp only [WeakDL] at h
    rw [hr.nil_inv]
    exact .nil
  | b :: t, as, vs, h, hr => by
    cases as <;> simp only [WeakDL] at h
    obtain ⟨v, s', rfl, h1, h2⟩ := hr.cons_inv
    exact .cons (weakD_rel b _ v h.1 h1) (weakDL_rel t _ s' h.2 h2)
end

theorem weak_rel {s : Nat → Option Nat} {ρ : Env} {a b : AV} {v : Value} (h : Weak s a b) (hr : Rel ρ a v) : Rel (viaE s ρ) b v := by
  cases b with
  | any => exact .any v
  | val u =>
    cases a <;> simp only [Weak] at h
    subst h
    rw [hr.val_inv]
    exact .val _
  | ptr id k =>
    cases a <;> simp only [Weak] at h
    obtain ⟨h1, rfl⟩ := h
    obtain ⟨b, o, c, h2, rfl⟩ := hr.ptr_inv
    exact .ptr (by rw [viaE_some h1]; exact h2)
  | elt id e i j => cases a <;> simp only [Weak] at h
  | slc id k l c =>
    cases a <;> simp only [Weak] at h
    obtain ⟨h1, rfl, rfl, rfl⟩ := h
    obtain ⟨b, o, c, h2, h3, rfl⟩ := hr.slc_inv
    exact .slc (by rw [viaE_some h1]; exact h2) h3
  | view id e i l =>
    cases a <;> simp only [Weak] at h
    obtain ⟨h1, rfl, rfl, rfl⟩ := h
    rcases hr.view_inv with ⟨rfl, a, c, rfl⟩ | ⟨b, o, c, c', h2, h3, rfl⟩
    · exact .view0 a c
    · exact .view (by rw [viaE_some h1]; exact h2) h3
  | own id n =>
    unfold Weak at h
    split at h <;> try (cases h; done)
    all_goals rename_i heq
    all_goals cases heq
    split at h
    · obtain ⟨h1, rfl⟩ := h
      rcases hr.own_inv with ⟨rfl, rfl⟩ | ⟨b, c, h2, h3, rfl⟩
      · exact .own0
      · exact .own (by rw [viaE_some h1]; exact h2) h3
    · subst h
      rw [hr.val_inv]
      exact .own0
    · exact h.elim
  | agg cs =>
    cases a <;> simp only [Weak] at h
    rename_i ds
    obtain ⟨ar, rfl, hl⟩ := hr.agg_inv
    obtain ⟨h1, h2⟩ := weakL_get h
    refine .agg (by rw [← h1, hl.1]; simp) fun i c v hc hv => ?_
    have hi : i < ds.length := by rw [h1]; exact (List.getElem?_eq_some_iff.1 hc).1
    have h3 := h2 i ds[i] c (by simp [hi]) hc
    have h4 := hl.2 i ds[i] v (by simp [hi]) (by simpa using hv)
    rcases h3 with rfl | h3
    · exact .any v
    · cases c <;> simp only at h3
      · exact .any v
      · rw [h3] at h4
        rw [h4.val_inv]
        exact .val _
  | tup cs => cases a <;> simp only [Weak] at h
  | fn f xs ys =>
    unfold Weak at h
    split at h <;> try (cases h; done)
    all_goals rename_i heq
    all_goals cases heq
    split at h
    · obtain ⟨rfl, h1, h2⟩ := h
      obtain ⟨p, q, rfl, h3, h4⟩ := hr.fn_inv
      exact Rel.fn_mk' (weakDL_rel xs _ p.toList h1 h3) (weakDL_rel ys _ q.toList h2 h4)
    · exact h.elim

theorem weak_relL {s : Nat → Option Nat} {ρ : Env} {as bs : List AV} {vs : List Value} (h : WeakL (Weak s) as bs) (hr : RelL ρ as vs) : RelL (viaE s ρ) bs vs := by
  obtain ⟨h1, h2⟩ := weakL_get h
  refine ⟨by rw [← h1]; exact hr.1, fun i c v hc hv => ?_⟩
  have hi : i < as.length := by rw [h1]; exact (List.getElem?_eq_some_iff.1 hc).1
  rcases h2 i as[i] c (by simp [hi]) hc with rfl | h3
  · exact .any v
  · exact weak_rel h3 (hr.2 i as[i] v (by simp [hi]) hv)

theorem weak_blk {W : World} {s : Nat → Option Nat} {ρ : Env} {w : World} {b o c : Nat} {A B : Blk} (h : WeakB s (some A) (some B)) (hA : BlkAt W ρ w b o c A) : BlkAt W (viaE s ρ) w b o c B := by
  cases B with
  | cells ty cs =>
    cases A <;> simp only [WeakB] at h
    obtain ⟨rfl, h2⟩ := h
    obtain ⟨h3, h4, vs, h5, h6⟩ := hA
    exact ⟨h3, h4, vs, h5, weak_relL h2 h6⟩
  | row ty e n f =>
    cases A <;> simp only [WeakB] at h
    obtain ⟨rfl, rfl, rfl, h2⟩ := h
    refine ⟨hA.1, fun i j hi hj => ?_⟩
    have := hA.2 i j hi hj
    rw [h2 i j hi hj] at this
    exact this
  | orow ty e n f =>
    cases A <;> simp only [WeakB] at h
    obtain ⟨rfl, rfl, rfl, h2⟩ := h
    obtain ⟨h3, h4, vs, h5, h6, h7, h8⟩ := hA
    refine ⟨h3, h4, vs, h5, h6, h7, fun i j hi hj => ?_⟩
    have := h8 i j hi hj
    rw [h2 i j hi hj] at this
    exact this

theorem weakH_look {s : Nat → Option Nat} {h : Hp} : ∀ {g : Hp} {id id' : Nat} {B : Blk}, WeakH s h g → look g id = some B → s id = some id' → WeakB s (look h id') (some B)
  | [], id, id', B, _, hl, _ => by simp [look] at hl
  | (k, b) :: r, id, id', B, hw, hl, hs => by
    obtain ⟨h1, h2⟩ := hw
    simp only [look] at hl
    split at hl
    · rename_i hk
      obtain rfl := nbeq.1 hk
      rw [hs] at h1
      rw [← hl]
      exact h1
    · exact weakH_look h2 hl hs

theorem weakB_live {s : Nat → Option Nat} {x : Option Blk} {B : Blk} (h : WeakB s x (some B)) : ∃ A, x = some A := by
  cases x with
  | none => cases B <;> simp [WeakB] at h
  | some A => exact ⟨A, rfl⟩

/-- **Weakening.** -/
theorem ref_good {W : World} {ρ0 ρ : Env} {s : Nat → Option Nat} {σ τ : St} {a : Act} {w : World} (h : Ref s σ τ) (g : Good W ρ0 ρ σ a w) : Good W ρ0 (viaE s ρ) τ a w := by
  obtain ⟨h1, h2, h3, h4, h5, h6⟩ := h
  obtain ⟨hl, hg⟩ := weakL_get h1
  refine ⟨fun id x hx => ?_, fun id x hx => by rw [h3]; exact g.low id x hx, ⟨g.tr.defers, by rw [g.tr.size, hl], fun t v hv => ?_, fun t ht => nth_out _ _ ht⟩, ?_⟩
  · rw [viaE_some (h4 id (g.low id x hx))]
    exact g.ext id x hx
  · have hlt : t < σ.tm.length := by
      rw [← g.tr.size]
      exact (Array.getElem?_eq_some_iff.1 hv).1
    have hn : ∀ (l : List AV) (t : Nat), t < l.length → l[t]? = some (nth l t) := by
      intro l
      induction l with
      | nil => intro t ht; simp at ht
      | cons x r ih =>
        intro t ht
        cases t with
        | zero => simp [nth]
        | succ t => simp [nth, ih t (by simpa using ht)]
    rcases hg t _ _ (hn _ _ hlt) (hn _ _ (by omega)) with h | h
    · rw [h]; exact .any v
    · exact weak_rel h (g.tr.slot t v hv)
  · have back : ∀ {id : Nat} {x : Nat × Nat × Nat}, viaE s ρ id = some x → ∃ id', s id = some id' ∧ ρ id' = some x := by
      intro id x hx
      unfold viaE at hx
      cases hs : s id with
      | none => simp [hs] at hx
      | some id' => exact ⟨id', rfl, by simpa [hs] using hx⟩
    refine ⟨g.hr.below, fun id b o c hx => ?_, fun id hid => ?_, fun id b o c B hx hB => ?_, fun i j b o c o' c' B B' hi hj hBi hBj hb => ?_⟩
    · obtain ⟨id', _, hx'⟩ := back hx
      exact g.hr.old id' b o c hx'
    · simp [viaE, h5 id hid]
    · obtain ⟨id', hs, hx'⟩ := back hx
      have hw := weakH_look h2 hB hs
      obtain ⟨A, hA⟩ := weakB_live hw
      rw [hA] at hw
      exact weak_blk hw (g.hr.blk id' b o c A hx' hA)
    · obtain ⟨i', hsi, hi'⟩ := back hi
      obtain ⟨j', hsj, hj'⟩ := back hj
      obtain ⟨A, hA⟩ := weakB_live (weakH_look h2 hBi hsi)
      obtain ⟨A', hA'⟩ := weakB_live (weakH_look h2 hBj hsj)
      have := g.hr.apart i' j' b o c o' c' A A' hi' hj' hA hA' hb
      subst this
      exact h6 i j i' hsi hsj

/-! results -/
theorem resA_run {P : Program} {W : World} {ρ : Env} {tm : List AV} {h : Hp} {F : Nat → Prop} {a : Act} {w : World} (ht : TR ρ tm a) (H : HR W ρ (look h) F w) : ∀ (rs : List ResultVar) (l : List AV), resA P tm h rs = some l →
    ∃ vs : List Value, (rs.mapM (m := Sem) fun
      | .tmp t => pure (a.tmps.getD t undef)
      | .cell p t => do loadVar t (← asAddr (a.tmps.getD p undef))).run P w = .ok vs w ∧ RelL ρ l vs
  | [], l, hr => by
    simp only [resA, Option.some.injEq] at hr
    subst hr
    exact ⟨[], by simp, .nil⟩
  | .tmp t :: r, l, hr => by
    simp only [resA] at hr
    split at hr
    · rename_i l' hl'
      cases hr
      obtain ⟨vs, h1, h2⟩ := resA_run ht H r l' hl'
      have h3 := ht.eval (.tmp t)
      refine ⟨a.tmps.getD t undef :: vs, ?_, .cons h3 h2⟩
      simp only [List.mapM_cons, Sem.run_bind, Sem.run_pure, Result.andThen_ok, h1]
    · cases hr
  | .cell p t :: r, l, hr => by
    simp only [resA] at hr
    split at hr
    · rename_i v l' hv hl'
      cases hr
      obtain ⟨vs, h1, h2⟩ := resA_run ht H r l' hl'
      have h3 := ht.eval (.tmp p)
      obtain ⟨v', _, ⟨ad, h4, h5⟩, h6⟩ := loadA_run H (fun _ _ => rfl) hv h3
      refine ⟨v' :: vs, ?_, .cons h6 h2⟩
      have h7 : a.tmps.getD p undef = .pointer (some ad) := h4
      have h8 : (asAddr (a.tmps.getD p undef)).run P w = .ok ad w := by rw [h7]; rfl
      simp only [List.mapM_cons, Sem.run_bind, h8, Sem.run_pure, Result.andThen_ok, h5, h1]
    · cases hr

theorem results_run {P : Program} {W : World} {ρ : Env} {tm : List AV} {h : Hp} {F : Nat → Prop} {a : Act} {w : World} {fn : Func} {l : List AV} (ht : TR ρ tm a) (H : HR W ρ (look h) F w) (hr : resA P tm h fn.results.toList = some l) :
    ∃ v', (results fn a.tmps).run P w = .ok v' w ∧ Rel ρ (oneA l) v' := by
  obtain ⟨vs, h1, h2⟩ := resA_run ht H fn.results.toList l hr
  have hm : (fn.results.mapM (m := Sem) fun
      | .tmp t => pure (a.tmps.getD t undef)
      | .cell p t => do loadVar t (← asAddr (a.tmps.getD p undef))).run P w = .ok vs.toArray w := by
    rw [Array.mapM_eq_mapM_toList]
    simp only [Sem.run_map, h1, Result.andThen_ok]
  refine ⟨if h : vs.toArray.size = 1 then vs.toArray[0] else .tuple vs.toArray, ?_, ?_⟩
  · unfold results
    simp only [Sem.run_bind, Sem.run_pure]
    exact congrArg (fun r : Result (Array Value) => r.andThen fun a w' => (Result.ok (if h : a.size = 1 then a[0] else Value.tuple a) w')) hm
  · cases l with
    | nil =>
      rw [h2.nil_inv]
      exact Rel.tup_mk (vs := []) .nil
    | cons x r =>
      obtain ⟨u, s, rfl, h3, h4⟩ := h2.cons_inv
      cases r with
      | nil =>
        rw [h4.nil_inv]
        simpa [oneA] using h3
      | cons y t =>
        obtain ⟨z, q, rfl, h5, h6⟩ := h4.cons_inv
        have : ¬ ((u :: z :: q).toArray.size = 1) := by simp
        rw [dif_neg this]
        exact Rel.tup_mk (.cons h3 (.cons h5 h6))

theorem repAny_length : ∀ n, (repAny n).length = n
  | 0 => rfl
  | n + 1 => by simp [repAny, repAny_length n]
theorem repAny_rel {ρ : Env} : ∀ n, RelL ρ (repAny n) (List.replicate n undef)
  | 0 => .nil
  | n + 1 => by
    rw [List.replicate_succ]
    exact .cons (.val undef) (repAny_rel n)

theorem tr_of_relL {ρ : Env} {tm : List AV} {vs : List Value} (h : RelL ρ tm vs) : TR ρ tm { tmps := vs.toArray, defers := [] } := by
  refine ⟨rfl, by simp [h.1], fun t v hv => ?_, fun t ht => nth_out _ _ ht⟩
  have hv' : vs[t]? = some v := by simpa using hv
  have hlt : t < tm.length := by rw [h.1]; exact (List.getElem?_eq_some_iff.1 hv').1
  have hn : tm[t]? = some (nth tm t) := by
    have : ∀ (l : List AV) (t : Nat), t < l.length → l[t]? = some (nth l t) := by
      intro l
      induction l with
      | nil => intro t ht; simp at ht
      | cons x r ih =>
        intro t ht
        cases t with
        | zero => simp [nth]
        | succ t => simp [nth, ih t (by simpa using ht)]
    exact this tm t hlt
  exact h.2 t _ v hn hv'

section
variable {C : Cfg} {W : World}

/-- What acode tells of code. -/
def CodeOK (C : Cfg) (n : Nat) : Prop := ∀ (W : World) (cur : FuncId) (c : Code) (σ : St) (k : X → St → Prop), acode C n cur c σ k → ∀ (ρ0 ρ : Env) (a : Act) (w : World), Good W ρ0 ρ σ a w →
  ∀ Q : Exit → Act → World → Prop, (∀ x σ' ρ' a' w', k x σ' → Good W ρ0 ρ' σ' a' w' → Q (toExit x) a' w') → c.wp C.P Q a w

/-- What a function comes to. -/
def FnPost (W : World) (ρ : Env) (k : AV → Hp → Nat → Prop) (e : Ending) (w' : World) : Prop :=
  ∃ v' ρ' v h' nx', e = .returned v' ∧ Ext ρ ρ' ∧ Rel ρ' v v' ∧ HR W ρ' (look h') (fun id => nx' ≤ id) w' ∧ k v h' nx'

theorem enter_calls {n : Nat} (hn : CodeOK C n) {f : FuncId} {fn : Func} {body : Code} {args : List AV} {h : Hp} {nx : Nat} {k : AV → Hp → Nat → Prop} (he : enterA C.P f = some (fn, body))
    (hk : acode C n f body ⟨args ++ repAny (fn.ntmps - args.length), h, nx, nx⟩ (exitA C.P fn k)) {ρ : Env} {w : World} {vs : List Value} (H : HR W ρ (look h) (fun id => nx ≤ id) w) (hr : RelL ρ args vs) :
    Calls C.P f vs.toArray w (FnPost W ρ k) := by
  unfold enterA at he
  split at he
  · rename_i fn' hf
    split at he
    · rename_i c' hb
      cases he
      have hf' : C.P.funcs[f]? = some fn := by simpa using hf
      refine calls_of_wp hf' hb ?_
      have hlen : args.length = vs.toArray.size := by simp [hr.1]
      have htm : TR ρ (args ++ repAny (fn.ntmps - args.length)) { tmps := vs.toArray ++ Array.replicate (fn.ntmps - vs.toArray.size) undef, defers := [] } := by
        have := tr_of_relL (hr.append (repAny_rel (fn.ntmps - args.length)))
        have e : (vs ++ List.replicate (fn.ntmps - args.length) undef).toArray = vs.toArray ++ Array.replicate (fn.ntmps - vs.toArray.size) undef := by
          apply Array.ext'
          simp [hlen]
        rw [e] at this
        exact this
      refine hn W f body _ _ hk ρ ρ _ w ⟨Ext.refl ρ, fun id x hx => ?_, htm, H⟩ _ fun x σ' ρ' a' w' hx g => ?_
      · rcases Nat.lt_or_ge id nx with h | h
        · exact h
        · rw [H.free id h] at hx
          cases hx
      · have fin : ∀ l, resA C.P σ'.tm σ'.h fn.results.toList = some l → k (oneA l) σ'.h σ'.nx → a'.defers = [] ∧ ∃ v, (results fn a'.tmps).run C.P w' = .ok v w' ∧ FnPost W ρ k (.returned v) w' := by
          intro l hl hkk
          obtain ⟨v', h1, h2⟩ := results_run g.tr g.hr hl
          exact ⟨g.tr.defers, v', h1, v', ρ', oneA l, σ'.h, σ'.nx, rfl, g.ext, h2, g.hr, hkk⟩
        cases x with
        | normal =>
          simp only [exitA] at hx
          split at hx
          · rename_i l hl
            rw [forceK_eq] at hx
            exact fin l hl hx
          · exact hx.elim
        | exit i => simp only [exitA] at hx
        | ret =>
          simp only [exitA] at hx
          split at hx
          · rename_i l hl
            rw [forceK_eq] at hx
            exact fin l hl hx
          · exact hx.elim
    · cases he
  · cases he

/-! weakening, computed -/
theorem vEq_ok {u v : Value} (h : vEq u v = true) : u = v := by
  unfold vEq at h
  split at h
  · simp only [Bool.and_eq_true, decide_eq_true_eq, beq_iff_eq] at h
    obtain ⟨rfl, rfl⟩ := h
    rfl
  · simp only [beq_iff_eq] at h
    subst h
    rfl
  · rfl
  · cases h
theorem aggB_ok : ∀ {ds cs : List AV}, aggB ds cs = true → WeakL (fun x y => match y with
      | .any => True
      | .val v => x = .val v
      | _ => False) ds cs
  | [], [], _ => trivial
  | .val u :: r, .val v :: t, h => by
    simp only [aggB, Bool.and_eq_true] at h
    exact ⟨by rw [vEq_ok h.1], aggB_ok h.2⟩
  | [], _ :: _, h => by simp [aggB] at h
  | a :: r, [], h => by cases a <;> simp [aggB] at h
  | a :: r, b :: t, h => by
    cases a <;> cases b <;> first | (simp [aggB] at h; done) | (simp only [aggB, Bool.and_eq_true] at h; exact ⟨by rw [vEq_ok h.1], aggB_ok h.2⟩)
theorem sid_ok {nx id : Nat} (h : Nat.blt id nx = true) : sid nx id = some id := by unfold sid; rw [h]
theorem weakVB_ok {nx : Nat} {a b : AV} (h : weakVB nx a b = true) : Weak (sid nx) a b := by
  cases b with
  | any => trivial
  | val v =>
    cases a <;> simp only [weakVB] at h <;> first | (cases h; done) | exact vEq_ok h
  | ptr id k =>
    cases a <;> simp only [weakVB] at h <;> first | (cases h; done) | skip
    simp only [Bool.and_eq_true] at h
    have e := nbeq.1 h.2.1
    exact ⟨by rw [e]; exact sid_ok h.1, nbeq.1 h.2.2⟩
  | slc id k l c =>
    cases a <;> simp only [weakVB] at h <;> first | (cases h; done) | skip
    simp only [Bool.and_eq_true] at h
    have e := nbeq.1 h.2.1
    exact ⟨by rw [e]; exact sid_ok h.1, nbeq.1 h.2.2.1, nbeq.1 h.2.2.2.1, nbeq.1 h.2.2.2.2⟩
  | agg cs =>
    cases a <;> simp only [weakVB] at h <;> first | (cases h; done) | exact aggB_ok h
  | elt _ _ _ _ => simp [weakVB] at h
  | view _ _ _ _ => simp [weakVB] at h
  | own _ _ => simp [weakVB] at h
  | tup _ => simp [weakVB] at h
  | fn _ _ _ => simp [weakVB] at h
theorem weakLB_ok {nx : Nat} : ∀ {l m : List AV}, weakLB nx l m = true → WeakL (Weak (sid nx)) l m
  | [], [], _ => trivial
  | [], _ :: _, h => by simp [weakLB] at h
  | _ :: _, [], h => by simp [weakLB] at h
  | a :: r, b :: t, h => by
    simp only [weakLB, Bool.and_eq_true] at h
    have h1 := weakVB_ok h.1
    have h2 := weakLB_ok h.2
    cases b <;> first | exact h2 | exact ⟨h1, h2⟩
theorem weakBB_ok {nx : Nat} {a b : Option Blk} (h : weakBB nx a b = true) : WeakB (sid nx) a b := by
  cases b with
  | none => trivial
  | some B =>
    cases B with
    | cells ty cs =>
      cases a with
      | none => simp [weakBB] at h
      | some A =>
        cases A with
        | cells ty' ds =>
          simp only [weakBB, Bool.and_eq_true] at h
          exact ⟨nbeq.1 h.1, weakLB_ok h.2⟩
        | row _ _ _ _ => simp [weakBB] at h
        | orow _ _ _ _ => simp [weakBB] at h
    | row _ _ _ _ => simp [weakBB] at h
    | orow _ _ _ _ => simp [weakBB] at h
theorem weakHB_ok {nx : Nat} {h : Hp} : ∀ {l : Hp}, weakHB nx h l = true → WeakH (sid nx) h l
  | [], _ => trivial
  | (id, b) :: r, hh => by
    simp only [weakHB, Bool.and_eq_true] at hh
    refine ⟨?_, weakHB_ok hh.2⟩
    cases hb : Nat.blt id nx with
    | true =>
      have h1 := hh.1
      simp only [hb] at h1
      simp only [sid_ok hb]
      exact weakBB_ok h1
    | false => simp only [sid, hb]
theorem refB_ok {a b : St} (h : refB a b = true) : Ref (sid b.nx) a b := by
  simp only [refB, Bool.and_eq_true] at h
  obtain ⟨h1, h2, h3, h4⟩ := h
  have h5 := Nat.le_of_ble_eq_true h4
  refine ⟨weakLB_ok h1, weakHB_ok h2, nbeq.1 h3, fun id hid => sid_ok (by simpa [Nat.blt_eq] using (show id < b.nx by omega)), fun id hid => ?_, fun i j x hi hj => ?_⟩
  · unfold sid
    split
    · rename_i hb
      have : id < b.nx := by simpa [Nat.blt_eq] using hb
      omega
    · rfl
  · unfold sid at hi hj
    split at hi
    · split at hj
      · cases hi; cases hj; rfl
      · cases hj
    · cases hi
theorem noVal_ok {v : Nat} : ∀ {l : List (Nat × Nat)}, noVal v l = true → ∀ k, (k, v) ∉ l
  | [], _, k, h => by cases h
  | (k', w) :: r, h, k, hm => by
    simp only [noVal, Bool.and_eq_true, Bool.not_eq_true'] at h
    rcases List.mem_cons.1 hm with hm | hm
    · cases hm
      have := h.1
      rw [nbeq.2 rfl] at this
      cases this
    · exact noVal_ok h.2 k hm
theorem assoc_mem : ∀ {l : List (Nat × Nat)} {id v : Nat}, assoc l id = some v → (id, v) ∈ l
  | [], id, v, h => by simp [assoc] at h
  | (k, w) :: r, id, v, h => by
    simp only [assoc] at h
    split at h
    · rename_i hk
      cases h
      rw [nbeq.1 hk]
      simp
    · exact List.mem_cons_of_mem _ (assoc_mem h)
theorem pairsOK_mem {lo nx : Nat} : ∀ {l : List (Nat × Nat)}, pairsOK lo nx l = true → ∀ k v, (k, v) ∈ l → k < nx ∧ lo ≤ v
  | [], _, k, v, h => by cases h
  | (k', w) :: r, h, k, v, hm => by
    simp only [pairsOK, Bool.and_eq_true] at h
    rcases List.mem_cons.1 hm with hm | hm
    · cases hm
      exact ⟨by simpa [Nat.blt_eq] using h.1, Nat.le_of_ble_eq_true h.2.1⟩
    · exact pairsOK_mem h.2.2.2 k v hm
theorem pairsOK_inj {lo nx : Nat} : ∀ {l : List (Nat × Nat)}, pairsOK lo nx l = true → ∀ i j v, (i, v) ∈ l → (j, v) ∈ l → i = j
  | [], _, i, j, v, h, _ => by cases h
  | (k', w) :: r, h, i, j, v, hi, hj => by
    simp only [pairsOK, Bool.and_eq_true] at h
    rcases List.mem_cons.1 hi with hi | hi
    · cases hi
      rcases List.mem_cons.1 hj with hj | hj
      · cases hj; rfl
      · exact absurd hj (noVal_ok h.2.2.1 j)
    · rcases List.mem_cons.1 hj with hj | hj
      · cases hj
        exact absurd hi (noVal_ok h.2.2.1 i)
      · exact pairsOK_inj h.2.2.2 i j v hi hj
theorem refM_ok {l : List (Nat × Nat)} {a b : St} (h : RefM l a b) : Ref (ren b.lo (pairsOf a.tm l)) a b := by
  obtain ⟨h1, h2, h3⟩ := h
  simp only [Bool.and_eq_true] at h3
  obtain ⟨h4, h5, h6⟩ := h3
  have h4 := nbeq.1 h4
  have h5 := Nat.le_of_ble_eq_true h5
  have hlow : ∀ id, id < b.lo → ren b.lo (pairsOf a.tm l) id = some id := fun id hid => by
    unfold ren
    rw [show Nat.blt id b.lo = true by simpa [Nat.blt_eq] using hid]
  have hup : ∀ id x, ¬ id < b.lo → ren b.lo (pairsOf a.tm l) id = some x → (id, x) ∈ pairsOf a.tm l := fun id x hid hx => by
    unfold ren at hx
    split at hx
    · rename_i hb
      exact absurd (by simpa [Nat.blt_eq] using hb) hid
    · exact assoc_mem hx
  refine ⟨h1, h2, h4, fun id hid => hlow id (by omega), fun id hid => ?_, fun i j x hi hj => ?_⟩
  · cases hr : ren b.lo (pairsOf a.tm l) id with
    | none => rfl
    | some x =>
      have := (pairsOK_mem h6 id x (hup id x (by omega) hr)).1
      omega
  · by_cases hi' : i < b.lo
    · rw [hlow i hi'] at hi
      cases hi
      by_cases hj' : j < b.lo
      · rw [hlow j hj'] at hj
        cases hj; rfl
      · have := (pairsOK_mem h6 j i (hup j i hj' hj)).2
        omega
    · have hi2 := hup i x hi' hi
      by_cases hj' : j < b.lo
      · rw [hlow j hj'] at hj
        cases hj
        have := (pairsOK_mem h6 i j hi2).2
        omega
      · exact pairsOK_inj h6 i j x hi2 (hup j x hj' hj)
theorem of_ifb {c : Bool} {p : Prop} (h : ifb c p False) : c = true ∧ p := by
  cases c
  · exact h.elim
  · exact ⟨rfl, h⟩


/-- **What the evaluator tells of code, the code does.** -/
theorem acode_sound (hT : TabOK C.P C.T) (hin : ∀ f, C.inl f = true → Enters C.P f) (hm : C.P.follows .mixedOrders = true) : ∀ n, CodeOK C n := by
  intro n
  induction n with
  | zero => intro W cur c σ k h; exact h.elim
  | succ n ih =>
    intro W cur c σ k h ρ0 ρ a w g Q hQ
    unfold acode at h
    split at h
    · exact wp_skip (hQ .normal σ ρ a w h g)
    · exact wp_label (hQ .normal σ ρ a w h g)
    · rename_i id ops draw
      split at h
      · -- in the order of the text
        refine wp_region_list ?_
        have hcall : CallOK C.P W C.inl (fun f args h nx k' => match enterA C.P f with
          | some (fn, body) => forceLK (args ++ repAny (fn.ntmps - args.length)) fun tm => acode C n f body ⟨tm, h, nx, nx⟩ (exitA C.P fn k')
          | none => False) := by
          intro f args h nx k' hif hc ρ w vs H hr
          split at hc
          · rename_i fn body he
            rw [forceLK_eq] at hc
            exact enter_calls ih he hc H hr
          · exact hc.elim
        have := aseq_sound (W := W) hT hin hcall (ops := ops.toList) ops.toList σ.tm σ.h σ.nx _ h ρ0 ρ a w g.ext g.tr g.hr Q (fun ρ' tm' h' nx' a' w' h1 h2 h3 h4 => hQ .normal ⟨tm', h', nx', σ.lo⟩ ρ' a' w' h4 ⟨h1, g.low, h2, h3⟩)
        simpa using this
      · refine adraw_sound (W := W) hT hm h g.tr g.hr (fun ρ' tm' h' a' w' h1 h2 h3 h4 => ?_)
        rw [natK_eq] at h4
        exact hQ .normal ⟨tm', h', _, σ.lo⟩ ρ' a' w' h4 ⟨g.ext.trans h1, g.low, h2, h3⟩
    · -- seq
      rename_i c1 c2
      refine wp_seq (ih W cur c1 σ _ h ρ0 ρ a w g _ fun x σ' ρ' a' w' hx g' => ?_)
      cases x with
      | normal => exact ih W cur c2 σ' k hx ρ0 ρ' a' w' g' Q hQ
      | exit i => exact hQ (.exit i) σ' ρ' a' w' hx g'
      | ret => exact hQ .ret σ' ρ' a' w' hx g'
    · -- cond
      rename_i c t e
      split at h
      · rename_i b hb
        have hev : a.eval c = .bool b := by
          have := g.tr.eval c
          rw [← aeval_F, hb] at this
          exact this.val_inv
        refine wp_cond hev ?_
        cases b
        · exact ih W cur e σ k h ρ0 ρ a w g Q hQ
        · exact ih W cur t σ k h ρ0 ρ a w g Q hQ
      · exact h.elim
    · -- block
      rename_i id c
      refine wp_block (ih W cur c σ _ h ρ0 ρ a w g _ fun x σ' ρ' a' w' hx g' => ?_)
      cases x with
      | normal => exact hQ .normal σ' ρ' a' w' hx g'
      | exit i =>
        simp only at hx
        split at hx
        · rename_i hi
          have := nbeq.1 hi
          simp only [toExit, Exit.inBlock, if_pos this]
          exact hQ .normal σ' ρ' a' w' hx g'
        · rename_i hi
          have : i ≠ id := by
            rintro rfl
            simp at hi
          simp only [toExit, Exit.inBlock, if_neg this]
          exact hQ (.exit i) σ' ρ' a' w' hx g'
      | ret => exact hQ .ret σ' ρ' a' w' hx g'
    · -- loop
      rename_i c
      split at h
      · rename_i an _
        obtain ⟨hr, hstep⟩ := h
        refine wp_loop_ghost (fun m a w => ∃ i ρ', an.mu i = m ∧ Good W ρ0 ρ' (an.inv i) a w) (an.mu an.i0) ⟨an.i0, _, rfl, ref_good hr g⟩ ?_
        rintro m a w ⟨i, ρ', rfl, g'⟩
        refine ih W cur c (an.inv i) _ (hstep i) ρ0 ρ' a w g' _ fun x σ' ρ2 a' w' hx g2 => ?_
        cases x with
        | normal =>
          obtain ⟨i', hr', hlt⟩ := hx
          exact ⟨an.mu i', hlt, i', _, rfl, ref_good hr' g2⟩
        | exit e => exact hQ (.exit e) σ' ρ2 a' w' hx g2
        | ret => exact hQ .ret σ' ρ2 a' w' hx g2
      · rename_i an _
        obtain ⟨J, ⟨i0, hj, hr⟩, hstep⟩ := h
        refine wp_loop_ghost (fun m a w => ∃ i ρ', an.mu i = m ∧ J i ∧ Good W ρ0 ρ' (an.inv i) a w) (an.mu i0) ⟨i0, _, rfl, hj, ref_good hr g⟩ ?_
        rintro m a w ⟨i, ρ', rfl, hj', g'⟩
        refine ih W cur c (an.inv i) _ (hstep i hj') ρ0 ρ' a w g' _ fun x σ' ρ2 a' w' hx g2 => ?_
        cases x with
        | normal =>
          obtain ⟨i', ⟨hj2, hlt⟩, hr'⟩ := hx
          exact ⟨an.mu i', hlt, i', _, rfl, hj2, ref_good hr' g2⟩
        | exit e => exact hQ (.exit e) σ' ρ2 a' w' hx g2
        | ret => exact hQ .ret σ' ρ2 a' w' hx g2
      · rename_i ch _
        obtain ⟨hr, hstep, hlast⟩ := of_ifb h
        refine wp_loop_ghost (fun m a w => ∃ i ρ', ch.N - i = m ∧ i ≤ ch.N ∧ Good W ρ0 ρ' (ch.inv i) a w) (ch.N - 0) ⟨0, _, rfl, Nat.zero_le _, ref_good (refB_ok hr) g⟩ ?_
        rintro m a w ⟨i, ρ', rfl, hi, g'⟩
        by_cases hl : i < ch.N
        · refine ih W cur c (ch.inv i) _ (hstep i (by simpa [Nat.blt_eq] using hl)) ρ0 ρ' a w g' _ fun x σ' ρ2 a' w' hx g2 => ?_
          cases x with
          | normal => exact ⟨ch.N - (i + 1), by omega, i + 1, _, rfl, by omega, ref_good (refB_ok (of_ifb hx).1) g2⟩
          | exit e => exact hx.elim
          | ret => exact hx.elim
        · obtain rfl : i = ch.N := by omega
          refine ih W cur c (ch.inv ch.N) _ hlast ρ0 ρ' a w g' _ fun x σ' ρ2 a' w' hx g2 => ?_
          cases x with
          | normal => exact hx.elim
          | exit e => exact hQ (.exit e) σ' ρ2 a' w' hx g2
          | ret => exact hQ .ret σ' ρ2 a' w' hx g2
      · rename_i an _
        obtain ⟨J, ⟨i0, hj, hr⟩, hstep⟩ := h
        refine wp_loop_ghost (fun m a w => ∃ i ρ', an.mu i = m ∧ J i ∧ Good W ρ0 ρ' ⟨an.tm i, over (an.h i) (below σ.lo σ.h), an.nx, σ.lo⟩ a w) (an.mu i0) ⟨i0, _, rfl, hj, ref_good (refM_ok hr) g⟩ ?_
        rintro m a w ⟨i, ρ', rfl, hj', g'⟩
        refine ih W cur c _ _ (hstep i hj') ρ0 ρ' a w g' _ fun x σ' ρ2 a' w' hx g2 => ?_
        cases x with
        | normal =>
          obtain ⟨i', ⟨hj2, hlt⟩, hr'⟩ := hx
          exact ⟨an.mu i', hlt, i', _, rfl, hj2, ref_good (refM_ok hr') g2⟩
        | exit e => exact hQ (.exit e) σ' ρ2 a' w' hx g2
        | ret => exact hQ .ret σ' ρ2 a' w' hx g2
      · rename_i an _
        unfold annLoopC at h
        split at h
        · exact h.elim
        · rename_i c0 t0 g0 r _
          obtain ⟨⟨hc0, hr⟩, hch⟩ := h
          -- the states that are left, and that each goes on
          have key : ∀ (r : List (Bool × List AV × Hp)) (c0 : Bool) (t0 : List AV × Hp), c0 = true → chainP (acode C n cur c) an.l1 (fun t => ⟨t.1, over t.2 (below σ.lo σ.h), an.nx, σ.lo⟩) k (c0, t0) r → ∀ ρ' a w, Good W ρ0 ρ' ⟨t0.1, over t0.2 (below σ.lo σ.h), an.nx, σ.lo⟩ a w → Code.rounds C.P c Q (r.length + 1) a w := by
            intro r
            induction r with
            | nil =>
              intro c0 t0 hc hch ρ' a w g'
              rw [rounds_succ]
              refine ih W cur c _ _ (hch hc) ρ0 ρ' a w g' _ fun x σ' ρ2 a' w' hx g2 => ?_
              cases x with
              | normal => exact hx.elim
              | exit e => exact hQ (.exit e) σ' ρ2 a' w' hx g2
              | ret => exact hQ .ret σ' ρ2 a' w' hx g2
            | cons t1 r ihr =>
              intro c0 t0 hc hch ρ' a w g'
              obtain ⟨c1, t1⟩ := t1
              obtain ⟨h1, h2⟩ := hch
              rw [rounds_succ]
              refine ih W cur c _ _ (h1 hc) ρ0 ρ' a w g' _ fun x σ' ρ2 a' w' hx g2 => ?_
              cases x with
              | normal => exact ihr c1 t1 hx.1 h2 _ a' w' (ref_good (refM_ok hx.2) g2)
              | exit e => exact hQ (.exit e) σ' ρ2 a' w' hx g2
              | ret => exact hQ .ret σ' ρ2 a' w' hx g2
          exact wp_loop_rounds (r.length + 1) (key r c0 (t0, g0) hc0 hch _ a w (ref_good (refM_ok hr) g))
      · refine wp_loop_rounds n ?_
        have rounds : ∀ m σ ρ a w, aloop (acode C n cur c) m σ k → Good W ρ0 ρ σ a w → Code.rounds C.P c Q m a w := by
          intro m
          induction m with
          | zero => intro σ ρ a w h _; exact h.elim
          | succ m ihm =>
            intro σ ρ a w h g
            rw [rounds_succ]
            refine ih W cur c σ _ h ρ0 ρ a w g _ fun x σ' ρ' a' w' hx g' => ?_
            cases x with
            | normal => exact ihm σ' ρ' a' w' hx g'
            | exit i => exact hQ (.exit i) σ' ρ' a' w' hx g'
            | ret => exact hQ .ret σ' ρ' a' w' hx g'
        exact rounds n σ ρ a w h g
    · -- scope
      rename_i c
      refine wp_scope_straight (ih W cur c σ _ h ρ0 ρ a w g _ fun x σ' ρ' a' w' hx g' => ?_)
      have := hQ x σ' ρ' a' w' hx g'
      cases x <;> exact this
    · exact wp_exit (hQ (.exit _) σ ρ a w h g)
    · exact wp_ret (hQ .ret σ ρ a w h g)
    · exact h.elim

/-- **What the evaluator tells of a function, its calls do.** -/
theorem afn_calls (hT : TabOK C.P C.T) (hin : ∀ f, C.inl f = true → Enters C.P f) (hm : C.P.follows .mixedOrders = true) {n : Nat} {f : FuncId} {args : List AV} {h : Hp} {nx : Nat} {k : AV → Hp → Nat → Prop}
    (hk : afn C n f args h nx k) {ρ : Env} {w : World} {vs : List Value} (H : HR W ρ (look h) (fun id => nx ≤ id) w) (hr : RelL ρ args vs) : Calls C.P f vs.toArray w (FnPost W ρ k) := by
  unfold afn at hk
  split at hk
  · rename_i fn body he
    rw [forceLK_eq] at hk
    exact enter_calls (acode_sound hT hin hm n) he hk H hr
  · exact hk.elim

/-- No memory is named. -/
def noE : Env := fun _ => none
theorem hr_none (w : World) (nx : Nat) : HR w noE (look []) (fun id => nx ≤ id) w where
  below := Below.refl _ _
  old := fun id b o c h => by cases h
  free := fun _ _ => rfl
  blk := fun id b o c B h => by cases h
  apart := fun id id' b o c o' c' B B' h => by cases h

/-- A function that names no memory. -/
theorem afn_pure (hT : TabOK C.P C.T) (hin : ∀ f, C.inl f = true → Enters C.P f) (hm : C.P.follows .mixedOrders = true) {n : Nat} {f : FuncId} {args : List AV} {k : AV → Prop}
    (hk : afn C n f args [] 0 fun v _ _ => k v) {vs : List Value} (hr : RelL noE args vs) (w : World) :
    Calls C.P f vs.toArray w (fun e w' => ∃ v' ρ' v, e = .returned v' ∧ Rel ρ' v v' ∧ k v ∧ Below w.heap.size w w') :=
  (afn_calls hT hin hm hk (hr_none w 0) hr).mono fun _ _ ⟨v', ρ', v, _, _, h1, _, h3, h4, h5⟩ => ⟨v', ρ', v, h1, h3, h5, h4.below⟩

end

end Go.Proofs.Ytmaddijeiniliaa.Sy
