/-
  SyD0: a region that draws its order: one walk in the order of the text serves every order, if no two operations clash that no edge orders.
-/
import Derived.Test.YtmaddijeiniliaaSyC5
namespace Go.Proofs.Ytmaddijeiniliaa.Sy
open Go Go.RowKit
set_option linter.unusedVariables false

/-! frames as functions -/
def aevalF (tf : Nat → AV) : Operand → AV
  | .tmp t => tf t
  | .const v => .val v
  | .global g => .val (.pointer (some ⟨g, 0, none⟩))
  | .func f => .fn (.func f) [] []
theorem aeval_F (tm : List AV) : aeval tm = aevalF (nth tm) := by
  funext x
  cases x <;> rfl

structure TRf (ρ : Env) (N : Nat) (tf : Nat → AV) (a : Act) : Prop where
  defers : a.defers = []
  size : a.tmps.size = N
  slot : ∀ t v, a.tmps[t]? = some v → Rel ρ (tf t) v
  out : ∀ t, N ≤ t → tf t = .any

theorem TRf.eval {ρ : Env} {N : Nat} {tf : Nat → AV} {a : Act} (h : TRf ρ N tf a) (x : Operand) : Rel ρ (aevalF tf x) (a.eval x) := by
  cases x with
  | tmp t =>
    by_cases ht : t < N
    · have hs : t < a.tmps.size := by rw [h.size]; exact ht
      have := h.slot t a.tmps[t] (by simp [hs])
      simpa [aevalF, Act.eval, hs] using this
    · simp only [aevalF]
      rw [h.out t (Nat.le_of_not_lt ht)]
      exact .any _
  | const v => exact .val v
  | global g => exact .val _
  | func f => exact Rel.fn_mk (a := []) (b := []) .nil .nil

def updT (N : Nat) (tf : Nat → AV) (dst : Option Tmp) (v : AV) : Nat → AV := fun t => if dst = some t ∧ t < N then v else tf t

theorem nth_put (tm : List AV) (dst : Option Tmp) (v : AV) : nth (put tm dst v) = updT tm.length (nth tm) dst v := by
  funext t
  cases dst with
  | none => simp [put, updT]
  | some d =>
    simp only [put, nth_setN, updT, Option.some.injEq]
    by_cases e : d = t
    · subst e; simp
    · have : ¬ t = d := fun h => e h.symm
      simp [e, this]

theorem TRf.put {ρ : Env} {N : Nat} {tf : Nat → AV} {a : Act} (h : TRf ρ N tf a) {v : AV} {x : Value} (dst : Option Tmp) (hv : Rel ρ v x) : TRf ρ N (updT N tf dst v) (a.put dst x) := by
  cases dst with
  | none =>
    have e : updT N tf none v = tf := by funext t; simp [updT]
    rw [e]
    exact h
  | some d =>
    refine ⟨h.defers, by simpa [Act.put] using h.size, fun t u hu => ?_, fun t ht => ?_⟩
    · simp only [Act.put] at hu
      by_cases e : d = t
      · subst e
        have hlt : d < a.tmps.size := by
          have := (Array.getElem?_eq_some_iff.1 hu).1
          simpa using this
        rw [Array.getElem?_setIfInBounds_self_of_lt hlt] at hu
        cases hu
        have hN : d < N := by rw [← h.size]; exact hlt
        simpa [updT, hN] using hv
      · rw [Array.getElem?_setIfInBounds_ne e] at hu
        have : ¬ (some d = some t ∧ t < N) := fun hh => e (by simpa using hh.1)
        simp only [updT, if_neg this]
        exact h.slot t u hu
    · have : ¬ (some d = some t ∧ t < N) := fun hh => by omega
      simp only [updT, if_neg this]
      exact h.out t ht

theorem TRf.mono {ρ ρ' : Env} (he : Ext ρ ρ') {N : Nat} {tf : Nat → AV} {a : Act} (h : TRf ρ N tf a) : TRf ρ' N tf a :=
  ⟨h.defers, h.size, fun t v hv => (h.slot t v hv).mono he, h.out⟩
theorem TRf.congr {ρ : Env} {N : Nat} {tf tf' : Nat → AV} {a : Act} (h : TRf ρ N tf a) (e : ∀ t, tf' t = tf t) : TRf ρ N tf' a := by
  have : tf' = tf := funext e
  rw [this]
  exact h

def wantedF (ops : List Oper) (o : Oper) (tf : Nat → AV) : Option Bool :=
  match o.guard with
  | none => some true
  | some (g, want) => match gslot ops g with
    | none => none
    | some s => match tf s with
      | .val (.bool b) => some (b == want)
      | .val (.tuple _) => some false
      | _ => none
theorem wantedA_F (ops : List Oper) (o : Oper) (tm : List AV) : wantedA ops o tm = wantedF ops o (nth tm) := rfl

theorem nthO_eq : ∀ (l : List Oper) (k : Nat), nthO l k = l[k]?
  | [], _ => by simp [nthO]
  | x :: r, 0 => by simp [nthO]
  | x :: r, k + 1 => by simp [nthO, nthO_eq r]

theorem wantedF_eq {ρ : Env} {N : Nat} {ops : List Oper} {o : Oper} {tf : Nat → AV} {a : Act} {b : Bool} (h : TRf ρ N tf a) (hw : wantedF ops o tf = some b) :
    Region.wanted o (yielded ops.toArray a.tmps) = b := by
  unfold wantedF at hw
  unfold Region.wanted
  split at hw
  · rename_i hg; rw [hg]; simpa using hw
  · rename_i g want hg
    rw [hg]
    split at hw
    · cases hw
    · rename_i s hs
      have hgs : ((ops.toArray[g]?).bind (·.dst)) = some s := by
        unfold gslot at hs
        rw [nthO_eq] at hs
        split at hs
        · rename_i o' ho'
          simp [ho', hs]
        · cases hs
      have hin : ∀ u, tf s = .val u → a.tmps[s]? = some u := by
        intro u hu
        by_cases hlt : s < a.tmps.size
        · have h1 := h.slot s a.tmps[s] (by simp [hlt])
          rw [hu] at h1
          have := h1.val_inv
          simp [hlt, this]
        · have := h.out s (by rw [← h.size]; exact Nat.le_of_not_lt hlt)
          rw [this] at hu
          cases hu
      simp only [yielded, hgs, Option.bind_some]
      split at hw
      · rename_i b' hb'
        rw [hin _ hb']
        cases hw
        cases b' <;> cases want <;> rfl
      · rename_i vs hb'
        rw [hin _ hb']
        cases hw
        cases want <;> rfl
      · cases hw

/-! what one operation did -/
structure Rec where
  v : AV
  ds : Dl

def restrictF (hf : Nat → Option Blk) : List Nat → Hp
  | [] => []
  | id :: r => (id, hf id) :: restrictF hf r
theorem restrict_F (h : Hp) : ∀ ids, restrict h ids = restrictF (look h) ids
  | [] => rfl
  | id :: r => by simp [restrict, restrictF, restrict_F h r]
theorem restrictF_congr {hf hf' : Nat → Option Blk} : ∀ (ids : List Nat), (∀ id, id ∈ ids → hf id = hf' id) → restrictF hf ids = restrictF hf' ids
  | [], _ => rfl
  | id :: r, h => by
    simp only [restrictF]
    rw [h id (by simp), restrictF_congr r fun i hi => h i (by simp [hi])]
theorem look_restrictF {hf : Nat → Option Blk} : ∀ {ids : List Nat} {id : Nat}, id ∈ ids → look (restrictF hf ids) id = hf id
  | x :: r, id, h => by
    simp only [restrictF, look]
    cases hx : Nat.beq x id
    · have : id ≠ x := by
        rintro rfl
        simp at hx
      exact look_restrictF (by simpa [this] using h)
    · rw [nbeq.1 hx]

def opAvsF (o : Oper) (tf : Nat → AV) : List AV := o.op.operands.toList.map (aevalF tf)

/-- Operation number i, in a state. -/
def StepOK (P : Program) (T : Tab) (ops : List Oper) (key : Nat) (o : Oper) (r : Rec) (tf : Nat → AV) (hf : Nat → Option Blk) : Prop :=
  (wantedF ops o tf = some false ∧ r.v = vu ∧ r.ds = []) ∨
  (wantedF ops o tf = some true ∧ aop P T key o.op (opAvsF o tf) (restrictF hf (AV.idsL (opAvsF o tf))) = some (true, r.v, r.ds))

section
variable {P : Program} {T : Tab} {W : World}

/-- A step is what the model does. -/
theorem StepOK.wpOp (hT : TabOK P T) {ops : List Oper} {i key : Nat} {o : Oper} (ho : ops[i]? = some o) {r : Rec} {tf : Nat → AV} {hf : Nat → Option Blk} (h : StepOK P T ops key o r tf hf)
    {ρ : Env} {N : Nat} {a : Act} {w : World} {F : Nat → Prop} (ht : TRf ρ N tf a) (H : HR W ρ hf F w) (hkey : ∀ id, key ≤ id → id < key + stride → F id)
    {Q : Exit → Act → World → Prop} {K : Act → World → Prop}
    (hK : ∀ ρ' a' w', Ext ρ ρ' → TRf ρ' N (updT N tf o.dst r.v) a' → HR W ρ' (appD hf r.ds) (fun id => F id ∧ ¬ (key ≤ id ∧ id < key + stride)) w' → K a' w') :
    wpOp P ops.toArray Q i K a w := by
  unfold Go.wpOp
  have ho' : ops.toArray[i]? = some o := by simpa using ho
  simp only [ho']
  rcases h with ⟨hw, hv, hd⟩ | ⟨hw, ha⟩
  · rw [wantedF_eq ht hw]
    simp only [Bool.false_eq_true, if_false]
    refine hK ρ _ w (Ext.refl ρ) (ht.put o.dst (by rw [hv]; exact .val undef)) ?_
    rw [hd]
    exact H.congr (fun _ h => h.1) (fun _ => rfl)
  · rw [wantedF_eq ht hw]
    simp only [if_true]
    refine .inl (wp_of_opRun ?_)
    have hev : RelL ρ (opAvsF o tf) (o.op.operands.toList.map a.eval) := by
      refine ⟨by simp [opAvsF], fun j c v hc hv => ?_⟩
      simp only [opAvsF, List.getElem?_map] at hc hv
      cases hx : o.op.operands.toList[j]? with
      | none => simp [hx] at hc
      | some x =>
        simp [hx] at hc hv
        subst hc; subst hv
        exact ht.eval x
    have hr := aop_sound hT H hkey (fun id hid => look_restrictF hid) hev ha
    generalize (execOp a.eval o).run P w = res at hr
    have conv : ∀ v' w', Post W ρ hf F key r.v r.ds v' w' → K (a.put o.dst v') w' := fun v' w' ⟨ρ', h1, h2, h3⟩ => hK ρ' _ w' h1 ((ht.mono h1).put o.dst h2) h3
    cases res with
    | ok n w' =>
      cases n <;> simp only [OpRun] at hr ⊢
      case value v => exact conv _ _ hr
      case skip => exact conv _ _ hr
      case enter f args => exact hr.mono fun e w'' ⟨v, he, hp⟩ => ⟨v, he, conv _ _ hp⟩
    | halt x w' => simp only [OpRun] at hr

/-! folds over those operations that are listed -/
abbrev OR := Oper × Rec
def foldT (N : Nat) (l : Nat → Bool) : Nat → List OR → (Nat → AV) → (Nat → AV)
  | _, [], tf => tf
  | i, (o, r) :: s, tf => foldT N l (i + 1) s (if l i then updT N tf o.dst r.v else tf)
def foldH (l : Nat → Bool) : Nat → List OR → (Nat → Option Blk) → (Nat → Option Blk)
  | _, [], hf => hf
  | i, (_, r) :: s, hf => foldH l (i + 1) s (if l i then appD hf r.ds else hf)

def keysOf (ds : Dl) : List Nat := ds.map (·.1)

theorem appD_not : ∀ {ds : Dl} {hf : Nat → Option Blk} {id : Nat}, id ∉ keysOf ds → appD hf ds id = hf id
  | [], _, _, _ => rfl
  | (k, b) :: r, hf, id, h => by
    simp only [keysOf, List.map_cons, List.mem_cons, not_or] at h
    rw [appD, appD_not (by simpa [keysOf] using h.2)]
    simp [updF, h.1]
theorem appD_in : ∀ {ds : Dl} {hf hf' : Nat → Option Blk} {id : Nat}, id ∈ keysOf ds → appD hf ds id = appD hf' ds id
  | [], _, _, _, h => by simp [keysOf] at h
  | (k, b) :: r, hf, hf', id, h => by
    rw [appD, appD]
    by_cases hr : id ∈ keysOf r
    · exact appD_in hr
    · rw [appD_not hr, appD_not hr]
      have : id = k := by
        simp only [keysOf, List.map_cons, List.mem_cons] at h
        rcases h with h | h
        · exact h
        · exact absurd (by simpa [keysOf] using h) hr
      simp [updF, this]

theorem foldT_congr {N : Nat} {l l' : Nat → Bool} {t : Nat} : ∀ (s : List OR) (i : Nat) (tf tf' : Nat → AV), tf t = tf' t → (∀ j o r, s[j]? = some (o, r) → o.dst = some t → l (i + j) = l' (i + j)) → foldT N l i s tf t = foldT N l' i s tf' t
  | [], _, _, _, h, _ => h
  | (o, r) :: s, i, tf, tf', h, hl => by
    simp only [foldT]
    refine foldT_congr s (i + 1) _ _ ?_ fun j o' r' hj hd => by
      have := hl (j + 1) o' r' (by simpa using hj) hd
      rwa [show i + (j + 1) = i + 1 + j by omega] at this
    by_cases hd : o.dst = some t
    · have := hl 0 o r (by simp) hd
      rw [Nat.add_zero] at this
      rw [this]
      cases l' i <;> simp [updT, h]
    · have e : ∀ tf : Nat → AV, updT N tf o.dst r.v t = tf t := fun tf => by simp [updT, hd]
      cases l i <;> cases l' i <;> simp [e, h]

theorem foldH_congr {l l' : Nat → Bool} {id : Nat} : ∀ (s : List OR) (i : Nat) (hf hf' : Nat → Option Blk), hf id = hf' id → (∀ j o r, s[j]? = some (o, r) → id ∈ keysOf r.ds → l (i + j) = l' (i + j)) → foldH l i s hf id = foldH l' i s hf' id
  | [], _, _, _, h, _ => h
  | (o, r) :: s, i, hf, hf', h, hl => by
    simp only [foldH]
    refine foldH_congr s (i + 1) _ _ ?_ fun j o' r' hj hd => by
      have := hl (j + 1) o' r' (by simpa using hj) hd
      rwa [show i + (j + 1) = i + 1 + j by omega] at this
    by_cases hd : id ∈ keysOf r.ds
    · have := hl 0 o r (by simp) hd
      rw [Nat.add_zero] at this
      rw [this]
      cases l' i
      · simpa using h
      · simpa using appD_in hd
    · cases l i <;> cases l' i <;> simp [appD_not hd, h]

/-- The last one that is listed decides. -/
theorem foldT_last {N : Nat} {l : Nat → Bool} {t : Nat} (ht : t < N) : ∀ (s : List OR) (i j : Nat) (o : Oper) (r : Rec) (tf : Nat → AV), s[j]? = some (o, r) → o.dst = some t → l (i + j) = true →
    (∀ q o' r', j < q → s[q]? = some (o', r') → o'.dst = some t → l (i + q) = false) → foldT N l i s tf t = r.v
  | [], _, _, _, _, _, h, _, _, _ => by simp at h
  | (o', r') :: s, i, 0, o, r, tf, h, hd, hl, hq => by
    simp only [List.getElem?_cons_zero, Option.some.injEq, Prod.mk.injEq] at h
    obtain ⟨rfl, rfl⟩ := h
    simp only [foldT]
    rw [foldT_congr (l' := fun _ => false) s (i + 1) _ _ rfl (fun j o r hj hdd => by
      have := hq (j + 1) o r (by omega) (by simpa using hj) hdd
      rwa [show i + (j + 1) = i + 1 + j by omega] at this)]
    have : ∀ (s : List OR) (i : Nat) (tf : Nat → AV), foldT N (fun _ => false) i s tf = tf := by
      intro s
      induction s with
      | nil => intro i tf; rfl
      | cons x s ih => intro i tf; obtain ⟨o, r⟩ := x; simp [foldT, ih]
    rw [this, if_pos (by simpa using hl)]
    simp [updT, hd, ht]
  | (o', r') :: s, i, j + 1, o, r, tf, h, hd, hl, hq => by
    simp only [foldT]
    exact foldT_last ht s (i + 1) j o r _ (by simpa using h) hd (by rw [show i + 1 + j = i + (j + 1) by omega]; exact hl) fun q o'' r'' hjq hs hd' => by
      have := hq (q + 1) o'' r'' (by omega) (by simpa using hs) hd'
      rwa [show i + (q + 1) = i + 1 + q by omega] at this

theorem foldH_last {l : Nat → Bool} {id : Nat} : ∀ (s : List OR) (i j : Nat) (o : Oper) (r : Rec) (hf hf' : Nat → Option Blk), s[j]? = some (o, r) → id ∈ keysOf r.ds → l (i + j) = true →
    (∀ q o' r', j < q → s[q]? = some (o', r') → id ∈ keysOf r'.ds → l (i + q) = false) → foldH l i s hf id = appD hf' r.ds id
  | [], _, _, _, _, _, _, h, _, _, _ => by simp at h
  | (o', r') :: s, i, 0, o, r, hf, hf', h, hd, hl, hq => by
    simp only [List.getElem?_cons_zero, Option.some.injEq, Prod.mk.injEq] at h
    obtain ⟨rfl, rfl⟩ := h
    simp only [foldH]
    rw [foldH_congr (l' := fun _ => false) s (i + 1) _ _ rfl (fun j o r hj hdd => by
      have := hq (j + 1) o r (by omega) (by simpa using hj) hdd
      rwa [show i + (j + 1) = i + 1 + j by omega] at this)]
    have : ∀ (s : List OR) (i : Nat) (hf : Nat → Option Blk), foldH (fun _ => false) i s hf = hf := by
      intro s
      induction s with
      | nil => intro i hf; rfl
      | cons x s ih => intro i hf; obtain ⟨o, r⟩ := x; simp [foldH, ih]
    rw [this, if_pos (by simpa using hl)]
    exact appD_in hd
  | (o', r') :: s, i, j + 1, o, r, hf, hf', h, hd, hl, hq => by
    simp only [foldH]
    exact foldH_last s (i + 1) j o r _ hf' (by simpa using h) hd (by rw [show i + 1 + j = i + (j + 1) by omega]; exact hl) fun q o'' r'' hjq hs hd' => by
      have := hq (q + 1) o'' r'' (by omega) (by simpa using hs) hd'
      rwa [show i + (q + 1) = i + 1 + q by omega] at this

/-! which come ahead of which -/
inductive Anc (ops : List Oper) : Nat → Nat → Prop where
  | direct {e j : Nat} {o : Oper} : ops[j]? = some o → e ∈ afterOf o → Anc ops e j
  | trans {e i j : Nat} : Anc ops i e → Anc ops e j → Anc ops i j

/-- What a listed operation waits for is listed. -/
def Closed (ops : List Oper) (l : Nat → Bool) : Prop := ∀ (j : Nat) (o : Oper) (e : Nat), ops[j]? = some o → l j = true → e ∈ afterOf o → l e = true

theorem Closed.anc {ops : List Oper} {l : Nat → Bool} (hc : Closed ops l) {i j : Nat} (h : Anc ops i j) : l j = true → l i = true := by
  induction h with
  | direct ho he => exact fun hl => hc _ _ _ ho hl he
  | trans _ _ ih1 ih2 => exact fun hl => ih1 (ih2 hl)

theorem Closed.anc_ready {ops : List Oper} {l : Nat → Bool} (hc : Closed ops l) {i j : Nat} {o : Oper} (ho : ops[j]? = some o) (hr : ∀ e, e ∈ afterOf o → l e = true) (h : Anc ops i j) : l i = true := by
  induction h with
  | direct ho' he => rw [ho] at ho'; cases ho'; exact hr _ he
  | trans h1 h2 ih1 ih2 => exact hc.anc h1 (ih2 ho)

theorem countP_lt {p q : Nat → Bool} : ∀ (l : List Nat), (∀ x, x ∈ l → p x = true → q x = true) → (∃ x, x ∈ l ∧ q x = true ∧ p x = false) → l.countP p < l.countP q
  | [], _, h => by obtain ⟨x, hx, _⟩ := h; cases hx
  | y :: r, h1, ⟨x, hx, hq, hp⟩ => by
    have hle : ∀ (r : List Nat), (∀ x, x ∈ r → p x = true → q x = true) → r.countP p ≤ r.countP q := fun r hr => List.countP_mono_left hr
    have hr1 : ∀ x, x ∈ r → p x = true → q x = true := fun x hx => h1 x (by simp [hx])
    simp only [List.countP_cons]
    rcases List.mem_cons.1 hx with rfl | hx
    · have := hle r hr1
      simp [hq, hp]
      omega
    · have := countP_lt r hr1 ⟨x, hx, hq, hp⟩
      have h2 := h1 y (by simp)
      cases hpy : p y <;> cases hqy : q y <;> simp_all <;> omega

/-- The lexical walk, step for step: state j is what the operations ahead of j leave. -/
def Lex (P : Program) (T : Tab) (ops : List Oper) (N nx : Nat) (s : List OR) (tf : Nat → AV) (hf : Nat → Option Blk) : Prop :=
  ∀ (j : Nat) (o : Oper) (r : Rec), s[j]? = some (o, r) → StepOK P T ops (nx + stride * j) o r (foldT N (fun i => decide (i < j)) 0 s tf) (foldH (fun i => decide (i < j)) 0 s hf)

/-- What operations read and write, as propositions. -/
structure Apart (ops : List Oper) (N : Nat) (s : List OR) (foot : Nat → List Nat) : Prop where
  tt : ∀ (i j : Nat) (oi : Oper) (ri : Rec) (oj : Oper) (rj : Rec), s[i]? = some (oi, ri) → s[j]? = some (oj, rj) → i < j → (∃ t, oi.dst = some t ∧ (t ∈ readsOf ops oj ∨ oj.dst = some t)) ∨ (∃ t, oj.dst = some t ∧ t ∈ readsOf ops oi) → Anc ops i j
  mm : ∀ (i j : Nat) (oi : Oper) (ri : Rec) (oj : Oper) (rj : Rec), s[i]? = some (oi, ri) → s[j]? = some (oj, rj) → i < j → (∃ id, id ∈ keysOf ri.ds ∧ (id ∈ foot j ∨ id ∈ keysOf rj.ds)) ∨ (∃ id, id ∈ keysOf rj.ds ∧ id ∈ foot i) → Anc ops i j

theorem opAvsF_congr {o : Oper} {tf tf' : Nat → AV} (ops : List Oper) (h : ∀ t, t ∈ readsOf ops o → tf t = tf' t) : opAvsF o tf = opAvsF o tf' := by
  unfold opAvsF
  apply List.map_congr_left
  intro x hx
  cases x with
  | tmp t =>
    simp only [aevalF]
    refine h t ?_
    simp only [readsOf, List.mem_append, List.mem_filterMap]
    exact .inl ⟨.tmp t, hx, rfl⟩
  | const v => rfl
  | global g => rfl
  | func f => rfl

theorem wantedF_congr {ops : List Oper} {o : Oper} {tf tf' : Nat → AV} (h : ∀ t, t ∈ readsOf ops o → tf t = tf' t) : wantedF ops o tf = wantedF ops o tf' := by
  unfold wantedF
  cases hg : o.guard with
  | none => rfl
  | some x =>
    obtain ⟨g, want⟩ := x
    simp only
    cases hs : gslot ops g with
    | none => rfl
    | some s =>
      simp only
      rw [h s (by simp [readsOf, hg, hs])]

theorem aop_pure {key : Nat} {op : Op} (h : pureOp op = true) (avs : List AV) (fh fh' : Hp) : aop P T key op avs fh = aop P T key op avs fh' := by
  cases op <;> simp only [pureOp, Bool.false_eq_true] at h
  case move => match avs with
    | [] => rfl
    | [_] => rfl
    | _ :: _ :: _ => rfl
  case assign => match avs with
    | [] => rfl
    | [_] => rfl
    | _ :: _ :: _ => rfl
  case binOp => match avs with
    | [] => rfl
    | [_] => rfl
    | [_, _] => rfl
    | _ :: _ :: _ :: _ => rfl
  case fieldAddr => match avs with
    | [] => rfl
    | [x] => cases x <;> rfl
    | x :: _ :: _ => cases x <;> rfl

theorem StepOK.congr {ops : List Oper} {key : Nat} {o : Oper} {r : Rec} {tf tf' : Nat → AV} {hf hf' : Nat → Option Blk} (h : StepOK P T ops key o r tf hf)
    (h1 : ∀ t, t ∈ readsOf ops o → tf' t = tf t) (h2 : ∀ id, id ∈ readIds o.op (AV.idsL (opAvsF o tf)) → wantedF ops o tf = some true → hf' id = hf id) : StepOK P T ops key o r tf' hf' := by
  unfold StepOK at *
  rw [wantedF_congr h1, opAvsF_congr ops h1]
  rcases h with h | ⟨h3, h4⟩
  · exact .inl h
  · refine .inr ⟨h3, ?_⟩
    cases hp : pureOp o.op with
    | true => rw [aop_pure hp _ _ (restrictF hf (AV.idsL (opAvsF o tf)))]; exact h4
    | false =>
      rw [restrictF_congr _ (fun id hid => h2 id (by simp only [readIds, hp]; exact hid) h3)]
      exact h4

/-- **The order does not matter.** -/
theorem wpAny_of_lex (hT : TabOK P T) {ops : List Oper} {N nx : Nat} {s : List OR} {tf : Nat → AV} {hf : Nat → Option Blk} {foot : Nat → List Nat}
    (hs : s.map (·.1) = ops) (hlex : Lex P T ops N nx s tf hf) (hap : Apart ops N s foot) (hpast : ∀ (j : Nat) (o : Oper) (e : Nat), ops[j]? = some o → e ∈ afterOf o → e < j)
    (hfoot : ∀ (j : Nat) (o : Oper) (r : Rec), s[j]? = some (o, r) → wantedF ops o (foldT N (fun i => decide (i < j)) 0 s tf) = some true → ∀ id, id ∈ readIds o.op (AV.idsL (opAvsF o (foldT N (fun i => decide (i < j)) 0 s tf))) → id ∈ foot j)
    {ρ0 : Env} {Q : Exit → Act → World → Prop}
    (hQ : ∀ ρ a w, Ext ρ0 ρ → TRf ρ N (foldT N (fun _ => true) 0 s tf) a → HR W ρ (foldH (fun _ => true) 0 s hf) (fun id => nx + stride * ops.length ≤ id) w → Q .normal a w) :
    ∀ (fuel : Nat) (listed : Array Bool) (ρ : Env) (a : Act) (w : World), listed.size = ops.length → Closed ops (fun i => listed.getD i false) →
      Ext ρ0 ρ → TRf ρ N (foldT N (fun i => listed.getD i false) 0 s tf) a →
      HR W ρ (foldH (fun i => listed.getD i false) 0 s hf) (fun id => nx ≤ id ∧ ∀ i, listed.getD i false = true → ¬ (nx + stride * i ≤ id ∧ id < nx + stride * i + stride)) w →
      (List.range ops.length).countP (fun i => !listed.getD i true) ≤ fuel → wpAny P .any ops.toArray Q fuel listed a w := by
  have hlen : s.length = ops.length := by rw [← hs]; simp
  have hget : ∀ (j : Nat) (o : Oper), ops[j]? = some o → ∃ r : Rec, s[j]? = some (o, r) := by
    intro j o ho
    rw [← hs] at ho
    simp only [List.getElem?_map, Option.map_eq_some_iff] at ho
    obtain ⟨⟨o', r⟩, h1, rfl⟩ := ho
    exact ⟨r, h1⟩
  have hof : ∀ {j : Nat} {o : Oper} {r : Rec}, s[j]? = some (o, r) → ops[j]? = some o := by
    intro j o r h
    rw [← hs]
    simp [h]
  have hready : ∀ {j : Nat} {listed : Array Bool}, j ∈ Region.ready .any ops.toArray listed ↔ listed.getD j true = false ∧ ∃ o, ops[j]? = some o ∧ ∀ e, e ∈ afterOf o → listed.getD e false = true := by
    intro j listed
    rw [mem_ready]
    simp only [List.getElem?_toArray, afterOf, List.mem_map, List.mem_filter, Array.mem_toList_iff]
    constructor
    · rintro ⟨h1, o, ho, h2⟩
      exact ⟨h1, o, ho, fun e ⟨x, ⟨hx1, hx2⟩, hx3⟩ => hx3 ▸ h2 x hx1 hx2⟩
    · rintro ⟨h1, o, ho, h2⟩
      exact ⟨h1, o, ho, fun x hx1 hx2 => h2 _ ⟨x, ⟨hx1, hx2⟩, rfl⟩⟩
  have hdone : ∀ {listed : Array Bool}, listed.size = ops.length → Region.ready .any ops.toArray listed = [] → ∀ j, j < ops.length → listed.getD j false = true := by
    intro listed hsz h0 j
    induction j using Nat.strongRecOn with
    | _ j ih =>
      intro hj
      by_cases hl : listed.getD j false = true
      · exact hl
      · exfalso
        have hu : listed.getD j true = false := by
          have hjs : j < listed.size := by omega
          simp [hjs] at hl ⊢
          exact hl
        have : j ∈ Region.ready .any ops.toArray listed := hready.2 ⟨hu, ops[j], by simp [hj], fun e he => ih e (hpast j _ e (by simp [hj]) he) (by have := hpast j _ e (by simp [hj]) he; omega)⟩
        rw [h0] at this
        cases this
  have hfinish : ∀ {listed : Array Bool} {ρ : Env} {a : Act} {w : World}, listed.size = ops.length → Region.ready .any ops.toArray listed = [] → Ext ρ0 ρ → TRf ρ N (foldT N (fun i => listed.getD i false) 0 s tf) a →
      HR W ρ (foldH (fun i => listed.getD i false) 0 s hf) (fun id => nx ≤ id ∧ ∀ i, listed.getD i false = true → ¬ (nx + stride * i ≤ id ∧ id < nx + stride * i + stride)) w → Q .normal a w := by
    intro listed ρ a w hsz h0 he ht H
    have hall := hdone hsz h0
    have hlt : ∀ {j : Nat} {x : OR}, s[j]? = some x → j < ops.length := fun h => by rw [← hlen]; exact (List.getElem?_eq_some_iff.1 h).1
    refine hQ ρ a w he (ht.congr fun t => ?_) (H.congr (fun id hid => ⟨?_, fun i hi hh => ?_⟩) fun id => ?_)
    · exact foldT_congr s 0 tf tf rfl fun j o r hj _ => by rw [Nat.zero_add, hall j (hlt hj)]
    · exact Nat.le_trans (Nat.le_add_right _ _) hid
    · have hi' : i < ops.length := by
        rw [← hsz]
        rcases Nat.lt_or_ge i listed.size with h | h
        · exact h
        · simp [Array.getElem?_eq_none h] at hi
      have : stride * i + stride ≤ stride * ops.length := by
        rw [← Nat.mul_succ]
        exact Nat.mul_le_mul_left _ hi'
      omega
    · exact foldH_congr s 0 hf hf rfl fun j o r hj _ => by rw [Nat.zero_add, hall j (hlt hj)]
  intro fuel
  induction fuel with
  | zero =>
    intro listed ρ a w hsz hc he ht H hcount
    have h0 : Region.ready .any ops.toArray listed = [] := by
      rw [List.eq_nil_iff_forall_not_mem]
      intro j hj
      obtain ⟨hu, o, ho, _⟩ := hready.1 hj
      have hjl : j < ops.length := (List.getElem?_eq_some_iff.1 ho).1
      have : 0 < (List.range ops.length).countP (fun i => !listed.getD i true) := List.countP_pos_iff.2 ⟨j, by simpa using hjl, by rw [hu]; rfl⟩
      omega
    exact ⟨h0, hfinish hsz h0 he ht H⟩
  | succ fuel ih =>
    intro listed ρ a w hsz hc he ht H hcount
    refine ⟨fun h0 => hfinish hsz h0 he ht H, fun j hj => ?_⟩
    obtain ⟨hu, o, ho, hr⟩ := hready.1 hj
    have hjl : j < ops.length := (List.getElem?_eq_some_iff.1 ho).1
    have hjf : listed.getD j false = false := by
      have hjs : j < listed.size := by omega
      simp [hjs] at hu ⊢
      exact hu
    obtain ⟨r, hsj⟩ := hget j o ho
    have hstep := hlex j o r hsj
    -- who clashes with j: listed just if ahead of it
    have side : ∀ (q : Nat) (oq : Oper) (rq : Rec), s[q]? = some (oq, rq) → (q < j → Anc ops q j) → (j < q → Anc ops j q) → listed.getD q false = decide (q < j) := by
      intro q oq rq hq h1 h2
      by_cases hlt : q < j
      · rw [hc.anc_ready ho hr (h1 hlt)]; simp [hlt]
      · by_cases heq : q = j
        · subst heq; simp [hjf]
        · have hgt : j < q := by omega
          cases hl : listed.getD q false
          · simp [hlt]
          · have := hc.anc (h2 hgt) hl
            rw [this] at hjf
            cases hjf
    have hsame : StepOK P T ops (nx + stride * j) o r (foldT N (fun i => listed.getD i false) 0 s tf) (foldH (fun i => listed.getD i false) 0 s hf) := by
      refine hstep.congr (fun t htr => ?_) (fun id hid hw => ?_)
      · refine foldT_congr s 0 tf tf rfl fun q oq rq hq hd => ?_
        rw [Nat.zero_add]
        exact side q oq rq hq (fun hlt => hap.tt q j oq rq o r hq hsj hlt (.inl ⟨t, hd, .inl htr⟩)) (fun hgt => hap.tt j q o r oq rq hsj hq hgt (.inr ⟨t, hd, htr⟩))
      · have hidf := hfoot j o r hsj hw id hid
        refine foldH_congr s 0 hf hf rfl fun q oq rq hq hd => ?_
        rw [Nat.zero_add]
        exact side q oq rq hq (fun hlt => hap.mm q j oq rq o r hq hsj hlt (.inl ⟨id, hd, .inl hidf⟩)) (fun hgt => hap.mm j q o r oq rq hsj hq hgt (.inr ⟨id, hd, hidf⟩))
    -- none that is listed writes again what j writes
    have later : ∀ (q : Nat) (oq : Oper) (rq : Rec), j < q → s[q]? = some (oq, rq) → Anc ops j q → listed.getD q false = false := by
      intro q oq rq hgt hq ha
      cases hl : listed.getD q false
      · rfl
      · have := hc.anc ha hl
        rw [this] at hjf
        cases hjf
    have hset : ∀ q, (listed.setIfInBounds j true).getD q false = if q = j then true else listed.getD q false := by
      intro q
      by_cases e : q = j
      · subst e
        have : q < listed.size := by omega
        simp [this]
      · rw [getD_set_ne false (fun h => e h.symm), if_neg e]
    have hupT : ∀ t, foldT N (fun i => (listed.setIfInBounds j true).getD i false) 0 s tf t = updT N (foldT N (fun i => listed.getD i false) 0 s tf) o.dst r.v t := by
      intro t
      by_cases hd : o.dst = some t
      · by_cases htN : t < N
        · rw [foldT_last htN s 0 j o r tf hsj hd (by rw [Nat.zero_add, hset]; simp) fun q oq rq hgt hq hdq => by
            rw [Nat.zero_add, hset, if_neg (by omega)]
            exact later q oq rq hgt hq (hap.tt j q o r oq rq hsj hq hgt (.inl ⟨t, hd, .inr hdq⟩))]
          simp [updT, hd, htN]
        · have hout := ht.out t (by omega)
          have : updT N (foldT N (fun i => listed.getD i false) 0 s tf) o.dst r.v t = .any := by
            simp only [updT]
            rw [if_neg (fun h => htN h.2)]
            exact hout
          rw [this]
          have hany : ∀ (s : List OR) (l : Nat → Bool) (i : Nat) (tf : Nat → AV), tf t = .any → foldT N l i s tf t = .any := by
            intro s
            induction s with
            | nil => intro l i tf h; exact h
            | cons x s ih =>
              intro l i tf h
              obtain ⟨o, r⟩ := x
              simp only [foldT]
              refine ih l (i + 1) _ ?_
              cases l i
              · simpa using h
              · simp [updT, htN, h]
          have htf : tf t = .any := by
            have hinv : ∀ (s : List OR) (l : Nat → Bool) (i : Nat) (tf : Nat → AV), foldT N l i s tf t = tf t := by
              intro s
              induction s with
              | nil => intro l i tf; rfl
              | cons x s ih =>
                intro l i tf
                obtain ⟨o, r⟩ := x
                simp only [foldT]
                rw [ih]
                cases l i <;> simp [updT, htN]
            rw [hinv] at hout
            exact hout
          exact hany _ _ _ _ htf
      · have : updT N (foldT N (fun i => listed.getD i false) 0 s tf) o.dst r.v t = foldT N (fun i => listed.getD i false) 0 s tf t := by simp [updT, hd]
        rw [this]
        refine foldT_congr s 0 tf tf rfl fun q oq rq hq hdq => ?_
        rw [Nat.zero_add, hset]
        have : q ≠ j := by
          rintro rfl
          rw [hsj] at hq
          cases hq
          exact hd hdq
        rw [if_neg this]
    have hupH : ∀ id, foldH (fun i => (listed.setIfInBounds j true).getD i false) 0 s hf id = appD (foldH (fun i => listed.getD i false) 0 s hf) r.ds id := by
      intro id
      by_cases hd : id ∈ keysOf r.ds
      · exact foldH_last s 0 j o r hf _ hsj hd (by rw [Nat.zero_add, hset]; simp) fun q oq rq hgt hq hdq => by
          rw [Nat.zero_add, hset, if_neg (by omega)]
          exact later q oq rq hgt hq (hap.mm j q o r oq rq hsj hq hgt (.inl ⟨id, hd, .inr hdq⟩))
      · rw [appD_not hd]
        refine foldH_congr s 0 hf hf rfl fun q oq rq hq hdq => ?_
        rw [Nat.zero_add, hset]
        have : q ≠ j := by
          rintro rfl
          rw [hsj] at hq
          cases hq
          exact hd hdq
        rw [if_neg this]
    refine hsame.wpOp hT ho ht H (fun id h1 h2 => ⟨by omega, fun i hi hh => ?_⟩) fun ρ' a' w' h1 h2 h3 => ?_
    · have hne : i ≠ j := by
        rintro rfl
        rw [hi] at hjf
        cases hjf
      rcases Nat.lt_or_gt_of_ne hne with h | h
      · have : stride * i + stride ≤ stride * j := by
          rw [← Nat.mul_succ]
          exact Nat.mul_le_mul_left _ h
        omega
      · have : stride * j + stride ≤ stride * i := by
          rw [← Nat.mul_succ]
          exact Nat.mul_le_mul_left _ h
        omega
    · refine ih (listed.setIfInBounds j true) ρ' a' w' (by simpa using hsz) (fun q oq e hq hl hea => ?_) (he.trans h1) (h2.congr hupT) (h3.congr (fun id hid => ?_) hupH) ?_
      · dsimp only at hl ⊢
        rw [hset] at hl ⊢
        by_cases e2 : e = j
        · simp [e2]
        · rw [if_neg e2]
          by_cases e1 : q = j
          · subst e1
            rw [ho] at hq
            cases hq
            exact hr e hea
          · rw [if_neg e1] at hl
            exact hc q oq e hq hl hea
      · refine ⟨⟨hid.1, fun i hi => hid.2 i ?_⟩, hid.2 j ?_⟩
        · rw [hset]
          by_cases e : i = j
          · simp [e]
          · rw [if_neg e]; exact hi
        · rw [hset]; simp
      · have hlt := countP_lt (p := fun i => !(listed.setIfInBounds j true).getD i true) (q := fun i => !listed.getD i true) (List.range ops.length) (fun x hx hpx => by
          by_cases e : j = x
          · subst e
            have : j < listed.size := by omega
            simp [this] at hpx
          · rw [getD_set_ne true e] at hpx
            exact hpx) ⟨j, by simpa using hjl, by rw [hu]; rfl, by
            have : j < listed.size := by omega
            simp [this]⟩
        omega
end

end Go.Proofs.Ytmaddijeiniliaa.Sy
