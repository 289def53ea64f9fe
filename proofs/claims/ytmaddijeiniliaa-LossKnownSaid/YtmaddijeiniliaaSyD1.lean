/-
  SyD1: regions.
-/
import Derived.Test.YtmaddijeiniliaaSyD0
namespace Go.Proofs.Ytmaddijeiniliaa.Sy
open Go Go.RowKit
set_option linter.unusedVariables false

abbrev TR (ρ : Env) (tm : List AV) (a : Act) : Prop := TRf ρ tm.length (nth tm) a

theorem TR.put {ρ : Env} {tm : List AV} {a : Act} (h : TR ρ tm a) {v : AV} {x : Value} (dst : Option Tmp) (hv : Rel ρ v x) : TR ρ (put tm dst v) (a.put dst x) := by
  unfold TR
  rw [put_length, nth_put]
  exact TRf.put h dst hv

section
variable {P : Program} {T : Tab} {W : World}

/-! sets of numbers -/
theorem hasN_mem : ∀ {l : List Nat} {x : Nat}, hasN l x = true ↔ x ∈ l
  | [], x => by simp [hasN]
  | y :: r, x => by
    simp only [hasN, Bool.or_eq_true, hasN_mem (l := r), List.mem_cons]
    constructor
    · rintro (h | h)
      · exact .inl (nbeq.1 h).symm
      · exact .inr h
    · rintro (h | h)
      · exact .inl (nbeq.2 h.symm)
      · exact .inr h
theorem unN_mem : ∀ {a b : List Nat} {x : Nat}, x ∈ unN a b → x ∈ a ∨ x ∈ b
  | [], b, x, h => .inr h
  | y :: r, b, x, h => by
    simp only [unN] at h
    split at h
    · rcases unN_mem h with h | h
      · exact .inl (by simp [h])
      · exact .inr h
    · rcases unN_mem h with h | h
      · exact .inl (by simp [h])
      · rcases List.mem_cons.1 h with rfl | h
        · exact .inl (by simp)
        · exact .inr h
theorem upAll_mem {tab : List (List Nat)} : ∀ {es acc : List Nat} {x : Nat}, x ∈ upAll tab es acc → x ∈ acc ∨ ∃ e, e ∈ es ∧ (x = e ∨ x ∈ nthL tab e)
  | [], acc, x, h => .inl h
  | e :: r, acc, x, h => by
    simp only [upAll] at h
    rcases upAll_mem h with h | ⟨e', he', h⟩
    · rcases unN_mem h with h | h
      · exact .inr ⟨e, by simp, .inr h⟩
      · rcases unN_mem h with h | h
        · exact .inr ⟨e, by simp, .inl (by simpa using h)⟩
        · exact .inl h
    · exact .inr ⟨e', by simp [he'], h⟩
theorem meet_mem : ∀ {a b : List Nat} {x : Nat}, x ∈ a → x ∈ b → meet a b = true
  | y :: r, b, x, h, hb => by
    simp only [meet, Bool.or_eq_true]
    rcases List.mem_cons.1 h with rfl | h
    · exact .inl (hasN_mem.2 hb)
    · exact .inr (meet_mem h hb)
theorem nthL_app : ∀ (t : List (List Nat)) (x : List Nat) (j : Nat), nthL (t ++ [x]) j = if j < t.length then nthL t j else if j = t.length then x else []
  | [], x, 0 => rfl
  | [], x, j + 1 => by simp [nthL]
  | y :: r, x, 0 => by simp [nthL]
  | y :: r, x, j + 1 => by simp [nthL, nthL_app r]

theorem ancs_ok {ops : List Oper} : ∀ (l : List Oper) (tab : List (List Nat)), (∀ j o, l[j]? = some o → ops[tab.length + j]? = some o) → (∀ j i, i ∈ nthL tab j → Anc ops i j) → ∀ j i, i ∈ nthL (ancs l tab) j → Anc ops i j
  | [], tab, _, h, j, i, hi => h j i hi
  | o :: r, tab, hl, h, j, i, hi => by
    simp only [ancs] at hi
    refine ancs_ok r _ (fun j o' hj => ?_) (fun j i hi => ?_) j i hi
    · have := hl (j + 1) o' (by simpa using hj)
      rw [List.length_append, List.length_singleton, Nat.add_assoc, Nat.add_comm 1 j]
      exact this
    · rw [nthL_app] at hi
      split at hi
      · exact h j i hi
      · split at hi
        · rename_i hj
          have ho : ops[j]? = some o := by
            have := hl 0 o (by simp)
            rwa [Nat.add_zero, ← hj] at this
          rcases upAll_mem hi with hi | ⟨e, he, rfl | hi⟩
          · cases hi
          · exact .direct ho he
          · exact .trans (h e i hi) (.direct ho he)
        · cases hi

theorem past_ok : ∀ (l : List Oper) (i : Nat), pastOK i l = true → ∀ (j : Nat) (o : Oper) (e : Nat), l[j]? = some o → e ∈ afterOf o → e < i + j
  | [], _, _, j, o, e, h, _ => by simp at h
  | x :: r, i, hp, j, o, e, h, he => by
    simp only [pastOK, Bool.and_eq_true] at hp
    cases j with
    | zero =>
      simp at h
      subst h
      have := List.all_eq_true.1 hp.1 e he
      have : e + 1 ≤ i := by simpa [Nat.blt] using this
      omega
    | succ j =>
      have := past_ok r (i + 1) hp.2 j o e (by simpa using h) he
      omega

theorem clear1_ok {anc : List (List Nat)} {me : Nat} {u : Use} : ∀ (l : List Use) (i : Nat), clear1 anc me u i l = true → ∀ (j : Nat) (x : Use), l[j]? = some x → clash u x = true → me ∈ nthL anc (i + j)
  | [], _, _, j, x, h, _ => by simp at h
  | y :: r, i, hc, j, x, h, hx => by
    simp only [clear1, Bool.and_eq_true, Bool.or_eq_true, Bool.not_eq_true'] at hc
    cases j with
    | zero =>
      simp at h
      subst h
      rcases hc.1 with h | h
      · rw [h] at hx; cases hx
      · exact hasN_mem.1 h
    | succ j =>
      have := clear1_ok r (i + 1) hc.2 j x (by simpa using h) hx
      rwa [show i + 1 + j = i + (j + 1) by omega] at this

theorem clearAll_ok {anc : List (List Nat)} : ∀ (l : List Use) (i : Nat), clearAll anc i l = true → ∀ (p q : Nat) (x y : Use), l[p]? = some x → l[q]? = some y → p < q → clash x y = true → i + p ∈ nthL anc (i + q)
  | [], _, _, p, q, x, y, h, _, _, _ => by simp at h
  | z :: r, i, hc, p, q, x, y, hp, hq, hlt, hx => by
    simp only [clearAll, Bool.and_eq_true] at hc
    obtain ⟨q', rfl⟩ : ∃ q', q = q' + 1 := ⟨q - 1, by omega⟩
    cases p with
    | zero =>
      simp at hp
      subst hp
      have := clear1_ok r (i + 1) hc.1 q' y (by simpa using hq) hx
      rwa [show i + 1 + q' = i + (q' + 1) by omega] at this
    | succ p =>
      have := clearAll_ok r (i + 1) hc.2 p q' x y (by simpa using hp) (by simpa using hq) (by omega) hx
      rwa [show i + 1 + p = i + (p + 1) by omega, show i + 1 + q' = i + (q' + 1) by omega] at this

theorem usesOf_get {ops : List Oper} : ∀ (l : List Oper) (lg : Log) (j : Nat) (o : Oper) (x : List Nat × List Nat), l[j]? = some o → lg[j]? = some x → (usesOf ops l lg)[j]? = some (useOf ops o x)
  | [], _, j, o, x, h, _ => by simp at h
  | _ :: _, [], j, o, x, _, h => by simp at h
  | a :: r, b :: s, 0, o, x, h, h' => by
    simp at h h'
    subst h; subst h'
    simp [usesOf]
  | a :: r, b :: s, j + 1, o, x, h, h' => by
    have := usesOf_get (ops := ops) r s j o x (by simpa using h) (by simpa using h')
    simpa [usesOf] using this

/-! what the evaluator's walk of a drawing region tells -/
theorem adraw_lex {ops : List Oper} {N nx : Nat} : ∀ (l : List Oper) (i : Nat) (tm : List AV) (h : Hp) (lg : Log) (k : List AV → Hp → Log → Prop), tm.length = N → adraw P T ops nx i l tm h lg k →
    ∃ (s : List OR) (logs : Log) (tm' : List AV) (h' : Hp), s.map (·.1) = l ∧ logs.length = l.length ∧ tm'.length = N ∧ nth tm' = foldT N (fun _ => true) i s (nth tm) ∧ look h' = foldH (fun _ => true) i s (look h) ∧ k tm' h' (logs.reverse ++ lg) ∧
      ∀ (j : Nat) (o : Oper) (r : Rec), s[j]? = some (o, r) → StepOK P T ops (nx + stride * (i + j)) o r (foldT N (fun q => decide (q < i + j)) i s (nth tm)) (foldH (fun q => decide (q < i + j)) i s (look h)) ∧
        ∃ x, logs[j]? = some x ∧ x.2 = keysOf r.ds ∧ (wantedF ops o (foldT N (fun q => decide (q < i + j)) i s (nth tm)) = some true → x.1 = readIds o.op (AV.idsL (opAvsF o (foldT N (fun q => decide (q < i + j)) i s (nth tm)))))
  | [], i, tm, h, lg, k, hN, hk => ⟨[], [], tm, h, rfl, rfl, hN, rfl, rfl, hk, fun j o r hj => by simp at hj⟩
  | o :: r, i, tm, h, lg, k, hN, hk => by
    have hfalse : ∀ (s : List OR) (q : Nat) (tf : Nat → AV), q ≥ i → foldT N (fun q => decide (q < i)) q s tf = tf := by
      intro s
      induction s with
      | nil => intro q tf _; rfl
      | cons x s ih =>
        intro q tf hq
        obtain ⟨o, r⟩ := x
        have : decide (q < i) = false := by simp; omega
        simp only [foldT, this]
        exact ih (q + 1) tf (by omega)
    have hfalseH : ∀ (s : List OR) (q : Nat) (hf : Nat → Option Blk), q ≥ i → foldH (fun q => decide (q < i)) q s hf = hf := by
      intro s
      induction s with
      | nil => intro q tf _; rfl
      | cons x s ih =>
        intro q tf hq
        obtain ⟨o, r⟩ := x
        have : decide (q < i) = false := by simp; omega
        simp only [foldH, this]
        exact ih (q + 1) tf (by omega)
    -- one operation, then the rest
    have glue : ∀ (rc : Rec) (x : List Nat × List Nat) (h1 : Hp), StepOK P T ops (nx + stride * i) o rc (nth tm) (look h) → x.2 = keysOf rc.ds → (wantedF ops o (nth tm) = some true → x.1 = readIds o.op (AV.idsL (opAvsF o (nth tm)))) → look h1 = appD (look h) rc.ds →
        adraw P T ops nx (i + 1) r (put tm o.dst rc.v) h1 (x :: lg) k →
        ∃ (s : List OR) (logs : Log) (tm' : List AV) (h' : Hp), s.map (·.1) = o :: r ∧ logs.length = (o :: r).length ∧ tm'.length = N ∧ nth tm' = foldT N (fun _ => true) i s (nth tm) ∧ look h' = foldH (fun _ => true) i s (look h) ∧ k tm' h' (logs.reverse ++ lg) ∧
          ∀ (j : Nat) (o : Oper) (r : Rec), s[j]? = some (o, r) → StepOK P T ops (nx + stride * (i + j)) o r (foldT N (fun q => decide (q < i + j)) i s (nth tm)) (foldH (fun q => decide (q < i + j)) i s (look h)) ∧
            ∃ x, logs[j]? = some x ∧ x.2 = keysOf r.ds ∧ (wantedF ops o (foldT N (fun q => decide (q < i + j)) i s (nth tm)) = some true → x.1 = readIds o.op (AV.idsL (opAvsF o (foldT N (fun q => decide (q < i + j)) i s (nth tm))))) := by
      intro rc x h1 hst hx2 hx1 hh1 hrest
      obtain ⟨s, logs, tm', h', e1, e2, e3, e4, e5, e6, e7⟩ := adraw_lex (N := N) r (i + 1) (put tm o.dst rc.v) h1 (x :: lg) k (by rw [put_length]; exact hN) hrest
      refine ⟨(o, rc) :: s, x :: logs, tm', h', by simp [e1], by simp [e2], e3, ?_, ?_, by simpa using e6, fun j o' r' hj => ?_⟩
      · rw [e4, nth_put, hN]
        simp [foldT]
      · rw [e5, hh1]
        simp [foldH]
      · cases j with
        | zero =>
          simp only [List.getElem?_cons_zero, Option.some.injEq, Prod.mk.injEq] at hj
          obtain ⟨rfl, rfl⟩ := hj
          rw [Nat.add_zero, hfalse _ i _ (Nat.le_refl _), hfalseH _ i _ (Nat.le_refl _)]
          exact ⟨hst, x, by simp, hx2, hx1⟩
        | succ j =>
          have := e7 j o' r' (by simpa using hj)
          rw [show i + 1 + j = i + (j + 1) by omega] at this
          have hlt : decide (i < i + (j + 1)) = true := by simp
          simp only [foldT, foldH, hlt, if_true]
          rw [nth_put, hN, hh1] at this
          simpa using this
    simp only [adraw] at hk
    have hk1 := gsplit_id hk
    rw [wantedA_F] at hk1
    split at hk1
    · exact hk1.elim
    · rename_i hw
      rw [putK_eq] at hk1
      exact glue ⟨vu, []⟩ ([], []) h (.inl ⟨hw, rfl, rfl⟩) rfl (fun h => by rw [hw] at h; cases h) rfl hk1
    · rename_i hw
      have hk2 := psplit_id hk1
      have eav : opAvs o tm = opAvsF o (nth tm) := by simp [opAvs, opAvsF, aeval_F]
      rw [eav, restrict_F] at hk2
      split at hk2
      · rename_i c v ds ha
        obtain ⟨hc, hk3⟩ := ifb_and hk2
        subst hc
        rw [putK_eq, applyK_eq] at hk3
        exact glue ⟨v, ds⟩ _ _ (.inr ⟨hw, ha⟩) rfl (fun _ => rfl) (look_applyD ds h) hk3
      · exact hk2.elim

/-- **A region that draws its order.** -/
theorem adraw_sound (hT : TabOK P T) (hm : P.follows .mixedOrders = true) {id : Nat} {ops : Array Oper} {tm : List AV} {h : Hp} {nx : Nat} {k : List AV → Hp → Prop}
    (hd : adraw P T ops.toList nx 0 ops.toList tm h [] fun tm' h' lg => ifb (orderOK ops.toList lg) (k tm' h') False)
    {ρ : Env} {a : Act} {w : World} (ht : TR ρ tm a) (H : HR W ρ (look h) (fun id => nx ≤ id) w) {Q : Exit → Act → World → Prop}
    (hQ : ∀ ρ' tm' h' a' w', Ext ρ ρ' → TR ρ' tm' a' → HR W ρ' (look h') (fun id => nx + stride * ops.toList.length ≤ id) w' → k tm' h' → Q .normal a' w') : (Code.region id ops true).wp P Q a w := by
  obtain ⟨s, logs, tm', h', e1, e2, e3, e4, e5, e6, e7⟩ := adraw_lex (N := tm.length) ops.toList 0 tm h [] _ rfl hd
  obtain ⟨hord, hk⟩ := ifb_and e6
  simp only [orderOK, Bool.and_eq_true, List.append_nil, List.reverse_reverse] at hord
  obtain ⟨⟨⟨o1, o2⟩, o3⟩, _⟩ := hord
  refine wp_region_any hm ?_
  have hanc : ∀ j i, i ∈ nthL (ancs ops.toList []) j → Anc ops.toList i j := ancs_ok ops.toList [] (fun j o hj => by simpa using hj) (fun j i hi => by simp [nthL] at hi)
  have hclash : ∀ (i j : Nat) (oi oj : Oper) (x y : List Nat × List Nat), ops.toList[i]? = some oi → ops.toList[j]? = some oj → logs[i]? = some x → logs[j]? = some y → i < j → clash (useOf ops.toList oi x) (useOf ops.toList oj y) = true → Anc ops.toList i j := by
    intro i j oi oj x y h1 h2 h3 h4 hlt hc
    have := clearAll_ok _ 0 o3 i j _ _ (usesOf_get _ _ i oi x h1 h3) (usesOf_get _ _ j oj y h2 h4) hlt hc
    rw [Nat.zero_add, Nat.zero_add] at this
    exact hanc j i this
  have hof : ∀ {j : Nat} {o : Oper} {r : Rec}, s[j]? = some (o, r) → ops.toList[j]? = some o := by
    intro j o r hj
    rw [← e1]
    simp [hj]
  have hap : Apart ops.toList tm.length s (fun j => (logs[j]?.map (·.1)).getD []) := by
    constructor
    · intro i j oi ri oj rj hi hj hlt hor
      obtain ⟨_, x, hx, _, _⟩ := e7 i oi ri hi
      obtain ⟨_, y, hy, _, _⟩ := e7 j oj rj hj
      refine hclash i j oi oj x y (hof hi) (hof hj) hx hy hlt ?_
      simp only [clash, useOf, Bool.or_eq_true]
      rcases hor with ⟨t, h1, h2 | h2⟩ | ⟨t, h1, h2⟩
      · exact .inl (.inl (.inl (.inl (.inl (meet_mem (x := t) (by simp [h1]) h2)))))
      · exact .inl (.inl (.inl (.inl (.inr (meet_mem (x := t) (by simp [h1]) (by simp [h2]))))))
      · exact .inl (.inl (.inl (.inr (meet_mem (x := t) h2 (by simp [h1])))))
    · intro i j oi ri oj rj hi hj hlt hor
      obtain ⟨_, x, hx, hx2, _⟩ := e7 i oi ri hi
      obtain ⟨_, y, hy, hy2, _⟩ := e7 j oj rj hj
      refine hclash i j oi oj x y (hof hi) (hof hj) hx hy hlt ?_
      simp only [hx, hy, Option.map_some, Option.getD_some] at hor
      simp only [clash, useOf, Bool.or_eq_true, hx2, hy2]
      rcases hor with ⟨t, h1, h2 | h2⟩ | ⟨t, h1, h2⟩
      · exact .inl (.inl (.inr (meet_mem (x := t) h1 h2)))
      · exact .inl (.inr (meet_mem (x := t) h1 h2))
      · exact .inr (meet_mem (x := t) h2 h1)
  have hnone : ∀ i, (Array.replicate ops.size false).getD i false = false := by
    intro i
    simp only [Array.getD_eq_getD_getElem?, Array.getElem?_replicate]
    split <;> rfl
  have hfun : (fun i => (Array.replicate ops.size false).getD i false) = fun _ => false := funext hnone
  have hnoneT : ∀ (s : List OR) (i : Nat) (tf : Nat → AV), foldT tm.length (fun _ => false) i s tf = tf := by
    intro s
    induction s with
    | nil => intro i tf; rfl
    | cons x s ih => intro i tf; obtain ⟨o, r⟩ := x; exact ih _ _
  have hnoneH : ∀ (s : List OR) (i : Nat) (hf : Nat → Option Blk), foldH (fun _ => false) i s hf = hf := by
    intro s
    induction s with
    | nil => intro i tf; rfl
    | cons x s ih => intro i tf; obtain ⟨o, r⟩ := x; exact ih _ _
  have main := wpAny_of_lex (W := W) hT (N := tm.length) (nx := nx) (ops := ops.toList) (s := s) (tf := nth tm) (hf := look h) (foot := fun j => (logs[j]?.map (·.1)).getD []) e1 (fun j o r hj => by simpa using (e7 j o r hj).1) hap (fun j o e hj he => by simpa using past_ok _ 0 o1 j o e hj he) (fun j o r hj hw id hid => by
      obtain ⟨_, x, hx, _, hx1⟩ := e7 j o r hj
      simp only [Nat.zero_add] at hx1
      simp only [hx, Option.map_some, Option.getD_some, hx1 hw]
      exact hid) (ρ0 := ρ) (Q := Q) (fun ρ' a' w' h1 h2 h3 => hQ ρ' tm' h' a' w' h1 (by
        unfold TR
        rw [e3, e4]
        exact h2) (by rw [e5]; exact h3) hk)
  have := main ops.size (Array.replicate ops.size false) ρ a w.drew (by simp) (fun j o e _ hl => by simp [hnone] at hl) (Ext.refl ρ) (by rw [hfun, hnoneT]; exact ht) (by
    rw [hfun, hnoneH]
    exact H.drew.congr (fun id hid => hid.1) (fun _ => rfl)) (by
    have := List.countP_le_length (p := fun i => !(Array.replicate ops.size false).getD i true) (l := List.range ops.toList.length)
    simpa using this)
  simpa using this

/-! regions in the order of the text -/
/-- What a call that is walked into must show. -/
def CallOK (P : Program) (W : World) (inl : FuncId → Bool) (call : FuncId → List AV → Hp → Nat → (AV → Hp → Nat → Prop) → Prop) : Prop :=
  ∀ f args h nx k, inl f = true → call f args h nx k → ∀ (ρ : Env) (w : World) (vs : List Value), HR W ρ (look h) (fun id => nx ≤ id) w → RelL ρ args vs →
    Calls P f vs.toArray w (fun e w' => ∃ v' ρ' v h' nx', e = .returned v' ∧ Ext ρ ρ' ∧ Rel ρ' v v' ∧ HR W ρ' (look h') (fun id => nx' ≤ id) w' ∧ k v h' nx')

theorem inlT_some {inl : FuncId → Bool} {op : Op} {avs : List AV} {f : FuncId} {args : List AV} (h : inlT inl op avs = some (f, args)) :
    ∃ c fo first cap rest, op = .call c ∧ c.callee = .value fo ∧ avs = .fn (.func f) first cap :: rest ∧ inl f = true ∧ args = first ++ rest ++ cap := by
  unfold inlT at h
  split at h
  · rename_i c g first cap rest
    split at h
    · rename_i fo hfo
      split at h
      · rename_i hg
        simp only [Option.some.injEq, Prod.mk.injEq] at h
        obtain ⟨rfl, rfl⟩ := h
        exact ⟨c, fo, first, cap, rest, rfl, hfo, rfl, hg, rfl⟩
      · cases h
    · cases h
  · cases h

theorem aseq_sound (hT : TabOK P T) {inl : FuncId → Bool} (hin : ∀ f, inl f = true → Enters P f) {call : FuncId → List AV → Hp → Nat → (AV → Hp → Nat → Prop) → Prop} (hcall : CallOK P W inl call) {ops : List Oper} :
    ∀ (l : List Oper) (tm : List AV) (h : Hp) (nx : Nat) (k : List AV → Hp → Nat → Prop), aseq P T inl call ops l tm h nx k → ∀ (ρ0 ρ : Env) (a : Act) (w : World), Ext ρ0 ρ → TR ρ tm a → HR W ρ (look h) (fun id => nx ≤ id) w →
      ∀ Q : Exit → Act → World → Prop, (∀ ρ' tm' h' nx' a' w', Ext ρ0 ρ' → TR ρ' tm' a' → HR W ρ' (look h') (fun id => nx' ≤ id) w' → k tm' h' nx' → Q .normal a' w') → wpList P ops.toArray Q l a w
  | [], tm, h, nx, k, hk, ρ0, ρ, a, w, he, ht, H, Q, hQ => hQ ρ tm h nx a w he ht H hk
  | o :: r, tm, h, nx, k, hk, ρ0, ρ, a, w, he, ht, H, Q, hQ => by
    simp only [aseq] at hk
    have hk1 := gsplit_id hk
    rw [wantedA_F] at hk1
    unfold wpList
    split at hk1
    · exact hk1.elim
    · rename_i hw
      rw [wantedF_eq ht hw]
      simp only [Bool.false_eq_true, if_false]
      rw [putK_eq] at hk1
      exact aseq_sound hT hin hcall r _ h nx k hk1 ρ0 ρ _ w he (TR.put ht o.dst (.val undef)) H Q hQ
    · rename_i hw
      rw [wantedF_eq ht hw]
      simp only [if_true]
      refine .inl ?_
      have hk2 := psplit_id hk1
      have hev : RelL ρ (opAvs o tm) (o.op.operands.toList.map a.eval) := by
        refine ⟨by simp [opAvs], fun j c v hc hv => ?_⟩
        simp only [opAvs, List.getElem?_map] at hc hv
        cases hx : o.op.operands.toList[j]? with
        | none => simp [hx] at hc
        | some x =>
          simp [hx] at hc hv
          subst hc; subst hv
          rw [aeval_F]
          exact ht.eval x
      split at hk2
      · rename_i f args hinl
        obtain ⟨c, fo, first, cap, rest, hop, hcal, hav, hif, rfl⟩ := inlT_some hinl
        rw [hav] at hev
        obtain ⟨u, rs, e, h1, h2⟩ := hev.cons_inv
        obtain ⟨callee, cargs, ctys⟩ := c
        simp only at hcal
        subst hcal
        simp only [hop, Op.operands, Call.operands, Array.toList_append, List.map_append] at e
        simp at e
        obtain ⟨e1, e2⟩ := e
        obtain ⟨fa, fb, rfl, ha, hb⟩ := h1.fn_inv
        have hrel := (ha.append h2).append hb
        have hc2 := hcall f _ h nx _ hif hk2 ρ w _ H hrel
        have hargs : cargs.map a.eval = rs.toArray := by
          apply Array.ext'
          simpa using e2
        have hr : (fa.toList ++ rs ++ fb.toList).toArray = fa ++ cargs.map a.eval ++ fb := by
          apply Array.ext'
          rw [hargs]
          simp
        rw [hr] at hc2
        unfold Oper.wp
        have hrun : (execOp a.eval o).run P w = .ok (.enter f (fa ++ cargs.map a.eval ++ fb)) w := by
          simp only [execOp, hop, resolve, Sem.run_bind, Deferred.ofValue, e1, Sem.run_pure, Result.andThen_ok, invoke]
          exact hin f hif _ w
        rw [hrun]
        simp only [Oper.upon]
        refine hc2.mono fun e w' ⟨v', ρ', v, h', nx', hret, hext, hrv, H', hkk⟩ => ?_
        subst hret
        rw [putK_eq] at hkk
        exact aseq_sound hT hin hcall r _ h' nx' k hkk ρ0 ρ' _ w' (he.trans hext) (TR.put (TRf.mono hext ht) o.dst hrv) H' Q hQ
      · split at hk2
        · rename_i c v ds ha
          obtain ⟨hc, hk3⟩ := ifb_and hk2
          subst hc
          rw [putK_eq, applyK_eq, natK_eq] at hk3
          refine wp_of_opRun ?_
          have hr := aop_sound hT H (fun id h1 _ => h1) (fun id hid => look_restrict h _ hid) hev ha
          generalize (execOp a.eval o).run P w = res at hr
          have conv : ∀ v' w', Post W ρ (look h) (fun id => nx ≤ id) nx v ds v' w' → wpList P ops.toArray Q r (a.put o.dst v') w' := fun v' w' ⟨ρ', h1, h2, h3⟩ =>
            aseq_sound hT hin hcall r _ _ _ k hk3 ρ0 ρ' _ w' (he.trans h1) (TR.put (TRf.mono h1 ht) o.dst h2) (by
              rw [look_applyD]
              exact h3.congr (fun id hid => ⟨by omega, by omega⟩) (fun _ => rfl)) Q hQ
          cases res with
          | ok n w' =>
            cases n <;> simp only [OpRun] at hr ⊢
            case value v => exact conv _ _ hr
            case skip => exact conv _ _ hr
            case enter f args => exact hr.mono fun e w'' ⟨v, he, hp⟩ => ⟨v, he, conv _ _ hp⟩
          | halt x w' => simp only [OpRun] at hr
        · exact hk2.elim
end

end Go.Proofs.Ytmaddijeiniliaa.Sy
