/-
  SyB: what abstract values, blocks and states stand for; small laws on these.
-/
import Derived.Test.YtmaddijeiniliaaSyA
import Derived.Laws.CopyRow
import Derived.Laws.OwnMore
import Derived.Laws.Rows
namespace Go.Proofs.Ytmaddijeiniliaa.Sy
open Go Go.RowKit
set_option linter.unusedVariables false
universe u

/-! the forced forms are the plain ones -/
theorem natK_eq {R : Sort u} (n : Nat) (k : Nat → R) : natK n k = k n := by cases n <;> rfl

mutual
theorem forceK_eq {R : Sort u} : ∀ (v : AV) (k : AV → R), forceK v k = k v
  | .any, k => by simp [forceK]
  | .val v, k => by simp [forceK]
  | .ptr id n, k => by simp [forceK, natK_eq]
  | .elt id e i j, k => by simp [forceK, natK_eq]
  | .slc id n l c, k => by simp [forceK]
  | .view id e i l, k => by simp [forceK]
  | .own id n, k => by simp [forceK]
  | .agg cs, k => by simp [forceK, forceLK_eq cs]
  | .tup cs, k => by simp [forceK, forceLK_eq cs]
  | .fn f a b, k => by simp [forceK, forceLK_eq a, forceLK_eq b]
theorem forceLK_eq {R : Sort u} : ∀ (l : List AV) (k : List AV → R), forceLK l k = k l
  | [], k => by simp [forceLK]
  | x :: r, k => by simp [forceLK, forceK_eq x, forceLK_eq r]
end

theorem setK_eq {R : Sort u} : ∀ (l : List AV) (n : Nat) (y : AV) (k : List AV → R), setK l n y k = k (setN l n y)
  | [], _, _, _ => rfl
  | _ :: _, 0, _, _ => rfl
  | x :: r, n + 1, y, k => by simp [setK, setN, setK_eq r]

theorem putK_eq {R : Sort u} (tm : List AV) (dst : Option Tmp) (v : AV) (k : List AV → R) : putK tm dst v k = k (put tm dst v) := by
  cases dst <;> simp [putK, put, forceK_eq, setK_eq]

theorem forceB_eq {R : Sort u} (b : Option Blk) (k : Option Blk → R) : forceB b k = k b := by
  rcases b with _ | b
  · rfl
  · cases b <;> simp [forceB, forceLK_eq]

theorem updK_eq {R : Sort u} : ∀ (h : Hp) (id : Nat) (b : Option Blk) (k : Hp → R), updK h id b k = k (upd h id b)
  | [], _, _, _ => rfl
  | (i, x) :: r, id, b, k => by
    cases hh : Nat.beq i id <;> simp [updK, upd, hh, updK_eq r]

theorem applyK_eq {R : Sort u} : ∀ (h : Hp) (ds : Dl) (k : Hp → R), applyK h ds k = k (applyD h ds)
  | _, [], _ => rfl
  | h, (id, b) :: r, k => by simp [applyK, applyD, natK_eq, forceB_eq, updK_eq, applyK_eq _ r]

theorem ifb_and {c : Bool} {p : Prop} : ifb c p False → c = true ∧ p := by cases c <;> simp [ifb]

/-! lists -/
theorem nth_setN : ∀ (l : List AV) (d : Nat) (v : AV) (t : Nat), nth (setN l d v) t = if t = d ∧ t < l.length then v else nth l t
  | [], _, _, _ => by simp [setN, nth]
  | x :: r, 0, v, t => by cases t <;> simp [setN, nth]
  | x :: r, d + 1, v, t => by cases t <;> simp [setN, nth, nth_setN r]

theorem setN_length : ∀ (l : List AV) (d : Nat) (v : AV), (setN l d v).length = l.length
  | [], _, _ => rfl
  | _ :: _, 0, _ => rfl
  | x :: r, d + 1, v => by simp [setN, setN_length r]

theorem nth_out : ∀ (l : List AV) (t : Nat), l.length ≤ t → nth l t = .any
  | [], _, _ => by simp [nth]
  | x :: r, 0, h => by simp at h
  | x :: r, t + 1, h => by simp [nth, nth_out r t (by simpa using h)]

theorem nth?_eq : ∀ (l : List AV) (k : Nat), nth? l k = l[k]?
  | [], _ => by simp [nth?]
  | x :: r, 0 => by simp [nth?]
  | x :: r, k + 1 => by simp [nth?, nth?_eq r]

theorem setN_self : ∀ (l : List AV) (s : Nat) (v : AV), nth l s = v → setN l s v = l
  | [], _, _, _ => rfl
  | x :: r, 0, v, h => by simp [nth] at h; simp [setN, h]
  | x :: r, s + 1, v, h => by simp [nth] at h; simp [setN, setN_self r s v h]

theorem put_length (tm : List AV) (dst : Option Tmp) (v : AV) : (put tm dst v).length = tm.length := by
  cases dst <;> simp [put, setN_length]

theorem getElem?_setN : ∀ (l : List AV) (d : Nat) (v : AV) (t : Nat), (setN l d v)[t]? = if t = d ∧ t < l.length then some v else l[t]?
  | [], _, _, _ => by simp [setN]
  | x :: r, 0, v, t => by cases t <;> simp [setN]
  | x :: r, d + 1, v, t => by cases t <;> simp [setN, getElem?_setN r]

theorem split_id {s : Nat} {tm : List AV} {k : List AV → Prop} (h : split s tm k) : k tm := by
  unfold split at h
  split at h
  · rename_i t ht
    rw [setK_eq, setK_eq] at h
    cases t
    · simp only [ifb] at h
      rwa [setN_self _ _ _ ht] at h
    · simp only [ifb] at h
      rwa [setN_self _ _ _ ht] at h
  · exact h

theorem gsplit_id {ops : List Oper} {o : Oper} {tm : List AV} {k : List AV → Prop} (h : gsplit ops o tm k) : k tm := by
  unfold gsplit at h
  split at h
  · exact h
  · split at h
    · exact h
    · exact split_id h

theorem psplit_id {o : Oper} {tm : List AV} {k : List AV → Prop} (h : psplit o tm k) : k tm := by
  unfold psplit at h
  split at h
  · exact split_id h
  · exact h

/-! heaps -/
theorem nbeq {a b : Nat} : Nat.beq a b = true ↔ a = b := by simp
theorem look_upd : ∀ (h : Hp) (id : Nat) (b : Option Blk) (k : Nat), look (upd h id b) k = if k = id then b else look h k
  | [], id, b, k => by
    by_cases e : k = id
    · subst e; simp [upd, look]
    · have : Nat.beq id k = false := by
        cases hh : Nat.beq id k
        · rfl
        · exact absurd (nbeq.1 hh).symm e
      simp [upd, look, this, e]
  | (i, x) :: r, id, b, k => by
    cases hh : Nat.beq i id
    · simp only [upd, hh, look]
      cases hk : Nat.beq i k
      · simp [look_upd r]
      · have e1 : i = k := nbeq.1 hk
        have e2 : k ≠ id := by
          rintro rfl
          rw [e1] at hh
          simp at hh
        simp [e2]
    · have e1 : i = id := nbeq.1 hh
      subst e1
      simp only [upd, hh, look]
      cases hk : Nat.beq i k
      · have : k ≠ i := by
          rintro rfl
          simp at hk
        simp [this]
      · have : k = i := (nbeq.1 hk).symm
        simp [this]

def updF (hf : Nat → Option Blk) (id : Nat) (b : Option Blk) : Nat → Option Blk := fun k => if k = id then b else hf k
def appD (hf : Nat → Option Blk) : Dl → (Nat → Option Blk)
  | [] => hf
  | (id, b) :: r => appD (updF hf id b) r

theorem look_applyD : ∀ (ds : Dl) (h : Hp), look (applyD h ds) = appD (look h) ds
  | [], _ => rfl
  | (id, b) :: r, h => by
    have : look (upd h id b) = updF (look h) id b := by
      funext k
      simp [look_upd, updF]
    simp [applyD, appD, look_applyD r, this]

theorem look_restrict (h : Hp) (ids : List Nat) {id : Nat} (hi : id ∈ ids) : look (restrict h ids) id = look h id := by
  induction ids with
  | nil => cases hi
  | cons x r ih =>
    simp only [restrict, look]
    cases hx : Nat.beq x id
    · have : id ≠ x := by
        rintro rfl
        simp at hx
      exact ih (by simpa [this] using hi)
    · rw [nbeq.1 hx]

/-! what an abstract value stands for -/
/-- Of an id: the block, where in it it begins, the capacity. -/
abbrev Env := Nat → Option (Nat × Nat × Nat)
inductive Rel (ρ : Env) : AV → Value → Prop where
  | any (v : Value) : Rel ρ .any v
  | val (v : Value) : Rel ρ (.val v) v
  | ptr {id k b o c : Nat} : ρ id = some (b, o, c) → Rel ρ (.ptr id k) (.pointer (some ⟨b, o + k, none⟩))
  | elt {id esz i j b o c : Nat} : ρ id = some (b, o, c) → Rel ρ (.elt id esz i j) (.pointer (some ⟨b, o + (i * esz + j), none⟩))
  | slc {id k len cap b o c : Nat} : ρ id = some (b, o, c) → len ≤ cap → Rel ρ (.slc id k len cap) (.slice (some ⟨b, o + k, none⟩) len cap)
  | view0 {id esz i : Nat} (a : Option Addr) (c : Nat) : Rel ρ (.view id esz i 0) (.slice a 0 c)
  | view {id esz i len b o c c' : Nat} : ρ id = some (b, o, c) → len ≤ c' → Rel ρ (.view id esz i len) (.slice (some ⟨b, o + i * esz, none⟩) len c')
  | own0 {id : Nat} : Rel ρ (.own id 0) (.slice none 0 0)
  | own {id len b c : Nat} : ρ id = some (b, 0, c) → len ≤ c → Rel ρ (.own id len) (.slice (some ⟨b, 0, none⟩) len c)
  | agg {cs : List AV} {a : Array Value} : cs.length = a.size → (∀ (i : Nat) (c : AV) (v : Value), cs[i]? = some c → a[i]? = some v → Rel ρ c v) → Rel ρ (.agg cs) (.agg a)
  | tup {cs : List AV} {a : Array Value} : cs.length = a.size → (∀ (i : Nat) (c : AV) (v : Value), cs[i]? = some c → a[i]? = some v → Rel ρ c v) → Rel ρ (.tup cs) (.tuple a)
  | fn {f : Fn} {xs ys : List AV} {a b : Array Value} : xs.length = a.size → (∀ (i : Nat) (c : AV) (v : Value), xs[i]? = some c → a[i]? = some v → Rel ρ c v) →
      ys.length = b.size → (∀ (i : Nat) (c : AV) (v : Value), ys[i]? = some c → b[i]? = some v → Rel ρ c v) → Rel ρ (.fn f xs ys) (.func f a b)

def RelL (ρ : Env) (cs : List AV) (vs : List Value) : Prop := cs.length = vs.length ∧ ∀ (i : Nat) (c : AV) (v : Value), cs[i]? = some c → vs[i]? = some v → Rel ρ c v

def Ext (ρ ρ' : Env) : Prop := ∀ id x, ρ id = some x → ρ' id = some x
theorem Ext.refl (ρ : Env) : Ext ρ ρ := fun _ _ h => h
theorem Ext.trans {a b c : Env} (h : Ext a b) (k : Ext b c) : Ext a c := fun id x hx => k id x (h id x hx)

theorem Rel.mono {ρ ρ' : Env} (he : Ext ρ ρ') {a : AV} {v : Value} (h : Rel ρ a v) : Rel ρ' a v := by
  induction h with
  | any v => exact .any v
  | val v => exact .val v
  | ptr h => exact .ptr (he _ _ h)
  | elt h => exact .elt (he _ _ h)
  | slc h hl => exact .slc (he _ _ h) hl
  | view0 a c => exact .view0 a c
  | view h hl => exact .view (he _ _ h) hl
  | own0 => exact .own0
  | own h hl => exact .own (he _ _ h) hl
  | agg hl _ ih => exact .agg hl ih
  | tup hl _ ih => exact .tup hl ih
  | fn h1 _ h2 _ ih1 ih2 => exact .fn h1 ih1 h2 ih2

theorem RelL.mono {ρ ρ' : Env} (he : Ext ρ ρ') {cs : List AV} {vs : List Value} (h : RelL ρ cs vs) : RelL ρ' cs vs :=
  ⟨h.1, fun i c v hc hv => (h.2 i c v hc hv).mono he⟩

theorem RelL.nil {ρ : Env} : RelL ρ [] [] := ⟨rfl, fun i c v h => by simp at h⟩
theorem RelL.cons {ρ : Env} {c : AV} {v : Value} {cs : List AV} {vs : List Value} (h : Rel ρ c v) (hr : RelL ρ cs vs) : RelL ρ (c :: cs) (v :: vs) := by
  refine ⟨by simp [hr.1], fun i c' v' hc hv => ?_⟩
  cases i with
  | zero => simp at hc hv; subst hc; subst hv; exact h
  | succ i => simp at hc hv; exact hr.2 i c' v' hc hv
theorem RelL.nil_inv {ρ : Env} {vs : List Value} (h : RelL ρ [] vs) : vs = [] := by
  have := h.1
  cases vs with
  | nil => rfl
  | cons => simp at this
theorem RelL.cons_inv {ρ : Env} {c : AV} {cs : List AV} {vs : List Value} (h : RelL ρ (c :: cs) vs) : ∃ v r, vs = v :: r ∧ Rel ρ c v ∧ RelL ρ cs r := by
  cases vs with
  | nil => have := h.1; simp at this
  | cons v r => exact ⟨v, r, rfl, h.2 0 c v (by simp) (by simp), by have := h.1; simpa using this, fun i c' v' hc hv => h.2 (i + 1) c' v' (by simpa using hc) (by simpa using hv)⟩
theorem RelL.append {ρ : Env} {a b : List AV} {x y : List Value} (h : RelL ρ a x) (k : RelL ρ b y) : RelL ρ (a ++ b) (x ++ y) := by
  induction a generalizing x with
  | nil => rw [h.nil_inv]; exact k
  | cons c r ih => obtain ⟨v, s, rfl, h1, h2⟩ := h.cons_inv; exact .cons h1 (ih h2)
theorem RelL.take {ρ : Env} {a : List AV} {x : List Value} (h : RelL ρ a x) (n : Nat) : RelL ρ (a.take n) (x.take n) := by
  refine ⟨by simp [h.1], fun i c v hc hv => ?_⟩
  rw [List.getElem?_take] at hc hv
  split at hc
  · rw [if_pos (by assumption)] at hv; exact h.2 i c v hc hv
  · cases hc
theorem RelL.drop {ρ : Env} {a : List AV} {x : List Value} (h : RelL ρ a x) (n : Nat) : RelL ρ (a.drop n) (x.drop n) := by
  refine ⟨by simp [h.1], fun i c v hc hv => ?_⟩
  rw [List.getElem?_drop] at hc hv
  exact h.2 _ c v hc hv
theorem RelL.get {ρ : Env} {a : List AV} {x : List Value} (h : RelL ρ a x) {i : Nat} {c : AV} (hc : a[i]? = some c) : ∃ v, x[i]? = some v ∧ Rel ρ c v := by
  have hi : i < x.length := by rw [← h.1]; exact (List.getElem?_eq_some_iff.1 hc).1
  exact ⟨x[i], by simp [hi], h.2 i c _ hc (by simp [hi])⟩
theorem RelL.vals {ρ : Env} : ∀ (l : List Value), RelL ρ (l.map .val) l
  | [] => .nil
  | v :: r => .cons (.val v) (RelL.vals r)
theorem RelL.setN {ρ : Env} {a : List AV} {x : List Value} (h : RelL ρ a x) {d : Nat} {c : AV} {v : Value} (hr : Rel ρ c v) : RelL ρ (setN a d c) (x.set d v) := by
  refine ⟨by simp [setN_length, h.1], fun i c' v' hc hv => ?_⟩
  rw [getElem?_setN] at hc
  by_cases hi : i = d ∧ i < a.length
  · rw [if_pos hi] at hc
    obtain ⟨rfl, hl⟩ := hi
    rw [List.getElem?_set_self (by rw [← h.1]; exact hl)] at hv
    cases hc; cases hv; exact hr
  · rw [if_neg hi] at hc
    have hl : i < a.length := (List.getElem?_eq_some_iff.1 hc).1
    have hne : d ≠ i := fun e => hi ⟨e.symm, hl⟩
    rw [List.getElem?_set_ne hne] at hv
    exact h.2 i c' v' hc hv

theorem Rel.agg_mk {ρ : Env} {cs : List AV} {vs : List Value} (h : RelL ρ cs vs) : Rel ρ (.agg cs) (.agg vs.toArray) :=
  .agg (by simpa using h.1) fun i c v hc hv => h.2 i c v hc (by simpa using hv)
theorem Rel.agg_inv {ρ : Env} {cs : List AV} {v : Value} (h : Rel ρ (.agg cs) v) : ∃ a : Array Value, v = .agg a ∧ RelL ρ cs a.toList := by
  cases h with
  | agg hl hh => exact ⟨_, rfl, by simpa using hl, fun i c v hc hv => hh i c v hc (by simpa using hv)⟩
theorem Rel.tup_mk {ρ : Env} {cs : List AV} {vs : List Value} (h : RelL ρ cs vs) : Rel ρ (.tup cs) (.tuple vs.toArray) :=
  .tup (by simpa using h.1) fun i c v hc hv => h.2 i c v hc (by simpa using hv)
theorem Rel.tup_inv {ρ : Env} {cs : List AV} {v : Value} (h : Rel ρ (.tup cs) v) : ∃ a : Array Value, v = .tuple a ∧ RelL ρ cs a.toList := by
  cases h with
  | tup hl hh => exact ⟨_, rfl, by simpa using hl, fun i c v hc hv => hh i c v hc (by simpa using hv)⟩
theorem Rel.fn_mk {ρ : Env} {f : Fn} {xs ys : List AV} {a b : List Value} (h : RelL ρ xs a) (k : RelL ρ ys b) : Rel ρ (.fn f xs ys) (.func f a.toArray b.toArray) :=
  .fn (by simpa using h.1) (fun i c v hc hv => h.2 i c v hc (by simpa using hv)) (by simpa using k.1) (fun i c v hc hv => k.2 i c v hc (by simpa using hv))
theorem Rel.fn_inv {ρ : Env} {f : Fn} {xs ys : List AV} {v : Value} (h : Rel ρ (.fn f xs ys) v) : ∃ a b : Array Value, v = .func f a b ∧ RelL ρ xs a.toList ∧ RelL ρ ys b.toList := by
  cases h with
  | fn h1 h2 h3 h4 => exact ⟨_, _, rfl, ⟨by simpa using h1, fun i c v hc hv => h2 i c v hc (by simpa using hv)⟩, by simpa using h3, fun i c v hc hv => h4 i c v hc (by simpa using hv)⟩
theorem Rel.val_inv {ρ : Env} {u v : Value} (h : Rel ρ (.val u) v) : v = u := by cases h; rfl
theorem Rel.ptr_inv {ρ : Env} {id k : Nat} {v : Value} (h : Rel ρ (.ptr id k) v) : ∃ b o c, ρ id = some (b, o, c) ∧ v = .pointer (some ⟨b, o + k, none⟩) := by
  cases h with
  | ptr h => exact ⟨_, _, _, h, rfl⟩
theorem Rel.elt_inv {ρ : Env} {id e i j : Nat} {v : Value} (h : Rel ρ (.elt id e i j) v) : ∃ b o c, ρ id = some (b, o, c) ∧ v = .pointer (some ⟨b, o + (i * e + j), none⟩) := by
  cases h with
  | elt h => exact ⟨_, _, _, h, rfl⟩
theorem Rel.slc_inv {ρ : Env} {id k n m : Nat} {v : Value} (h : Rel ρ (.slc id k n m) v) : ∃ b o c, ρ id = some (b, o, c) ∧ n ≤ m ∧ v = .slice (some ⟨b, o + k, none⟩) n m := by
  cases h with
  | slc h hl => exact ⟨_, _, _, h, hl, rfl⟩
theorem Rel.view_inv {ρ : Env} {id e i n : Nat} {v : Value} (h : Rel ρ (.view id e i n) v) :
    (n = 0 ∧ ∃ a c, v = .slice a 0 c) ∨ ∃ b o c c', ρ id = some (b, o, c) ∧ n ≤ c' ∧ v = .slice (some ⟨b, o + i * e, none⟩) n c' := by
  cases h with
  | view0 a c => exact .inl ⟨rfl, a, c, rfl⟩
  | view h hl => exact .inr ⟨_, _, _, _, h, hl, rfl⟩
theorem Rel.own_inv {ρ : Env} {id n : Nat} {v : Value} (h : Rel ρ (.own id n) v) :
    (n = 0 ∧ v = .slice none 0 0) ∨ ∃ b c, ρ id = some (b, 0, c) ∧ n ≤ c ∧ v = .slice (some ⟨b, 0, none⟩) n c := by
  cases h with
  | own0 => exact .inl ⟨rfl, rfl⟩
  | own h hl => exact .inr ⟨_, _, h, hl, rfl⟩

/-! a block, a heap -/
def BlkAt (W : World) (ρ : Env) (w : World) (b o c : Nat) : Blk → Prop
  | .cells ty cs => o = 0 ∧ W.heap.size ≤ b ∧ ∃ vs : Array Value, w.heap[b]? = some (.cells vs ty (0, 0)) ∧ RelL ρ cs vs.toList
  | .row _ esz n f => b < W.heap.size ∧ ∀ i j, i < n → j < esz → w.cell? ⟨b, o + (i * esz + j), none⟩ = some (f i j) ∧ (f i j).oneCell' = true
  | .orow ty esz n f => o = 0 ∧ W.heap.size ≤ b ∧ ∃ vs : Array Value, w.heap[b]? = some (.cells vs ty (0, 0)) ∧ vs.size = c * esz ∧ n ≤ c ∧
      ∀ i j, i < n → j < esz → vs[i * esz + j]? = some (f i j) ∧ (f i j).oneCell' = true

structure HR (W : World) (ρ : Env) (hf : Nat → Option Blk) (F : Nat → Prop) (w : World) : Prop where
  below : Below W.heap.size W w
  old : ∀ id b o c, ρ id = some (b, o, c) → b < w.heap.size
  free : ∀ id, F id → ρ id = none
  blk : ∀ id b o c B, ρ id = some (b, o, c) → hf id = some B → BlkAt W ρ w b o c B
  apart : ∀ id id' b o c o' c' B B', ρ id = some (b, o, c) → ρ id' = some (b, o', c') → hf id = some B → hf id' = some B' → W.heap.size ≤ b → id = id'

theorem BlkAt.mono {W : World} {ρ ρ' : Env} (he : Ext ρ ρ') {w : World} {b o c : Nat} {B : Blk} (h : BlkAt W ρ w b o c B) : BlkAt W ρ' w b o c B := by
  cases B with
  | cells ty cs => obtain ⟨h1, h2, vs, h3, h4⟩ := h; exact ⟨h1, h2, vs, h3, h4.mono he⟩
  | row ty esz n f => exact h
  | orow ty esz n f => exact h

/-- A block reads the same where the world's block is the same. -/
theorem BlkAt.same {W : World} {ρ : Env} {w w' : World} {b o c : Nat} {B : Blk} (hb : w'.heap[b]? = w.heap[b]?) (h : BlkAt W ρ w b o c B) : BlkAt W ρ w' b o c B := by
  cases B with
  | cells ty cs => obtain ⟨h1, h2, vs, h3, h4⟩ := h; exact ⟨h1, h2, vs, hb ▸ h3, h4⟩
  | row ty esz n f =>
    refine ⟨h.1, fun i j hi hj => ?_⟩
    have := h.2 i j hi hj
    rw [World.cell?_of_block (a := ⟨b, o + (i * esz + j), none⟩) hb]
    exact this
  | orow ty esz n f => obtain ⟨h1, h2, vs, h3, h4⟩ := h; exact ⟨h1, h2, vs, hb ▸ h3, h4⟩

/-- The world goes on, no block that is named has turned; fewer ids are free. -/
theorem HR.same {W : World} {ρ : Env} {hf : Nat → Option Blk} {F F' : Nat → Prop} {w w' : World} (H : HR W ρ hf F w) (hF : ∀ id, F' id → F id)
    (hb : Below w.heap.size w w') : HR W ρ hf F' w' where
  below := by
    have h1 := H.below
    exact h1.trans (hb.mono h1.size)
  old := fun id b o c h => Nat.lt_of_lt_of_le (H.old id b o c h) hb.size
  free := fun id h => H.free id (hF id h)
  blk := fun id b o c B h1 h2 => (H.blk id b o c B h1 h2).same (hb.block b (H.old id b o c h1))
  apart := H.apart

theorem HR.congr {W : World} {ρ : Env} {hf hf' : Nat → Option Blk} {F F' : Nat → Prop} {w : World} (H : HR W ρ hf F w) (hF : ∀ id, F' id → F id) (hh : ∀ id, hf' id = hf id) : HR W ρ hf' F' w where
  below := H.below
  old := H.old
  free := fun id h => H.free id (hF id h)
  blk := fun id b o c B h1 h2 => H.blk id b o c B h1 (hh id ▸ h2)
  apart := fun id id' b o c o' c' B B' h1 h2 h3 h4 h5 => H.apart id id' b o c o' c' B B' h1 h2 (hh id ▸ h3) (hh id' ▸ h4) h5

/-- A name more. -/
def addE (ρ : Env) (id : Nat) (x : Nat × Nat × Nat) : Env := fun k => if k = id then some x else ρ k
theorem addE_ext {ρ : Env} {id : Nat} (h : ρ id = none) (x : Nat × Nat × Nat) : Ext ρ (addE ρ id x) := fun k y hy => by
  unfold addE
  split
  · subst_vars; rw [h] at hy; cases hy
  · exact hy

/-- A new block at the heap's end, under a free id. -/
theorem HR.alloc {W : World} {ρ : Env} {hf : Nat → Option Blk} {F F' : Nat → Prop} {w : World} (H : HR W ρ hf F w) {key : Nat} (hk : F key) (hF : ∀ id, F' id → F id ∧ id ≠ key)
    (vs : Array Value) (ty : TypeId) (c : Nat) (B : Blk)
    (hB : BlkAt W (addE ρ key (w.heap.size, 0, c)) (w.alloc (.cells vs ty)) w.heap.size 0 c B) :
    HR W (addE ρ key (w.heap.size, 0, c)) (updF hf key (some B)) F' (w.alloc (.cells vs ty)) where
  below := H.below.alloc H.below.size _
  old := fun id b o c' h => by
    unfold addE at h
    rw [World.size_alloc]
    split at h
    · cases h; omega
    · have := H.old id b o c' h; omega
  free := fun id h => by
    obtain ⟨h1, h2⟩ := hF id h
    unfold addE
    rw [if_neg h2]
    exact H.free id h1
  blk := fun id b o c' B' h1 h2 => by
    have hext := addE_ext (H.free key hk) (w.heap.size, 0, c)
    unfold addE at h1
    unfold updF at h2
    by_cases e : id = key
    · rw [if_pos e] at h1 h2
      cases h1; cases h2
      exact hB
    · rw [if_neg e] at h1 h2
      have h3 := H.old id b o c' h1
      exact ((H.blk id b o c' B' h1 h2).same (Below.heap_alloc _ _ _ h3)).mono hext
  apart := fun id id' b o c' o' c'' B' B'' h1 h2 h3 h4 h5 => by
    unfold addE at h1 h2
    unfold updF at h3 h4
    by_cases e : id = key <;> by_cases e' : id' = key
    · rw [e, e']
    · rw [if_pos e] at h1
      rw [if_neg e'] at h2
      cases h1
      have := H.old id' _ _ _ h2
      omega
    · rw [if_neg e] at h1
      rw [if_pos e'] at h2
      cases h2
      have := H.old id _ _ _ h1
      omega
    · rw [if_neg e] at h1 h3
      rw [if_neg e'] at h2 h4
      exact H.apart id id' b o c' o' c'' B' B'' h1 h2 h3 h4 h5

/-- A block of ours is written anew. -/
theorem HR.rewrite {W : World} {ρ : Env} {hf : Nat → Option Blk} {F F' : Nat → Prop} {w : World} (H : HR W ρ hf F w) (hF : ∀ id, F' id → F id)
    {id b c : Nat} {B0 B : Blk} (h1 : ρ id = some (b, 0, c)) (h2 : hf id = some B0) (hw : W.heap.size ≤ b) (cs : Array Value)
    (hB : BlkAt W ρ (w.setRow b cs) b 0 c B) : HR W ρ (updF hf id (some B)) F' (w.setRow b cs) where
  below := by
    refine H.below.trans ⟨rfl, rfl, rfl, by simp [World.setRow], fun k hk => setRow_other w b k cs (by omega)⟩
  old := fun id' b' o c' h => by
    have := H.old id' b' o c' h
    simpa [World.setRow] using this
  free := fun id' h => H.free id' (hF id' h)
  blk := fun id' b' o c' B' h3 h4 => by
    unfold updF at h4
    by_cases e : id' = id
    · rw [if_pos e] at h4
      subst e
      rw [h1] at h3
      cases h3; cases h4
      exact hB
    · rw [if_neg e] at h4
      have hne : b' ≠ b := by
        rintro rfl
        exact e (H.apart id' id b' o c' 0 c B' B0 h3 h1 h4 h2 hw)
      exact (H.blk id' b' o c' B' h3 h4).same (setRow_other w b b' cs hne)
  apart := fun i j b' o c' o' c'' B' B'' h3 h4 h5 h6 h7 => by
    unfold updF at h5 h6
    by_cases e : i = id <;> by_cases e' : j = id
    · rw [e, e']
    · rw [if_neg e'] at h6
      subst e
      exact H.apart i j b' o c' o' c'' B0 B'' h3 h4 h2 h6 h7
    · rw [if_neg e] at h5
      subst e'
      exact H.apart i j b' o c' o' c'' B' B0 h3 h4 h5 h2 h7
    · rw [if_neg e] at h5
      rw [if_neg e'] at h6
      exact H.apart i j b' o c' o' c'' B' B'' h3 h4 h5 h6 h7

/-- A name for what no block bears. -/
theorem HR.name {W : World} {ρ : Env} {hf : Nat → Option Blk} {F F' : Nat → Prop} {w : World} (H : HR W ρ hf F w) (hF : ∀ id, F' id → F id) {key : Nat} (hk : F key) (B : Option Blk) : HR W ρ (updF hf key B) F' w where
  below := H.below
  old := H.old
  free := fun id h => H.free id (hF id h)
  blk := fun i b o c B' h1 h2 => by
    unfold updF at h2
    split at h2
    · subst_vars
      rw [H.free _ hk] at h1
      cases h1
    · exact H.blk i b o c B' h1 h2
  apart := fun i j b o c o' c' B1 B2 h1 h2 h3 h4 h5 => by
    unfold updF at h3 h4
    split at h3
    · subst_vars
      rw [H.free _ hk] at h1
      cases h1
    · split at h4
      · subst_vars
        rw [H.free _ hk] at h2
        cases h2
      · exact H.apart i j b o c o' c' B1 B2 h1 h2 h3 h4 h5

/-- A block of ours is written anew, and named anew. -/
theorem HR.rename {W : World} {ρ : Env} {hf : Nat → Option Blk} {F F' : Nat → Prop} {w : World} (H : HR W ρ hf F w) {key : Nat} (hk : F key) (hF : ∀ id, F' id → F id ∧ id ≠ key)
    {id b c : Nat} {B0 B : Blk} (h1 : ρ id = some (b, 0, c)) (h2 : hf id = some B0) (hw : W.heap.size ≤ b) (cs : Array Value)
    (hB : BlkAt W (addE ρ key (b, 0, c)) (w.setRow b cs) b 0 c B) : HR W (addE ρ key (b, 0, c)) (updF (updF hf id none) key (some B)) F' (w.setRow b cs) where
  below := by
    refine H.below.trans ⟨rfl, rfl, rfl, by simp [World.setRow], fun k hk => setRow_other w b k cs (by omega)⟩
  old := fun id' b' o c' h => by
    unfold addE at h
    have e : (w.setRow b cs).heap.size = w.heap.size := by simp [World.setRow]
    rw [e]
    split at h
    · cases h; exact H.old _ _ _ _ h1
    · exact H.old id' b' o c' h
  free := fun id' h => by
    obtain ⟨h3, h4⟩ := hF id' h
    unfold addE
    rw [if_neg h4]
    exact H.free id' h3
  blk := fun id' b' o c' B' h3 h4 => by
    have hext := addE_ext (H.free key hk) (b, 0, c)
    unfold addE at h3
    unfold updF at h4
    by_cases e : id' = key
    · rw [if_pos e] at h3 h4
      cases h3; cases h4
      exact hB
    · rw [if_neg e] at h3 h4
      by_cases e2 : id' = id
      · rw [if_pos e2] at h4; cases h4
      · rw [if_neg e2] at h4
        have hne : b' ≠ b := by
          rintro rfl
          exact e2 (H.apart id' id b' o c' 0 c B' B0 h3 h1 h4 h2 hw)
        exact ((H.blk id' b' o c' B' h3 h4).same (setRow_other w b b' cs hne)).mono hext
  apart := fun i j b' o c' o' c'' B' B'' h3 h4 h5 h6 h7 => by
    unfold addE at h3 h4
    unfold updF at h5 h6
    by_cases e : i = key <;> by_cases e' : j = key
    · rw [e, e']
    · rw [if_pos e] at h3
      rw [if_neg e'] at h4 h6
      cases h3
      by_cases e2 : j = id
      · rw [if_pos e2] at h6; cases h6
      · rw [if_neg e2] at h6
        exact absurd (H.apart j id b o' c'' 0 c B'' B0 h4 h1 h6 h2 hw) e2
    · rw [if_neg e] at h3 h5
      rw [if_pos e'] at h4
      cases h4
      by_cases e2 : i = id
      · rw [if_pos e2] at h5; cases h5
      · rw [if_neg e2] at h5
        exact absurd (H.apart i id b o c' 0 c B' B0 h3 h1 h5 h2 hw) e2
    · rw [if_neg e] at h3 h5
      rw [if_neg e'] at h4 h6
      by_cases e2 : i = id
      · rw [if_pos e2] at h5; cases h5
      · by_cases e3 : j = id
        · rw [if_pos e3] at h6; cases h6
        · rw [if_neg e2] at h5
          rw [if_neg e3] at h6
          exact H.apart i j b' o c' o' c'' B' B'' h3 h4 h5 h6 h7

/-- A name is forgotten. -/
theorem HR.drop {W : World} {ρ : Env} {hf : Nat → Option Blk} {F : Nat → Prop} {w : World} (H : HR W ρ hf F w) (id : Nat) : HR W ρ (updF hf id none) F w where
  below := H.below
  old := H.old
  free := H.free
  blk := fun i b o c B h1 h2 => by
    unfold updF at h2
    split at h2
    · cases h2
    · exact H.blk i b o c B h1 h2
  apart := fun i j b o c o' c' B B' h1 h2 h3 h4 h5 => by
    unfold updF at h3 h4
    split at h3
    · cases h3
    · split at h4
      · cases h4
      · exact H.apart i j b o c o' c' B B' h1 h2 h3 h4 h5

theorem HR.drew {W : World} {ρ : Env} {hf : Nat → Option Blk} {F : Nat → Prop} {w : World} (H : HR W ρ hf F w) : HR W ρ hf F w.drew :=
  H.same (fun _ h => h) (Below.refl _ _).drew

end Go.Proofs.Ytmaddijeiniliaa.Sy
