/-
  SyA: a symbolic evaluator for the model's code, over abstract values: definitions alone (nothing about a program).
  Abstract values name memory by ids of their own; a block is a list of known cells, or a row of elements that are given by a function.
  What the evaluator yields is a proposition: soundness is shown in SyB, SyC and SyD.
-/
import Derived.Tactics
import Derived.Scope
import Derived.LoopN
import Derived.Orders
import Derived.Below
import Derived.KernelRfl
namespace Go.Proofs.Ytmaddijeiniliaa.Sy
open Go Go.RowKit
universe u

/-- Abstract values. -/
inductive AV where
  | any
  | val (v : Value)
  | ptr (id k : Nat)
  | elt (id esz i j : Nat)
  | slc (id k len cap : Nat)
  | view (id esz i len : Nat)
  | own (id len : Nat)
  | agg (cs : List AV)
  | tup (cs : List AV)
  | fn (f : Fn) (first cap : List AV)

/-- Abstract blocks. -/
inductive Blk where
  | cells (ty : TypeId) (cs : List AV)
  | row (ty : TypeId) (esz n : Nat) (f : Nat → Nat → Value)
  | orow (ty : TypeId) (esz n : Nat) (f : Nat → Nat → Value)

abbrev Hp := List (Nat × Option Blk)
abbrev Dl := List (Nat × Option Blk)
/-- What a call of a known function comes to: function, arguments, the memory that they name, the first free id; under which condition. -/
abbrev Tab := FuncId → List AV → Hp → Nat → Option (Bool × AV × Dl)

def ifb (c : Bool) (p q : Prop) : Prop :=
  match c with
  | true => p
  | false => q

def look : Hp → Nat → Option Blk
  | [], _ => none
  | (k, b) :: r, id => match Nat.beq k id with
    | true => b
    | false => look r id

def upd : Hp → Nat → Option Blk → Hp
  | [], id, b => [(id, b)]
  | (k, x) :: r, id, b => match Nat.beq k id with
    | true => (k, b) :: r
    | false => (k, x) :: upd r id b

def applyD : Hp → Dl → Hp
  | h, [] => h
  | h, (id, b) :: r => applyD (upd h id b) r

def restrict (h : Hp) : List Nat → Hp
  | [] => []
  | id :: r => (id, look h id) :: restrict h r

mutual
def AV.ids : AV → List Nat
  | .any => []
  | .val _ => []
  | .ptr id _ => [id]
  | .elt id _ _ _ => [id]
  | .slc id _ _ _ => [id]
  | .view id _ _ _ => [id]
  | .own id _ => [id]
  | .agg cs => AV.idsL cs
  | .tup cs => AV.idsL cs
  | .fn _ first cap => AV.idsL first ++ AV.idsL cap
def AV.idsL : List AV → List Nat
  | [] => []
  | c :: r => c.ids ++ AV.idsL r
end

def nth : List AV → Nat → AV
  | [], _ => .any
  | x :: _, 0 => x
  | _ :: r, n + 1 => nth r n

def setN : List AV → Nat → AV → List AV
  | [], _, _ => []
  | _ :: r, 0, y => y :: r
  | x :: r, n + 1, y => x :: setN r n y

def put (tm : List AV) (dst : Option Tmp) (v : AV) : List AV :=
  match dst with
  | some d => setN tm d v
  | none => tm

/-! The same, forced: what is handed on is written out. -/
def natK {R : Sort u} (n : Nat) (k : Nat → R) : R :=
  match n with
  | 0 => k 0
  | m + 1 => k (m + 1)

mutual
def forceK {R : Sort u} : AV → (AV → R) → R
  | .any, k => k .any
  | .val v, k => k (.val v)
  | .ptr id n, k => natK n fun n => k (.ptr id n)
  | .elt id e i j, k => natK j fun j => k (.elt id e i j)
  | .slc id n l c, k => k (.slc id n l c)
  | .view id e i l, k => k (.view id e i l)
  | .own id n, k => k (.own id n)
  | .agg cs, k => forceLK cs fun cs => k (.agg cs)
  | .tup cs, k => forceLK cs fun cs => k (.tup cs)
  | .fn f a b, k => forceLK a fun a => forceLK b fun b => k (.fn f a b)
def forceLK {R : Sort u} : List AV → (List AV → R) → R
  | [], k => k []
  | x :: r, k => forceK x fun x => forceLK r fun r => k (x :: r)
end

def setK {R : Sort u} : List AV → Nat → AV → (List AV → R) → R
  | [], _, _, k => k []
  | _ :: r, 0, y, k => k (y :: r)
  | x :: r, n + 1, y, k => setK r n y fun r => k (x :: r)

def putK {R : Sort u} (tm : List AV) (dst : Option Tmp) (v : AV) (k : List AV → R) : R :=
  match dst with
  | some d => forceK v fun v => setK tm d v k
  | none => k tm

def forceB {R : Sort u} (b : Option Blk) (k : Option Blk → R) : R :=
  match b with
  | none => k none
  | some (.cells ty cs) => forceLK cs fun cs => k (some (.cells ty cs))
  | some (.row ty e n f) => k (some (.row ty e n f))
  | some (.orow ty e n f) => k (some (.orow ty e n f))

def updK {R : Sort u} : Hp → Nat → Option Blk → (Hp → R) → R
  | [], id, b, k => k [(id, b)]
  | (i, x) :: r, id, b, k => match Nat.beq i id with
    | true => k ((i, b) :: r)
    | false => updK r id b fun r => k ((i, x) :: r)

def applyK {R : Sort u} : Hp → Dl → (Hp → R) → R
  | h, [], k => k h
  | h, (id, b) :: r, k => natK id fun id => forceB b fun b => updK h id b fun h => applyK h r k

def aeval (tm : List AV) : Operand → AV
  | .tmp t => nth tm t
  | .const v => .val v
  | .global g => .val (.pointer (some ⟨g, 0, none⟩))
  | .func f => .fn (.func f) [] []

def AV.one : AV → Bool
  | .any => false
  | .agg _ => false
  | .tup _ => false
  | .val v => v.oneCell'
  | _ => true

def AV.cellsOf : AV → Option (List AV)
  | .any => none
  | .tup _ => none
  | .agg cs => some cs
  | .val v => match v.oneCell' with
    | true => some [.val v]
    | false => none
  | x => some [x]

def zeroA (P : Program) (t : TypeId) : Option (List AV) :=
  match P.info? t with
  | some i => match i.zero with
    | some z => some (z.cells.toList.map .val)
    | none => none
  | none => none

def sizeT (P : Program) (t : TypeId) : Option Nat :=
  match P.info? t with
  | some i => some i.size
  | none => none

def isAggT (P : Program) (t : TypeId) : Option Bool :=
  match P.underlying t with
  | some (.struct _) => some true
  | some (.array _ _) => some true
  | some _ => some false
  | none => none

def nth? : List AV → Nat → Option AV
  | [], _ => none
  | x :: _, 0 => some x
  | _ :: r, n + 1 => nth? r n

/-- A part of an aggregate's cells, at type t. -/
def partA (P : Program) (t : TypeId) (cs : List AV) (k : Nat) : Option AV :=
  match isAggT P t with
  | some true => match sizeT P t with
    | some n => match Nat.ble (k + n) cs.length with
      | true => some (.agg ((cs.drop k).take n))
      | false => none
    | none => none
  | some false => nth? cs k
  | none => none

def loadA (P : Program) (t : TypeId) (x : AV) (fh : Hp) : Option (Bool × AV) :=
  match x with
  | .ptr id k => match look fh id with
    | some (.cells _ cs) => match partA P t cs k with
      | some v => some (true, v)
      | none => none
    | _ => none
  | .elt id esz i j => match look fh id with
    | some (.row _ esz' n f) | some (.orow _ esz' n f) => match isAggT P t, sizeT P t with
      | some ag, some m => match Nat.beq esz' esz && Nat.ble (j + m) esz && (ag || Nat.beq m 1) with
        | true => some (decide (i < n), match ag with
          | true => .agg ((List.range' j m).map fun q => .val (f i q))
          | false => .val (f i j))
        | false => none
      | _, _ => none
    | _ => none
  | _ => none

def splice (cs : List AV) : Nat → List AV → List AV
  | _, [] => cs
  | k, x :: r => splice (setN cs k x) (k + 1) r

def valOf : AV → Option Value
  | .val v => some v
  | _ => none

def valsOf : List AV → Option (List Value)
  | [] => some []
  | .val v :: r => match valsOf r with
    | some l => some (v :: l)
    | none => none
  | _ => none

def nthV (l : List Value) (k : Nat) : Value := (l[k]?).getD undef

def allOne : List AV → Bool
  | [] => true
  | x :: r => x.one && allOne r

def storeA (P : Program) (t : TypeId) (x y : AV) (fh : Hp) : Option (Bool × Dl) :=
  match y.cellsOf, sizeT P t with
  | some xs, some n => match Nat.beq xs.length n && allOne xs with
    | true => match x with
      | .ptr id k => match look fh id with
        | some (.cells ty cs) => match Nat.ble (k + n) cs.length with
          | true => some (true, [(id, some (.cells ty (splice cs k xs)))])
          | false => none
        | _ => none
      | .elt id esz i j => match look fh id, valsOf xs with
        | some (.orow ty esz' m f), some vs => match Nat.beq esz' esz && Nat.ble (j + n) esz with
          | true => some (decide (i < m), [(id, some (.orow ty esz' m fun i' j' => if i' = i ∧ j ≤ j' ∧ j' < j + n then nthV vs (j' - j) else f i' j'))])
          | false => none
        | _, _ => none
      | _ => none
    | false => none
  | _, _ => none

def eqCells (P : Program) : List Field → Nat → List AV → List AV → Option Bool
  | [], _, [], [] => some true
  | f :: fs, k, .val x :: r, .val y :: s => match Nat.beq f.offset k && f.name != "_", P.underlying f.type, x, y with
    | true, some (.int _), .int a p, .int b q => match decide (a = b), eqCells P fs (k + 1) r s with
      | true, some t => some ((p == q) && t)
      | _, _ => none
    | true, some .bool, .bool p, .bool q => match eqCells P fs (k + 1) r s with
      | some t => some ((p == q) && t)
      | none => none
    | _, _, _, _ => none
  | _, _, _, _ => none

def eqFlat (P : Program) (t : TypeId) (xs ys : List AV) : Option Bool :=
  match P.underlying t with
  | some (.struct fs) => match !P.stoodInHeld t && !(P.eqGuardType P.depth t) with
    | true => eqCells P fs.toList 0 xs ys
    | false => none
  | _ => none

def intOp (op : BinOp) (k : IntKind) (a b : Int) : Option (Bool × Value) :=
  match op with
  | .add => some (true, .int k (k.wrap (a + b)))
  | .sub => some (true, .int k (k.wrap (a - b)))
  | .mul => some (true, .int k (k.wrap (a * b)))
  | .quo => some (b != 0, .int k (k.wrap (a.tdiv b)))
  | .rem => some (b != 0, .int k (a.tmod b))
  | .and => some (true, .int k (bits .and k a b))
  | .or => some (true, .int k (bits .or k a b))
  | .eql => some (true, .bool (a == b))
  | .neq => some (true, .bool (a != b))
  | .lss => some (true, .bool (decide (a < b)))
  | .leq => some (true, .bool (decide (a ≤ b)))
  | .gtr => some (true, .bool (decide (b < a)))
  | .geq => some (true, .bool (decide (b ≤ a)))
  | .shr => some (decide (0 ≤ b) && decide (b ≤ k.bits), .int k (a / 2 ^ b.toNat))
  | _ => none

def binA (P : Program) (op : BinOp) (t : TypeId) (x y : AV) : Option (Bool × AV) :=
  match x, y with
  | .val (.int k a), .val (.int k' b) => match decide (k = k') with
    | true => match intOp op k a b with
      | some (c, v) => some (c, .val v)
      | none => none
    | false => match op with
      | .shr => some (decide (0 ≤ b) && decide (b ≤ k.bits), .val (.int k (a / 2 ^ b.toNat)))
      | _ => none
  | .val (.bool a), .val (.bool b) => match P.underlying t, op with
    | some .bool, .eql => some (true, .val (.bool (a == b)))
    | some .bool, .neq => some (true, .val (.bool (!(a == b))))
    | _, _ => none
  | .agg xs, .agg ys => match eqFlat P t xs ys, op with
    | some r, .eql => some (true, .val (.bool r))
    | some r, .neq => some (true, .val (.bool (!r)))
    | _, _ => none
  | _, _ => none

def fieldOff (P : Program) (t : TypeId) (f : Nat) : Option Nat :=
  match P.underlying t with
  | some (.struct fs) => match fs.toList[f]? with
    | some d => match sizeT P d.type with
      | some (_ + 1) => some d.offset
      | _ => none
    | none => none
  | _ => none

def elemT (P : Program) (t : TypeId) : Option TypeId :=
  match P.underlying t with
  | some (.slice e) => some e
  | _ => none

def arrT (P : Program) (t : TypeId) : Option (Nat × TypeId) :=
  match P.underlying t with
  | some (.array n e) => some (n, e)
  | _ => none

def inR (i : Int) (n : Nat) : Bool := decide (0 ≤ i ∧ i < (n : Int))

def indexAddrA (P : Program) (t : TypeId) (x : AV) (i : Int) (fh : Hp) : Option (Bool × AV) :=
  match x with
  | .ptr id k => match arrT P t with
    | some (n, e) => match sizeT P e with
      | some s => match Nat.ble 2 n with
        | true => some (inR i n, .ptr id (k + i.toNat * s))
        | false => none
      | none => none
    | none => none
  | .elt id esz i0 j => match arrT P t with
    | some (n, e) => match sizeT P e with
      | some s => match Nat.ble 2 n with
        | true => some (inR i n, .elt id esz i0 (j + i.toNat * s))
        | false => none
      | none => none
    | none => none
  | .slc id k len _ => match elemT P t with
    | some e => match sizeT P e with
      | some s => some (inR i len, .ptr id (k + i.toNat * s))
      | none => none
    | none => none
  | .view id esz i0 len => match elemT P t with
    | some e => match sizeT P e with
      | some s => match Nat.beq s esz with
        | true => some (inR i len, .elt id esz (i0 + i.toNat) 0)
        | false => none
      | none => none
    | none => none
  | .own id len => match elemT P t, look fh id with
    | some e, some (.orow _ esz _ _) => match sizeT P e with
      | some s => match Nat.beq s esz with
        | true => some (inR i len, .elt id esz i.toNat 0)
        | false => none
      | none => none
    | _, _ => none
  | _ => none

def lenA : AV → Option Nat
  | .slc _ _ len _ => some len
  | .view _ _ _ len => some len
  | .own _ len => some len
  | .val (.slice _ len _) => some len
  | _ => none

def intA : AV → Option Int
  | .val (.int _ i) => some i
  | _ => none

def sliceA (P : Program) (t : TypeId) (x : AV) (lo hi : Option AV) (fh : Hp) : Option (Bool × AV) :=
  match elemT P t, lenA x with
  | some e, some len => match sizeT P e, (match lo with
      | none => some (0 : Int)
      | some v => intA v), (match hi with
      | none => some (len : Int)
      | some v => intA v) with
    | some s, some l, some h => match x with
      | .slc id k _ cap => some (decide (0 ≤ l) && decide (l ≤ h) && decide (h ≤ len), .slc id (match Nat.beq cap l.toNat with
          | true => k
          | false => k + l.toNat * s) (h.toNat - l.toNat) (cap - l.toNat))
      | .view id esz i _ => match Nat.beq s esz with
        | true => some (decide (0 ≤ l) && decide (l ≤ h) && decide (h ≤ len), .view id esz (i + l.toNat) (h.toNat - l.toNat))
        | false => none
      | .own id _ => match look fh id with
        | some (.orow _ esz _ _) => match Nat.beq s esz with
          | true => some (decide (0 ≤ l) && decide (l ≤ h) && decide (h ≤ len), .view id esz l.toNat (h.toNat - l.toNat))
          | false => none
        | _ => none
      | _ => none
    | _, _, _ => none
  | _, _ => none

/-- The elements of a slice: how many, and each one's cells. -/
def elemsA (x : AV) (esz : Nat) (fh : Hp) : Option (Bool × Nat × (Nat → Nat → Value)) :=
  match x with
  | .slc id k m _ => match look fh id with
    | some (.cells _ cs) => match Nat.ble (k + m * esz) cs.length && allOne ((cs.drop k).take (m * esz)), valsOf ((cs.drop k).take (m * esz)) with
      | true, some vs => some (true, m, fun i j => nthV vs (i * esz + j))
      | _, _ => none
    | _ => none
  | .view id esz' i0 m => match look fh id with
    | some (.row _ esz'' n f) | some (.orow _ esz'' n f) => match Nat.beq esz' esz && Nat.beq esz'' esz with
      | true => some (decide (i0 + m ≤ n), m, fun i j => f (i0 + i) j)
      | false => none
    | _ => none
  | _ => none

def appendA (P : Program) (t : TypeId) (s x : AV) (fh : Hp) (key : Nat) : Option (Bool × AV × Dl) :=
  match elemT P t with
  | some e => match P.info? e, zeroA P e with
    | some i, some z => match Nat.beq z.length i.size && Nat.ble 1 i.size && Nat.ble 1 i.bytes, elemsA x i.size fh with
      | true, some (c, m, g) => match s with
        | .val (.slice none 0 0) => some (c && decide (m * i.bytes ≤ 140737488355328), .own key m, [(key, some (.orow e i.size m g))])
        | .own id n => match look fh id with
          | some (.orow ty esz n' f) => match Nat.beq ty e && Nat.beq esz i.size with
            | true => some (c && decide (n' = n) && decide ((n + m) * i.bytes ≤ 140737488355328), .own key (n + m),
                [(id, none), (key, some (.orow e i.size (n + m) fun a b => if a < n then f a b else g (a - n) b))])
            | false => none
          | _ => none
        | _ => none
      | _, _ => none
    | _, _ => none
  | none => none

def fillA (place : Nat → Option (Nat × Nat)) (cells : List AV) : List (Nat × AV) → Option (List AV)
  | [] => some cells
  | (i, v) :: rest => match place i, v.cellsOf with
    | some (off, size), some xs => match Nat.beq xs.length size && Nat.ble (off + size) cells.length with
      | true => fillA place (splice cells off xs) rest
      | false => none
    | _, _ => none

def placeS (P : Program) (fs : List Field) (i : Nat) : Option (Nat × Nat) :=
  match fs[i]? with
  | some f => match sizeT P f.type with
    | some s => some (f.offset, s)
    | none => none
  | none => none

def repA (z : List AV) : Nat → List AV
  | 0 => []
  | n + 1 => z ++ repA z n

def buildA (P : Program) (t : TypeId) (ps : List (Nat × AV)) : Option AV :=
  match zeroA P t, P.underlying t with
  | some z, some (.struct fs) => match fs.toList.all fun f => (P.info? f.type).isSome with
    | true => match fillA (placeS P fs.toList) z ps with
      | some cs => some (.agg cs)
      | none => none
    | false => none
  | some z, some (.array _ e) => match sizeT P e with
    | some s => match fillA (fun i => some (i * s, s)) z ps with
      | some cs => some (.agg cs)
      | none => none
    | none => none
  | _, _ => none

def buildSliceA (P : Program) (t : TypeId) (len : Nat) (ps : List (Nat × AV)) : Option (TypeId × List AV) :=
  match elemT P t with
  | some e => match sizeT P e, zeroA P e with
    | some s, some z => match Nat.beq z.length s && Nat.ble 1 s && Nat.ble (len * s) 16777216 && Nat.ble 1 len with
      | true => match fillA (fun i => some (i * s, s)) (repA z len) ps with
        | some cs => some (e, cs)
        | none => none
      | false => none
    | _, _ => none
  | none => none

/-! where the table's function rowsId answers (with a condition that does not hold): a slice of plain numbers that is laid out is a row -/
def rowsId : Nat := 4294967296
def intsOf : List AV → Option (List Int)
  | [] => some []
  | .val (.int .i64 n) :: r => match intsOf r with
    | some l => some (n :: l)
    | none => none
  | _ => none
def nthI (l : List Int) (k : Nat) : Int := (l[k]?).getD 0
def rowOf (P : Program) (T : Tab) (key len : Nat) (e : TypeId) (cs : List AV) : Option (AV × Dl) :=
  match T rowsId [] [] key with
  | some _ => match sizeT P e, intsOf cs with
    | some s, some ns => match Nat.beq cs.length (len * s) with
      | true => some (.own key len, [(key, some (.orow e s len fun i j => .int .i64 (nthI ns (i * s + j))))])
      | false => none
    | _, _ => none
  | none => none

def zipP : List (Nat × Operand) → List AV → List (Nat × AV)
  | (i, _) :: r, v :: s => (i, v) :: zipP r s
  | _, _ => []

def vu : AV := .val undef
def okV (v : Option AV) : Option (Bool × AV × Dl) :=
  match v with
  | some x => some (true, x, [])
  | none => none
def okC (v : Option (Bool × AV)) : Option (Bool × AV × Dl) :=
  match v with
  | some (c, x) => some (c, x, [])
  | none => none

/-- One operation, out of its operands' values and of the memory that these name. -/
def aop (P : Program) (T : Tab) (key : Nat) (op : Op) (avs : List AV) (fh : Hp) : Option (Bool × AV × Dl) :=
  match op, avs with
  | .move _, [x] => some (true, x, [])
  | .assign _, [x] => some (true, x, [])
  | .pick _ _ _, [.val (.bool c), a, b] => some (true, (match c with
    | true => a
    | false => b), [])
  | .alloc t, [] => match zeroA P t with
    | some z => some (true, .ptr key 0, [(key, some (.cells t z))])
    | none => none
  | .box t _, [x] => match x.cellsOf with
    | some cs => some (true, .ptr key 0, [(key, some (.cells t cs))])
    | none => none
  | .build t ps, _ => okV (buildA P t (zipP ps.toList avs))
  | .buildSlice t len ps, _ => match buildSliceA P t len (zipP ps.toList avs) with
    | some (e, cs) => match rowOf P T key len e cs with
      | some (v, ds) => some (true, v, ds)
      | none => some (true, .slc key 0 len len, [(key, some (.cells e cs))])
    | none => none
  | .load t _, [x] => okC (loadA P t x fh)
  | .store t _ _, [x, y] => match storeA P t x y fh with
    | some (c, ds) => some (c, vu, ds)
    | none => none
  | .binOp op t _ _ _, [x, y] => okC (binA P op t x y)
  | .unOp .not _ _, [.val (.bool b)] => some (true, .val (.bool (!b)), [])
  | .unOp .neg _ _, [.val (.int k a)] => some (true, .val (.int k (k.wrap (0 - a))), [])
  | .fieldAddr t _ f, [.ptr id k] => match fieldOff P t f with
    | some o => some (true, .ptr id (k + o), [])
    | none => none
  | .fieldAddr t _ f, [.elt id esz i j] => match fieldOff P t f with
    | some o => some (true, .elt id esz i (j + o), [])
    | none => none
  | .indexAddr t _ _, [x, .val (.int _ i)] => okC (indexAddrA P t x i fh)
  | .index t _ _, [.agg cs, .val (.int _ i)] => match arrT P t with
    | some (n, e) => match sizeT P e with
      | some s => match partA P e cs (i.toNat * s) with
        | some v => some (inR i n, v, [])
        | none => none
      | none => none
    | none => none
  | .extract _ i, [.tup vs] => okV (nth? vs i)
  | .makeFunc f first _, _ => some (true, .fn f (avs.take first.size) (avs.drop first.size), [])
  | .slice t _ none none none, [x] => okC (sliceA P t x none none fh)
  | .slice t _ (some _) none none, [x, l] => okC (sliceA P t x (some l) none fh)
  | .slice t _ none (some _) none, [x, h] => okC (sliceA P t x none (some h) fh)
  | .slice t _ (some _) (some _) none, [x, l, h] => okC (sliceA P t x (some l) (some h) fh)
  | .call c, _ => match c.callee, avs with
    | .builtin .len, [x] => match c.argTypes.toList with
      | [t] => match elemT P t, lenA x with
        | some _, some n => some (true, .val (.int .i64 (n : Int)), [])
        | _, _ => none
      | _ => none
    | .builtin .min, [.val (.int k a), .val (.int k' b)] => match decide (k = k') with
      | true => some (true, .val (.int k (min a b)), [])
      | false => none
    | .builtin .max, [.val (.int k a), .val (.int k' b)] => match decide (k = k') with
      | true => some (true, .val (.int k (max a b)), [])
      | false => none
    | .builtin .append, [s, x] => match c.argTypes.toList with
      | [t, t'] => match Nat.beq t t' with
        | true => appendA P t s x fh key
        | false => none
      | _ => none
    | .value _, .fn (.func g) first cap :: args => match T g (first ++ args ++ cap) fh key with
      | some (c, v, ds) => some (c, v, ds)
      | none => none
    | _, _ => none
  | _, _ => none

structure St where
  tm : List AV
  h : Hp
  nx : Nat
  lo : Nat

inductive X where
  | normal
  | exit (id : Nat)
  | ret

def stride : Nat := 16

def nthO : List Oper → Nat → Option Oper
  | [], _ => none
  | x :: _, 0 => some x
  | _ :: r, n + 1 => nthO r n

def gslot (ops : List Oper) (g : Nat) : Option Tmp :=
  match nthO ops g with
  | some o => o.dst
  | none => none

def wantedA (ops : List Oper) (o : Oper) (tm : List AV) : Option Bool :=
  match o.guard with
  | none => some true
  | some (g, want) => match gslot ops g with
    | none => none
    | some s => match nth tm s with
      | .val (.bool b) => some (b == want)
      | .val (.tuple _) => some false
      | _ => none

def split (s : Nat) (tm : List AV) (k : List AV → Prop) : Prop :=
  match nth tm s with
  | .val (.bool t) => ifb t (setK tm s (.val (.bool true)) k) (setK tm s (.val (.bool false)) k)
  | _ => k tm

def gsplit (ops : List Oper) (o : Oper) (tm : List AV) (k : List AV → Prop) : Prop :=
  match o.guard with
  | none => k tm
  | some (g, _) => match gslot ops g with
    | none => k tm
    | some s => split s tm k

def psplit (o : Oper) (tm : List AV) (k : List AV → Prop) : Prop :=
  match o.op with
  | .pick (.tmp s) _ _ => split s tm k
  | _ => k tm

/-- The function that an operation calls, if it is one that is walked into. -/
def inlT (inl : FuncId → Bool) (op : Op) (avs : List AV) : Option (FuncId × List AV) :=
  match op, avs with
  | .call c, .fn (.func g) first cap :: args => match c.callee with
    | .value _ => match inl g with
      | true => some (g, first ++ args ++ cap)
      | false => none
    | _ => none
  | _, _ => none

def opAvs (o : Oper) (tm : List AV) : List AV := o.op.operands.toList.map (aeval tm)

def aseq (P : Program) (T : Tab) (inl : FuncId → Bool) (call : FuncId → List AV → Hp → Nat → (AV → Hp → Nat → Prop) → Prop) (ops : List Oper) :
    List Oper → List AV → Hp → Nat → (List AV → Hp → Nat → Prop) → Prop
  | [], tm, h, nx, k => k tm h nx
  | o :: r, tm, h, nx, k => gsplit ops o tm fun tm => match wantedA ops o tm with
    | none => False
    | some false => putK tm o.dst vu fun tm => aseq P T inl call ops r tm h nx k
    | some true => psplit o tm fun tm => match inlT inl o.op (opAvs o tm) with
      | some (f, args) => call f args h nx fun v h' nx' => putK tm o.dst v fun tm => aseq P T inl call ops r tm h' nx' k
      | none => match aop P T nx o.op (opAvs o tm) (restrict h (AV.idsL (opAvs o tm))) with
        | some (c, v, ds) => ifb c (putK tm o.dst v fun tm => applyK h ds fun h => natK (nx + stride) fun nx => aseq P T inl call ops r tm h nx k) False
        | none => False

/-- Operations that touch no memory, whatever their operands name. -/
def pureOp : Op → Bool
  | .move _ => true
  | .assign _ => true
  | .fieldAddr _ _ _ => true
  | .binOp _ _ _ _ _ => true
  | _ => false
def readIds (op : Op) (ids : List Nat) : List Nat :=
  match pureOp op with
  | true => []
  | false => ids
/-- What one operation of a drawing region did: the memory that it read, the ids that it wrote. -/
abbrev Log := List (List Nat × List Nat)

def adraw (P : Program) (T : Tab) (ops : List Oper) (nx : Nat) : Nat → List Oper → List AV → Hp → Log → (List AV → Hp → Log → Prop) → Prop
  | _, [], tm, h, lg, k => k tm h lg
  | i, o :: r, tm, h, lg, k => gsplit ops o tm fun tm => match wantedA ops o tm with
    | none => False
    | some false => putK tm o.dst vu fun tm => adraw P T ops nx (i + 1) r tm h (([], []) :: lg) k
    | some true => psplit o tm fun tm => match aop P T (nx + stride * i) o.op (opAvs o tm) (restrict h (AV.idsL (opAvs o tm))) with
      | some (c, v, ds) => ifb c (putK tm o.dst v fun tm' => applyK h ds fun h => adraw P T ops nx (i + 1) r tm' h ((readIds o.op (AV.idsL (opAvs o tm)), ds.map (·.1)) :: lg) k) False
      | none => False

/-! which operations come ahead of which -/
def hasN : List Nat → Nat → Bool
  | [], _ => false
  | x :: r, y => Nat.beq x y || hasN r y
def unN : List Nat → List Nat → List Nat
  | [], b => b
  | x :: r, b => match hasN b x with
    | true => unN r b
    | false => unN r (x :: b)
def nthL : List (List Nat) → Nat → List Nat
  | [], _ => []
  | x :: _, 0 => x
  | _ :: r, n + 1 => nthL r n
def afterOf (o : Oper) : List Nat := (o.after.toList.filter fun e => Region.binds .any e).map (·.on)
def upAll (tab : List (List Nat)) : List Nat → List Nat → List Nat
  | [], acc => acc
  | e :: r, acc => upAll tab r (unN (nthL tab e) (unN [e] acc))
/-- Of each operation all that come ahead of it. -/
def ancs : List Oper → List (List Nat) → List (List Nat)
  | [], tab => tab
  | o :: r, tab => ancs r (tab ++ [upAll tab (afterOf o) []])

def meet : List Nat → List Nat → Bool
  | [], _ => false
  | x :: r, b => hasN b x || meet r b

def readsOf (ops : List Oper) (o : Oper) : List Nat :=
  (o.op.operands.toList.filterMap fun
    | .tmp t => some t
    | _ => none) ++ (match o.guard with
    | some (g, _) => (gslot ops g).toList
    | none => [])

/-- What an operation of a region reads and writes: temporaries, ids. -/
structure Use where
  rd : List Nat
  wr : List Nat
  mr : List Nat
  mw : List Nat

def useOf (ops : List Oper) (o : Oper) (l : List Nat × List Nat) : Use := ⟨readsOf ops o, o.dst.toList, l.1, l.2⟩

def clash (a b : Use) : Bool :=
  meet a.wr b.rd || meet a.wr b.wr || meet a.rd b.wr || meet a.mw b.mr || meet a.mw b.mw || meet a.mr b.mw

def usesOf (ops : List Oper) : List Oper → Log → List Use
  | o :: r, l :: s => useOf ops o l :: usesOf ops r s
  | _, _ => []

/-- u clashes with none of the operations from number i on, or comes ahead of those. -/
def clear1 (anc : List (List Nat)) (me : Nat) (u : Use) : Nat → List Use → Bool
  | _, [] => true
  | j, x :: r => (!clash u x || hasN (nthL anc j) me) && clear1 anc me u (j + 1) r
def clearAll (anc : List (List Nat)) : Nat → List Use → Bool
  | _, [] => true
  | i, u :: r => clear1 anc i u (i + 1) r && clearAll anc (i + 1) r

def pastOK : Nat → List Oper → Bool
  | _, [] => true
  | i, o :: r => (afterOf o).all (fun e => Nat.blt e i) && pastOK (i + 1) r

def orderOK (ops : List Oper) (lg : Log) : Bool :=
  pastOK 0 ops && Nat.beq lg.length ops.length && clearAll (ancs ops []) 0 (usesOf ops ops lg.reverse) && Region.noSelect ops.toArray

/-! code -/
def firstReg : Code → Nat
  | .region id _ _ => id
  | .seq a _ => firstReg a
  | .block _ c => firstReg c
  | .scope c => firstReg c
  | .loop c => firstReg c
  | _ => 0

/-! weakening of one state to another: ids are renamed by s (of the new one's id: the old one's) -/
def WeakL (w : AV → AV → Prop) : List AV → List AV → Prop
  | [], [] => True
  | _ :: r, .any :: t => WeakL w r t
  | a :: r, b :: t => w a b ∧ WeakL w r t
  | _, _ => False

mutual
/-- b, of a: deep in a function's values. -/
def WeakD (s : Nat → Option Nat) : AV → AV → Prop
  | .any, _ => True
  | .val v, a => match a with
    | .val u => u = v
    | _ => False
  | .ptr id k, a => match a with
    | .ptr id' k' => s id = some id' ∧ k' = k
    | _ => False
  | .agg cs, a => match a with
    | .agg ds => WeakDL s cs ds
    | _ => False
  | .fn f first cap, a => match a with
    | .fn f' first' cap' => f' = f ∧ WeakDL s first first' ∧ WeakDL s cap cap'
    | _ => False
  | _, _ => False
def WeakDL (s : Nat → Option Nat) : List AV → List AV → Prop
  | [], a => match a with
    | [] => True
    | _ => False
  | b :: t, a => match a with
    | [] => False
    | x :: r => WeakD s b x ∧ WeakDL s t r
end

def Weak (s : Nat → Option Nat) (a b : AV) : Prop :=
  match b with
  | .any => True
  | .val v => match a with
    | .val u => u = v
    | _ => False
  | .ptr id k => match a with
    | .ptr id' k' => s id = some id' ∧ k' = k
    | _ => False
  | .slc id k l c => match a with
    | .slc id' k' l' c' => s id = some id' ∧ k' = k ∧ l' = l ∧ c' = c
    | _ => False
  | .view id e i l => match a with
    | .view id' e' i' l' => s id = some id' ∧ e' = e ∧ i' = i ∧ l' = l
    | _ => False
  | .own id n => match a with
    | .own id' n' => s id = some id' ∧ n' = n
    | .val (.slice none 0 0) => n = 0
    | _ => False
  | .agg cs => match a with
    | .agg ds => WeakL (fun x y => match y with
      | .any => True
      | .val v => x = .val v
      | _ => False) ds cs
    | _ => False
  | .tup _ => False
  | .elt _ _ _ _ => False
  | .fn f first cap => match a with
    | .fn f' first' cap' => f' = f ∧ WeakDL s first first' ∧ WeakDL s cap cap'
    | _ => False

def WeakB (s : Nat → Option Nat) (a b : Option Blk) : Prop :=
  match b with
  | none => True
  | some (.cells ty cs) => match a with
    | some (.cells ty' ds) => ty' = ty ∧ WeakL (Weak s) ds cs
    | _ => False
  | some (.row ty e n f) => match a with
    | some (.row ty' e' n' f') => ty' = ty ∧ e' = e ∧ n' = n ∧ ∀ i j, i < n → j < e → f' i j = f i j
    | _ => False
  | some (.orow ty e n f) => match a with
    | some (.orow ty' e' n' f') => ty' = ty ∧ e' = e ∧ n' = n ∧ ∀ i j, i < n → j < e → f' i j = f i j
    | _ => False

/-- Each block of the new state is one of the old one; or nothing names it. -/
def WeakH (s : Nat → Option Nat) (h : Hp) : Hp → Prop
  | [] => True
  | (id, b) :: r => (match s id with
    | some id' => WeakB s (look h id') b
    | none => True) ∧ WeakH s h r

structure Side (s : Nat → Option Nat) (lo lo' nx : Nat) : Prop where
  same : lo' = lo
  low : ∀ id, id < lo → s id = some id
  fresh : ∀ id, nx ≤ id → s id = none
  inj : ∀ i j x, s i = some x → s j = some x → i = j

def Ref (s : Nat → Option Nat) (a b : St) : Prop := WeakL (Weak s) a.tm b.tm ∧ WeakH s a.h b.h ∧ Side s a.lo b.lo b.nx

/-- A loop's annotation. -/
structure Ann where
  I : Type
  inv : I → St
  mu : I → Nat
  i0 : I
  s0 : Nat → Option Nat
  s1 : Nat → Option Nat

/-- Where it starts is not told, nor what holds in it: that is for the proof to say. -/
structure AnnE where
  I : Type
  inv : I → St
  mu : I → Nat
  s0 : Nat → Option Nat
  s1 : Nat → Option Nat

/-- A loop of known rounds: each is shown by itself. -/
structure Chop where
  N : Nat
  inv : Nat → St

/-- The same, where names are taken from the state: lists of (slot, new name); what lies below is kept as it is. -/
structure AnnM where
  I : Type
  tm : I → List AV
  h : I → Hp
  nx : Nat
  mu : I → Nat
  l0 : List (Nat × Nat)
  l1 : List (Nat × Nat)

/-- Known rounds, each from a state that is told to the next one, with what holds there. -/
structure AnnC where
  ts : List (Bool × List AV × Hp)
  nx : Nat
  l0 : List (Nat × Nat)
  l1 : List (Nat × Nat)

inductive An where
  | one (a : Ann)
  | any (a : AnnE)
  | chop (c : Chop)
  | many (a : AnnM)
  | chain (a : AnnC)

instance : Coe Ann An := ⟨.one⟩
instance : Coe AnnE An := ⟨.any⟩
instance : Coe Chop An := ⟨.chop⟩
instance : Coe AnnM An := ⟨.many⟩
instance : Coe AnnC An := ⟨.chain⟩

def slotId : AV → Option Nat
  | .ptr id _ => some id
  | .slc id _ _ _ => some id
  | .view id _ _ _ => some id
  | .own id _ => some id
  | _ => none
/-- (new name, old name). A slot from 1000000 on names the old name itself. -/
def pairsOf (tm : List AV) : List (Nat × Nat) → List (Nat × Nat)
  | [] => []
  | (s, new) :: r => match Nat.ble 1000000 s with
    | true => (new, s - 1000000) :: pairsOf tm r
    | false => match slotId (nth tm s) with
      | some old => (new, old) :: pairsOf tm r
      | none => pairsOf tm r
def assoc : List (Nat × Nat) → Nat → Option Nat
  | [], _ => none
  | (k, v) :: r, id => match Nat.beq k id with
    | true => some v
    | false => assoc r id
def ren (lo : Nat) (l : List (Nat × Nat)) (id : Nat) : Option Nat :=
  match Nat.blt id lo with
  | true => some id
  | false => assoc l id
def noVal (v : Nat) : List (Nat × Nat) → Bool
  | [] => true
  | (_, w) :: r => !Nat.beq w v && noVal v r
def pairsOK (lo nx : Nat) : List (Nat × Nat) → Bool
  | [] => true
  | (k, v) :: r => Nat.blt k nx && (Nat.ble lo v && (noVal v r && pairsOK lo nx r))
def below (lo : Nat) : Hp → Hp
  | [] => []
  | (id, b) :: r => match Nat.blt id lo with
    | true => (id, b) :: below lo r
    | false => below lo r

def keyIn : Hp → Nat → Bool
  | [], _ => false
  | (k, _) :: r, id => Nat.beq k id || keyIn r id
def lessK (g : Hp) : Hp → Hp
  | [] => []
  | (id, b) :: r => match keyIn g id with
    | true => lessK g r
    | false => (id, b) :: lessK g r
/-- Memory that is told, over what lies there. -/
def over (g h : Hp) : Hp := g ++ lessK g h

/-! weakening without a renaming, computed -/
def sid (b : Nat) (id : Nat) : Option Nat :=
  match Nat.blt id b with
  | true => some id
  | false => none

def vEq : Value → Value → Bool
  | .int k a, .int q b => decide (k = q) && (a == b)
  | .bool a, .bool b => a == b
  | .slice none 0 0, .slice none 0 0 => true
  | _, _ => false

def aggB : List AV → List AV → Bool
  | [], [] => true
  | .val u :: r, .val v :: t => vEq u v && aggB r t
  | _, _ => false

def weakVB (nx : Nat) (a b : AV) : Bool :=
  match b with
  | .any => true
  | .val v => match a with
    | .val u => vEq u v
    | _ => false
  | .ptr id k => match a with
    | .ptr id' k' => Nat.blt id nx && (Nat.beq id' id && Nat.beq k' k)
    | _ => false
  | .slc id k l c => match a with
    | .slc id' k' l' c' => Nat.blt id nx && (Nat.beq id' id && (Nat.beq k' k && (Nat.beq l' l && Nat.beq c' c)))
    | _ => false
  | .agg cs => match a with
    | .agg ds => aggB ds cs
    | _ => false
  | _ => false

def weakLB (nx : Nat) : List AV → List AV → Bool
  | [], [] => true
  | a :: r, b :: t => weakVB nx a b && weakLB nx r t
  | _, _ => false

def weakBB (nx : Nat) (a b : Option Blk) : Bool :=
  match b with
  | none => true
  | some (.cells ty cs) => match a with
    | some (.cells ty' ds) => Nat.beq ty' ty && weakLB nx ds cs
    | _ => false
  | _ => false

def weakHB (nx : Nat) (h : Hp) : Hp → Bool
  | [] => true
  | (id, b) :: r => (match Nat.blt id nx with
    | true => weakBB nx (look h id) b
    | false => true) && weakHB nx h r

def refB (a b : St) : Bool := weakLB b.nx a.tm b.tm && (weakHB b.nx a.h b.h && (Nat.beq b.lo a.lo && Nat.ble a.lo b.nx))

structure Cfg where
  P : Program
  T : Tab
  inl : FuncId → Bool
  la : FuncId → Nat → Option An

def aloop (step : St → (X → St → Prop) → Prop) : Nat → St → (X → St → Prop) → Prop
  | 0, _, _ => False
  | m + 1, σ, k => step σ fun x σ' => match x with
    | .normal => aloop step m σ' k
    | .exit i => k (.exit i) σ'
    | .ret => k .ret σ'

def annLoop (step : St → (X → St → Prop) → Prop) (an : Ann) (σ : St) (k : X → St → Prop) : Prop :=
  Ref an.s0 σ (an.inv an.i0) ∧ ∀ i : an.I, step (an.inv i) fun x σ' => match x with
    | .normal => ∃ i', Ref an.s1 σ' (an.inv i') ∧ an.mu i' < an.mu i
    | .exit e => k (.exit e) σ'
    | .ret => k .ret σ'

def annLoopE (step : St → (X → St → Prop) → Prop) (an : AnnE) (σ : St) (k : X → St → Prop) : Prop :=
  ∃ J : an.I → Prop, (∃ i : an.I, J i ∧ Ref an.s0 σ (an.inv i)) ∧ ∀ i : an.I, J i → step (an.inv i) fun x σ' => match x with
    | .normal => ∃ i', (J i' ∧ an.mu i' < an.mu i) ∧ Ref an.s1 σ' (an.inv i')
    | .exit e => k (.exit e) σ'
    | .ret => k .ret σ'

def RefM (l : List (Nat × Nat)) (a b : St) : Prop :=
  WeakL (Weak (ren b.lo (pairsOf a.tm l))) a.tm b.tm ∧ WeakH (ren b.lo (pairsOf a.tm l)) a.h b.h ∧ (Nat.beq b.lo a.lo && (Nat.ble a.lo b.nx && pairsOK b.lo b.nx (pairsOf a.tm l))) = true
def annLoopM (step : St → (X → St → Prop) → Prop) (an : AnnM) (σ : St) (k : X → St → Prop) : Prop :=
  ∃ J : an.I → Prop, (∃ i : an.I, J i ∧ RefM an.l0 σ ⟨an.tm i, over (an.h i) (below σ.lo σ.h), an.nx, σ.lo⟩) ∧ ∀ i : an.I, J i → step ⟨an.tm i, over (an.h i) (below σ.lo σ.h), an.nx, σ.lo⟩ fun x σ' => match x with
    | .normal => ∃ i', (J i' ∧ an.mu i' < an.mu i) ∧ RefM an.l1 σ' ⟨an.tm i', over (an.h i') (below σ.lo σ.h), an.nx, σ.lo⟩
    | .exit e => k (.exit e) σ'
    | .ret => k .ret σ'

def chainP (step : St → (X → St → Prop) → Prop) (l : List (Nat × Nat)) (mk : List AV × Hp → St) (k : X → St → Prop) : Bool × List AV × Hp → List (Bool × List AV × Hp) → Prop
  | (c, a), [] => c = true → step (mk a) fun x σ' => match x with
    | .normal => False
    | .exit e => k (.exit e) σ'
    | .ret => k .ret σ'
  | (c, a), (c', b) :: r => (c = true → step (mk a) fun x σ' => match x with
    | .normal => c' = true ∧ RefM l σ' (mk b)
    | .exit e => k (.exit e) σ'
    | .ret => k .ret σ') ∧ chainP step l mk k (c', b) r
def annLoopC (step : St → (X → St → Prop) → Prop) (an : AnnC) (σ : St) (k : X → St → Prop) : Prop :=
  match an.ts with
  | [] => False
  | (c, t, g) :: r => (c = true ∧ RefM an.l0 σ ⟨t, over g (below σ.lo σ.h), an.nx, σ.lo⟩) ∧ chainP step an.l1 (fun t => ⟨t.1, over t.2 (below σ.lo σ.h), an.nx, σ.lo⟩) k (c, t, g) r

/-- One round, on to the next state. -/
def chopK (τ : St) (x : X) (σ' : St) : Prop :=
  match x with
  | .normal => ifb (refB σ' τ) True False
  | _ => False
def chopLoop (step : St → (X → St → Prop) → Prop) (ch : Chop) (σ : St) (k : X → St → Prop) : Prop :=
  ifb (refB σ (ch.inv 0)) ((∀ i, Nat.blt i ch.N = true → step (ch.inv i) (chopK (ch.inv (i + 1)))) ∧ step (ch.inv ch.N) fun x σ' => match x with
    | .normal => False
    | .exit e => k (.exit e) σ'
    | .ret => k .ret σ') False

def repAny : Nat → List AV
  | 0 => []
  | n + 1 => vu :: repAny n

def resA (P : Program) (tm : List AV) (h : Hp) : List ResultVar → Option (List AV)
  | [] => some []
  | .tmp t :: r => match resA P tm h r with
    | some l => some (nth tm t :: l)
    | none => none
  | .cell a t :: r => match loadA P t (nth tm a) h, resA P tm h r with
    | some (true, v), some l => some (v :: l)
    | _, _ => none

def oneA : List AV → AV
  | [v] => v
  | l => .tup l

def enterA (P : Program) (f : FuncId) : Option (Func × Code) :=
  match P.funcs.toList[f]? with
  | some fn => match fn.body with
    | some c => some (fn, c)
    | none => none
  | none => none

def exitA (P : Program) (fn : Func) (k : AV → Hp → Nat → Prop) : X → St → Prop
  | .exit _, _ => False
  | _, σ => match resA P σ.tm σ.h fn.results.toList with
    | some l => forceK (oneA l) fun v => k v σ.h σ.nx
    | none => False

def acode (C : Cfg) : Nat → FuncId → Code → St → (X → St → Prop) → Prop
  | 0, _, _, _, _ => False
  | n + 1, cur, c, σ, k => match c with
    | .skip => k .normal σ
    | .label _ => k .normal σ
    | .region _ ops draw => match draw with
      | false => aseq C.P C.T C.inl (fun f args h nx k' => match enterA C.P f with
          | some (fn, body) => forceLK (args ++ repAny (fn.ntmps - args.length)) fun tm => acode C n f body ⟨tm, h, nx, nx⟩ (exitA C.P fn k')
          | none => False) ops.toList ops.toList σ.tm σ.h σ.nx fun tm h nx => k .normal ⟨tm, h, nx, σ.lo⟩
      | true => adraw C.P C.T ops.toList σ.nx 0 ops.toList σ.tm σ.h [] fun tm h lg =>
          ifb (orderOK ops.toList lg) (natK (σ.nx + stride * ops.toList.length) fun nx => k .normal ⟨tm, h, nx, σ.lo⟩) False
    | .seq a b => acode C n cur a σ fun x σ' => match x with
      | .normal => acode C n cur b σ' k
      | .exit i => k (.exit i) σ'
      | .ret => k .ret σ'
    | .cond c t e => match aeval σ.tm c with
      | .val (.bool b) => ifb b (acode C n cur t σ k) (acode C n cur e σ k)
      | _ => False
    | .block id c => acode C n cur c σ fun x σ' => match x with
      | .normal => k .normal σ'
      | .exit i => match Nat.beq i id with
        | true => k .normal σ'
        | false => k (.exit i) σ'
      | .ret => k .ret σ'
    | .loop c => match C.la cur (firstReg c) with
      | some (.one an) => annLoop (acode C n cur c) an σ k
      | some (.any an) => annLoopE (acode C n cur c) an σ k
      | some (.chop ch) => chopLoop (acode C n cur c) ch σ k
      | some (.many an) => annLoopM (acode C n cur c) an σ k
      | some (.chain an) => annLoopC (acode C n cur c) an σ k
      | none => aloop (acode C n cur c) n σ k
    | .scope c => acode C n cur c σ k
    | .exit id => k (.exit id) σ
    | .ret => k .ret σ
    | _ => False

/-- A function of arguments, in memory h, from id nx on. -/
def afn (C : Cfg) (n : Nat) (f : FuncId) (args : List AV) (h : Hp) (nx : Nat) (k : AV → Hp → Nat → Prop) : Prop :=
  match enterA C.P f with
  | some (fn, body) => forceLK (args ++ repAny (fn.ntmps - args.length)) fun tm => acode C n f body ⟨tm, h, nx, nx⟩ (exitA C.P fn k)
  | none => False

end Go.Proofs.Ytmaddijeiniliaa.Sy
