/-
  A deterministic machine over an abstract heap for the translated code: its definitions. Blocks have names; a slice that may have been moved by an append bears a new stamp; capacities that the model leaves open are not looked at.
-/
import Derived.WalkKit
set_option linter.unusedVariables false
set_option linter.unusedSimpArgs false
namespace Go.Am

inductive V where
  | s (v : Value)
  | ptr (n g off : Nat)
  | sl (n g off len cap : Nat) (exact : Bool) (sz : Nat)
  | fn (f : FuncId) (fst cap : List V)
  | ifc (t : TypeId) (v : V)
  | agg (cs : List V)
  | tup (vs : List V)
  | junk
  deriving Inhabited

inductive Tr (α : Type) where
  | nil
  | node (v : Option α) (l r : Tr α)

namespace Tr
variable {α : Type}
def get : Tr α → Nat → Option α
  | .nil, _ => none
  | .node v l r, k =>
    match k with
    | 0 => v
    | k + 1 => cond (Nat.beq (k % 2) 0) (get l (k / 2)) (get r (k / 2))

def setF : Nat → Tr α → Nat → Option α → Tr α
  | 0, t, _, _ => t
  | f + 1, .nil, k, x =>
    match k with
    | 0 => .node x .nil .nil
    | k + 1 => cond (Nat.beq (k % 2) 0) (.node none (setF f .nil (k / 2) x) .nil) (.node none .nil (setF f .nil (k / 2) x))
  | f + 1, .node v l r, k, x =>
    match k with
    | 0 => .node x l r
    | k + 1 => cond (Nat.beq (k % 2) 0) (.node v (setF f l (k / 2) x) r) (.node v l (setF f r (k / 2) x))

def set (t : Tr α) (k : Nat) (x : Option α) : Tr α := setF (k + 1) t k x

theorem get_nil (k : Nat) : get (.nil : Tr α) k = none := rfl

theorem get_setF_same : ∀ (f : Nat) (t : Tr α) (k : Nat) (x : Option α), k < f → get (setF f t k x) k = x := by
  intro f
  induction f with
  | zero => intro t k x h; omega
  | succ f ih =>
    intro t k x h
    cases t with
    | nil =>
      cases k with
      | zero => rfl
      | succ k =>
        simp only [setF]
        cases hb : Nat.beq (k % 2) 0 <;> simp only [cond_true, cond_false, get, hb] <;> exact ih _ _ _ (by omega)
    | node v l r =>
      cases k with
      | zero => rfl
      | succ k =>
        simp only [setF]
        cases hb : Nat.beq (k % 2) 0 <;> simp only [cond_true, cond_false, get, hb] <;> exact ih _ _ _ (by omega)

theorem get_setF_other : ∀ (f : Nat) (t : Tr α) (k j : Nat) (x : Option α), j ≠ k → get (setF f t k x) j = get t j := by
  intro f
  induction f with
  | zero => intro t k j x h; rfl
  | succ f ih =>
    intro t k j x h
    cases t with
    | nil =>
      cases k with
      | zero =>
        cases j with
        | zero => exact absurd rfl h
        | succ j => simp only [setF, get]; cases Nat.beq (j % 2) 0 <;> rfl
      | succ k =>
        simp only [setF]
        cases hb : Nat.beq (k % 2) 0 <;> simp only [cond_true, cond_false] <;> cases j with
          | zero => rfl
          | succ j =>
            simp only [get]
            cases hc : Nat.beq (j % 2) 0 <;> simp only [cond_true, cond_false, get]
            all_goals
              try rw [ih _ _ _ _ (by
                intro e
                have h1 : k % 2 = 0 ∨ k % 2 = 1 := by omega
                have h2 : j % 2 = 0 ∨ j % 2 = 1 := by omega
                rcases h1 with h1 | h1 <;> rcases h2 with h2 | h2 <;> simp [h1, h2] at hb hc <;> omega)]
              try rfl
    | node v l r =>
      cases k with
      | zero =>
        cases j with
        | zero => exact absurd rfl h
        | succ j => rfl
      | succ k =>
        simp only [setF]
        cases hb : Nat.beq (k % 2) 0 <;> simp only [cond_true, cond_false] <;> cases j with
          | zero => rfl
          | succ j =>
            simp only [get]
            cases hc : Nat.beq (j % 2) 0 <;> simp only [cond_true, cond_false]
            all_goals
              try rw [ih _ _ _ _ (by
                intro e
                have h1 : k % 2 = 0 ∨ k % 2 = 1 := by omega
                have h2 : j % 2 = 0 ∨ j % 2 = 1 := by omega
                rcases h1 with h1 | h1 <;> rcases h2 with h2 | h2 <;> simp [h1, h2] at hb hc <;> omega)]
theorem get_set_same (t : Tr α) (k : Nat) (x : Option α) : get (set t k x) k = x := get_setF_same _ _ _ _ (by omega)
theorem get_set_other (t : Tr α) (k j : Nat) (x : Option α) (h : j ≠ k) : get (set t k x) j = get t j := get_setF_other _ _ _ _ _ h
end Tr

structure Blk where
  cells : List V
  g : Nat
  rw : Bool
  e : TypeId
  z : Bool      -- it is known to begin where the model's block begins

structure Hp where
  t : Tr Blk
  next : Nat

namespace Hp
def get (H : Hp) (n : Nat) : Option Blk := H.t.get n
def set (H : Hp) (n : Nat) (b : Blk) : Hp := { H with t := H.t.set n (some b) }
def alloc (H : Hp) (cs : List V) (e : TypeId) : Hp := { t := H.t.set H.next (some ⟨cs, 0, true, e, true⟩), next := H.next + 1 }
theorem get_set_same (H : Hp) (n : Nat) (b : Blk) : (H.set n b).get n = some b := Tr.get_set_same _ _ _
theorem get_set_other (H : Hp) (n m : Nat) (b : Blk) (h : m ≠ n) : (H.set n b).get m = H.get m := Tr.get_set_other _ _ _ _ h
theorem get_alloc_same (H : Hp) (cs : List V) (e : TypeId) : (H.alloc cs e).get H.next = some ⟨cs, 0, true, e, true⟩ := Tr.get_set_same _ _ _
theorem get_alloc_other (H : Hp) (cs : List V) (e : TypeId) (m : Nat) (h : m ≠ H.next) : (H.alloc cs e).get m = H.get m := Tr.get_set_other _ _ _ _ h
theorem next_set (H : Hp) (n : Nat) (b : Blk) : (H.set n b).next = H.next := rfl
theorem next_alloc (H : Hp) (cs : List V) (e : TypeId) : (H.alloc cs e).next = H.next + 1 := rfl
end Hp

def nilS : V := .s (.slice none 0 0)
def nilP : V := .s (.pointer none)
def undefV : V := .s (.tuple #[])
def I (n : Int) : V := .s (.int .i64 n)
def U8 (n : Int) : V := .s (.int .u8 n)
def B (b : Bool) : V := .s (.bool b)

/-- A value that one cell of memory holds. -/
def V.one : V → Bool
  | .s (.agg _) | .s (.tuple _) | .agg _ | .tup _ | .junk => false
  | _ => true

def V.cells : V → Option (List V)
  | .agg cs => some cs
  | .s (.agg a) => some (a.toList.map .s)
  | .tup _ | .junk | .s (.tuple _) => none
  | v => some [v]

/-- The names below this one are those of the program's own variables. -/
def NG : Nat := 1000

def ev (ρ : List V) : Operand → V
  | .tmp t => ρ.getD t .junk
  | .const v => .s v
  | .global g => if g < NG then .ptr g 0 0 else .junk
  | .func f => .fn f [] []

def put (ρ : List V) (d : Option Tmp) (v : V) : List V :=
  match d with
  | some d => ρ.set d v
  | none => ρ

def isAgg (P : Program) (t : TypeId) : Option Bool :=
  match P.underlying t with
  | some (.struct _) | some (.array _ _) => some true
  | some _ => some false
  | none => none

def sizeOf (P : Program) (t : TypeId) : Option Nat := (P.info? t).map (·.size)

def zeroOf (P : Program) (t : TypeId) : Option Value := (P.info? t).bind (·.zero)

def asInt : V → Option Int
  | .s (.int _ n) => some n
  | _ => none

/-- The block that an address names, if the address is not stale. -/
def blk (H : Hp) (n g : Nat) : Option Blk :=
  match H.get n with
  | some b => if b.g = g then some b else none
  | none => none

def loads (H : Hp) (n g off k : Nat) : Option (List V) :=
  (blk H n g).bind fun b => if off + k ≤ b.cells.length then some ((b.cells.drop off).take k) else none

def splice : List V → Nat → List V → List V
  | cs, _, [] => cs
  | cs, i, v :: vs => splice (cs.set i v) (i + 1) vs

def stores (H : Hp) (n g off : Nat) (vs : List V) : Option Hp :=
  (blk H n g).bind fun b => if b.rw = true ∧ vs.all V.one = true ∧ off + vs.length ≤ b.cells.length then some (H.set n { b with cells := splice b.cells off vs }) else none

def loadVar (P : Program) (H : Hp) (t : TypeId) (n g off : Nat) : Option V :=
  (isAgg P t).bind fun a =>
    if a then (sizeOf P t).bind fun k => (loads H n g off k).bind fun cs => some (.agg cs)
    else (blk H n g).bind fun b => b.cells[off]?

def storeVar (P : Program) (H : Hp) (t : TypeId) (n g off : Nat) (v : V) : Option Hp :=
  v.cells.bind fun cs => (sizeOf P t).bind fun k => if cs.length = k then stores H n g off cs else none

def part (P : Program) (t : TypeId) (cs : List V) (off : Nat) : Option V :=
  (isAgg P t).bind fun a =>
    if a then (sizeOf P t).bind fun k => some (.agg ((cs.drop off).take k)) else cs[off]?

/-- A new variable. -/
def newVar (H : Hp) (t : TypeId) (v : V) : Option (V × Hp) :=
  v.cells.bind fun cs => some (.ptr H.next 0 0, H.alloc cs t)

def zeroCells (z : List Value) (n : Nat) : List V := (List.range (n * z.length)).map fun i => .s (z.getD (i % z.length) default)

def pcmp (op : BinOp) (x y : Int) : Option Bool :=
  match op with
  | .eql => some (x == y)
  | .neq => some (x != y)
  | .lss => some (decide (x < y))
  | .leq => some (decide (x ≤ y))
  | .gtr => some (decide (x > y))
  | .geq => some (decide (x ≥ y))
  | _ => none

def pint (op : BinOp) (k : IntKind) (x y : Int) : Option Value :=
  match op with
  | .add => some (.int k (k.wrap (x + y)))
  | .sub => some (.int k (k.wrap (x - y)))
  | .mul => some (.int k (k.wrap (x * y)))
  | .quo => if y = 0 then none else some (.int k (k.wrap (x.tdiv y)))
  | .rem => if y = 0 then none else some (.int k (x.tmod y))
  | .and => some (.int k (k.wrap (BitVec.ofInt k.bits x &&& BitVec.ofInt k.bits y).toNat))
  | .or => some (.int k (k.wrap (BitVec.ofInt k.bits x ||| BitVec.ofInt k.bits y).toNat))
  | .xor => some (.int k (k.wrap (BitVec.ofInt k.bits x ^^^ BitVec.ofInt k.bits y).toNat))
  | .andNot => some (.int k (k.wrap (BitVec.ofInt k.bits x &&& ~~~BitVec.ofInt k.bits y).toNat))
  | .shl | .shr => none
  | op => (pcmp op x y).map .bool

def pshift (op : BinOp) (k : IntKind) (x y : Int) : Option Value :=
  if y < 0 then none else
  match op with
  | .shl => some (.int k (k.wrap (x * 2 ^ (min y.toNat k.bits))))
  | .shr => some (.int k (x.fdiv (2 ^ (min y.toNat k.bits))))
  | _ => none

def pstr (op : BinOp) (x y : ByteArray) : Option Value :=
  match op with
  | .add => if ((x.size + y.size : Nat) : Int) > IntKind.i64.max then none else some (.string (x ++ y))
  | .eql => some (.bool (x.toList == y.toList))
  | .neq => some (.bool !(x.toList == y.toList))
  | _ => none

def isNil : Value → Bool
  | .pointer none | .slice none _ _ | .nilFunc => true
  | _ => false

def constOp : Operand → Bool
  | .const _ => true
  | _ => false

/-- Is the value none of its kind: known to be not nil, or nil. -/
def nilness : V → Option Bool
  | .s (.pointer none) | .s (.slice none _ _) | .s .nilFunc | .s .nilIface => some true
  | .ptr .. | .sl .. | .fn .. | .ifc .. => some false
  | _ => none

def isNilLit : V → Bool
  | .s (.pointer none) | .s (.slice none _ _) | .s .nilFunc | .s .nilIface => true
  | _ => false

/-- '==' of two values that are no numbers and no strings. 'c': one of the operands is a constant. -/
def veq (P : Program) (H : Hp) (c : Bool) (t : TypeId) (x y : V) : Option Bool :=
  match P.underlying t, x, y with
  | some .bool, .s (.bool a), .s (.bool b) => some (a == b)
  | some (.pointer _), .s (.pointer none), .s (.pointer none) => some true
  | some (.pointer _), .s (.pointer none), .ptr .. => some false
  | some (.pointer _), .ptr .., .s (.pointer none) => some false
  | some (.slice _), .s (.slice none _ _), .s (.slice none _ _) => some true
  | some (.slice _), .s (.slice none _ _), .sl .. => some false
  | some (.slice _), .sl .., .s (.slice none _ _) => some false
  | some (.func ..), .s .nilFunc, .s .nilFunc => some true
  | some (.func ..), .s .nilFunc, .fn .. => some false
  | some (.func ..), .fn .., .s .nilFunc => some false
  | some (.interface _), .s .nilIface, .s .nilIface => if c then some true else none
  | some (.interface _), .s .nilIface, .ifc .. => some false
  | some (.interface _), .ifc .., .s .nilIface => some false
  | some (.pointer el), .ptr n g o, .ptr n' g' o' => if n = n' ∧ g = g' then (blk H n g).bind fun _ => (sizeOf P el).bind fun k => if k = 0 then none else some (decide (o = o')) else none
  | _, _, _ => none

def vbin (P : Program) (H : Hp) (op : BinOp) (t : TypeId) (c : Bool) (x y : V) : Option V :=
  match op, x, y with
  | .shl, .s (.int k a), .s (.int _ b) => (pshift .shl k a b).map .s
  | .shr, .s (.int k a), .s (.int _ b) => (pshift .shr k a b).map .s
  | op, .s (.int k a), .s (.int k' b) => if k = k' then (pint op k a b).map .s else none
  | op, .s (.string a), .s (.string b) => (pstr op a b).map .s
  | .eql, x, y => (veq P H c t x y).map B
  | .neq, x, y => (veq P H c t x y).map fun b => B !b
  | _, _, _ => none

def vun (op : UnOp) (x : V) : Option V :=
  match op, x with
  | .neg, .s (.int k n) => (pint .sub k 0 n).map .s
  | .xor, .s (.int k n) => (pint .xor k (if k.signed then -1 else k.max) n).map .s
  | .not, .s (.bool b) => some (B !b)
  | _, _ => none

def bytesOf : List V → Option (List UInt8)
  | [] => some []
  | .s (.int .u8 b) :: r => if 0 ≤ b ∧ b < 256 then (bytesOf r).bind fun l => some (b.toNat.toUInt8 :: l) else none
  | _ => none

def vconv (P : Program) (H : Hp) (src dst : TypeId) (x : V) : Option V :=
  match P.underlying src, P.underlying dst, x with
  | some _, some (.int k), .s (.int _ n) => some (.s (.int k (k.wrap n)))
  | some .string, some .string, .s (.string b) => some (.s (.string b))
  | some (.slice e), some .string, .s (.slice none _ _) => match P.underlying e with | some (.int .u8) => some (.s (.string .empty)) | _ => none
  | some (.slice e), some .string, .sl n g off len _ _ sz => match P.underlying e with
    | some (.int .u8) => if sz = 1 then (loads H n g off len).bind fun cs => (bytesOf cs).bind fun l => some (.s (.string ⟨l.toArray⟩)) else none
    | _ => none
  | some (.pointer t), some .unsafePointer, .ptr n g off => (blk H n g).bind fun b => (sizeOf P t).bind fun k => if k = 0 ∨ b.cells.length ≤ off then none else some (.ptr n g off)
  | some .unsafePointer, some (.pointer u), .ptr n g off => (blk H n g).bind fun b => (sizeOf P u).bind fun k => if k = 0 ∨ b.e ≠ u ∨ b.z = false ∨ off ≠ 0 ∨ b.cells.length < k then none else some (.ptr n g off)
  | _, _, _ => none

def vfieldAddr (P : Program) (s : TypeId) (x : V) (field : Nat) : Option V :=
  match P.underlying s, x with
  | some (.struct fields), .ptr n g off =>
    (fields[field]?).bind fun f => (sizeOf P f.type).bind fun k => if k = 0 then none else some (.ptr n g (off + f.offset))
  | _, _ => none

def vfield (P : Program) (s : TypeId) (x : V) (field : Nat) : Option V :=
  match P.underlying s, x with
  | some (.struct fields), .agg cs => (fields[field]?).bind fun f => part P f.type cs f.offset
  | some (.struct fields), .s (.agg a) => (fields[field]?).bind fun f => part P f.type (a.toList.map .s) f.offset
  | _, _ => none

def vindexAddr (P : Program) (t : TypeId) (x ix : V) : Option V :=
  (asInt ix).bind fun i =>
  match P.underlying t, x with
  | some (.array len e), .ptr n g off => (sizeOf P e).bind fun k => if 0 ≤ i ∧ i < len then some (.ptr n g (off + i.toNat * k)) else none
  | some (.slice e), .sl n g off len _ _ sz => (sizeOf P e).bind fun k => if 0 ≤ i ∧ i < len ∧ k = sz then some (.ptr n g (off + i.toNat * k)) else none
  | _, _ => none

def vindex (P : Program) (t : TypeId) (x ix : V) : Option V :=
  (asInt ix).bind fun i =>
  match P.underlying t, x with
  | some (.array len e), .agg cs => (sizeOf P e).bind fun k => if 0 ≤ i ∧ i < len then part P e cs (i.toNat * k) else none
  | some .string, .s (.string s) => if 0 ≤ i then (s[i.toNat]?).map fun b => .s (.int .u8 b.toNat) else none
  | _, _ => none

def vextract (x : V) (ix : Nat) : Option V :=
  match x with
  | .tup vs => vs[ix]?
  | _ => none

def bound (x : Option V) (dflt : Nat) : Option Nat :=
  match x with
  | none => some dflt
  | some v => (asInt v).bind fun i => if 0 ≤ i then some i.toNat else none

def vslice (P : Program) (H : Hp) (t : TypeId) (x : V) (lo hi mx : Option V) : Option V :=
  match P.underlying t, x with
  | some .string, .s (.string s) =>
    if mx.isSome then none else
    (bound lo 0).bind fun l => (bound hi s.size).bind fun h => if l ≤ h ∧ h ≤ s.size then some (.s (.string (s.extract l h))) else none
  | some (.slice e), .sl n g off len cap ex sz =>
    (sizeOf P e).bind fun k => if k ≠ sz then none else
    (bound lo 0).bind fun l => (bound hi len).bind fun h =>
    match mx with
    | some m => (bound (some m) 0).bind fun m => if hi.isSome ∧ l ≤ h ∧ h ≤ m ∧ (m ≤ len ∨ (ex = true ∧ m ≤ cap)) then some (.sl n g (off + l * sz) (h - l) (m - l) true sz) else none
    | none =>
      if l ≤ h ∧ h ≤ len then some (.sl n g (off + l * sz) (h - l) (cap - l) ex sz)
      else if l ≤ h ∧ ex = true ∧ h ≤ cap then some (.sl n g (off + l * sz) (h - l) (cap - l) ex sz)
      else (blk H n g).bind fun b => if l ≤ h ∧ ex = false ∧ 0 < sz ∧ off + h * sz ≤ b.cells.length then some (.sl n g (off + l * sz) (h - l) (cap - l) ex sz) else none
  | some (.slice e), .s (.slice none 0 0) =>
    (sizeOf P e).bind fun _ => (bound lo 0).bind fun l => (bound hi 0).bind fun h => (bound mx 0).bind fun m => if l = 0 ∧ h = 0 ∧ m = 0 ∧ (mx.isSome → hi.isSome) then some nilS else none
  | some (.array len e), .ptr n g off =>
    (sizeOf P e).bind fun k =>
    (bound lo 0).bind fun l => (bound hi len).bind fun h => (bound mx len).bind fun m =>
      if l ≤ h ∧ h ≤ m ∧ m ≤ len ∧ (mx.isSome → hi.isSome) then some (.sl n g (off + l * k) (h - l) (m - l) true k) else none
  | _, _ => none

def vmakeSlice (P : Program) (H : Hp) (t : TypeId) (x y : V) : Option (V × Hp) :=
  match P.underlying t with
  | some (.slice e) =>
    (asInt x).bind fun len => (asInt y).bind fun cap => (P.info? e).bind fun i => (i.zero).bind fun z =>
      let l := IntKind.i64.wrap len
      let c := IntKind.i64.wrap cap
      if 0 ≤ l ∧ l ≤ c ∧ (i.bytes : Int) * c ≤ 2 ^ 47 ∧ z.cells.size = i.size then
        some (.sl H.next 0 0 l.toNat (if l = c then c.toNat else 0) (decide (l = c)) i.size, H.alloc (zeroCells z.cells.toList l.toNat) e)
      else none
  | _ => none

def fill (place : Nat → Option (Nat × Nat)) (cells : List V) : List (Nat × V) → Option (List V)
  | [] => some cells
  | (i, v) :: rest =>
    match place i, v.cells with
    | some (off, size), some cs => if cs.length = size ∧ off + size ≤ cells.length then fill place (splice cells off cs) rest else none
    | _, _ => none

def vbuild (P : Program) (t : TypeId) (parts : List (Nat × V)) : Option V :=
  (zeroOf P t).bind fun z =>
  let zero := z.cells.toList.map V.s
  match P.underlying t with
  | some (.struct fields) => (fields.toList.mapM fun f => (sizeOf P f.type).bind fun k => some (f.offset, k)).bind fun places => (fill (fun i => places[i]?) zero parts).map .agg
  | some (.array _ e) => (sizeOf P e).bind fun k => (fill (fun i => some (i * k, k)) zero parts).map .agg
  | _ => none

def vbuildSlice (P : Program) (H : Hp) (t : TypeId) (len : Nat) (parts : List (Nat × V)) : Option (V × Hp) :=
  match P.underlying t with
  | some (.slice e) => (P.info? e).bind fun i => (i.zero).bind fun z =>
    if z.cells.size = i.size ∧ len * i.size ≤ 2 ^ 24 then
      (fill (fun j => some (j * i.size, i.size)) (zeroCells z.cells.toList len) parts).bind fun cs => some (.sl H.next 0 0 len len true i.size, H.alloc cs e)
    else none
  | _ => none

def firstCells (H : Hp) (sz : Nat) : V → Option (List V)
  | .sl n g off len _ _ z => if z = sz then loads H n g off (len * sz) else none
  | .s (.slice none 0 _) => some []
  | .s (.string b) => if sz = 1 then some (b.data.toList.map fun x => .s (.int .u8 x.toNat)) else none
  | _ => none

def flen : V → Option Nat
  | .sl _ _ _ len _ _ _ => some len
  | .s (.slice none 0 _) => some 0
  | .s (.string b) => some b.size
  | _ => none

/-- What is appended: how many elements, and their cells. -/
def vnew (P : Program) (H : Hp) (i : TypeInfo) (z : Value) (xt : TypeDesc) (x : V) : Option (Nat × List V) :=
  match xt with
  | .int _ => (asInt x).bind fun l => if 0 ≤ IntKind.i64.wrap l ∧ IntKind.i64.wrap l * i.bytes ≤ 2 ^ 47 then some ((IntKind.i64.wrap l).toNat, zeroCells z.cells.toList (IntKind.i64.wrap l).toNat) else none
  | _ => (flen x).bind fun k => (firstCells H i.size x).bind fun new => some (k, new)

/-- append. -/
def vappend (P : Program) (H : Hp) (ts : Array TypeId) (s x : V) : Option (V × Hp) :=
  match (ts[0]?).bind P.underlying with
  | some (.slice e) => (P.info? e).bind fun i => (i.zero).bind fun z => ((ts[1]?).bind P.underlying).bind fun xt =>
    if z.cells.size ≠ i.size ∨ i.size = 0 then none else
    (vnew P H i z xt x).bind fun (k, new) =>
    match s with
    | .s (.slice none 0 0) =>
      if k = 0 then some (nilS, H)
      else if k * i.bytes ≤ 2 ^ 47 ∧ k < 2 ^ 62 ∧ new.all V.one = true then some (.sl H.next 0 0 k 0 false i.size, H.alloc new e) else none
    | .sl n g off len cap ex sz =>
      if sz ≠ i.size then none else
      (blk H n g).bind fun b =>
      if ex = true then
        if len + k ≤ cap then (stores H n g (off + len * sz) new).bind fun H' => some (.sl n g off (len + k) cap ex sz, H')
        else (loads H n g off (len * sz)).bind fun old =>
          if (len + k) * i.bytes ≤ 2 ^ 47 ∧ len + k < 2 ^ 62 then some (.sl H.next 0 0 (len + k) 0 false sz, H.alloc (old ++ new) e) else none
      else if off + (len + k) * sz ≤ b.cells.length then (stores H n g (off + len * sz) new).bind fun H' => some (.sl n g off (len + k) 0 false sz, H')
      else if off + len * sz = b.cells.length ∧ b.rw = true ∧ new.all V.one = true ∧ (len + k) * i.bytes ≤ 2 ^ 47 ∧ len + k < 2 ^ 62 ∧ b.e = e then
        some (.sl n (g + 1) 0 (len + k) 0 false sz, H.set n ⟨b.cells.drop off ++ new, g + 1, true, e, b.z && off == 0⟩)
      else none
    | _ => none
  | _ => none

def vcopy (P : Program) (H : Hp) (ts : Array TypeId) (d x : V) : Option (V × Hp) :=
  match (ts[0]?).bind P.underlying with
  | some (.slice e) => (sizeOf P e).bind fun k => (flen x).bind fun m =>
    match d, x with
    | .sl n g off len _ _ sz, .sl n' g' off' _ _ _ sz' =>
      if sz ≠ k ∨ sz' ≠ k ∨ m = 0 ∨ len = 0 then none else
      (loads H n' g' off' (min m len * k)).bind fun new => (stores H n g off new).bind fun H' => some (I ((min m len : Nat) : Int), H')
    | .s (.slice none 0 _), _ => if m = 0 then some (I 0, H) else none
    | .sl .., _ => if m = 0 then some (I 0, H) else none
    | _, _ => none
  | _ => none

def vlen (P : Program) (ts : Array TypeId) (x : V) : Option V :=
  match (ts[0]?).bind P.underlying, x with
  | some .string, .s (.string b) => some (I b.size)
  | some (.array n _), .junk => none
  | some (.array n _), _ => some (I n)
  | some (.slice _), .sl _ _ _ len _ _ _ => some (I len)
  | some (.slice _), .s (.slice none n _) => some (I n)
  | some (.pointer a), _ => match P.underlying a with | some (.array n _) => some (I n) | _ => none
  | _, _ => none

def vcap (P : Program) (ts : Array TypeId) (x : V) : Option V :=
  match (ts[0]?).bind P.underlying, x with
  | some (.slice _), .sl _ _ _ _ cap true _ => some (I cap)
  | some (.slice _), .s (.slice none _ n) => some (I n)
  | _, _ => none

def vmin2 (mx : Bool) : V → V → Option V
  | .s (.int k x), .s (.int _ y) => some (.s (.int k (if mx then (if y > x then y else x) else (if y < x then y else x))))
  | _, _ => none

def vminmax (mx : Bool) : List V → Option V
  | [] => none
  | x :: r => r.foldlM (vmin2 mx) x

def vsliceData : V → Option V
  | .sl n g off len cap ex _ => if len = 0 ∧ (ex = false ∨ cap = 0) then none else some (.ptr n g off)
  | .s (.slice none _ _) => some nilP
  | _ => none

def vunsafeString (P : Program) (H : Hp) (ts : Array TypeId) (p n : V) : Option (V × Hp) :=
  match ts.toList, n with
  | [pt, _], .s (.int .i64 n) =>
    match p with
    | .s (.pointer none) => if n = 0 then some (.s (.string .empty), H) else none
    | .ptr m g off =>
      if n = 0 then some (.s (.string .empty), H) else
      match P.underlying pt with
        | some (.pointer u) => (blk H m g).bind fun b =>
          if b.rw = true ∧ 0 < n ∧ n ≤ 9223372036854775807 ∧ b.e = u ∧ P.cellsOf u = 1 ∧ off = 0 ∧ b.z = true ∧ n.toNat ≤ b.cells.length then
            (bytesOf (b.cells.take n.toNat)).bind fun l => some (.s (.string ⟨l.toArray⟩), H.set m { b with rw := false })
          else none
        | _ => none
    | _ => none
  | _, _ => none

def vbuiltin (P : Program) (H : Hp) (b : Builtin) (ts : Array TypeId) (args : List V) : Option (V × Hp) :=
  match b, args with
  | .append, [s, x] => vappend P H ts s x
  | .copy, [d, x] => vcopy P H ts d x
  | .len, [x] => (vlen P ts x).map (·, H)
  | .cap, [x] => (vcap P ts x).map (·, H)
  | .max, l => (vminmax true l).map (·, H)
  | .min, l => (vminmax false l).map (·, H)
  | .unsafeSliceData, [x] => (vsliceData x).map (·, H)
  | .unsafeString, [p, n] => vunsafeString P H ts p n
  | _, _ => none

/-- The operations that call no function of the program. -/
def aop (P : Program) (ρ : List V) (H : Hp) (o : Op) : Option (V × Hp) :=
  match o with
  | .move x | .assign x => some (ev ρ x, H)
  | .pick c a b => match ev ρ c with | .s (.bool t) => some (if t then ev ρ a else ev ρ b, H) | _ => none
  | .alloc e => (zeroOf P e).bind fun z => newVar H e (.s z)
  | .box e x => newVar H e (ev ρ x)
  | .build t ps => (vbuild P t (ps.toList.map fun (i, x) => (i, ev ρ x))).map (·, H)
  | .buildSlice t len ps => vbuildSlice P H t len (ps.toList.map fun (i, x) => (i, ev ρ x))
  | .load t a => match ev ρ a with | .ptr n g off => (loadVar P H t n g off).map (·, H) | _ => none
  | .store t a x => match ev ρ a with | .ptr n g off => (storeVar P H t n g off (ev ρ x)).map (undefV, ·) | _ => none
  | .nilCheck x => match ev ρ x with | .ptr n g off => some (.ptr n g off, H) | .fn f a c => some (.fn f a c, H) | .ifc t v => some (.ifc t v, H) | _ => none
  | .binOp op t x y _ => (vbin P H op t (constOp x || constOp y) (ev ρ x) (ev ρ y)).map (·, H)
  | .unOp op _ x => (vun op (ev ρ x)).map (·, H)
  | .convert s d x => (vconv P H s d (ev ρ x)).map (·, H)
  | .makeInterface t x => match P.underlying t with | some (.interface _) => none | none => none | _ => some (.ifc t (ev ρ x), H)
  | .makeFunc (.func f) first captured => some (.fn f (first.toList.map (ev ρ)) (captured.toList.map (ev ρ)), H)
  | .makeSlice t l c => vmakeSlice P H t (ev ρ l) (ev ρ c)
  | .slice t x lo hi mx => (vslice P H t (ev ρ x) (lo.map (ev ρ)) (hi.map (ev ρ)) (mx.map (ev ρ))).map (·, H)
  | .fieldAddr s x f => (vfieldAddr P s (ev ρ x) f).map (·, H)
  | .field s x f => (vfield P s (ev ρ x) f).map (·, H)
  | .indexAddr t x i => (vindexAddr P t (ev ρ x) (ev ρ i)).map (·, H)
  | .index t x i => (vindex P t (ev ρ x) (ev ρ i)).map (·, H)
  | .extract x i => (vextract (ev ρ x) i).map (·, H)
  | .call { callee := .builtin b, args, argTypes } => vbuiltin P H b argTypes (args.toList.map (ev ρ))
  | _ => none

inductive Place where
  | val (v : V)
  | var (n g off : Nat)

/-- The place of a promoted method's receiver. -/
def follow (P : Program) (H : Hp) : List FieldStep → TypeId → Place → Option (TypeId × Place)
  | [], t, x => some (t, x)
  | s :: rest, _, x =>
    match P.underlying s.struct with
    | some (.struct fields) => (fields[s.index]?).bind fun f => (sizeOf P f.type).bind fun k =>
      if k = 0 then none else
      match s.deref, x with
      | true, .val (.ptr n g off) => follow P H rest f.type (.var n g (off + f.offset))
      | false, .var n g off => follow P H rest f.type (.var n g (off + f.offset))
      | _, _ => none
    | _ => none

/-- The function and the arguments of a call. -/
def acallee (P : Program) (ρ : List V) (H : Hp) (c : Call) : Option (FuncId × List V) :=
  match c.callee with
  | .builtin _ => none
  | .value f => match ev ρ f with | .fn f fst cap => some (f, fst ++ c.args.toList.map (ev ρ) ++ cap) | _ => none
  | .invoke r name =>
    match ev ρ r with
    | .ifc t v => (P.info? t).bind fun i => (i.methods.find? (·.name == name)).bind fun m =>
      match m.func with
      | some (f, pr) => (follow P H m.path.toList t (.val v)).bind fun (xt, x) => (P.underlying xt).bind fun u =>
        match u, pr, x with
        | .pointer _, true, .val v => some (f, v :: c.args.toList.map (ev ρ))
        | .pointer _, _, _ => none
        | _, true, .var n g off => some (f, .ptr n g off :: c.args.toList.map (ev ρ))
        | _, false, .val v => some (f, v :: c.args.toList.map (ev ρ))
        | _, _, _ => none
      | none => none
    | _ => none

def wanted (ops : Array Oper) (ρ : List V) (o : Oper) : Option Bool :=
  match o.guard with
  | none => some true
  | some (j, want) =>
    match (ops[j]?).bind (·.dst) with
    | none => some false
    | some d =>
      match ρ[d]? with
      | none => some false
      | some (.s (.bool b)) => some (b == want)
      | some (.s (.tuple _)) => some false
      | _ => none

abbrev Caller := FuncId → List V → Hp → Option (V × Hp)

def isCall : Op → Option Call
  | .call c => match c.callee with | .builtin _ => none | _ => some c
  | _ => none

def astep (P : Program) (call : Caller) (ρ : List V) (H : Hp) (o : Op) : Option (V × Hp) :=
  match isCall o with
  | some c => (acallee P ρ H c).bind fun (f, args) => call f args H
  | none => aop P ρ H o

def aops (P : Program) (call : Caller) (ops : Array Oper) : List Oper → List V → Hp → Option (List V × Hp)
  | [], ρ, H => some (ρ, H)
  | o :: rest, ρ, H =>
    (wanted ops ρ o).bind fun w =>
    if w then (astep P call ρ H o.op).bind fun (v, H') => aops P call ops rest (put ρ o.dst v) H'
    else aops P call ops rest (put ρ o.dst undefV) H

/-! ### Regions whose order is open -/

def seq (a b : Value) : Bool :=
  match a, b with
  | .int k n, .int k' n' => decide (k = k') && decide (n = n')
  | .bool x, .bool y => decide (x = y)
  | .string x, .string y => decide (x.data.toList = y.data.toList)
  | .pointer none, .pointer none => true
  | .slice none n c, .slice none n' c' => decide (n = n') && decide (c = c')
  | .nilFunc, .nilFunc => true
  | .nilIface, .nilIface => true
  | _, _ => false

mutual
def V.beq : V → V → Bool
  | .s a, .s b => seq a b
  | .ptr n g o, .ptr n' g' o' => decide (n = n') && decide (g = g') && decide (o = o')
  | .sl n g o l c e z, .sl n' g' o' l' c' e' z' => decide (n = n') && decide (g = g') && decide (o = o') && decide (l = l') && decide (c = c') && decide (e = e') && decide (z = z')
  | .fn f a c, .fn f' a' c' => decide (f = f') && V.beqs a a' && V.beqs c c'
  | .ifc t v, .ifc t' v' => decide (t = t') && V.beq v v'
  | .agg c, .agg c' => V.beqs c c'
  | _, _ => false
def V.beqs : List V → List V → Bool
  | [], [] => true
  | a :: r, b :: r' => V.beq a b && V.beqs r r'
  | _, _ => false
end

/-- 0: it looks at registers alone; 1: it reads memory; 2: it may change memory. -/
def opKind : Op → Nat
  | .binOp op _ _ _ _ => match op with | .eql | .neq => 1 | _ => 0
  | .move _ | .assign _ | .pick .. | .build .. | .nilCheck _ | .unOp .. | .makeInterface .. | .makeFunc .. | .fieldAddr .. | .field .. | .indexAddr .. | .index .. | .extract .. => 0
  | .load .. | .slice .. | .convert .. => 1
  | .call { callee := .builtin b, .. } => match b with | .len | .cap | .min | .max | .unsafeSliceData => 0 | _ => 2
  | _ => 2

def maskOf (o : Oper) (acc : List Nat) : Nat := o.after.toList.foldl (fun s e => if Region.binds .any e then s ||| 2 ^ e.on ||| acc.getD e.on 0 else s) 0

def masks : List Oper → List Nat → List Nat
  | [], acc => acc
  | o :: r, acc => masks r (acc ++ [maskOf o acc])

/-- The temporaries that an operation looks at: its operands, and what its guard asks. -/
def tmpsOf (ops : List Oper) (o : Oper) : List Tmp :=
  (match o.guard with | some (j, _) => (match (ops[j]?).bind (·.dst) with | some d => [d] | none => []) | none => []) ++ o.op.operands.toList.filterMap fun | .tmp t => some t | _ => none

/-- One of the two writes a temporary that the other one names. -/
def clash (ops : List Oper) (a b : Oper) : Bool :=
  (match a.dst with | some t => (match b.dst with | some u => decide (t = u) | none => false) || (tmpsOf ops b).contains t | none => false) ||
  (match b.dst with | some t => (tmpsOf ops a).contains t | none => false)

def drawOk (ops : List Oper) : Bool :=
  let m := masks ops []
  (ops.zipIdx.all fun (o, i) => o.after.toList.all (fun e => !Region.binds .any e || decide (e.on < i))) &&
  ops.zipIdx.all fun (o, i) => ops.zipIdx.all fun (q, j) => !(decide (j < i)) || (!(clash ops o q) && !(opKind o.op == 2 && opKind q.op == 2)) || (m.getD i 0).testBit j

/-- A step, or nothing where the guard says no. -/
def gstep (P : Program) (call : Caller) (ops : List Oper) (ρ : List V) (H : Hp) (o : Oper) : Option (Bool × V × Hp) :=
  (wanted ops.toArray ρ o).bind fun b => if b then (astep P call ρ H o.op).bind fun (v, H') => some (true, v, H') else some (false, undefV, H)

/-- The run in the order of the text, with what stood before each operation and what it gave. -/
def adr (P : Program) (call : Caller) (ops : List Oper) : List Oper → List V → Hp → Option (List (List V × Hp × Bool × V) × List V × Hp)
  | [], ρ, H => some ([], ρ, H)
  | o :: rest, ρ, H => (gstep P call ops ρ H o).bind fun (b, v, H') => (adr P call ops rest (put ρ o.dst v) H').bind fun (tr, ρ', H'') => some ((ρ, H, b, v) :: tr, ρ', H'')

def heapAt (tr : List (List V × Hp × Bool × V)) (HN : Hp) (j : Nat) : Hp :=
  match tr[j]? with
  | some (_, H, _) => H
  | none => HN

/-- May operation i come up when just the operations before j have changed memory? -/
def mayAt (ops : List Oper) (m : List Nat) (i j : Nat) : Bool :=
  ops.zipIdx.all fun (q, p) => !(opKind q.op == 2) || ((!((m.getD i 0).testBit p) || decide (p < j)) && (!((m.getD p 0).testBit i) || decide (j ≤ p)))

def sameRead (P : Program) (ρ : List V) (H : Hp) (o : Op) (v : V) : Bool :=
  match aop P ρ H o with
  | some (v', _) => V.beq v' v
  | none => false

def impAt (ops : List Oper) (j : Nat) : Bool :=
  match ops[j]? with
  | some q => opKind q.op == 2
  | none => false

def stable (P : Program) (ops : List Oper) (tr : List (List V × Hp × Bool × V)) (HN : Hp) : Bool :=
  let m := masks ops []
  (ops.zipIdx.zip tr).all fun ((o, i), (ρ, _, b, v)) =>
    !(opKind o.op == 1) || !b || (List.range (ops.length + 1)).all fun j =>
      !(decide (j = 0) || impAt ops (j - 1)) || !(mayAt ops m i j) || sameRead P ρ (heapAt tr HN j) o.op v

def adraw (P : Program) (call : Caller) (ops : List Oper) (ρ : List V) (H : Hp) : Option (List V × Hp) :=
  if drawOk ops then (adr P call ops ops ρ H).bind fun (tr, ρ', H') => if stable P ops tr H' then some (ρ', H') else none
  else none

inductive Ex where
  | norm
  | exit (id : Nat)
  | ret
  deriving DecidableEq

/-- The temporaries that nobody asks any more are forgotten. -/
def kill : List V → List Bool → List V
  | [], _ => []
  | x :: xs, [] => x :: xs
  | x :: xs, b :: bs => (cond b x .junk) :: kill xs bs

structure Ctx where
  P : Program
  K : FuncId → Nat → List Bool
  same : FuncId → Bool      -- the functions without a body that hand on their argument, and those of which it is known what they hand back
  isOrc : FuncId → Bool     -- the latter
  orc : FuncId → Hp → Option V

def results (P : Program) (fn : Func) (ρ : List V) (H : Hp) : Option V :=
  (fn.results.toList.mapM fun (r : ResultVar) => match r with
    | .tmp t => some (ρ.getD t undefV)
    | .cell a t => match ρ.getD a undefV with | .ptr n g off => loadVar P H t n g off | _ => none).bind fun vs =>
  match vs with
  | [v] => some v
  | vs => some (.tup vs)

def acodeBody (C : Ctx) (call : Caller) (code : FuncId → Code → List V → Hp → Option (Ex × List V × Hp)) (f : FuncId) (c : Code) (ρ : List V) (H : Hp) : Option (Ex × List V × Hp) :=
  match c with
  | .skip | .label _ => some (.norm, ρ, H)
  | .region id ops false => (aops C.P call ops ops.toList ρ H).bind fun (ρ', H') => some (.norm, kill ρ' (C.K f id), H')
  | .region id ops true => (adraw C.P call ops.toList ρ H).bind fun (ρ', H') => some (.norm, kill ρ' (C.K f id), H')
  | .seq a b => (code f a ρ H).bind fun (e, ρ', H') => if e = .norm then code f b ρ' H' else some (e, ρ', H')
  | .cond c a b => match ev ρ c with | .s (.bool t) => code f (if t then a else b) ρ H | _ => none
  | .block id b => (code f b ρ H).bind fun (e, ρ', H') => some (if e = .exit id then .norm else e, ρ', H')
  | .loop b => (code f b ρ H).bind fun (e, ρ', H') => if e = .norm then code f (.loop b) ρ' H' else some (e, ρ', H')
  | .exit id => some (.exit id, ρ, H)
  | .ret => some (.ret, ρ, H)
  | _ => none

def acallBody (C : Ctx) (code : FuncId → Code → List V → Hp → Option (Ex × List V × Hp)) (f : FuncId) (args : List V) (H : Hp) : Option (V × Hp) :=
  if C.same f then (match args with | [x] => cond (C.isOrc f) none (some (x, H)) | [] => cond (C.isOrc f) ((C.orc f H).map (·, H)) none | _ => none) else
  match C.P.funcs[f]? with
  | some fn =>
    match fn.body with
    | some c =>
      if fn.name == "runtime.NumGoroutine" then none else
      (code f c (args ++ List.replicate (fn.ntmps - args.length) undefV) H).bind fun (e, ρ, H') =>
        match e with
        | .exit _ => none
        | _ => (results C.P fn ρ H').map (·, H')
    | none => none
  | none => none

mutual
def acode (C : Ctx) : Nat → FuncId → Code → List V → Hp → Option (Ex × List V × Hp)
  | 0 => fun _ _ _ _ => none
  | k + 1 => acodeBody C (acall C k) (acode C k)
def acall (C : Ctx) : Nat → FuncId → List V → Hp → Option (V × Hp)
  | 0 => fun _ _ _ => none
  | k + 1 => acallBody C (acode C k)
end

end Go.Am
