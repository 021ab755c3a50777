/-
  A small deterministic evaluator: resolved code over an abstract heap. Definitions alone.
-/
import Derived.Calls
import Derived.LoopN
import Derived.Orders
namespace Go.Sim

/-- A block of the abstract heap. -/
structure Blk where
  ro : Bool
  cells : List Value
  deriving Inhabited

abbrev Heap := List (Option Blk)
abbrev Env := Array Value

/-- The value of one cell. -/
def isCell : Value → Bool
  | .agg _ => false
  | .tuple _ => false
  | _ => true

/-- How two values are compared. -/
inductive EqK where
  | int | bool | str | ptr | slice | func
  | fields (l : List (Nat × EqK))
  deriving Inhabited

mutual
def eqV : EqK → Value → Value → Option Bool
  | .int, .int k a, .int k' b => if k = k' then some (a == b) else none
  | .bool, .bool a, .bool b => some (a == b)
  | .str, .string a, .string b => some (a == b)
  | .ptr, .pointer none, .pointer b => some b.isNone
  | .ptr, .pointer (some _), .pointer none => some false
  | .slice, .slice none _ _, .slice b _ _ => some b.isNone
  | .slice, .slice (some _) _ _, .slice none _ _ => some false
  | .func, .nilFunc, .nilFunc => some true
  | .func, .nilFunc, .func _ _ _ => some false
  | .func, .func _ _ _, .nilFunc => some false
  | .fields l, .agg xs, .agg ys => eqFields l xs ys
  | _, _, _ => none
def eqFields : List (Nat × EqK) → Array Value → Array Value → Option Bool
  | [], _, _ => some true
  | (off, k) :: l, xs, ys =>
    match xs[off]?, ys[off]? with
    | some x, some y =>
      match eqV k x y with
      | some true => eqFields l xs ys
      | some false => some false
      | none => none
    | _, _ => none
end

/-- A binary operation on two integers. -/
def binI (op : BinOp) (k : IntKind) (a : Int) (k' : IntKind) (b : Int) : Option Value :=
  match op with
  | .shl => if b < 0 then none else some (.int k (k.wrap (a * 2 ^ (min b.toNat k.bits))))
  | .shr => if b < 0 then none else some (.int k (a.fdiv (2 ^ (min b.toNat k.bits))))
  | op =>
    if k ≠ k' then none else
    match op with
    | .add => some (.int k (k.wrap (a + b)))
    | .sub => some (.int k (k.wrap (a - b)))
    | .mul => some (.int k (k.wrap (a * b)))
    | .quo => if b = 0 then none else some (.int k (k.wrap (a.tdiv b)))
    | .rem => if b = 0 then none else some (.int k (a.tmod b))
    | .and => some (.int k (k.wrap (BitVec.ofInt k.bits a &&& BitVec.ofInt k.bits b).toNat))
    | .or => some (.int k (k.wrap (BitVec.ofInt k.bits a ||| BitVec.ofInt k.bits b).toNat))
    | .xor => some (.int k (k.wrap (BitVec.ofInt k.bits a ^^^ BitVec.ofInt k.bits b).toNat))
    | .andNot => some (.int k (k.wrap (BitVec.ofInt k.bits a &&& ~~~(BitVec.ofInt k.bits b)).toNat))
    | .eql => some (.bool (a == b))
    | .neq => some (.bool (a != b))
    | .lss => some (.bool (a < b))
    | .leq => some (.bool (a ≤ b))
    | .gtr => some (.bool (a > b))
    | .geq => some (.bool (a ≥ b))
    | _ => none

def binS (op : BinOp) (a b : ByteArray) : Option Value :=
  match op with
  | .add => if a.size + b.size ≤ 140737488355328 then some (.string (a ++ b)) else none
  | .eql => some (.bool (a.toList == b.toList))
  | .neq => some (.bool !(a.toList == b.toList))
  | .lss => some (.bool (Op.bytesLess a.toList b.toList))
  | .leq => some (.bool (Op.bytesLess a.toList b.toList || a.toList == b.toList))
  | .gtr => some (.bool !(Op.bytesLess a.toList b.toList || a.toList == b.toList))
  | .geq => some (.bool !(Op.bytesLess a.toList b.toList))
  | _ => none

def binV (op : BinOp) : Value → Value → Option Value
  | .int k a, .int k' b => binI op k a k' b
  | .string a, .string b => binS op a b
  | _, _ => none

def unV (op : UnOp) : Value → Option Value
  | .int k n =>
    match op with
    | .neg => some (.int k (k.wrap (0 - n)))
    | .xor => some (.int k (k.wrap (BitVec.ofInt k.bits (if k.signed then -1 else k.max) ^^^ BitVec.ofInt k.bits n).toNat))
    | _ => none
  | .bool b => match op with | .not => some (.bool !b) | _ => none
  | _ => none

/-- The resolved operations. -/
inductive ROp where
  | mov (x : Operand)
  | movS (x : Operand)
  | pick (c a b : Operand)
  | alloc (zero : List Value)
  | box (x : Operand)
  | build (zero : List Value) (places : List (Nat × Nat)) (parts : List (Nat × Operand))
  | buildSlice (esz len : Nat) (zero : List Value) (parts : List (Nat × Operand))
  | load (n : Nat) (agg : Bool) (a : Operand)
  | store (n : Nat) (a x : Operand)
  | nilCheck (x : Operand)
  | bin (op : BinOp) (x y : Operand)
  | eq (neg : Bool) (k : EqK) (x y : Operand)
  | un (op : UnOp) (x : Operand)
  | convInt (k : IntKind) (x : Operand)
  | makeFunc (fn : FuncId) (captured : List Operand)
  | makeSlice (esz bytes : Nat) (zero : List Value) (l c : Operand)
  | sliceS (x : Operand) (lo hi : Option Operand)
  | slice (esz : Nat) (x : Operand) (lo hi : Option Operand)
  | fieldAddr (off : Nat) (x : Operand)
  | field (off n : Nat) (agg : Bool) (x : Operand)
  | indexArr (len esz : Nat) (x i : Operand)
  | indexSl (esz : Nat) (x i : Operand)
  | indexV (len esz : Nat) (agg : Bool) (x i : Operand)
  | indexS (x i : Operand)
  | len (x : Operand)
  | lenS (x : Operand)
  | min (args : List Operand)
  | max (args : List Operand)
  | append (esz bytes : Nat) (x y : Operand)
  | copy (esz : Nat) (x y : Operand)
  | bytesToStr (x : Operand)
  | extract (x : Operand) (i : Nat)
  | call (f : Operand) (args : List Operand)
  deriving Inhabited

structure ROper where
  dst : Option Tmp
  op : ROp
  guard : Option (Option Tmp × Bool)
  deriving Inhabited

inductive Cls where | P | L | A | W
  deriving DecidableEq, Inhabited

def ROp.cls : ROp → Cls
  | .load .. | .bytesToStr _ => .L
  | .alloc _ | .box _ | .buildSlice .. | .makeSlice .. => .A
  | .store .. | .append .. | .copy .. | .call .. => .W
  | _ => .P

inductive RCode where
  | skip
  | region (ops : List ROper) (pairs : List (Nat × Nat))
  | seq (a b : RCode)
  | cond (c : Operand) (thn els : RCode)
  | block (id : Nat) (c : RCode)
  | scope (c : RCode)
  | loop (c : RCode)
  | exit (id : Nat)
  | ret
  deriving Inhabited

inductive LogE where
  | ld (n : Nat) (agg : Bool) (str : Bool) (a v : Value)
  | hv (h h' : Heap)
  deriving Inhabited

abbrev Log := List (Nat × LogE)

inductive RItem where
  | code (c : RCode)
  | inBlock (id : Nat)
  | inScope
  | inLoop (c : RCode)
  | ops (os : List ROper) (i : Nat) (pairs : List (Nat × Nat)) (log : Log)
  deriving Inhabited

inductive RRes where
  | tmp (t : Tmp)
  | cell (a : Tmp) (n : Nat) (agg : Bool)
  deriving Inhabited

structure RFunc where
  ntmps : Nat
  results : List RRes
  body : RCode
  iso : Bool
  deriving Inhabited

/-! Values and memory. -/

def ev (e : Env) : Operand → Value
  | .tmp t => e.getD t undef
  | .const v => v
  | .global g => .pointer (some ⟨g, 0, none⟩)
  | .func f => .func (.func f) #[] #[]

def put (e : Env) (dst : Option Tmp) (v : Value) : Env :=
  match dst with
  | some d => e.setIfInBounds d v
  | none => e

def blk? (h : Heap) (id : Nat) : Option Blk :=
  match h[id]? with
  | some (some b) => some b
  | _ => none

def loadV (h : Heap) (n : Nat) (agg : Bool) : Value → Option Value
  | .pointer (some ⟨id, off, none⟩) =>
    match blk? h id with
    | some b =>
      match agg with
      | true => if off + n ≤ b.cells.length then some (.agg ((b.cells.drop off).take n).toArray) else none
      | false => b.cells[off]?
    | none => none
  | _ => none

def writeAt : List Value → Nat → List Value → List Value
  | l, _, [] => l
  | l, off, v :: vs => writeAt (l.set off v) (off + 1) vs

def isVar : Value → Bool
  | .tuple _ => false
  | _ => true

def storeV (h : Heap) (n : Nat) (a v : Value) : Option Heap :=
  match a with
  | .pointer (some ⟨id, off, none⟩) =>
    match blk? h id with
    | some b =>
      if b.ro = false ∧ isVar v = true ∧ v.cells.size = n ∧ off + n ≤ b.cells.length then
        some (h.set id (some { b with cells := writeAt b.cells off v.cells.toList }))
      else none
    | none => none
  | _ => none

def fillL (place : Nat → Option (Nat × Nat)) (cells : List Value) : List (Nat × Value) → Option (List Value)
  | [] => some cells
  | (i, v) :: rest =>
    match place i with
    | none => none
    | some (off, size) =>
      if isVar v = true ∧ v.cells.size = size ∧ off + size ≤ cells.length then fillL place (writeAt cells off v.cells.toList) rest else none

def repL (zero : List Value) : Nat → List Value
  | 0 => []
  | n + 1 => zero ++ repL zero n

def asI : Value → Option Int
  | .int _ n => some n
  | _ => none

/-- A bound of a slice expression. -/
def bnd (v : Value) (y : Nat) : Option Nat :=
  match v with
  | .int _ i => if 0 ≤ i ∧ i ≤ (y : Int) then some i.toNat else none
  | _ => none

/-- A bound that may be left out. -/
def bndO (o : Option Value) (y d : Nat) : Option Nat :=
  match o with
  | some v => bnd v y
  | none => some d

def sliceV (esz : Nat) (x : Value) (lo hi : Option Value) : Option Value :=
  match x with
  | .slice a len c =>
    match bndO hi len len with
    | none => none
    | some t =>
      match bndO lo t 0 with
      | none => none
      | some l =>
        match a with
        | none => if len = 0 ∧ c = 0 then some (.slice none 0 0) else none
        | some ⟨id, off, none⟩ =>
          if c = esz then some (.slice (some ⟨id, off + l * esz, none⟩) (t - l) esz) else none
        | _ => none
  | _ => none

def sliceSV (x : Value) (lo hi : Option Value) : Option Value :=
  match x with
  | .string s =>
    match bndO hi s.size s.size with
    | none => none
    | some t =>
      match bndO lo t 0 with
      | none => none
      | some l => some (.string (s.extract l t))
  | _ => none

/-- The values of 'n' elements that are appended or copied. -/
def firstC (h : Heap) (esz : Nat) (n : Nat) : Value → Option (List Value)
  | .slice none _ _ => if n = 0 then some [] else none
  | .slice (some ⟨id, off, none⟩) len _ =>
    if n = 0 then some [] else
    match blk? h id with
    | some b => if n ≤ len ∧ off + n * esz ≤ b.cells.length then some ((b.cells.drop off).take (n * esz)) else none
    | none => none
  | .string s => if n = s.size ∧ esz = 1 then some (s.data.toList.map fun b => .int .u8 b.toNat) else none
  | _ => none

def lenV : Value → Option Nat
  | .slice _ n _ => some n
  | .string s => some s.size
  | _ => none

def roomCells : Nat := 4294967296

def appendV (h : Heap) (esz bytes : Nat) (x y : Value) : Option (Value × Heap) :=
  match lenV y with
  | none => none
  | some n =>
    match firstC h esz n y with
    | none => none
    | some new =>
      match x with
      | .slice none 0 0 =>
        if n = 0 then some (.slice none 0 0, h)
        else if n ≤ roomCells ∧ bytes ≤ 4096 then some (.slice (some ⟨h.length, 0, none⟩) n esz, h ++ [some ⟨false, new⟩])
        else none
      | .slice (some ⟨id, off, none⟩) len c =>
        match blk? h id with
        | some b =>
          if b.ro = false ∧ c = esz ∧ off + len * esz ≤ b.cells.length ∧ len + n ≤ roomCells ∧ bytes ≤ 4096 then
            some (.slice (some ⟨h.length, 0, none⟩) (len + n) esz, h.set id none ++ [some ⟨false, (b.cells.drop off).take (len * esz) ++ new⟩])
          else none
        | none => none
      | _ => none

def copyV (h : Heap) (esz : Nat) (x y : Value) : Option (Value × Heap) :=
  match x with
  | .slice a dlen _ =>
    match lenV y with
    | none => none
    | some sl =>
      match firstC h esz (Nat.min sl dlen) y with
      | none => none
      | some new =>
        match a with
        | none => if dlen = 0 then some (.int .i64 (Nat.min sl dlen), h) else none
        | some ⟨id, off, none⟩ =>
          match blk? h id with
          | some b =>
            if b.ro = false ∧ off + Nat.min sl dlen * esz ≤ b.cells.length then
              some (.int .i64 (Nat.min sl dlen), h.set id (some { b with cells := writeAt b.cells off new }))
            else none
          | none => none
        | _ => none
  | _ => none

def min2V : Value → Value → Option Value
  | .int k x, .int _ y => some (.int k (if y < x then y else x))
  | _, _ => none
def max2V : Value → Value → Option Value
  | .int k x, .int _ y => some (.int k (if y > x then y else x))
  | _, _ => none
def foldO (f : Value → Value → Option Value) : Value → List Value → Option Value
  | x, [] => some x
  | x, y :: ys => match f x y with | some z => foldO f z ys | none => none
def fold1 (f : Value → Value → Option Value) : List Value → Option Value
  | [] => none
  | x :: xs => foldO f x xs

def bytesOfCells : List Value → Option (List UInt8)
  | [] => some []
  | .int .u8 n :: r => match bytesOfCells r with | some l => some (UInt8.ofNat n.toNat :: l) | none => none
  | _ => none

/-- What an operation that is no call does. -/
def stepOp (op : ROp) (e : Env) (h : Heap) : Option (Value × Heap) :=
  match op with
  | .mov x => some (ev e x, h)
  | .movS x => match ev e x with | .string s => some (.string s, h) | _ => none
  | .pick c a b => match ev e c with | .bool t => some (match t with | true => ev e a | false => ev e b, h) | _ => none
  | .alloc zero => some (.pointer (some ⟨h.length, 0, none⟩), h ++ [some ⟨false, zero⟩])
  | .box x => if isVar (ev e x) = true then some (.pointer (some ⟨h.length, 0, none⟩), h ++ [some ⟨false, (ev e x).cells.toList⟩]) else none
  | .build zero places parts =>
    match fillL (fun i => places[i]?) zero (parts.map fun p => (p.1, ev e p.2)) with
    | some cs => some (.agg cs.toArray, h)
    | none => none
  | .buildSlice esz len zero parts =>
    match fillL (fun i => some (i * esz, esz)) (repL zero len) (parts.map fun p => (p.1, ev e p.2)) with
    | some cs => some (.slice (some ⟨h.length, 0, none⟩) len esz, h ++ [some ⟨false, cs⟩])
    | none => none
  | .load n agg a => match loadV h n agg (ev e a) with | some v => some (v, h) | none => none
  | .store n a x => match storeV h n (ev e a) (ev e x) with | some h' => some (undef, h') | none => none
  | .nilCheck x => match ev e x with | .pointer (some a) => some (.pointer (some a), h) | .func (.func f) a b => some (.func (.func f) a b, h) | _ => none
  | .bin op x y => match binV op (ev e x) (ev e y) with | some v => some (v, h) | none => none
  | .eq neg k x y => match eqV k (ev e x) (ev e y) with | some b => some (.bool (match neg with | true => !b | false => b), h) | none => none
  | .un op x => match unV op (ev e x) with | some v => some (v, h) | none => none
  | .convInt k x => match ev e x with | .int _ n => some (.int k (k.wrap n), h) | _ => none
  | .makeFunc fn cap => some (.func (.func fn) #[] (cap.map (ev e)).toArray, h)
  | .makeSlice esz bytes zero l c =>
    match ev e l, ev e c with
    | .int .i64 a, .int .i64 b =>
      if 0 ≤ a ∧ a ≤ b ∧ b ≤ (roomCells : Int) ∧ bytes ≤ 4096 then
        some (.slice (some ⟨h.length, 0, none⟩) a.toNat esz, h ++ [some ⟨false, repL zero a.toNat⟩])
      else none
    | _, _ => none
  | .sliceS x lo hi => match sliceSV (ev e x) (lo.map (ev e)) (hi.map (ev e)) with | some v => some (v, h) | none => none
  | .slice esz x lo hi => match sliceV esz (ev e x) (lo.map (ev e)) (hi.map (ev e)) with | some v => some (v, h) | none => none
  | .fieldAddr off x => match ev e x with | .pointer (some ⟨id, o, none⟩) => some (.pointer (some ⟨id, o + off, none⟩), h) | _ => none
  | .field off n agg x =>
    match ev e x with
    | .agg cs =>
      (match agg with
      | true => if off + n ≤ cs.size then some (.agg (cs.extract off (off + n)), h) else none
      | false => match cs[off]? with | some v => some (v, h) | none => none)
    | _ => none
  | .indexArr len esz x i =>
    match ev e x, ev e i with
    | .pointer (some ⟨id, o, none⟩), .int _ j => if 0 ≤ j ∧ j < (len : Int) then some (.pointer (some ⟨id, o + j.toNat * esz, none⟩), h) else none
    | _, _ => none
  | .indexSl esz x i =>
    match ev e x, ev e i with
    | .slice (some ⟨id, o, none⟩) len _, .int _ j => if 0 ≤ j ∧ j < (len : Int) then some (.pointer (some ⟨id, o + j.toNat * esz, none⟩), h) else none
    | _, _ => none
  | .indexV len esz agg x i =>
    match ev e x, ev e i with
    | .agg cs, .int _ j =>
      if 0 ≤ j ∧ j < (len : Int) then
        match agg with
        | true => if j.toNat * esz + esz ≤ cs.size then some (.agg (cs.extract (j.toNat * esz) (j.toNat * esz + esz)), h) else none
        | false => match cs[j.toNat * esz]? with | some v => some (v, h) | none => none
      else none
    | _, _ => none
  | .indexS x i =>
    match ev e x, ev e i with
    | .string s, .int _ j => if 0 ≤ j then (match s[j.toNat]? with | some b => some (.int .u8 b.toNat, h) | none => none) else none
    | _, _ => none
  | .len x => match ev e x with | .slice _ n _ => some (.int .i64 n, h) | _ => none
  | .lenS x => match ev e x with | .string s => some (.int .i64 s.size, h) | _ => none
  | .min args => match fold1 min2V (args.map (ev e)) with | some v => some (v, h) | none => none
  | .max args => match fold1 max2V (args.map (ev e)) with | some v => some (v, h) | none => none
  | .append esz bytes x y => appendV h esz bytes (ev e x) (ev e y)
  | .copy esz x y => copyV h esz (ev e x) (ev e y)
  | .bytesToStr x =>
    match ev e x with
    | .slice a len c =>
      (match firstC h 1 len (.slice a len c) with
      | some cs => match bytesOfCells cs with | some l => some (.string ⟨l.toArray⟩, h) | none => none
      | none => none)
    | _ => none
  | .extract x i => match ev e x with | .tuple vs => (match vs[i]? with | some v => some (v, h) | none => none) | _ => none
  | .call _ _ => none

/-- Equality of two values, as far as it is decided. -/
def veq : Nat → Value → Value → Bool
  | 0, _, _ => false
  | d + 1, x, y =>
    match x, y with
    | .bool a, .bool b => a == b
    | .int k a, .int k' b => decide (k = k') && decide (a = b)
    | .string a, .string b => decide (a.data.toList = b.data.toList)
    | .pointer a, .pointer b => decide (a = b)
    | .slice a n c, .slice b m k => decide (a = b) && decide (n = m) && decide (c = k)
    | .nilFunc, .nilFunc => true
    | .nilIface, .nilIface => true
    | .func f a b, .func g c d' => decide (f = g) && all2 d a.toList c.toList && all2 d b.toList d'.toList
    | .agg a, .agg b => all2 d a.toList b.toList
    | _, _ => false
  where all2 (d : Nat) : List Value → List Value → Bool
  | [], [] => true
  | x :: xs, y :: ys => veq d x y && all2 d xs ys
  | _, _ => false

def lookL (log : Log) (i : Nat) : Option LogE :=
  match log with
  | [] => none
  | (j, x) :: r => if j = i then some x else lookL r i

def reload (h : Heap) (n : Nat) (agg str : Bool) (a : Value) : Option Value :=
  match str with
  | false => loadV h n agg a
  | true =>
    match a with
    | .slice p len c =>
      (match firstC h 1 len (.slice p len c) with
      | some cs => match bytesOfCells cs with | some l => some (.string ⟨l.toArray⟩) | none => none
      | none => none)
    | _ => none

def chk1 (log : Log) (p : Nat × Nat) : Bool :=
  match lookL log p.1, lookL log p.2 with
  | some (.ld n agg str a v), some (.hv h h') =>
    match reload (if p.1 < p.2 then h' else h) n agg str a with
    | some v' => veq 4 v v'
    | none => false
  | _, _ => true

def wanted (o : ROper) (e : Env) : Bool :=
  match o.guard with
  | none => true
  | some (t, want) =>
    match (match t with | some t => e[t]? | none => none) with
    | some (.bool b) => b == want
    | _ => false

def addLog (pairs : List (Nat × Nat)) (i : Nat) (x : LogE) (log : Log) : Log :=
  match pairs with
  | [] => log
  | p :: ps => if ((p :: ps).any fun q => q.1 == i || q.2 == i) then (i, x) :: log else log

/-- What is booked of an operation. -/
def logOf (op : ROp) (e : Env) (h h' : Heap) (v : Value) : Option LogE :=
  match op with
  | .load n agg a => some (.ld n agg false (ev e a) v)
  | .bytesToStr a => some (.ld 0 false true (ev e a) v)
  | .store .. | .append .. | .copy .. | .call .. => some (.hv h h')
  | _ => none

def book (pairs : List (Nat × Nat)) (i : Nat) (op : ROp) (e : Env) (h h' : Heap) (v : Value) (log : Log) : Log :=
  match pairs with
  | [] => log
  | _ :: _ => match logOf op e h h' v with | some x => addLog pairs i x log | none => log

/-- What is booked of an operation that is passed by. -/
def bookU (pairs : List (Nat × Nat)) (i : Nat) (op : ROp) (h : Heap) (log : Log) : Log :=
  match pairs with
  | [] => log
  | _ :: _ => match op.cls with | .W => addLog pairs i (.hv h h) log | _ => log

def exitR (id : Nat) : List RItem → Option (List RItem)
  | [] => none
  | .inBlock j :: k => if j = id then some k else exitR id k
  | _ :: k => exitR id k

def resV (e : Env) (h : Heap) : RRes → Option Value
  | .tmp t => some (e.getD t undef)
  | .cell a n agg => loadV h n agg (e.getD a undef)

def allSome : List (Option Value) → Option (List Value)
  | [] => some []
  | none :: _ => none
  | some v :: r => match allSome r with | some l => some (v :: l) | none => none

def finishV (F : RFunc) (e : Env) (h : Heap) : Option (Value × Heap) :=
  match allSome (F.results.map (resV e h)) with
  | none => none
  | some [v] => some (v, h)
  | some l => some (.tuple l.toArray, h)

mutual
/-- No address in it. -/
def noAddr : Value → Bool
  | .bool _ | .int _ _ | .string _ | .nilFunc | .nilIface => true
  | .pointer none => true
  | .slice none 0 0 => true
  | .agg cs => noAddrCells cs.toList
  | .tuple cs => noAddrL cs.toList
  | _ => false
def noAddrCells : List Value → Bool
  | [] => true
  | v :: r => isCell v && noAddr v && noAddrCells r
def noAddrL : List Value → Bool
  | [] => true
  | v :: r => noAddr v && noAddrL r
end

/-- The function that is called, and its arguments. -/
def callee (e : Env) (f : Operand) (args : List Operand) : Option (FuncId × List Value) :=
  match ev e f with
  | .func (.func g) first captured => some (g, first.toList ++ args.map (ev e) ++ captured.toList)
  | _ => none

def mkEnv (F : RFunc) (args : List Value) : Env := args.toArray ++ Array.replicate (F.ntmps - args.length) undef

abbrev Tab := FuncId → Option RFunc

/-- The evaluator. -/
def run (T : Tab) : Nat → RFunc → List RItem → Env → Heap → Option (Value × Heap)
  | 0, _, _, _, _ => none
  | n + 1, F, k, e, h =>
    match k with
    | [] => finishV F e h
    | .code .skip :: k => run T n F k e h
    | .code (.region os ps) :: k => run T n F (.ops os 0 ps [] :: k) e h
    | .code (.seq a b) :: k => run T n F (.code a :: .code b :: k) e h
    | .code (.cond c a b) :: k =>
      match ev e c with
      | .bool true => run T n F (.code a :: k) e h
      | .bool false => run T n F (.code b :: k) e h
      | _ => none
    | .code (.block id c) :: k => run T n F (.code c :: .inBlock id :: k) e h
    | .code (.scope c) :: k => run T n F (.code c :: .inScope :: k) e h
    | .code (.loop c) :: k => run T n F (.code c :: .inLoop c :: k) e h
    | .code (.exit id) :: k => match exitR id k with | some k' => run T n F k' e h | none => none
    | .code .ret :: _ => finishV F e h
    | .inBlock _ :: k => run T n F k e h
    | .inScope :: k => run T n F k e h
    | .inLoop c :: k => run T n F (.code c :: .inLoop c :: k) e h
    | .ops [] _ ps log :: k => if ps.all (chk1 log) = true then run T n F k e h else none
    | .ops (o :: os) i ps log :: k =>
      match wanted o e with
      | false => run T n F (.ops os (i + 1) ps (bookU ps i o.op h log) :: k) (put e o.dst undef) h
      | true =>
        match o.op with
        | .call f args =>
          match callee e f args with
          | none => none
          | some (g, vs) =>
            match T g with
            | none => none
            | some G =>
              match G.iso with
              | true =>
                if vs.all noAddr = true then
                  match run T n G [.code G.body] (mkEnv G vs) [] with
                  | some (v, _) => if noAddr v = true then run T n F (.ops os (i + 1) ps (book ps i o.op e h h v log) :: k) (put e o.dst v) h else none
                  | none => none
                else none
              | false =>
                match run T n G [.code G.body] (mkEnv G vs) h with
                | some (v, h') => run T n F (.ops os (i + 1) ps (book ps i o.op e h h' v log) :: k) (put e o.dst v) h'
                | none => none
        | op =>
          match stepOp op e h with
          | some (v, h') => run T n F (.ops os (i + 1) ps (book ps i op e h h' v log) :: k) (put e o.dst v) h'
          | none => none

end Go.Sim
