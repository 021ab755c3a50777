/-
  A small deterministic evaluator: resolved code over an abstract heap. Definitions alone.
  The relation between an abstract heap and a world, and what keeps it.
  Loads, stores and new blocks, in the heap and in the world.
  The code of the program, resolved.
  An operation that writes nothing does in the program what it does in the evaluator.
  Loads, new blocks and writes: in the program as in the evaluator.
-/
import Derived.Calls
import Derived.LoopN
import Derived.Orders
import Derived.Laws.Sem
import Derived.Laws.Cells
import Derived.Laws.Tables
import Derived.Laws.Append
import Derived.Laws.CopyRow
import Derived.Below
import Derived.Laws.StructEq
import Derived.Laws.Slices
import Derived.Laws.AppendOwn
namespace Go.Sim
structure Blk where
 ro : Bool
 cells : List Value
 deriving Inhabited
abbrev Heap := List (Option Blk)
abbrev Env := Array Value
def isCell : Value → Bool
 | .agg _ => false
 | .tuple _ => false
 | _ => true
inductive EqK where
 | int | bool | str | ptr | slice | func
 | fields (l : List (Nat × EqK))
 deriving Inhabited
mutual
def eqV : EqK → Value → Value → Option Bool
 | .int,.int k a,.int k' b => if k = k' then some (a == b) else none
 | .bool,.bool a,.bool b => some (a == b)
 | .str,.string a,.string b => some (a == b)
 | .ptr,.pointer none,.pointer b => some b.isNone
 | .ptr,.pointer (some _),.pointer none => some false
 | .slice,.slice none _ _,.slice b _ _ => some b.isNone
 | .slice,.slice (some _) _ _,.slice none _ _ => some false
 | .func,.nilFunc,.nilFunc => some true
 | .func,.nilFunc,.func _ _ _ => some false
 | .func,.func _ _ _,.nilFunc => some false
 | .fields l,.agg xs,.agg ys => eqFields l xs ys
 | _,_,_ => none
def eqFields : List (Nat × EqK) → Array Value → Array Value → Option Bool
 | [],_,_ => some true
 | (off,k) :: l,xs,ys =>
  match xs[off]?,ys[off]? with
  | some x,some y =>
   match eqV k x y with
   | some true => eqFields l xs ys
   | some false => some false
   | none => none
  | _,_ => none
end
def binI (op : BinOp) (k : IntKind) (a : Int) (k' : IntKind) (b : Int) : Option Value :=
 match op with
 | .shl => if b < 0 then none else some (.int k (k.wrap (a * 2 ^ (min b.toNat k.bits))))
 | .shr => if b < 0 then none else some (.int k (a.fdiv (2 ^ (min b.toNat k.bits))))
 | op =>
  if k ≠ k' then none else
  match op with
  | .add => some (.int k (k.wrap (a + b)))
  | .sub => some (.int k (k.wrap (a - b)))
  | .mul => some (.int k (k.wrap (a * b)))
  | .quo => if b = 0 then none else some (.int k (k.wrap (a.tdiv b)))
  | .rem => if b = 0 then none else some (.int k (a.tmod b))
  | .and => some (.int k (k.wrap (BitVec.ofInt k.bits a &&& BitVec.ofInt k.bits b).toNat))
  | .or => some (.int k (k.wrap (BitVec.ofInt k.bits a ||| BitVec.ofInt k.bits b).toNat))
  | .xor => some (.int k (k.wrap (BitVec.ofInt k.bits a ^^^ BitVec.ofInt k.bits b).toNat))
  | .andNot => some (.int k (k.wrap (BitVec.ofInt k.bits a &&& ~~~(BitVec.ofInt k.bits b)).toNat))
  | .eql => some (.bool (a == b))
  | .neq => some (.bool (a != b))
  | .lss => some (.bool (a < b))
  | .leq => some (.bool (a ≤ b))
  | .gtr => some (.bool (a > b))
  | .geq => some (.bool (a ≥ b))
  | _ => none
def binS (op : BinOp) (a b : ByteArray) : Option Value :=
 match op with
 | .add => if a.size + b.size ≤ 140737488355328 then some (.string (a ++ b)) else none
 | .eql => some (.bool (a.toList == b.toList))
 | .neq => some (.bool !(a.toList == b.toList))
 | .lss => some (.bool (Op.bytesLess a.toList b.toList))
 | .leq => some (.bool (Op.bytesLess a.toList b.toList || a.toList == b.toList))
 | .gtr => some (.bool !(Op.bytesLess a.toList b.toList || a.toList == b.toList))
 | .geq => some (.bool !(Op.bytesLess a.toList b.toList))
 | _ => none
def binV (op : BinOp) : Value → Value → Option Value
 | .int k a,.int k' b => binI op k a k' b
 | .string a,.string b => binS op a b
 | _,_ => none
def unV (op : UnOp) : Value → Option Value
 | .int k n =>
  match op with
  | .neg => some (.int k (k.wrap (0 - n)))
  | .xor => some (.int k (k.wrap (BitVec.ofInt k.bits (if k.signed then -1 else k.max) ^^^ BitVec.ofInt k.bits n).toNat))
  | _ => none
 | .bool b => match op with | .not => some (.bool !b) | _ => none
 | _ => none
inductive ROp where
 | mov (x : Operand)
 | movS (x : Operand)
 | pick (c a b : Operand)
 | alloc (zero : List Value)
 | box (x : Operand)
 | build (zero : List Value) (places : List (Nat × Nat)) (parts : List (Nat × Operand))
 | buildSlice (esz len : Nat) (zero : List Value) (parts : List (Nat × Operand))
 | load (n : Nat) (agg : Bool) (a : Operand)
 | store (n : Nat) (a x : Operand)
 | nilCheck (x : Operand)
 | bin (op : BinOp) (x y : Operand)
 | eq (neg : Bool) (k : EqK) (x y : Operand)
 | un (op : UnOp) (x : Operand)
 | convInt (k : IntKind) (x : Operand)
 | makeFunc (fn : FuncId) (first captured : List Operand)
 | makeSlice (esz bytes : Nat) (zero : List Value) (l c : Operand)
 | sliceS (x : Operand) (lo hi : Option Operand)
 | slice (esz : Nat) (x : Operand) (lo hi : Option Operand)
 | fieldAddr (off : Nat) (x : Operand)
 | field (off n : Nat) (agg : Bool) (x : Operand)
 | indexArr (len esz : Nat) (x i : Operand)
 | indexSl (esz : Nat) (x i : Operand)
 | indexV (len esz : Nat) (agg : Bool) (x i : Operand)
 | indexS (x i : Operand)
 | len (x : Operand)
 | lenS (x : Operand)
 | min (args : List Operand)
 | max (args : List Operand)
 | append (esz bytes : Nat) (x y : Operand)
 | copy (esz : Nat) (x y : Operand)
 | bytesToStr (x : Operand)
 | extract (x : Operand) (i : Nat)
 | call (f : Operand) (args : List Operand)
 | mkI (t : TypeId) (x : Operand)
 | bad
 deriving Inhabited
structure ROper where
 dst : Option Tmp
 op : ROp
 guard : Option (Option Tmp × Bool)
 deriving Inhabited
inductive Cls where | P | L | A | W
 deriving DecidableEq,Inhabited
def ROp.cls : ROp → Cls
 | .load .. | .bytesToStr _ => .L
 | .alloc _ | .box _ | .buildSlice .. | .makeSlice .. => .A
 | .store .. | .append .. | .copy .. | .call .. => .W
 | _ => .P
inductive RCode where
 | skip
 | region (ops : List ROper) (pairs : List (Nat × Nat))
 | seq (a b : RCode)
 | cond (c : Operand) (thn els : RCode)
 | block (id : Nat) (c : RCode)
 | scope (c : RCode)
 | loop (c : RCode)
 | exit (id : Nat)
 | ret
 deriving Inhabited
inductive LogE where
 | ld (n : Nat) (agg : Bool) (str : Bool) (a v : Value)
 | hv (h h' : Heap)
 deriving Inhabited
abbrev Log := List (Nat × LogE)
inductive RItem where
 | code (c : RCode)
 | inBlock (id : Nat)
 | inScope
 | inLoop (c : RCode)
 | ops (os : List ROper) (i : Nat) (pairs : List (Nat × Nat)) (log : Log)
 deriving Inhabited
inductive RRes where
 | tmp (t : Tmp)
 | cell (a : Tmp) (n : Nat) (agg : Bool)
 deriving Inhabited
inductive Mode where | run | iso | rd
 deriving Inhabited
structure RFunc where
 ntmps : Nat
 results : List RRes
 body : RCode
 iso : Mode
 deriving Inhabited
def ev (e : Env) : Operand → Value
 | .tmp t => e.getD t undef
 | .const v => v
 | .global g => .pointer (some ⟨g,0,none⟩)
 | .func f => .func (.func f) #[] #[]
def put (e : Env) (dst : Option Tmp) (v : Value) : Env :=
 match dst with
 | some d => e.setIfInBounds d v
 | none => e
def blk? (h : Heap) (id : Nat) : Option Blk :=
 match h[id]? with
 | some (some b) => some b
 | _ => none
def loadV (h : Heap) (n : Nat) (agg : Bool) : Value → Option Value
 | .pointer (some ⟨id,off,none⟩) =>
  match blk? h id with
  | some b =>
   match agg with
   | true => if off + n ≤ b.cells.length then some (.agg ((b.cells.drop off).take n).toArray) else none
   | false => b.cells[off]?
  | none => none
 | _ => none
def writeAt : List Value → Nat → List Value → List Value
 | l,_,[] => l
 | l,off,v :: vs => writeAt (l.set off v) (off + 1) vs
def isVar : Value → Bool
 | .tuple _ => false
 | _ => true
def storeV (h : Heap) (n : Nat) (a v : Value) : Option Heap :=
 match a with
 | .pointer (some ⟨id,off,none⟩) =>
  match blk? h id with
  | some b =>
   if b.ro = false ∧ isVar v = true ∧ v.cells.size = n ∧ off + n ≤ b.cells.length then
    some (h.set id (some { b with cells := writeAt b.cells off v.cells.toList }))
   else none
  | none => none
 | _ => none
def fillL (place : Nat → Option (Nat × Nat)) (cells : List Value) : List (Nat × Value) → Option (List Value)
 | [] => some cells
 | (i,v) :: rest =>
  match place i with
  | none => none
  | some (off,size) =>
   if isVar v = true ∧ v.cells.size = size ∧ off + size ≤ cells.length then fillL place (writeAt cells off v.cells.toList) rest else none
def repL (zero : List Value) : Nat → List Value
 | 0 => []
 | n + 1 => zero ++ repL zero n
def asI : Value → Option Int
 | .int _ n => some n
 | _ => none
def bnd (v : Value) (y : Nat) : Option Nat :=
 match v with
 | .int _ i => if 0 ≤ i ∧ i ≤ (y : Int) then some i.toNat else none
 | _ => none
def bndO (o : Option Value) (y d : Nat) : Option Nat :=
 match o with
 | some v => bnd v y
 | none => some d
def sliceV (esz : Nat) (x : Value) (lo hi : Option Value) : Option Value :=
 match x with
 | .slice a len c =>
  match bndO hi len len with
  | none => none
  | some t =>
   match bndO lo t 0 with
   | none => none
   | some l =>
    match a with
    | none => if len = 0 ∧ c = 0 then some (.slice none 0 0) else none
    | some ⟨id,off,none⟩ =>
     if c = esz then some (.slice (some ⟨id,off + l * esz,none⟩) (t - l) esz) else none
    | _ => none
 | _ => none
def sliceSV (x : Value) (lo hi : Option Value) : Option Value :=
 match x with
 | .string s =>
  match bndO hi s.size s.size with
  | none => none
  | some t =>
   match bndO lo t 0 with
   | none => none
   | some l => some (.string (s.extract l t))
 | _ => none
def firstC (h : Heap) (esz : Nat) (n : Nat) : Value → Option (List Value)
 | .slice none _ _ => if n = 0 then some [] else none
 | .slice (some ⟨id,off,none⟩) len _ =>
  if n = 0 then some [] else
  match blk? h id with
  | some b => if n ≤ len ∧ off + n * esz ≤ b.cells.length then some ((b.cells.drop off).take (n * esz)) else none
  | none => none
 | .string s => if n = s.size ∧ esz = 1 then some (s.data.toList.map fun b => .int .u8 b.toNat) else none
 | _ => none
def lenV : Value → Option Nat
 | .slice _ n _ => some n
 | .string s => some s.size
 | _ => none
def roomCells : Nat := 4294967296
def appendV (h : Heap) (esz bytes : Nat) (x y : Value) : Option (Value × Heap) :=
 match lenV y with
 | none => none
 | some n =>
  match firstC h esz n y with
  | none => none
  | some new =>
   match x with
   | .slice none 0 0 =>
    if n = 0 then some (.slice none 0 0,h)
    else if n ≤ roomCells ∧ bytes ≤ 4096 then some (.slice (some ⟨h.length,0,none⟩) n esz,h ++ [some ⟨false,new⟩])
    else none
   | .slice (some ⟨id,off,none⟩) len c =>
    match blk? h id with
    | some b =>
     if b.ro = false ∧ c = esz ∧ off + len * esz ≤ b.cells.length ∧ len + n ≤ roomCells ∧ bytes ≤ 4096 then
      some (.slice (some ⟨h.length,0,none⟩) (len + n) esz,h.set id none ++ [some ⟨false,(b.cells.drop off).take (len * esz) ++ new⟩])
     else none
    | none => none
   | _ => none
def copyV (h : Heap) (esz : Nat) (x y : Value) : Option (Value × Heap) :=
 match x with
 | .slice a dlen _ =>
  match lenV y with
  | none => none
  | some sl =>
   match firstC h esz (Nat.min sl dlen) y with
   | none => none
   | some new =>
    match a with
    | none => if dlen = 0 then some (.int .i64 (Nat.min sl dlen),h) else none
    | some ⟨id,off,none⟩ =>
     match blk? h id with
     | some b =>
      if b.ro = false ∧ off + Nat.min sl dlen * esz ≤ b.cells.length then
       some (.int .i64 (Nat.min sl dlen),h.set id (some { b with cells := writeAt b.cells off new }))
      else none
     | none => none
    | _ => none
 | _ => none
def min2V : Value → Value → Option Value
 | .int k x,.int _ y => some (.int k (if y < x then y else x))
 | _,_ => none
def max2V : Value → Value → Option Value
 | .int k x,.int _ y => some (.int k (if y > x then y else x))
 | _,_ => none
def foldO (f : Value → Value → Option Value) : Value → List Value → Option Value
 | x,[] => some x
 | x,y :: ys => match f x y with | some z => foldO f z ys | none => none
def fold1 (f : Value → Value → Option Value) : List Value → Option Value
 | [] => none
 | x :: xs => foldO f x xs
def bytesOfCells : List Value → Option (List UInt8)
 | [] => some []
 | .int .u8 n :: r => match bytesOfCells r with | some l => some (UInt8.ofNat n.toNat :: l) | none => none
 | _ => none
def stepOp (op : ROp) (e : Env) (h : Heap) : Option (Value × Heap) :=
 match op with
 | .mov x => some (ev e x,h)
 | .movS x => match ev e x with | .string s => some (.string s,h) | _ => none
 | .pick c a b => match ev e c with | .bool t => some (match t with | true => ev e a | false => ev e b,h) | _ => none
 | .alloc zero => some (.pointer (some ⟨h.length,0,none⟩),h ++ [some ⟨false,zero⟩])
 | .box x => if isVar (ev e x) = true then some (.pointer (some ⟨h.length,0,none⟩),h ++ [some ⟨false,(ev e x).cells.toList⟩]) else none
 | .build zero places parts =>
  match fillL (fun i => places[i]?) zero (parts.map fun p => (p.1,ev e p.2)) with
  | some cs => some (.agg cs.toArray,h)
  | none => none
 | .buildSlice esz len zero parts =>
  match fillL (fun i => some (i * esz,esz)) (repL zero len) (parts.map fun p => (p.1,ev e p.2)) with
  | some cs => some (.slice (some ⟨h.length,0,none⟩) len esz,h ++ [some ⟨false,cs⟩])
  | none => none
 | .load n agg a => match loadV h n agg (ev e a) with | some v => some (v,h) | none => none
 | .store n a x => match storeV h n (ev e a) (ev e x) with | some h' => some (undef,h') | none => none
 | .nilCheck x => match ev e x with | .pointer (some a) => some (.pointer (some a),h) | .func (.func f) a b => some (.func (.func f) a b,h) | _ => none
 | .bin op x y => match binV op (ev e x) (ev e y) with | some v => some (v,h) | none => none
 | .eq neg k x y => match eqV k (ev e x) (ev e y) with | some b => some (.bool (match neg with | true => !b | false => b),h) | none => none
 | .un op x => match unV op (ev e x) with | some v => some (v,h) | none => none
 | .convInt k x => match ev e x with | .int _ n => some (.int k (k.wrap n),h) | _ => none
 | .makeFunc fn first cap => some (.func (.func fn) (first.map (ev e)).toArray (cap.map (ev e)).toArray,h)
 | .makeSlice esz bytes zero l c =>
  match ev e l,ev e c with
  | .int .i64 a,.int .i64 b =>
   if 0 ≤ a ∧ a ≤ b ∧ b ≤ (roomCells : Int) ∧ bytes ≤ 4096 then
    some (.slice (some ⟨h.length,0,none⟩) a.toNat esz,h ++ [some ⟨false,repL zero a.toNat⟩])
   else none
  | _,_ => none
 | .sliceS x lo hi => match sliceSV (ev e x) (lo.map (ev e)) (hi.map (ev e)) with | some v => some (v,h) | none => none
 | .slice esz x lo hi => match sliceV esz (ev e x) (lo.map (ev e)) (hi.map (ev e)) with | some v => some (v,h) | none => none
 | .fieldAddr off x => match ev e x with | .pointer (some ⟨id,o,none⟩) => some (.pointer (some ⟨id,o + off,none⟩),h) | _ => none
 | .field off n agg x =>
  match ev e x with
  | .agg cs =>
   (match agg with
   | true => if off + n ≤ cs.size then some (.agg (cs.extract off (off + n)),h) else none
   | false => match cs[off]? with | some v => some (v,h) | none => none)
  | _ => none
 | .indexArr len esz x i =>
  match ev e x,ev e i with
  | .pointer (some ⟨id,o,none⟩),.int _ j => if 0 ≤ j ∧ j < (len : Int) then some (.pointer (some ⟨id,o + j.toNat * esz,none⟩),h) else none
  | _,_ => none
 | .indexSl esz x i =>
  match ev e x,ev e i with
  | .slice (some ⟨id,o,none⟩) len _,.int _ j => if 0 ≤ j ∧ j < (len : Int) then some (.pointer (some ⟨id,o + j.toNat * esz,none⟩),h) else none
  | _,_ => none
 | .indexV len esz agg x i =>
  match ev e x,ev e i with
  | .agg cs,.int _ j =>
   if 0 ≤ j ∧ j < (len : Int) then
    match agg with
    | true => if j.toNat * esz + esz ≤ cs.size then some (.agg (cs.extract (j.toNat * esz) (j.toNat * esz + esz)),h) else none
    | false => match cs[j.toNat * esz]? with | some v => some (v,h) | none => none
   else none
  | _,_ => none
 | .indexS x i =>
  match ev e x,ev e i with
  | .string s,.int _ j => if 0 ≤ j then (match s[j.toNat]? with | some b => some (.int .u8 b.toNat,h) | none => none) else none
  | _,_ => none
 | .len x => match ev e x with | .slice _ n _ => some (.int .i64 n,h) | _ => none
 | .lenS x => match ev e x with | .string s => some (.int .i64 s.size,h) | _ => none
 | .min args => match fold1 min2V (args.map (ev e)) with | some v => some (v,h) | none => none
 | .max args => match fold1 max2V (args.map (ev e)) with | some v => some (v,h) | none => none
 | .append esz bytes x y => appendV h esz bytes (ev e x) (ev e y)
 | .copy esz x y => copyV h esz (ev e x) (ev e y)
 | .bytesToStr x =>
  match ev e x with
  | .slice a len c =>
   (match firstC h 1 len (.slice a len c) with
   | some cs => match bytesOfCells cs with | some l => some (.string ⟨l.toArray⟩,h) | none => none
   | none => none)
  | _ => none
 | .extract x i => match ev e x with | .tuple vs => (match vs[i]? with | some v => some (v,h) | none => none) | _ => none
 | .call _ _ => none
 | .mkI t x => if isVar (ev e x) = true then some (.iface t (ev e x),h) else none
 | .bad => none
def veq : Nat → Value → Value → Bool
 | 0,_,_ => false
 | d + 1,x,y =>
  match x,y with
  | .bool a,.bool b => a == b
  | .int k a,.int k' b => decide (k = k') && decide (a = b)
  | .string a,.string b => decide (a.data.toList = b.data.toList)
  | .pointer a,.pointer b => decide (a = b)
  | .slice a n c,.slice b m k => decide (a = b) && decide (n = m) && decide (c = k)
  | .nilFunc,.nilFunc => true
  | .nilIface,.nilIface => true
  | .iface t a,.iface u b => decide (t = u) && veq d a b
  | .func f a b,.func g c d' => decide (f = g) && all2 d a.toList c.toList && all2 d b.toList d'.toList
  | .agg a,.agg b => all2 d a.toList b.toList
  | _,_ => false
 where all2 (d : Nat) : List Value → List Value → Bool
 | [],[] => true
 | x :: xs,y :: ys => veq d x y && all2 d xs ys
 | _,_ => false
def lookL (log : Log) (i : Nat) : Option LogE :=
 match log with
 | [] => none
 | (j,x) :: r => if j = i then some x else lookL r i
def reload (h : Heap) (n : Nat) (agg str : Bool) (a : Value) : Option Value :=
 match str with
 | false => loadV h n agg a
 | true =>
  match a with
  | .slice p len c =>
   (match firstC h 1 len (.slice p len c) with
   | some cs => match bytesOfCells cs with | some l => some (.string ⟨l.toArray⟩) | none => none
   | none => none)
  | _ => none
def chk1 (log : Log) (p : Nat × Nat) : Bool :=
 match lookL log p.1,lookL log p.2 with
 | some (.ld n agg str a v),some (.hv h h') =>
  match reload (if p.1 < p.2 then h' else h) n agg str a with
  | some v' => veq 4 v v'
  | none => false
 | _,_ => true
def wanted (o : ROper) (e : Env) : Bool :=
 match o.guard with
 | none => true
 | some (t,want) =>
  match (match t with | some t => e[t]? | none => none) with
  | some (.bool b) => b == want
  | _ => false
def addLog (pairs : List (Nat × Nat)) (i : Nat) (x : LogE) (log : Log) : Log :=
 match pairs with
 | [] => log
 | p :: ps => if ((p :: ps).any fun q => q.1 == i || q.2 == i) then (i,x) :: log else log
def logOf (op : ROp) (e : Env) (h h' : Heap) (v : Value) : Option LogE :=
 match op with
 | .load n agg a => some (.ld n agg false (ev e a) v)
 | .bytesToStr a => some (.ld 0 false true (ev e a) v)
 | .store .. | .append .. | .copy .. | .call .. => some (.hv h h')
 | _ => none
def book (pairs : List (Nat × Nat)) (i : Nat) (op : ROp) (e : Env) (h h' : Heap) (v : Value) (log : Log) : Log :=
 match pairs with
 | [] => log
 | _ :: _ => match logOf op e h h' v with | some x => addLog pairs i x log | none => log
def bookU (pairs : List (Nat × Nat)) (i : Nat) (op : ROp) (h : Heap) (log : Log) : Log :=
 match pairs with
 | [] => log
 | _ :: _ => match op.cls with | .W => addLog pairs i (.hv h h) log | _ => log
def exitR (id : Nat) : List RItem → Option (List RItem)
 | [] => none
 | .inBlock j :: k => if j = id then some k else exitR id k
 | _ :: k => exitR id k
def resV (e : Env) (h : Heap) : RRes → Option Value
 | .tmp t => some (e.getD t undef)
 | .cell a n agg => loadV h n agg (e.getD a undef)
def allSome : List (Option Value) → Option (List Value)
 | [] => some []
 | none :: _ => none
 | some v :: r => match allSome r with | some l => some (v :: l) | none => none
def finishV (F : RFunc) (e : Env) (h : Heap) : Option (Value × Heap) :=
 match allSome (F.results.map (resV e h)) with
 | none => none
 | some [v] => some (v,h)
 | some l => some (.tuple l.toArray,h)
mutual
def noAddr : Value → Bool
 | .bool _ | .int _ _ | .string _ | .nilFunc | .nilIface => true
 | .pointer none => true
 | .slice none 0 0 => true
 | .agg cs => noAddrCells cs.toList
 | .tuple cs => noAddrL cs.toList
 | _ => false
def noAddrCells : List Value → Bool
 | [] => true
 | v :: r => isCell v && noAddr v && noAddrCells r
def noAddrL : List Value → Bool
 | [] => true
 | v :: r => noAddr v && noAddrL r
end
mutual
def below (n : Nat) : Value → Bool
 | .pointer (some a) => decide (a.block < n)
 | .slice (some a) _ _ => decide (a.block < n)
 | .func _ a b => belowL n a.toList && belowL n b.toList
 | .agg cs => belowL n cs.toList
 | .tuple cs => belowL n cs.toList
 | .iface _ v => below n v
 | _ => true
def belowL (n : Nat) : List Value → Bool
 | [] => true
 | v :: r => below n v && belowL n r
end
def frzB (n : Nat) : Option Blk → Option Blk
 | some b => if belowL n b.cells = true then some ⟨true,b.cells⟩ else none
 | none => none
def frz (h : Heap) : Heap := h.map (frzB h.length)
def lookM (t : TypeId) : List Value → Option FuncId
 | .int _ u :: .func (.func g) _ _ :: r => if u = (t : Int) then some g else lookM t r
 | _ => none
def callee (e : Env) (f : Operand) (args : List Operand) : Option (FuncId × List Value) :=
 match f with
 | .const (.tuple tb) =>
  match args.map (ev e) with
  | .iface t v :: rest => match lookM t tb.toList with | some g => some (g,v :: rest) | none => none
  | _ => none
 | f =>
  match ev e f with
  | .func (.func g) first captured => some (g,first.toList ++ args.map (ev e) ++ captured.toList)
  | _ => none
def mkEnv (F : RFunc) (args : List Value) : Env := args.toArray ++ Array.replicate (F.ntmps - args.length) undef
abbrev Tab := FuncId → Option RFunc
def run (T : Tab) : Nat → RFunc → List RItem → Env → Heap → Option (Value × Heap)
 | 0,_,_,_,_ => none
 | n + 1,F,k,e,h =>
  match k with
  | [] => finishV F e h
  | .code .skip :: k => run T n F k e h
  | .code (.region os ps) :: k => run T n F (.ops os 0 ps [] :: k) e h
  | .code (.seq a b) :: k => run T n F (.code a :: .code b :: k) e h
  | .code (.cond c a b) :: k =>
   match ev e c with
   | .bool true => run T n F (.code a :: k) e h
   | .bool false => run T n F (.code b :: k) e h
   | _ => none
  | .code (.block id c) :: k => run T n F (.code c :: .inBlock id :: k) e h
  | .code (.scope c) :: k => run T n F (.code c :: .inScope :: k) e h
  | .code (.loop c) :: k => run T n F (.code c :: .inLoop c :: k) e h
  | .code (.exit id) :: k => match exitR id k with | some k' => run T n F k' e h | none => none
  | .code .ret :: _ => finishV F e h
  | .inBlock _ :: k => run T n F k e h
  | .inScope :: k => run T n F k e h
  | .inLoop c :: k => run T n F (.code c :: .inLoop c :: k) e h
  | .ops [] _ ps log :: k => if ps.all (chk1 log) = true then run T n F k e h else none
  | .ops (o :: os) i ps log :: k =>
   match wanted o e with
   | false => run T n F (.ops os (i + 1) ps (bookU ps i o.op h log) :: k) (put e o.dst undef) h
   | true =>
    match o.op with
    | .call f args =>
     match callee e f args with
     | none => none
     | some (g,vs) =>
      match T g with
      | none => none
      | some G =>
       match G.iso with
       | .rd =>
        if belowL h.length vs = true then
         match run T n G [.code G.body] (mkEnv G vs) (frz h) with
         | some (v,_) => if below h.length v = true then run T n F (.ops os (i + 1) ps (book ps i o.op e h h v log) :: k) (put e o.dst v) h else none
         | none => none
        else none
       | .iso =>
        if vs.all noAddr = true then
         match run T n G [.code G.body] (mkEnv G vs) [] with
         | some (v,_) => if noAddr v = true then run T n F (.ops os (i + 1) ps (book ps i o.op e h h v log) :: k) (put e o.dst v) h else none
         | none => none
        else none
       | .run =>
        match run T n G [.code G.body] (mkEnv G vs) h with
        | some (v,h') => run T n F (.ops os (i + 1) ps (book ps i o.op e h h' v log) :: k) (put e o.dst v) h'
        | none => none
    | op =>
     match stepOp op e h with
     | some (v,h') => run T n F (.ops os (i + 1) ps (book ps i op e h h' v log) :: k) (put e o.dst v) h'
     | none => none
abbrev RP := Value → Heap → Prop
open Go.RowKit
structure Place where
 b : Nat
 base : Nat
 ext : Nat
 esz : Nat
abbrev PMap := Nat → Option Place
inductive VRel (ρ : PMap) : Value → Value → Prop
 | bool (b : Bool) : VRel ρ (.bool b) (.bool b)
 | int (k : IntKind) (n : Int) : VRel ρ (.int k n) (.int k n)
 | str (s : ByteArray) : VRel ρ (.string s) (.string s)
 | nilF : VRel ρ .nilFunc .nilFunc
 | nilI : VRel ρ .nilIface .nilIface
 | nilP : VRel ρ (.pointer none) (.pointer none)
 | nilS : VRel ρ (.slice none 0 0) (.slice none 0 0)
 | ptr {id off : Nat} {p : Place} (h : ρ id = some p) : VRel ρ (.pointer (some ⟨id,off,none⟩)) (.pointer (some ⟨p.b,p.base + off,none⟩))
 | slice {id off n c cap : Nat} {p : Place} (h : ρ id = some p) (hz : p.esz = c) (hn : n ≤ cap) (hc : off + cap * p.esz ≤ p.ext) :
   VRel ρ (.slice (some ⟨id,off,none⟩) n c) (.slice (some ⟨p.b,p.base + off,none⟩) n cap)
 | sliceE {id off c : Nat} {p : Place} {a : Addr} (h : ρ id = some p) : VRel ρ (.slice (some ⟨id,off,none⟩) 0 c) (.slice (some a) 0 0)
 | func (f : Fn) {a a' b b' : Array Value} (ha : a.size = a'.size) (hb : b.size = b'.size)
   (ra : ∀ i (h : i < a.size) (h' : i < a'.size),VRel ρ a[i] a'[i]) (rb : ∀ i (h : i < b.size) (h' : i < b'.size),VRel ρ b[i] b'[i]) : VRel ρ (.func f a b) (.func f a' b')
 | agg {a a' : Array Value} (ha : a.size = a'.size) (hc : ∀ i (h : i < a.size),isCell a[i] = true)
   (ra : ∀ i (h : i < a.size) (h' : i < a'.size),VRel ρ a[i] a'[i]) : VRel ρ (.agg a) (.agg a')
 | iface (t : TypeId) {v v' : Value} (hv : Sim.isVar v = true) (h : VRel ρ v v') : VRel ρ (.iface t v) (.iface t v')
 | tuple {a a' : Array Value} (ha : a.size = a'.size)
   (ra : ∀ i (h : i < a.size) (h' : i < a'.size),VRel ρ a[i] a'[i]) : VRel ρ (.tuple a) (.tuple a')
def PLe (ρ ρ' : PMap) : Prop := ∀ id p,ρ id = some p → ρ' id = some p
theorem PLe.refl (ρ : PMap) : PLe ρ ρ := fun _ _ h => h
theorem VRel.mono {ρ ρ' : PMap} (hl : PLe ρ ρ') {v v' : Value} (h : VRel ρ v v') : VRel ρ' v v' := by
 induction h with
 | bool b => exact .bool b
 | int k n => exact .int k n
 | str s => exact .str s
 | nilF => exact .nilF
 | nilI => exact .nilI
 | nilP => exact .nilP
 | nilS => exact .nilS
 | ptr h => exact .ptr (hl _ _ h)
 | slice h hz hn hc => exact .slice (hl _ _ h) hz hn hc
 | sliceE h => exact .sliceE (hl _ _ h)
 | func f ha hb _ _ ia ib => exact .func f ha hb ia ib
 | agg ha hc _ ia => exact .agg ha hc ia
 | iface t hv _ ih => exact .iface t hv ih
 | tuple ha _ ia => exact .tuple ha ia
theorem VRel.isCell {ρ : PMap} {v v' : Value} (h : VRel ρ v v') : isCell v' = isCell v := by
 cases h <;> rfl
theorem oneCell_of_isCell {v : Value} (h : Sim.isCell v = true) : v.oneCell' = true := by
 cases v <;> simp_all [Sim.isCell,Value.oneCell']
def LRel (ρ : PMap) (l l' : List Value) : Prop := l.length = l'.length ∧ ∀ (i : Nat) v,l[i]? = some v → ∃ v',l'[i]? = some v' ∧ VRel ρ v v'
theorem LRel.nil (ρ : PMap) : LRel ρ [] [] := ⟨rfl,by simp⟩
theorem LRel.cons {ρ : PMap} {v v' : Value} {l l' : List Value} (h : VRel ρ v v') (hl : LRel ρ l l') : LRel ρ (v :: l) (v' :: l') := by
 refine ⟨by simp [hl.1],fun i x hx => ?_⟩
 cases i with
 | zero => simp at hx; subst hx; exact ⟨v',by simp,h⟩
 | succ i => simp at hx; simpa using hl.2 i x hx
theorem LRel.mono {ρ ρ' : PMap} (hp : PLe ρ ρ') {l l' : List Value} (h : LRel ρ l l') : LRel ρ' l l' :=
 ⟨h.1,fun i v hv => let ⟨v',a,b⟩ := h.2 i v hv; ⟨v',a,b.mono hp⟩⟩
theorem LRel.append {ρ : PMap} {a a' b b' : List Value} (h : LRel ρ a a') (k : LRel ρ b b') : LRel ρ (a ++ b) (a' ++ b') := by
 refine ⟨by simp [h.1,k.1],fun i v hv => ?_⟩
 by_cases hi : i < a.length
 ·rw [List.getElem?_append_left hi] at hv
  rw [List.getElem?_append_left (by rw [← h.1]; exact hi)]
  exact h.2 i v hv
 ·rw [List.getElem?_append_right (by omega)] at hv
  rw [List.getElem?_append_right (by rw [← h.1]; omega),← h.1]
  exact k.2 _ v hv
theorem LRel.of_getElem {ρ : PMap} {a a' : Array Value} (ha : a.size = a'.size) (ra : ∀ i (h : i < a.size) (h' : i < a'.size),VRel ρ a[i] a'[i]) : LRel ρ a.toList a'.toList := by
 refine ⟨by simpa using ha,fun i v hv => ?_⟩
 have hi : i < a.size := by
  have := (List.getElem?_eq_some_iff.1 hv).1
  simpa using this
 refine ⟨a'[i],by simp [ha ▸ hi],?_⟩
 have : a[i] = v := by simpa [hi] using hv
 rw [← this]
 exact ra i hi (ha ▸ hi)
theorem LRel.get {ρ : PMap} {l l' : List Value} (h : LRel ρ l l') (i : Nat) (hi : i < l.length) (hi' : i < l'.length) : VRel ρ l[i] l'[i] := by
 obtain ⟨v',h1,h2⟩ := h.2 i l[i] (by simp [hi])
 rw [List.getElem?_eq_getElem hi'] at h1
 injection h1 with h1
 rw [h1]; exact h2
theorem LRel.agg {ρ : PMap} {l l' : List Value} (h : LRel ρ l l') (hc : ∀ v ∈ l,Sim.isCell v = true) : VRel ρ (.agg l.toArray) (.agg l'.toArray) :=
 .agg (by simpa using h.1) (fun i hi => hc _ (by simp at hi; simp)) (fun i hi hi' => by simp at hi hi'; simpa using h.get i hi hi')
theorem LRel.tuple {ρ : PMap} {l l' : List Value} (h : LRel ρ l l') : VRel ρ (.tuple l.toArray) (.tuple l'.toArray) :=
 .tuple (by simpa using h.1) (fun i hi hi' => by simp at hi hi'; simpa using h.get i hi hi')
theorem LRel.set {ρ : PMap} {l l' : List Value} (h : LRel ρ l l') (n : Nat) {v v' : Value} (hv : VRel ρ v v') : LRel ρ (l.set n v) (l'.set n v') := by
 refine ⟨by simp [h.1],fun i x hx => ?_⟩
 rw [List.getElem?_set] at hx
 rw [List.getElem?_set,← h.1]
 split at hx
 ·rename_i hi
  rw [if_pos hi]
  split at hx
  ·rename_i hl
   rw [if_pos hl]
   injection hx with hx
   subst hx; exact ⟨v',rfl,hv⟩
  ·cases hx
 ·rename_i hi
  rw [if_neg hi]
  exact h.2 i x hx
theorem LRel.writeAt {ρ : PMap} : ∀ {vs vs' : List Value} {l l' : List Value} (n : Nat),LRel ρ l l' → LRel ρ vs vs' → LRel ρ (writeAt l n vs) (writeAt l' n vs')
 | [],[],l,l',n,h,_ => h
 | [],_ :: _,_,_,_,_,k => by have := k.1; simp at this
 | _ :: _,[],_,_,_,_,k => by have := k.1; simp at this
 | v :: vs,v' :: vs',l,l',n,h,k => by
  have h0 : VRel ρ v v' := by obtain ⟨x,h1,h2⟩ := k.2 0 v (by simp); simp at h1; subst h1; exact h2
  have hr : LRel ρ vs vs' := ⟨by have := k.1; simpa using this,fun i x hx => by simpa using k.2 (i + 1) x (by simpa using hx)⟩
  exact LRel.writeAt (n + 1) (h.set n h0) hr
theorem LRel.toArray {ρ : PMap} {l l' : List Value} (h : LRel ρ l l') : ∀ i (hi : i < l.toArray.size) (hi' : i < l'.toArray.size),VRel ρ l.toArray[i] l'.toArray[i] :=
 fun i hi hi' => by simp at hi hi'; simpa using h.get i hi hi'
theorem VRel.cells {ρ : PMap} {v v' : Value} (h : VRel ρ v v') : LRel ρ v.cells.toList v'.cells.toList := by
 cases h <;> try (simp only [Value.cells]; exact LRel.cons (by constructor <;> assumption) (LRel.nil ρ))
 case agg ha hc ra => exact LRel.of_getElem ha ra
theorem VRel.cellsOk {ρ : PMap} {v v' : Value} (h : VRel ρ v v') (hv : Sim.isVar v = true) : ∀ x ∈ v.cells.toList,Sim.isCell x = true := by
 cases h <;> try (simp [Value.cells,Sim.isCell]; done)
 case agg a a' ha hc ra =>
  intro x hx
  simp only [Value.cells] at hx
  obtain ⟨i,hi,rfl⟩ := List.getElem_of_mem hx
  have := hc i (by simpa using hi)
  simpa using this
 case tuple => simp [Sim.isVar] at hv
theorem size_writeAt : ∀ (vs l : List Value) (n : Nat),(writeAt l n vs).length = l.length
 | [],_,_ => rfl
 | v :: vs,l,n => by simp [writeAt,size_writeAt vs]
theorem writeAt_cells : ∀ (vs l : List Value) (n : Nat),(∀ v ∈ l,Sim.isCell v = true) → (∀ v ∈ vs,Sim.isCell v = true) → ∀ v ∈ writeAt l n vs,Sim.isCell v = true
 | [],_,_,h,_ => h
 | v :: vs,l,n,h,k => by
  refine writeAt_cells vs _ _ (fun x hx => ?_) (fun x hx => k x (by simp [hx]))
  rcases List.mem_or_eq_of_mem_set hx with h1 | h1
  ·exact h x h1
  ·subst h1; exact k x (by simp)
theorem writeAt_eq : ∀ (vs l : List Value) (n : Nat),n + vs.length ≤ l.length → writeAt l n vs = l.take n ++ vs ++ l.drop (n + vs.length)
 | [],l,n,_ => by simp [writeAt]
 | v :: vs,l,n,h => by
  have hn : n < l.length := by simp at h; omega
  rw [writeAt,writeAt_eq vs _ _ (by simp at h ⊢; omega)]
  apply List.ext_getElem?
  intro i
  simp only [List.getElem?_append,List.length_append,List.length_take,List.length_set,List.length_cons,List.getElem?_take,List.getElem?_drop,List.getElem?_set]
  simp only [List.length_cons] at h
  have e1 : min (n + 1) l.length = n + 1 := by omega
  have e2 : min n l.length = n := by omega
  rw [e1,e2]
  by_cases h1 : i < n
  ·rw [if_pos (by omega),if_pos (by omega),if_pos (by omega),if_neg (by omega),if_pos (by omega),if_pos (by omega),if_pos (by omega)]
  ·by_cases h2 : i = n
   ·subst h2
    rw [if_pos (by omega),if_pos (by omega),if_pos (by omega),if_pos rfl,if_pos (by omega),if_pos (by omega),if_neg (by omega)]
    simp
   ·by_cases h3 : i < n + 1 + vs.length
    ·rw [if_pos (by omega),if_neg (by omega),if_pos (by omega),if_neg (by omega)]
     rw [show i - n = (i - (n + 1)) + 1 by omega,List.getElem?_cons_succ]
    ·rw [if_neg (by omega),if_neg (by omega),if_neg (by omega)]
     congr 1
     omega
theorem writeAt_get (vs l : List Value) (n : Nat) (h : n + vs.length ≤ l.length) (i : Nat) :
  (writeAt l n vs)[i]? = if i < n then l[i]? else if i < n + vs.length then vs[i - n]? else l[i]? := by
 rw [writeAt_eq vs l n h]
 simp only [List.getElem?_append,List.length_append,List.length_take,List.getElem?_take,List.getElem?_drop]
 have e2 : min n l.length = n := by omega
 rw [e2]
 by_cases h1 : i < n
 ·simp only [h1,if_true]; rw [if_pos (by omega)]
 ·by_cases h3 : i < n + vs.length
  ·simp only [h1,h3,if_true,if_false]
  ·simp only [h1,h3,if_false]
   congr 1
   omega
mutual
theorem noAddr_self (ρ : PMap) : ∀ v,noAddr v = true → VRel ρ v v
 | .bool b,_ => .bool b
 | .int k n,_ => .int k n
 | .string s,_ => .str s
 | .nilFunc,_ => .nilF
 | .nilIface,_ => .nilI
 | .pointer none,_ => .nilP
 | .slice none 0 0,_ => .nilS
 | .agg ⟨l⟩,h => by
  have h' : noAddrCells l = true := by simpa [noAddr] using h
  exact .agg rfl (fun i hi => (noAddrCells_get ρ l h' i (by simpa using hi)).1) (fun i hi _ => (noAddrCells_get ρ l h' i (by simpa using hi)).2)
 | .tuple ⟨l⟩,h => by
  have h' : noAddrL l = true := by simpa [noAddr] using h
  exact .tuple rfl (fun i hi _ => noAddrL_get ρ l h' i (by simpa using hi))
theorem noAddrCells_get (ρ : PMap) : ∀ (l : List Value),noAddrCells l = true → ∀ i (hi : i < l.length),Sim.isCell l[i] = true ∧ VRel ρ l[i] l[i]
 | v :: r,h,i,hi => by
  simp only [noAddrCells,Bool.and_eq_true] at h
  cases i with
  | zero => exact ⟨h.1.1,noAddr_self ρ v h.1.2⟩
  | succ i => exact noAddrCells_get ρ r h.2 i (by simpa using hi)
theorem noAddrL_get (ρ : PMap) : ∀ (l : List Value),noAddrL l = true → ∀ i (hi : i < l.length),VRel ρ l[i] l[i]
 | v :: r,h,i,hi => by
  simp only [noAddrL,Bool.and_eq_true] at h
  cases i with
  | zero => exact noAddr_self ρ v h.1
  | succ i => exact noAddrL_get ρ r h.2 i (by simpa using hi)
end
theorem VRel.noAddr_eq {ρ : PMap} {v v' : Value} (h : VRel ρ v v') (hn : noAddr v = true) : v' = v := by
 induction h with
 | bool | int | str | nilF | nilI | nilP | nilS => rfl
 | ptr => simp [noAddr] at hn
 | slice => simp [noAddr] at hn
 | sliceE => simp [noAddr] at hn
 | func => simp [noAddr] at hn
 | iface => simp [noAddr] at hn
 | @agg a a' ha hc ra ih =>
  have hl : noAddrCells a.toList = true := by cases a; simpa [noAddr] using hn
  have key : ∀ (l : List Value),noAddrCells l = true → ∀ i (hi : i < l.length),noAddr l[i] = true := by
   intro l
   induction l with
   | nil => intro _ i hi; simp at hi
   | cons x r ihl =>
    intro h i hi
    simp only [noAddrCells,Bool.and_eq_true] at h
    cases i with
    | zero => exact h.1.2
    | succ i => exact ihl h.2 i (by simpa using hi)
  congr 1
  refine Array.ext ha.symm fun i h1 h2 => ih i h2 h1 ?_
  have := key _ hl i (by simpa using h2)
  simpa using this
 | @tuple a a' ha ra ih =>
  have hl : noAddrL a.toList = true := by cases a; simpa [noAddr] using hn
  have key : ∀ (l : List Value),noAddrL l = true → ∀ i (hi : i < l.length),noAddr l[i] = true := by
   intro l
   induction l with
   | nil => intro _ i hi; simp at hi
   | cons x r ihl =>
    intro h i hi
    simp only [noAddrL,Bool.and_eq_true] at h
    cases i with
    | zero => exact h.1
    | succ i => exact ihl h.2 i (by simpa using hi)
  congr 1
  refine Array.ext ha.symm fun i h1 h2 => ih i h2 h1 ?_
  have := key _ hl i (by simpa using h2)
  simpa using this
abbrev View := Nat → Option Blk
def view (h : Heap) : View := fun i => blk? h i
def BlkAt (ρ : PMap) (w : World) (id : Nat) (b : Blk) : Prop :=
 ∃ (p : Place) (c : Array Value) (t : TypeId) (fz : Nat × Nat),ρ id = some p ∧ w.heap[p.b]? = some (.cells c t fz) ∧ p.base + p.ext ≤ c.size ∧ b.cells.length ≤ p.ext ∧
  (∀ (i : Nat) v,b.cells[i]? = some v → Sim.isCell v = true ∧ ∃ v',c[p.base + i]? = some v' ∧ VRel ρ v v') ∧
  (b.ro = false → fz = (0,0))
def Apart (p q : Place) : Prop := p.b = q.b → ∀ k,p.base ≤ k → k < p.base + p.ext → q.base ≤ k → k < q.base + q.ext → False
theorem Apart.symm {p q : Place} (h : Apart p q) : Apart q p := fun e k a b c d => h e.symm k c d a b
structure Rel (ρ : PMap) (hv : View) (w : World) : Prop where
 blk : ∀ id b,hv id = some b → BlkAt ρ w id b
 sep : ∀ i j bi bj p q,hv i = some bi → hv j = some bj → i ≠ j → bi.ro = false → ρ i = some p → ρ j = some q → Apart p q
def Own (ρ : PMap) (hv : View) (b i : Nat) : Prop := ∃ id blk p,hv id = some blk ∧ blk.ro = false ∧ ρ id = some p ∧ p.b = b ∧ p.base ≤ i ∧ i < p.base + p.ext
def SameObj (own : Nat → Prop) : Obj → Obj → Prop
 | .cells c t f,.cells c' t' f' => t' = t ∧ f' = f ∧ c'.size = c.size ∧ ∀ i,¬ own i → c'[i]? = c[i]?
 | o,o' => o' = o
theorem SameObj.refl (own : Nat → Prop) (o : Obj) : SameObj own o o := by
 cases o <;> simp [SameObj]
structure Ev (ρ : PMap) (hv : View) (w : World) (ρ' : PMap) (hv' : View) (w' : World) : Prop where
 size : w.heap.size ≤ w'.heap.size
 os : w'.os = w.os
 tape : w'.tape = w.tape
 output : w'.output = w.output
 mem : ∀ b o,w.heap[b]? = some o → ∃ o',w'.heap[b]? = some o' ∧ SameObj (Own ρ hv b) o o'
 roOld : ∀ id b,hv' id = some b → b.ro = true → hv id = some b
 own : ∀ b,b < w.heap.size → ∀ i,Own ρ' hv' b i → Own ρ hv b i
theorem SameObj.trans {own own' : Nat → Prop} {a b c : Obj} (h : SameObj own a b) (k : SameObj own' b c) (hl : ∀ i,own' i → own i) : SameObj own a c := by
 cases a with
 | cells c1 t1 f1 =>
  cases b with
  | cells c2 t2 f2 =>
   cases c with
   | cells c3 t3 f3 =>
    obtain ⟨rfl,rfl,h3,h4⟩ := h
    obtain ⟨rfl,rfl,k3,k4⟩ := k
    exact ⟨rfl,rfl,k3.trans h3,fun i hi => (k4 i (fun h => hi (hl i h))).trans (h4 i hi)⟩
   | _ => cases k
  | _ => cases h
 | _ => cases h; cases k; rfl
theorem Ev.refl (ρ : PMap) (hv : View) (w : World) : Ev ρ hv w ρ hv w :=
 ⟨Nat.le_refl _,rfl,rfl,rfl,fun _ o h => ⟨o,h,SameObj.refl _ o⟩,fun _ _ h _ => h,fun _ _ _ h => h⟩
theorem Ev.trans {ρ ρ1 ρ2 : PMap} {v v1 v2 : View} {w w1 w2 : World} (h : Ev ρ v w ρ1 v1 w1) (k : Ev ρ1 v1 w1 ρ2 v2 w2) : Ev ρ v w ρ2 v2 w2 := by
 refine ⟨Nat.le_trans h.size k.size,k.os.trans h.os,k.tape.trans h.tape,k.output.trans h.output,fun b o hb => ?_,fun id b hb hr => h.roOld id b (k.roOld id b hb hr) hr,fun b hb i ho => h.own b hb i (k.own b (Nat.lt_of_lt_of_le hb h.size) i ho)⟩
 obtain ⟨o1,h1,s1⟩ := h.mem b o hb
 obtain ⟨o2,h2,s2⟩ := k.mem b o1 h1
 exact ⟨o2,h2,s1.trans s2 (fun i hi => h.own b (Array.getElem?_eq_some_iff.1 hb).1 i hi)⟩
theorem Ev.drew (ρ : PMap) (hv : View) (w : World) : Ev ρ hv w ρ hv { w with drawn := w.drawn + 1 } :=
 ⟨Nat.le_refl _,rfl,rfl,rfl,fun _ o h => ⟨o,h,SameObj.refl _ o⟩,fun _ _ h _ => h,fun _ _ _ h => h⟩
theorem BlkAt.of_heap {ρ : PMap} {w w' : World} {id : Nat} {b : Blk} (h : BlkAt ρ w id b) (hw : ∀ p,ρ id = some p → w'.heap[p.b]? = w.heap[p.b]?) : BlkAt ρ w' id b := by
 obtain ⟨p,c,t,fz,h1,h2,h3⟩ := h
 exact ⟨p,c,t,fz,h1,(hw p h1).trans h2,h3⟩
theorem Rel.drew {ρ : PMap} {hv : View} {w : World} (h : Rel ρ hv w) : Rel ρ hv { w with drawn := w.drawn + 1 } :=
 ⟨fun id b hb => (h.blk id b hb).of_heap (fun _ _ => rfl),h.sep⟩
theorem BlkAt.mono {ρ ρ' : PMap} {w : World} {id : Nat} {b : Blk} (h : BlkAt ρ w id b) (hl : PLe ρ ρ') : BlkAt ρ' w id b := by
 obtain ⟨p,c,t,fz,h1,h2,h4,h5,h6,h7⟩ := h
 exact ⟨p,c,t,fz,hl _ _ h1,h2,h4,h5,fun i v hi => let ⟨a,v',b,c⟩ := h6 i v hi; ⟨a,v',b,c.mono hl⟩,h7⟩
theorem Rel.sub {ρ : PMap} {hv hv' : View} {w : World} (h : Rel ρ hv w) (hs : ∀ id b,hv' id = some b → hv id = some b) : Rel ρ hv' w :=
 ⟨fun id b hb => h.blk id b (hs id b hb),fun i j bi bj p q hi hj => h.sep i j bi bj p q (hs _ _ hi) (hs _ _ hj)⟩
theorem Rel.frame {ρ ρ' : PMap} {hv hv' O : View} {w w' : World} (hall : Rel ρ (fun i => (hv i).or (O i)) w) (hdis : ∀ i b,O i = some b → hv i = none)
  (hrel : Rel ρ' hv' w') (hev : Ev ρ hv w ρ' hv' w') (hle : PLe ρ ρ') : Rel ρ' (fun i => (hv' i).or (O i)) w' := by
 have hO : ∀ i b,O i = some b → (hv i).or (O i) = some b := fun i b h => by simp [hdis i b h,h]
 have hap : ∀ i b p,O i = some b → ρ i = some p → ∀ k,p.base ≤ k → k < p.base + p.ext → ¬ Own ρ hv p.b k := by
  rintro i b p hi hp k h1 h2 ⟨id,blk,q,hq,hro,hρ,hb,h3,h4⟩
  have hne : id ≠ i := fun e => by subst e; rw [hdis id b hi] at hq; cases hq
  have := hall.sep id i blk b q p (by simp [hq]) (hO i b hi) hne hro hρ hp
  exact this hb k h3 h4 h1 h2
 have hblk : ∀ i b,O i = some b → BlkAt ρ' w' i b := by
  intro i b hi
  obtain ⟨p,c,t,fz,h1,h2,h4,h5,h6,h7⟩ := hall.blk i b (hO i b hi)
  obtain ⟨o',ho',hs⟩ := hev.mem p.b _ h2
  cases o' with
  | cells c' t' f' =>
   obtain ⟨rfl,rfl,hsz,hsame⟩ := hs
   refine ⟨p,c',_,_,hle _ _ h1,ho',by omega,h5,fun k v hk => ?_,h7⟩
   obtain ⟨a,v',hv',hr⟩ := h6 k v hk
   refine ⟨a,v',?_,hr.mono hle⟩
   have hkl : k < b.cells.length := (List.getElem?_eq_some_iff.1 hk).1
   rw [hsame (p.base + k) (hap i b p hi h1 _ (by omega) (by omega))]
   exact hv'
  | _ => cases hs
 have hplace : ∀ j b q,O j = some b → ρ' j = some q → ρ j = some q ∧ q.b < w.heap.size := by
  intro j b q hj hq
  obtain ⟨q0,c,t,fz,h1,h2,_⟩ := hall.blk j b (hO j b hj)
  have : q0 = q := by have := hle _ _ h1; rw [hq] at this; exact (Option.some.inj this).symm
  subst this
  exact ⟨h1,(Array.getElem?_eq_some_iff.1 h2).1⟩
 have hnew : ∀ i j bi bj p q,hv' i = some bi → O j = some bj → bi.ro = false → ρ' i = some p → ρ' j = some q → Apart p q := by
  intro i j bi bj p q hi hj hro hp hq hb k h1 h2 h3 h4
  obtain ⟨hq0,hlt⟩ := hplace j bj q hj hq
  have := hev.own q.b hlt k ⟨i,bi,p,hi,hro,hp,hb,h1,h2⟩
  exact hap j bj q hj hq0 k h3 h4 this
 refine ⟨fun id b hb => ?_,fun i j bi bj p q hi hj hne hro hp hq => ?_⟩
 ·cases hc : hv' id with
  | some x => rw [hc] at hb; simp at hb; subst hb; exact hrel.blk id x hc
  | none => rw [hc] at hb; simp at hb; exact hblk id b hb
 ·cases hci : hv' i with
  | some x =>
   rw [hci] at hi; simp at hi; subst hi
   cases hcj : hv' j with
   | some y => rw [hcj] at hj; simp at hj; subst hj; exact hrel.sep i j x y p q hci hcj hne hro hp hq
   | none => rw [hcj] at hj; simp at hj; exact hnew i j x bj p q hci hj hro hp hq
  | none =>
   rw [hci] at hi; simp at hi
   have hpi := hplace i bi p hi hp
   cases hcj : hv' j with
   | some y =>
    rw [hcj] at hj; simp at hj; subst hj
    cases hyr : y.ro with
    | false => exact (hnew j i y bi q p hcj hi hyr hq hp).symm
    | true =>
     have hold := hev.roOld j y hcj hyr
     obtain ⟨q0,_,_,_,h1,_⟩ := hall.blk j y (by simp [hold])
     have : q0 = q := by have := hle _ _ h1; rw [hq] at this; exact (Option.some.inj this).symm
     subst this
     exact hall.sep i j bi y p q0 (hO i bi hi) (by simp [hold]) hne hro hpi.1 h1
   | none =>
    rw [hcj] at hj; simp at hj
    exact hall.sep i j bi bj p q (hO i bi hi) (hO j bj hj) hne hro hpi.1 (hplace j bj q hj hq).1
theorem view_push (h : Heap) (b : Blk) (i : Nat) : view (h ++ [some b]) i = if i = h.length then some b else view h i := by
 unfold view blk?
 by_cases hi : i = h.length
 ·subst hi; simp
 ·rw [if_neg hi]
  by_cases hl : i < h.length
  ·rw [List.getElem?_append_left hl]
  ·rw [List.getElem?_eq_none (by simp; omega),List.getElem?_eq_none (by omega)]
theorem view_lt {h : Heap} {i : Nat} {b : Blk} (hb : view h i = some b) : i < h.length := by
 unfold view blk? at hb
 rcases Nat.lt_or_ge i h.length with h1 | h1
 ·exact h1
 ·rw [List.getElem?_eq_none h1] at hb; cases hb
theorem view_set (h : Heap) (j : Nat) (x : Option Blk) (hj : j < h.length) (i : Nat) : view (h.set j x) i = if i = j then x else view h i := by
 unfold view blk?
 by_cases hi : i = j
 ·subst hi
  rw [if_pos rfl,List.getElem?_set_self hj]
  cases x <;> rfl
 ·rw [if_neg hi,List.getElem?_set_ne (Ne.symm hi)]
def Fresh (ρ : PMap) (a b : Nat) : Prop := ∀ id,a ≤ id → id < b → ρ id = none
def PSame (ρ ρ' : PMap) (a b : Nat) : Prop := ∀ id,id < a ∨ b ≤ id → ρ' id = ρ id
theorem PSame.refl (ρ : PMap) (a b : Nat) : PSame ρ ρ a b := fun _ _ => rfl
theorem PSame.le {ρ ρ' : PMap} {a b : Nat} (h : PSame ρ ρ' a b) (hf : Fresh ρ a b) : PLe ρ ρ' := by
 intro id p hp
 rw [h id ?_]
 ·exact hp
 ·rcases Nat.lt_or_ge id a with h1 | h1
  ·exact .inl h1
  ·rcases Nat.lt_or_ge id b with h2 | h2
   ·rw [hf id h1 h2] at hp; cases hp
   ·exact .inr h2
theorem PSame.trans {ρ ρ1 ρ2 : PMap} {a b c : Nat} (h : PSame ρ ρ1 a b) (k : PSame ρ1 ρ2 b c) (h1 : a ≤ b) (h2 : b ≤ c) : PSame ρ ρ2 a c := by
 intro id hid
 rw [k id (by omega),h id (by omega)]
theorem Fresh.rest {ρ ρ1 : PMap} {a b c : Nat} (h : PSame ρ ρ1 a b) (hf : Fresh ρ a c) (h1 : a ≤ b) : Fresh ρ1 b c := fun id i1 i2 => by
 rw [h id (.inr i1)]; exact hf id (by omega) i2
theorem Fresh.first {ρ : PMap} {a b c : Nat} (hf : Fresh ρ a c) (h : b ≤ c) : Fresh ρ a b := fun id i1 i2 => hf id i1 (by omega)
theorem addr_add (b o j : Nat) : (⟨b,o,none⟩ : Addr).add j = ⟨b,o + j,none⟩ := by
 unfold Addr.add
 split
 ·rename_i h; subst h; rfl
 ·rfl
theorem cell_of (w : World) (b o : Nat) (c : Array Value) (t : TypeId) (fz : Nat × Nat) (h : w.heap[b]? = some (.cells c t fz)) : w.cell? ⟨b,o,none⟩ = c[o]? := by
 simp [World.cell?,h]
theorem BlkAt.part {ρ : PMap} {w : World} {id : Nat} {b : Blk} (hb : BlkAt ρ w id b) (off n : Nat) (hn : off + n ≤ b.cells.length) {p : Place} (hp : ρ id = some p) :
  ∃ cs',LRel ρ ((b.cells.drop off).take n) cs' ∧ (∀ v ∈ (b.cells.drop off).take n,Sim.isCell v = true) ∧ cs'.length = n ∧
   ∀ (j : Nat) v',cs'[j]? = some v' → w.cell? ((⟨p.b,p.base + off,none⟩ : Addr).add j) = some v' := by
 obtain ⟨p0,c,t,fz,h1,h2,h4,h5,h6,h7⟩ := hb
 have : p0 = p := by rw [h1] at hp; exact Option.some.inj hp
 subst this
 refine ⟨(c.toList.drop (p0.base + off)).take n,⟨?_,fun i v hv => ?_⟩,fun v hv => ?_,?_,fun j v' hj => ?_⟩
 ·simp only [List.length_take,List.length_drop,Array.length_toList]; omega
 ·rw [List.getElem?_take] at hv ⊢
  split at hv
  ·rename_i hi
   rw [List.getElem?_drop] at hv
   obtain ⟨_,v',hv',hr⟩ := h6 _ _ hv
   refine ⟨v',?_,hr⟩
   rw [if_pos hi,List.getElem?_drop]
   simpa [Nat.add_assoc] using hv'
  ·cases hv
 ·have := List.mem_of_mem_drop (List.mem_of_mem_take hv)
  obtain ⟨i,hi,rfl⟩ := List.getElem_of_mem this
  exact (h6 i _ (by simp [hi])).1
 ·simp only [List.length_take,List.length_drop,Array.length_toList]; omega
 ·rw [addr_add,cell_of w _ _ c t fz h2]
  rw [List.getElem?_take] at hj
  split at hj
  ·rw [List.getElem?_drop] at hj
   simpa using hj
  ·cases hj
theorem view_blk {h : Heap} {id : Nat} {b : Blk} (hb : blk? h id = some b) : view h id = some b := hb
theorem rel_load {P : Program} {ρ : PMap} {h : Heap} {w : World} (hr : Rel ρ (view h) w) {n : Nat} {agg : Bool} {a a' v : Value} (ha : VRel ρ a a') (hl : loadV h n agg a = some v) :
  ∃ ad v',a' = .pointer (some ad) ∧ VRel ρ v v' ∧ (match agg with
   | true => ∃ cs,v' = .agg cs ∧ (loadCells ad n).run P w = .ok cs w
   | false => (load ad).run P w = .ok v' w) := by
 cases ha <;> simp only [loadV] at hl <;> try cases hl
 case ptr id off p hp =>
  cases hb : blk? h id with
  | none => rw [hb] at hl; cases hl
  | some b =>
   rw [hb] at hl
   cases agg with
   | true =>
    simp only at hl
    split at hl
    ·rename_i hn
     injection hl with hl
     subst hl
     obtain ⟨cs',h1,h2,h3,h4⟩ := (hr.blk id b (view_blk hb)).part off n hn hp
     refine ⟨_,_,rfl,h1.agg h2,cs'.toArray,rfl,?_⟩
     have := run_loadCells_list (P := P) w (⟨p.b,p.base + off,none⟩ : Addr) cs' h4
     rw [h3] at this
     exact this
    ·cases hl
   | false =>
    simp only at hl
    obtain ⟨p0,c,t,fz,h1,h2,h4,h5,h6,h7⟩ := hr.blk id b (view_blk hb)
    have : p0 = p := by rw [h1] at hp; exact Option.some.inj hp
    subst this
    obtain ⟨_,v',hv',hrel⟩ := h6 off v hl
    refine ⟨_,v',rfl,hrel,?_⟩
    simp only [run_load,cell_of w _ _ c t fz h2,hv']
theorem setRow_os (w : World) (g : Nat) (cs : Array Value) : (w.setRow g cs).os = w.os ∧ (w.setRow g cs).tape = w.tape ∧ (w.setRow g cs).output = w.output ∧ (w.setRow g cs).heap.size = w.heap.size := by
 simp [World.setRow]
theorem run_storeCells (P : Program) (g o : Nat) (t : TypeId) (fz : Nat × Nat) : ∀ (vs : List Value) (i : Nat) (cur : Array Value) (w : World),w.heap[g]? = some (.cells cur t fz) → fz = (0,0) → o + i + vs.length ≤ cur.size →
  (∀ v ∈ vs,Sim.isCell v = true) →
  (storeCells ⟨g,o,none⟩ vs i).run P w = .ok () (w.setRow g (cur.toList.take (o + i) ++ vs ++ cur.toList.drop (o + i + vs.length)).toArray) := by
 intro vs i cur w hg hf hl hc
 subst hf
 exact run_storeCells_at P g o t vs i cur w hg hl (fun v hv => oneCell_of_isCell (hc v hv))
theorem rel_put {ρ : PMap} {h : Heap} {w : World} (hr : Rel ρ (view h) w) {id : Nat} {b : Blk} (hb : blk? h id = some b) (hro : b.ro = false) {p : Place} (hp : ρ id = some p)
  (off : Nat) {vs vs' : List Value} (hn : off + vs.length ≤ p.ext) (hv : LRel ρ vs vs') (hc : ∀ v ∈ vs,Sim.isCell v = true) (cells2 : List Value) (hl2 : cells2.length ≤ p.ext)
  (h2c : ∀ (i : Nat) v,cells2[i]? = some v → (off ≤ i ∧ vs[i - off]? = some v) ∨ ((i < off ∨ off + vs.length ≤ i) ∧ b.cells[i]? = some v)) :
  ∃ w',(∀ P,(storeCells ⟨p.b,p.base + off,none⟩ vs' 0).run P w = .ok () w') ∧
   Rel ρ (view (h.set id (some { b with cells := cells2 }))) w' ∧ Ev ρ (view h) w ρ (view (h.set id (some { b with cells := cells2 }))) w' := by
 obtain ⟨p0,c,t,fz,h1,h2,h4,h5,h6,h7⟩ := hr.blk id b (view_blk hb)
 have : p0 = p := by rw [h1] at hp; exact Option.some.inj hp
 subst this
 have hfz := h7 hro
 subst hfz
 have hidl := view_lt (view_blk hb)
 have hl : vs'.length = vs.length := hv.1.symm
 have hfit : p0.base + off + vs'.length ≤ c.size := by omega
 let c' : Array Value := (c.toList.take (p0.base + off) ++ vs' ++ c.toList.drop (p0.base + off + vs'.length)).toArray
 have hsz : c'.size = c.size := by simp [c']; omega
 have hold : ∀ (k : Nat),k < p0.base + off ∨ p0.base + off + vs.length ≤ k → c'[k]? = c[k]? := by
  intro k hk
  have := writeAt_get vs' c.toList (p0.base + off) (by simpa using hfit) k
  rw [writeAt_eq _ _ _ (by simpa using hfit)] at this
  simp only [c',List.getElem?_toArray,this]
  split
  ·simp
  ·split
   ·exfalso; omega
   ·simp
 have hnew : ∀ (k : Nat) v',vs'[k]? = some v' → c'[p0.base + off + k]? = some v' := by
  intro k v' hk
  have hkl : k < vs'.length := (List.getElem?_eq_some_iff.1 hk).1
  have := writeAt_get vs' c.toList (p0.base + off) (by simpa using hfit) (p0.base + off + k)
  rw [writeAt_eq _ _ _ (by simpa using hfit)] at this
  simp only [c',List.getElem?_toArray,this]
  rw [if_neg (by omega),if_pos (by omega)]
  simpa using hk
 have hobj : (w.setRow p0.b c').heap[p0.b]? = some (.cells c' t (0,0)) := setRow_heap w p0.b c c' t (0,0) h2
 have hother : ∀ k,k ≠ p0.b → (w.setRow p0.b c').heap[k]? = w.heap[k]? := fun k hk => setRow_other w p0.b k c' hk
 have hview : ∀ j,view (h.set id (some { b with cells := cells2 })) j = if j = id then some { b with cells := cells2 } else view h j := fun j => view_set h id _ hidl j
 refine ⟨w.setRow p0.b c',fun P => ?_,⟨fun j bj hj => ?_,fun i j bi bj q r hi hj hne hir hq hr' => ?_⟩,?_⟩
 ·have hcell' : ∀ v ∈ vs',Sim.isCell v = true := by
   intro v hv'
   obtain ⟨i,hi,rfl⟩ := List.getElem_of_mem hv'
   have h' := hv.get i (by omega) hi
   rw [h'.isCell]; exact hc _ (by simp)
  have := run_storeCells P p0.b (p0.base + off) t (0,0) vs' 0 c w h2 rfl (by omega) hcell'
  simp only [Nat.add_zero] at this
  exact this
 ·rw [hview] at hj
  split at hj
  ·rename_i hji
   injection hj with hj
   subst hji; subst hj
   refine ⟨p0,c',t,(0,0),h1,hobj,by omega,hl2,fun i v hi => ?_,fun _ => rfl⟩
   rcases h2c i v hi with ⟨hoi,hvi⟩ | ⟨hout,hbi⟩
   ·obtain ⟨v',b1,b2⟩ := hv.2 _ _ hvi
    refine ⟨hc v (List.mem_of_getElem? hvi),v',?_,b2⟩
    have := hnew _ _ b1
    rwa [show p0.base + off + (i - off) = p0.base + i by omega] at this
   ·obtain ⟨a,v',b1,b2⟩ := h6 i v hbi
    exact ⟨a,v',by rw [hold _ (by omega)]; exact b1,b2⟩
  ·rename_i hji
   obtain ⟨q,cq,tq,fq,k1,k2,k4,k5,k6,k7⟩ := hr.blk j bj hj
   by_cases hqb : q.b = p0.b
   ·have hcc : some (Obj.cells cq tq fq) = some (Obj.cells c t (0,0)) := by rw [← k2,← h2,hqb]
    injection hcc with hcc
    injection hcc with e1 e2 e3
    subst e1; subst e2; subst e3
    refine ⟨q,c',tq,(0,0),k1,by rw [hqb]; exact hobj,by omega,k5,fun i v hi => ?_,k7⟩
    obtain ⟨a,v',b1,b2⟩ := k6 i v hi
    refine ⟨a,v',?_,b2⟩
    have hil : i < bj.cells.length := (List.getElem?_eq_some_iff.1 hi).1
    have hap := hr.sep id j b bj p0 q (view_blk hb) hj (Ne.symm hji) hro h1 k1 hqb.symm
    rw [hold _ ?_]
    ·exact b1
    ·rcases Nat.lt_or_ge (q.base + i) (p0.base + off) with h' | h'
     ·exact .inl h'
     ·rcases Nat.lt_or_ge (q.base + i) (p0.base + off + vs.length) with h'' | h''
      ·exact (hap (q.base + i) (by omega) (by omega) (by omega) (by omega)).elim
      ·exact .inr h''
   ·exact ⟨q,cq,tq,fq,k1,by rw [hother _ hqb]; exact k2,k4,k5,k6,k7⟩
 ·have hold' : ∀ i bi,view (h.set id (some { b with cells := cells2 })) i = some bi → ∃ b0,view h i = some b0 ∧ b0.ro = bi.ro := by
   intro x bx hx
   rw [hview] at hx
   split at hx
   ·rename_i e; subst e; injection hx with hx; subst hx; exact ⟨b,view_blk hb,rfl⟩
   ·exact ⟨bx,hx,rfl⟩
  obtain ⟨bi0,hi0,ei⟩ := hold' i bi hi
  obtain ⟨bj0,hj0,_⟩ := hold' j bj hj
  exact hr.sep i j bi0 bj0 q r hi0 hj0 hne (ei ▸ hir) hq hr'
 ·obtain ⟨e1,e2,e3,e4⟩ := setRow_os w p0.b c'
  refine ⟨Nat.le_of_eq e4.symm,e1,e2,e3,fun k o hk => ?_,fun i bi hi hir => ?_,?_⟩
  ·by_cases hkb : k = p0.b
   ·subst hkb
    rw [h2] at hk; injection hk with hk; subst hk
    refine ⟨_,hobj,rfl,rfl,hsz,fun i hi => hold i ?_⟩
    rcases Nat.lt_or_ge i (p0.base + off) with h' | h'
    ·exact .inl h'
    ·rcases Nat.lt_or_ge i (p0.base + off + vs.length) with h'' | h''
     ·exact absurd ⟨id,b,p0,view_blk hb,hro,h1,rfl,by omega,by omega⟩ hi
     ·exact .inr h''
   ·exact ⟨o,by rw [hother k hkb]; exact hk,SameObj.refl _ o⟩
  ·rw [hview] at hi
   split at hi
   ·rename_i e; subst e; injection hi with hi; subst hi; simp at hir; rw [hro] at hir; cases hir
   ·exact hi
  ·rintro k hk i ⟨j,bj,q,hj,hjr,hq,e1,e2,e3⟩
   rw [hview] at hj
   split at hj
   ·rename_i e; subst e; injection hj with hj; subst hj
    exact ⟨j,b,q,view_blk hb,hro,hq,e1,e2,e3⟩
   ·exact ⟨j,bj,q,hj,hjr,hq,e1,e2,e3⟩
theorem rel_write {ρ : PMap} {h : Heap} {w : World} (hr : Rel ρ (view h) w) {id : Nat} {b : Blk} (hb : blk? h id = some b) (hro : b.ro = false) {p : Place} (hp : ρ id = some p)
  (off : Nat) {vs vs' : List Value} (hn : off + vs.length ≤ b.cells.length) (hv : LRel ρ vs vs') (hc : ∀ v ∈ vs,Sim.isCell v = true) :
  ∃ w',(∀ P,(storeCells ⟨p.b,p.base + off,none⟩ vs' 0).run P w = .ok () w') ∧
   Rel ρ (view (h.set id (some { b with cells := writeAt b.cells off vs }))) w' ∧ Ev ρ (view h) w ρ (view (h.set id (some { b with cells := writeAt b.cells off vs }))) w' := by
 obtain ⟨p0,c,t,fz,h1,h2,h4,h5,h6,h7⟩ := hr.blk id b (view_blk hb)
 have : p0 = p := by rw [h1] at hp; exact Option.some.inj hp
 subst this
 refine rel_put hr hb hro hp off (by omega) hv hc _ (by simpa [size_writeAt] using h5) (fun i v hi => ?_)
 rw [writeAt_get _ _ _ hn] at hi
 split at hi
 ·exact .inr ⟨.inl (by assumption),hi⟩
 ·split at hi
  ·exact .inl ⟨by omega,hi⟩
  ·exact .inr ⟨.inr (by omega),hi⟩
theorem rel_store {ρ : PMap} {h h' : Heap} {w : World} (hr : Rel ρ (view h) w) {n : Nat} {a a' v v' : Value} (ha : VRel ρ a a') (hv : VRel ρ v v') (hs : storeV h n a v = some h') :
  ∃ ad w',a' = .pointer (some ad) ∧ v'.cells.size = n ∧ (∀ P,(storeCells ad v'.cells.toList 0).run P w = .ok () w') ∧ Rel ρ (view h') w' ∧ Ev ρ (view h) w ρ (view h') w' ∧ h'.length = h.length := by
 cases ha <;> simp only [storeV] at hs <;> try cases hs
 case ptr id off p hp =>
  cases hb : blk? h id with
  | none => rw [hb] at hs; cases hs
  | some b =>
   rw [hb] at hs
   simp only at hs
   split at hs
   ·rename_i hc
    obtain ⟨hro,hvar,hsz,hn⟩ := hc
    injection hs with hs
    subst hs
    have hl : v.cells.toList.length = n := by simpa using hsz
    obtain ⟨w',h1,h2,h3⟩ := rel_write hr hb hro hp off (vs := v.cells.toList) (by omega) hv.cells (hv.cellsOk hvar)
    refine ⟨_,w',rfl,?_,h1,h2,h3,by simp⟩
    have := hv.cells.1
    simp at this
    omega
   ·cases hs
def newP (ρ : PMap) (id : Nat) (p : Place) : PMap := fun i => if i = id then some p else ρ i
theorem newP_le {ρ : PMap} {id : Nat} {p : Place} (h : ρ id = none) : PLe ρ (newP ρ id p) := by
 intro i q hq
 unfold newP
 by_cases hi : i = id
 ·subst hi; rw [h] at hq; cases hq
 ·rw [if_neg hi]; exact hq
theorem newP_same (ρ : PMap) (id : Nat) (p : Place) : PSame ρ (newP ρ id p) id (id + 1) := by
 intro i hi
 unfold newP
 rw [if_neg (by omega)]
def addV (hv : View) (id : Nat) (b : Blk) : View := fun i => if i = id then some b else hv i
theorem rel_newV {ρ : PMap} {hv : View} {w : World} (hr : Rel ρ hv w) {id : Nat} (hid : hv id = none) (hf : ρ id = none) (c : Array Value) (t : TypeId) (esz : Nat) {cells : List Value}
  (hl : cells.length ≤ c.size) (hc : ∀ v ∈ cells,Sim.isCell v = true) (hv' : ∀ (i : Nat) v,cells[i]? = some v → ∃ v',c[i]? = some v' ∧ VRel ρ v v') :
  Rel (newP ρ id ⟨w.heap.size,0,c.size,esz⟩) (addV hv id ⟨false,cells⟩) { w with heap := w.heap.push (.cells c t) } ∧
  Ev ρ hv w (newP ρ id ⟨w.heap.size,0,c.size,esz⟩) (addV hv id ⟨false,cells⟩) { w with heap := w.heap.push (.cells c t) } := by
 have hle := newP_le (p := ⟨w.heap.size,0,c.size,esz⟩) hf
 have hself : newP ρ id ⟨w.heap.size,0,c.size,esz⟩ id = some ⟨w.heap.size,0,c.size,esz⟩ := by simp [newP]
 have hother : ∀ i,i ≠ id → newP ρ id ⟨w.heap.size,0,c.size,esz⟩ i = ρ i := fun i hi => by simp [newP,hi]
 have hheap : ∀ k,k < w.heap.size → (w.heap.push (.cells c t))[k]? = w.heap[k]? := fun k hk => by rw [Array.getElem?_push,if_neg (by omega)]
 have hplt : ∀ i b p,hv i = some b → ρ i = some p → p.b < w.heap.size := by
  intro i b p hi hp
  obtain ⟨p0,c0,t0,f0,h1,h2,_⟩ := hr.blk i b hi
  have : p0 = p := by rw [h1] at hp; exact Option.some.inj hp
  subst this
  exact (Array.getElem?_eq_some_iff.1 h2).1
 refine ⟨⟨fun i b hi => ?_,fun i j bi bj p q hi hj hne hro hp hq => ?_⟩,?_⟩
 ·unfold addV at hi
  split at hi
  ·rename_i e; subst e; injection hi with hi; subst hi
   refine ⟨_,c,t,(0,0),hself,by simp,by simp,by simpa using hl,fun i v hi => ?_,fun _ => rfl⟩
   obtain ⟨v',h1,h2⟩ := hv' i v hi
   exact ⟨hc v (List.mem_of_getElem? hi),v',by simpa using h1,h2.mono hle⟩
  ·exact ((hr.blk i b hi).mono hle).of_heap fun p hp => hheap _ (hplt i b p hi (by rw [hother i (by assumption)] at hp; exact hp))
 ·unfold addV at hi hj
  split at hi
  ·rename_i e; subst e
   split at hj
   ·rename_i e2; exact absurd e2.symm hne
   ·rename_i e2
    rw [hself] at hp; injection hp with hp; subst hp
    rw [hother j e2] at hq
    intro hb
    have := hplt j bj q hj hq
    simp at hb; omega
  ·rename_i e
   rw [hother i e] at hp
   split at hj
   ·rename_i e2; subst e2
    rw [hself] at hq; injection hq with hq; subst hq
    intro hb
    have := hplt i bi p hi hp
    simp at hb; omega
   ·rename_i e2
    rw [hother j e2] at hq
    exact hr.sep i j bi bj p q hi hj hne hro hp hq
 ·refine ⟨by simp,rfl,rfl,rfl,fun k o hk => ⟨o,by rw [hheap k (Array.getElem?_eq_some_iff.1 hk).1]; exact hk,SameObj.refl _ o⟩,fun i b hi hir => ?_,?_⟩
  ·unfold addV at hi
   split at hi
   ·injection hi with hi; subst hi; cases hir
   ·exact hi
  ·rintro k hk i ⟨j,bj,p,hj,hjr,hp,e1,e2,e3⟩
   unfold addV at hj
   split at hj
   ·rename_i e; subst e
    rw [hself] at hp; injection hp with hp; subst hp
    simp at e1; omega
   ·rename_i e
    exact ⟨j,bj,p,hj,hjr,by rw [hother j e] at hp; exact hp,e1,e2,e3⟩
theorem view_none {h : Heap} {i : Nat} (hi : h.length ≤ i) : view h i = none := by
 unfold view blk?
 rw [List.getElem?_eq_none hi]
theorem view_addV (h : Heap) (b : Blk) : view (h ++ [some b]) = addV (view h) h.length b := funext fun i => view_push h b i
theorem rel_new {ρ : PMap} {h : Heap} {w : World} (hr : Rel ρ (view h) w) (hf : ρ h.length = none) (c : Array Value) (t : TypeId) (esz : Nat) {cells : List Value}
  (hl : cells.length ≤ c.size) (hc : ∀ v ∈ cells,Sim.isCell v = true) (hv : ∀ (i : Nat) v,cells[i]? = some v → ∃ v',c[i]? = some v' ∧ VRel ρ v v') :
  Rel (newP ρ h.length ⟨w.heap.size,0,c.size,esz⟩) (view (h ++ [some ⟨false,cells⟩])) { w with heap := w.heap.push (.cells c t) } ∧
  Ev ρ (view h) w (newP ρ h.length ⟨w.heap.size,0,c.size,esz⟩) (view (h ++ [some ⟨false,cells⟩])) { w with heap := w.heap.push (.cells c t) } := by
 rw [view_addV]
 exact rel_newV hr (view_none (Nat.le_refl _)) hf c t esz hl hc hv
theorem SameObj.mono {own own' : Nat → Prop} (h : ∀ i,own i → own' i) {o o' : Obj} (hs : SameObj own o o') : SameObj own' o o' := by
 cases o with
 | cells c t f =>
  cases o' with
  | cells c' t' f' => obtain ⟨a,b,c1,d⟩ := hs; exact ⟨a,b,c1,fun i hi => d i (fun hh => hi (h i hh))⟩
  | _ => exact hs
 | _ => exact hs
theorem Ev.beside {ρ ρ' : PMap} {hv hv' O : View} {w w' : World} (hev : Ev ρ hv w ρ' hv' w') (hdis : ∀ i b,O i = some b → hv i = none) (hsame : ∀ i b,O i = some b → ρ' i = ρ i) :
  Ev ρ (fun i => (hv i).or (O i)) w ρ' (fun i => (hv' i).or (O i)) w' := by
 refine ⟨hev.size,hev.os,hev.tape,hev.output,fun b o hb => ?_,fun i b hi hir => ?_,fun b hb i ho => ?_⟩
 ·obtain ⟨o',h1,h2⟩ := hev.mem b o hb
  refine ⟨o',h1,h2.mono fun i => ?_⟩
  rintro ⟨id,blk,p,e1,e2⟩
  exact ⟨id,blk,p,by simp [e1],e2⟩
 ·cases hc : hv' i with
  | some x => rw [hc] at hi; simp at hi; subst hi; simp [hev.roOld i x hc hir]
  | none => rw [hc] at hi; simp at hi; simp [hdis i b hi,hi]
 ·obtain ⟨id,blk,p,e1,e2,e3,e4⟩ := ho
  simp only at e1
  cases hc : hv' id with
  | some x =>
   rw [hc] at e1; simp at e1; subst e1
   obtain ⟨id2,blk2,p2,f1,f2⟩ := hev.own b hb i ⟨id,x,p,hc,e2,e3,e4⟩
   exact ⟨id2,blk2,p2,by simp [f1],f2⟩
  | none =>
   rw [hc] at e1; simp at e1
   exact ⟨id,blk,p,by simp [hdis id blk e1,e1],e2,by rw [← hsame id blk e1]; exact e3,e4⟩
theorem Ev.sub {ρ ρ' : PMap} {hv hv' hv2 : View} {w w' : World} (hev : Ev ρ hv w ρ' hv' w') (hs : ∀ i b,hv2 i = some b → hv' i = some b) : Ev ρ hv w ρ' hv2 w' :=
 ⟨hev.size,hev.os,hev.tape,hev.output,hev.mem,fun i b hi hr => hev.roOld i b (hs i b hi) hr,fun b hb i ⟨id,blk,p,e1,e2⟩ => hev.own b hb i ⟨id,blk,p,hs id blk e1,e2⟩⟩
theorem rel_kill {ρ : PMap} {h : Heap} {w : World} (hr : Rel ρ (view h) w) {id : Nat} (hid : id < h.length) :
  Rel ρ (view (h.set id none)) w ∧ Ev ρ (view h) w ρ (view (h.set id none)) w := by
 have hsub : ∀ i b,view (h.set id none) i = some b → view h i = some b := by
  intro i b hi
  rw [view_set h id none hid] at hi
  split at hi
  ·cases hi
  ·exact hi
 exact ⟨hr.sub hsub,⟨Nat.le_refl _,rfl,rfl,rfl,fun _ o ho => ⟨o,ho,SameObj.refl _ o⟩,fun i b hi _ => hsub i b hi,
  fun k _ i ⟨j,bj,p,hj,rest⟩ => ⟨j,bj,p,hsub j bj hj,rest⟩⟩⟩
theorem rel_adopt {ρ : PMap} {h : Heap} {w : World} (hr : Rel ρ (view h) w) (hf : ρ h.length = none) {id : Nat} {b : Blk} (hb : blk? h id = some b) (hro : b.ro = false) {p : Place} (hp : ρ id = some p)
  (off n : Nat) (ext : Nat) (he : off + ext ≤ p.ext) (hx : n ≤ ext) :
  Rel (newP ρ h.length ⟨p.b,p.base + off,ext,p.esz⟩) (view (h.set id none ++ [some ⟨false,(b.cells.drop off).take n⟩])) w ∧
  Ev ρ (view h) w (newP ρ h.length ⟨p.b,p.base + off,ext,p.esz⟩) (view (h.set id none ++ [some ⟨false,(b.cells.drop off).take n⟩])) w := by
 have hidl := view_lt (view_blk hb)
 have hle := newP_le (p := ⟨p.b,p.base + off,ext,p.esz⟩) hf
 have hself : newP ρ h.length ⟨p.b,p.base + off,ext,p.esz⟩ h.length = some ⟨p.b,p.base + off,ext,p.esz⟩ := by simp [newP]
 have hother : ∀ i,i ≠ h.length → newP ρ h.length ⟨p.b,p.base + off,ext,p.esz⟩ i = ρ i := fun i hi => by simp [newP,hi]
 have hview : ∀ i,view (h.set id none ++ [some ⟨false,(b.cells.drop off).take n⟩]) i = if i = h.length then some ⟨false,(b.cells.drop off).take n⟩ else if i = id then none else view h i := by
  intro i
  rw [view_push,List.length_set,view_set h id none hidl]
 obtain ⟨p0,c,t,fz,h1,h2,h4,h5,h6,h7⟩ := hr.blk id b (view_blk hb)
 have : p0 = p := by rw [h1] at hp; exact Option.some.inj hp
 subst this
 refine ⟨⟨fun i bi hi => ?_,fun i j bi bj q r hi hj hne hir hq hr' => ?_⟩,?_⟩
 ·rw [hview] at hi
  split at hi
  ·rename_i e; subst e; injection hi with hi; subst hi
   refine ⟨_,c,t,fz,hself,h2,by simp; omega,by simp; omega,fun i v hi => ?_,fun _ => h7 hro⟩
   simp only at hi
   rw [List.getElem?_take] at hi
   split at hi
   ·rw [List.getElem?_drop] at hi
    obtain ⟨a,v',b1,b2⟩ := h6 _ _ hi
    exact ⟨a,v',by simpa [Nat.add_assoc] using b1,b2.mono hle⟩
   ·cases hi
  ·split at hi
   ·cases hi
   ·exact (hr.blk i bi hi).mono hle
 ·rw [hview] at hi hj
  split at hi
  ·rename_i e; subst e
   split at hj
   ·rename_i e2; exact absurd e2.symm hne
   ·rename_i e2
    split at hj
    ·cases hj
    ·rename_i e3
     rw [hself] at hq; injection hq with hq; subst hq
     rw [hother j e2] at hr'
     intro hb' k k1 k2 k3 k4
     exact hr.sep id j b bj p0 r (view_blk hb) hj (Ne.symm e3) hro h1 hr' hb' k (by simp at k1; omega) (by simp at k2; omega) k3 k4
  ·rename_i e
   rw [hother i e] at hq
   split at hi
   ·cases hi
   ·rename_i e3
    split at hj
    ·rename_i e2; subst e2
     rw [hself] at hr'; injection hr' with hr'; subst hr'
     intro hb' k k1 k2 k3 k4
     exact hr.sep i id bi b q p0 hi (view_blk hb) e3 hir hq h1 hb' k k1 k2 (by simp at k3; omega) (by simp at k4; omega)
    ·rename_i e2
     rw [hother j e2] at hr'
     split at hj
     ·cases hj
     ·exact hr.sep i j bi bj q r hi hj hne hir hq hr'
 ·refine ⟨Nat.le_refl _,rfl,rfl,rfl,fun _ o ho => ⟨o,ho,SameObj.refl _ o⟩,fun i bi hi hir => ?_,?_⟩
  ·rw [hview] at hi
   split at hi
   ·injection hi with hi; subst hi; cases hir
   ·split at hi
    ·cases hi
    ·exact hi
  ·rintro k _ i ⟨j,bj,q,hj,hjr,hq,e1,e2,e3⟩
   rw [hview] at hj
   split at hj
   ·rename_i e; subst e
    rw [hself] at hq; injection hq with hq; subst hq
    exact ⟨id,b,p0,view_blk hb,hro,h1,e1,by simp at e2; omega,by simp at e3; omega⟩
   ·rename_i e
    split at hj
    ·cases hj
    ·exact ⟨j,bj,q,hj,hjr,by rw [hother j e] at hq; exact hq,e1,e2,e3⟩
def okOpnd : Operand → Bool
 | .tmp _ => true
 | .const v => noAddr v
 | .func _ => true
 | .global _ => false
def calleeOk : Operand → Bool
 | .const _ => false
 | x => okOpnd x
def aggT (P : Program) (t : TypeId) : Option Bool :=
 match P.underlying t with
 | some (.struct _) => some true
 | some (.array _ _) => some true
 | some _ => some false
 | none => none
def zeroCells (P : Program) (t : TypeId) : Option (List Value) :=
 match P.info? t with
 | some i =>
  match i.zero with
  | some z => if noAddr z = true ∧ isVar z = true ∧ z.cells.size = i.size ∧ 0 < i.size then some z.cells.toList else none
  | none => none
 | none => none
def sizeT (P : Program) (t : TypeId) : Option Nat := (P.info? t).map (·.size)
def scalarK (P : Program) (t : TypeId) : Option EqK :=
 match P.underlying t with
 | some .bool => some .bool
 | some (.int _) => some .int
 | some .string => some .str
 | _ => none
def fieldsK (P : Program) : List Field → Option (List (Nat × EqK))
 | [] => some []
 | f :: r =>
  if f.name = "_" then none else
  match scalarK P f.type,fieldsK P r with
  | some k,some l => some ((f.offset,k) :: l)
  | _,_ => none
def eqKind (P : Program) (t : TypeId) : Option EqK :=
 match P.underlying t with
 | some .bool => some .bool
 | some (.pointer _) => some .ptr
 | some (.slice _) => some .slice
 | some (.func ..) => some .func
 | some (.struct fs) => if P.stoodInHeld t = false ∧ P.eqGuardType P.depth t = false then (fieldsK P fs.toList).map .fields else none
 | _ => none
def placesOf (P : Program) : List Field → Option (List (Nat × Nat))
 | [] => some []
 | f :: r =>
  match sizeT P f.type,placesOf P r with
  | some n,some l => some ((f.offset,n) :: l)
  | _,_ => none
def compileCall (P : Program) (c : Call) : Option ROp :=
 match c.callee with
 | .value f => if calleeOk f then some (.call f c.args.toList) else none
 | .invoke .. => none
 | .builtin b =>
  match b,c.args.toList,c.argTypes.toList with
  | .len,[x],[t] =>
   match P.underlying t with
   | some .string => some (.lenS x)
   | some (.slice _) => some (.len x)
   | _ => none
  | .min,x :: xs,_ => some (.min (x :: xs))
  | .max,x :: xs,_ => some (.max (x :: xs))
  | .append,[x,y],[t,u] =>
   match P.underlying t with
   | some (.slice e) =>
    match P.info? e,zeroCells P e,P.underlying u with
    | some i,some _,some (.slice _) => some (.append i.size i.bytes x y)
    | some i,some _,some .string => some (.append i.size i.bytes x y)
    | _,_,_ => none
   | _ => none
  | .copy,[x,y],[t,_] =>
   match P.underlying t with
   | some (.slice e) => match P.info? e with | some i => some (.copy i.size x y) | none => none
   | _ => none
  | _,_,_ => none
def compileOp (P : Program) (op : Op) : Option ROp :=
 match op with
 | .move x => some (.mov x)
 | .assign x => some (.mov x)
 | .pick c a b => some (.pick c a b)
 | .alloc t => (zeroCells P t).map .alloc
 | .box _ x => some (.box x)
 | .build t parts =>
  match P.underlying t,zeroCells P t with
  | some (.struct fs),some z => (placesOf P fs.toList).map fun pl => .build z pl parts.toList
  | some (.array n e),some z => (sizeT P e).map fun s => .build z ((List.range n).map fun i => (i * s,s)) parts.toList
  | _,_ => none
 | .buildSlice t len parts =>
  match P.underlying t with
  | some (.slice e) =>
   match zeroCells P e with
   | some z => if len * z.length ≤ 16777216 then some (.buildSlice z.length len z parts.toList) else none
   | none => none
  | _ => none
 | .load t a => match aggT P t,sizeT P t with | some g,some n => some (.load n g a) | _,_ => none
 | .store t a x => match sizeT P t with | some n => some (.store n a x) | none => none
 | .nilCheck x => some (.nilCheck x)
 | .binOp op t x y _ =>
  match P.underlying t with
  | some (.int _) => some (.bin op x y)
  | some .string => some (.bin op x y)
  | _ =>
   match op with
   | .eql => (eqKind P t).map fun k => .eq false k x y
   | .neq => (eqKind P t).map fun k => .eq true k x y
   | _ => none
 | .unOp op _ x => some (.un op x)
 | .convert src dst x =>
  match P.underlying src,P.underlying dst with
  | some (.int _),some (.int k) => some (.convInt k x)
  | some .string,some .string => some (.movS x)
  | _,_ => none
 | .makeFunc (.func f) first captured => some (.makeFunc f first.toList captured.toList)
 | .makeSlice t l c =>
  match P.underlying t with
  | some (.slice e) =>
   match P.info? e,zeroCells P e with
   | some i,some z => some (.makeSlice i.size i.bytes z l c)
   | _,_ => none
  | _ => none
 | .slice t x lo hi none =>
  match P.underlying t with
  | some .string => some (.sliceS x lo hi)
  | some (.slice e) => (sizeT P e).map fun s => .slice s x lo hi
  | _ => none
 | .fieldAddr t x i =>
  match P.underlying t with
  | some (.struct fs) =>
   match fs[i]? with
   | some f => match sizeT P f.type with | some (_ + 1) => some (.fieldAddr f.offset x) | _ => none
   | none => none
  | _ => none
 | .field t x i =>
  match P.underlying t with
  | some (.struct fs) =>
   match fs[i]? with
   | some f => match aggT P f.type,sizeT P f.type with | some g,some n => some (.field f.offset n g x) | _,_ => none
   | none => none
  | _ => none
 | .indexAddr t x i =>
  match P.underlying t with
  | some (.array n e) => (sizeT P e).map fun s => .indexArr n s x i
  | some (.slice e) => (sizeT P e).map fun s => .indexSl s x i
  | _ => none
 | .index t x i =>
  match P.underlying t with
  | some (.array n e) => match aggT P e,sizeT P e with | some g,some s => some (.indexV n s g x i) | _,_ => none
  | some .string => some (.indexS x i)
  | _ => none
 | .call c => compileCall P c
 | .extract x i => some (.extract x i)
 | _ => none
def OpGives (P : Program) (op : Op) (ev' : Operand → Value) (w : World) (v' : Value) : Prop :=
 ∀ (dst : Option Tmp) (ty : TypeId) (pos : String) (after : Array Edge) (guard : Option (Nat × Bool)),
  (execOp ev' { dst,op,type := ty,pos,after,guard }).run P w = .ok (.value v') w
section
variable {P : Program} {ρ : PMap} {w : World} {e : Env} {ev' : Operand → Value} {h : Heap}
theorem size_of {t : TypeId} {n : Nat} (hs : sizeT P t = some n) (w : World) : (sizeOf t).run P w = .ok n w := by
 unfold sizeT at hs
 cases hi : P.info? t with
 | none => rw [hi] at hs; cases hs
 | some i =>
  rw [hi] at hs
  simp at hs
  simp [sizeOf,typeInfo,hi,hs]
theorem agg_of {t : TypeId} {g : Bool} (hs : aggT P t = some g) (w : World) : (isAgg t).run P w = .ok g w := by
 unfold aggT at hs
 cases hi : P.underlying t with
 | none => rw [hi] at hs; cases hs
 | some d =>
  rw [hi] at hs
  cases d <;> simp at hs <;> subst hs <;> simp [isAgg,underlying,hi]
theorem run_und {t : TypeId} {d : TypeDesc} (hs : P.underlying t = some d) (w : World) : (underlying t).run P w = .ok d w := by
 simp [underlying,hs]
theorem run_binI {op : BinOp} {k k' : IntKind} {a b : Int} {v : Value} (hb : binI op k a k' b = some v) (t : TypeId) (w : World) : (binOp op t (.int k a) (.int k' b)).run P w = .ok v w := by
  cases op <;> simp only [binI] at hb
  case shl =>
    split at hb
    · cases hb
    · rename_i hn; injection hb with hb; subst hb; simp [binOp,Op.shift,hn]
  case shr =>
    split at hb
    · cases hb
    · rename_i hn; injection hb with hb; subst hb; simp [binOp,Op.shift,hn]
  all_goals
    split at hb
    · cases hb
    · rename_i hk
      have hk' : k = k' := Classical.not_not.1 hk
      subst hk'
      first
        | (injection hb with hb; subst hb; simp [binOp,Op.intArith,Op.intBits,Op.intCmp]; done)
        | (split at hb
           · cases hb
           · rename_i h0; injection hb with hb; subst hb; simp [binOp,Op.intDiv,h0])
theorem run_binS {op : BinOp} {a b : ByteArray} {v : Value} (hb : binS op a b = some v) (t : TypeId) (w : World) : (binOp op t (.string a) (.string b)).run P w = .ok v w := by
 cases op <;> simp only [binS] at hb
 case add =>
  split at hb
  ·rename_i hn
   injection hb with hb; subst hb
   have : ¬ (((a.size + b.size : Nat) : Int) > IntKind.i64.max) := by
    simp [IntKind.max,IntKind.bits,IntKind.signed]
    omega
   simp only [binOp,Op.stringOp]
   rw [if_neg this]
   rfl
  ·cases hb
 all_goals first | (cases hb; done) | (injection hb with hb; subst hb; simp [binOp,Op.stringOp]; done)
end
theorem eqV_rel {ρ : PMap} : ∀ {k : EqK} {x x' y y' : Value} {b : Bool},(∀ l,k ≠ .fields l) → VRel ρ x x' → VRel ρ y y' → eqV k x y = some b → eqV k x' y' = some b := by
 intro k x x' y y' b hk hx hy he
 cases k with
 | fields l => exact absurd rfl (hk l)
 | _ => cases hx <;> cases hy <;> simp_all [eqV]
theorem run_equal_scalar {P : Program} {t : TypeId} {k : EqK} (hk : scalarK P t = some k) {x y : Value} {b : Bool} (he : eqV k x y = some b) (d : Nat) (w : World) : (Op.equalIn (d + 1) t x y).run P w = .ok b w := by
 unfold scalarK at hk
 split at hk <;> try cases hk
 ·rename_i hu
  cases x <;> cases y <;> simp [eqV] at he
  subst he
  exact run_equalIn_bool' w d t _ _ hu
 ·rename_i hu
  cases x <;> cases y <;> simp [eqV] at he
  obtain ⟨rfl,rfl⟩ := he
  exact run_equalIn_int w d t _ _ _ _ hu
 ·rename_i hu
  cases x <;> cases y <;> simp [eqV] at he
  subst he
  rw [run_equalIn_string w d t _ _ hu,beq_toListBytes]
theorem eqFields_run {P : Program} {ρ : PMap} {xs xs' ys ys' : Array Value} (hx : VRel ρ (.agg xs) (.agg xs')) (hy : VRel ρ (.agg ys) (.agg ys')) (d : Nat) (w : World) :
  ∀ (fs : List Field) (l : List (Nat × EqK)) (b : Bool),fieldsK P fs = some l → eqFields l xs ys = some b → (Op.eqFields (d + 1) xs' ys' fs).run P w = .ok b w
 | [],l,b,hl,he => by
  simp [fieldsK] at hl; subst hl
  simp [Sim.eqFields] at he; subst he
  simp [Op.eqFields]
 | f :: fs,l,b,hl,he => by
  simp only [fieldsK] at hl
  split at hl
  ·cases hl
  ·rename_i hn
   split at hl
   ·rename_i k l' hk hr
    injection hl with hl; subst hl
    simp only [Sim.eqFields] at he
    have hagg : aggT P f.type = some false := by
     unfold scalarK at hk
     unfold aggT
     split at hk <;> simp_all
    cases hxo : xs[f.offset]? with
    | none => rw [hxo] at he; simp at he
    | some x =>
     cases hyo : ys[f.offset]? with
     | none => rw [hxo,hyo] at he; simp at he
     | some y =>
      rw [hxo,hyo] at he
      simp only at he
      cases hx with
      | agg ha hc ra =>
       cases hy with
       | agg ha' hc' ra' =>
        have hi := (Array.getElem?_eq_some_iff.1 hxo).1
        have hi' := (Array.getElem?_eq_some_iff.1 hyo).1
        have hx1 := ra f.offset hi (ha ▸ hi)
        have hy1 := ra' f.offset hi' (ha' ▸ hi')
        rw [(Array.getElem?_eq_some_iff.1 hxo).2] at hx1
        rw [(Array.getElem?_eq_some_iff.1 hyo).2] at hy1
        have p1 : ∀ w,(part f.type xs' f.offset).run P w = .ok (xs'[f.offset]'(ha ▸ hi)) w := fun w => by
         simp [part,agg_of hagg,ha ▸ hi]
        have p2 : ∀ w,(part f.type ys' f.offset).run P w = .ok (ys'[f.offset]'(ha' ▸ hi')) w := fun w => by
         simp [part,agg_of hagg,ha' ▸ hi']
        have hkf : ∀ l,k ≠ .fields l := by
         intro l e; subst e
         unfold scalarK at hk
         split at hk <;> simp at hk
        cases hb : eqV k x y with
        | none => rw [hb] at he; simp at he
        | some b0 =>
         rw [hb] at he
         have hb' := eqV_rel hkf hx1 hy1 hb
         have hrun := run_equal_scalar hk hb' d
         simp only [Op.eqFields,ne_eq,hn,not_false_eq_true,if_true,Sem.run_bind,p1,p2,Result.andThen_ok,hrun]
         cases b0 with
         | true =>
          simp only [Bool.not_true,Bool.false_eq_true,if_false]
          exact eqFields_run (.agg ha hc ra) (.agg ha' hc' ra') d w fs l' b hr (by simpa using he)
         | false =>
          simp at he; subst he
          simp
   ·cases hl
theorem run_equalIn_nils {P : Program} {t : TypeId} (d : Nat) (w : World) :
  (∀ e,P.underlying t = some (.pointer e) → (∀ b,(Op.equalIn (d + 1) t (.pointer none) (.pointer b)).run P w = .ok b.isNone w) ∧ (∀ a,(Op.equalIn (d + 1) t (.pointer (some a)) (.pointer none)).run P w = .ok false w)) ∧
  (∀ e,P.underlying t = some (.slice e) → (∀ b n c n' c',(Op.equalIn (d + 1) t (.slice none n c) (.slice b n' c')).run P w = .ok b.isNone w) ∧ (∀ a n c n' c',(Op.equalIn (d + 1) t (.slice (some a) n c) (.slice none n' c')).run P w = .ok false w)) ∧
  (∀ x y z,P.underlying t = some (.func x y z) → (Op.equalIn (d + 1) t .nilFunc .nilFunc).run P w = .ok true w ∧ (∀ f a b,(Op.equalIn (d + 1) t .nilFunc (.func f a b)).run P w = .ok false w) ∧ (∀ f a b,(Op.equalIn (d + 1) t (.func f a b) .nilFunc).run P w = .ok false w)) := by
 refine ⟨fun e hu => ⟨fun b => ?_,fun a => ?_⟩,fun e hu => ⟨fun b n c n' c' => ?_,fun a n c n' c' => ?_⟩,fun x y z hu => ⟨?_,fun f a b => ?_,fun f a b => ?_⟩⟩ <;>
  simp only [Op.equalIn,Sem.run_bind,run_und hu,Result.andThen_ok,Sem.run_pure]
theorem run_eq {P : Program} {ρ : PMap} {t : TypeId} {k : EqK} (hk : eqKind P t = some k) {x x' y y' : Value} {b : Bool} (hx : VRel ρ x x') (hy : VRel ρ y y') (he : eqV k x y = some b) (w : World) :
  (∀ op x0 y0,(eqGuard op t x0 y0 x' y').run P w = .ok () w) ∧ (Op.equal t x' y').run P w = .ok b w := by
 have e0 : ∀ x y,(Op.equal t x y).run P w = (Op.equalIn (9999 + 1) t x y).run P w := fun _ _ => rfl
 rw [e0]
 obtain ⟨n1,n2,n3⟩ := run_equalIn_nils (P := P) (t := t) 9999 w
 unfold eqKind at hk
 split at hk <;> try cases hk
 ·rename_i hu
  cases hx <;> cases hy <;> simp [eqV] at he
  subst he
  exact ⟨fun op x0 y0 => by simp [eqGuard],run_equalIn_bool' w 9999 t _ _ hu⟩
 ·rename_i hu
  cases hx <;> cases hy <;> simp [eqV] at he <;> subst he <;> refine ⟨fun op x0 y0 => by simp [eqGuard],?_⟩ <;> first | exact (n1 _ hu).1 _ | exact (n1 _ hu).2 _
 ·rename_i hu
  cases hx <;> cases hy <;> simp [eqV] at he <;> subst he <;> refine ⟨fun op x0 y0 => by simp [eqGuard],?_⟩ <;> first | exact (n2 _ hu).1 _ _ _ _ _ | exact (n2 _ hu).2 _ _ _ _ _
 ·rename_i hu
  cases hx <;> cases hy <;> simp [eqV] at he <;> subst he <;> refine ⟨fun op x0 y0 => by simp [eqGuard],?_⟩ <;> first | exact (n3 _ _ _ hu).1 | exact (n3 _ _ _ hu).2.1 _ _ _ | exact (n3 _ _ _ hu).2.2 _ _ _
 ·rename_i fs hu
  split at hk
  ·rename_i hp
   cases hl : fieldsK P fs.toList with
   | none => rw [hl] at hk; cases hk
   | some l =>
    rw [hl] at hk; simp at hk; subst hk
    have hf : P.fieldsOf t = fs := by simp [Program.fieldsOf,hu]
    cases hx with
    | @agg a a' ha hc ra =>
     cases hy with
     | @agg c c' ha' hc' ra' =>
      simp only [eqV] at he
      refine ⟨fun op x0 y0 => by simp [eqGuard,hp.2],?_⟩
      have := run_equalIn_struct w 9999 t a' c' (by rw [hf]; exact hu) hp.1
      rw [this,hf]
      exact eqFields_run (.agg ha hc ra) (.agg ha' hc' ra') 9998 w _ _ _ hl he
     | _ => simp [eqV] at he
    | _ => simp [eqV] at he
  ·cases hk
section
variable {P : Program} {ρ : PMap} {w : World} {e : Env} {ev' : Operand → Value} {h : Heap}
theorem zero_of {t : TypeId} {l : List Value} (hz : zeroCells P t = some l) :
  ∃ i z,P.info? t = some i ∧ i.zero = some z ∧ noAddr z = true ∧ isVar z = true ∧ z.cells.size = i.size ∧ 0 < i.size ∧ l = z.cells.toList := by
 unfold zeroCells at hz
 split at hz <;> try cases hz
 rename_i i hi
 split at hz <;> try cases hz
 rename_i z hzz
 split at hz <;> try cases hz
 rename_i hc
 exact ⟨i,z,hi,hzz,hc.1,hc.2.1,hc.2.2.1,hc.2.2.2,rfl⟩
theorem run_zero {t : TypeId} {i : TypeInfo} {z : Value} (hi : P.info? t = some i) (hz : i.zero = some z) (w : World) : (zeroValue t).run P w = .ok z w := by
 simp [zeroValue,typeInfo,hi,hz]
theorem noAddr_cells {z : Value} (hn : noAddr z = true) (hv : Sim.isVar z = true) (ρ : PMap) : LRel ρ z.cells.toList z.cells.toList ∧ ∀ v ∈ z.cells.toList,Sim.isCell v = true :=
 ⟨(noAddr_self ρ z hn).cells,(noAddr_self ρ z hn).cellsOk hv⟩
theorem foldl_set (vs : List Value) : ∀ (off k : Nat) (cs : Array Value),((vs.zipIdx k).foldl (fun (cs : Array Value) x => cs.setIfInBounds (off + x.2) x.1) cs).toList = writeAt cs.toList (off + k) vs := by
 induction vs with
 | nil => intro off k cs; simp [writeAt]
 | cons v vs ih =>
  intro off k cs
  rw [List.zipIdx_cons,List.foldl_cons,ih off (k + 1)]
  simp [writeAt,Nat.add_assoc]
theorem fill_rel (place : Nat → Option (Nat × Nat)) : ∀ (parts : List (Nat × Value)) (parts' : List (Nat × Value)) (cells : List Value) (cells' : Array Value) (out : List Value),
  parts.length = parts'.length → (∀ (i : Nat) p,parts[i]? = some p → ∃ p',parts'[i]? = some p' ∧ p'.1 = p.1 ∧ VRel ρ p.2 p'.2) → LRel ρ cells cells'.toList → (∀ v ∈ cells,Sim.isCell v = true) → fillL place cells parts = some out →
  ∃ out',Instr.fill place cells' parts' = some out' ∧ LRel ρ out out'.toList ∧ (∀ v ∈ out,Sim.isCell v = true)
 | [],[],cells,cells',out,_,_,hr,hc,hf => by
  simp [fillL] at hf; subst hf
  exact ⟨cells',rfl,hr,hc⟩
 | [],_ :: _,_,_,_,hl,_,_,_,_ => by simp at hl
 | _ :: _,[],_,_,_,hl,_,_,_,_ => by simp at hl
 | (i,v) :: r,(i',v') :: r',cells,cells',out,hl,hp,hr,hc,hf => by
  obtain ⟨p',h1,h2,h3⟩ := hp 0 (i,v) rfl
  simp at h1; subst h1
  simp at h2; subst h2
  simp only [fillL] at hf
  cases hpl : place i' with
  | none => rw [hpl] at hf; cases hf
  | some os =>
   obtain ⟨off,size⟩ := os
   rw [hpl] at hf
   simp only at hf
   split at hf
   ·rename_i hcond
    obtain ⟨hv,hsz,hfit⟩ := hcond
    have hsz' : v'.cells.size = size := by have := h3.cells.1; simp at this; omega
    have hlen : cells'.size = cells.length := by have := hr.1; simpa using this.symm
    simp only [Instr.fill,hpl]
    rw [if_neg (by simp [hsz']; omega)]
    refine fill_rel place r r' _ _ out (by simpa using hl) (fun j p hj => by simpa using hp (j + 1) p (by simpa using hj)) ?_ ?_ hf
    ·have e1 : (Array.foldl (fun (cs : Array Value) x => cs.setIfInBounds (off + x.2) x.1) cells' v'.cells.zipIdx).toList = writeAt cells'.toList off v'.cells.toList := by
      rw [← Array.foldl_toList,Array.toList_zipIdx]
      exact foldl_set v'.cells.toList off 0 cells'
     rw [e1]
     exact LRel.writeAt off hr h3.cells
    ·exact writeAt_cells _ _ _ hc (h3.cellsOk hv)
   ·cases hf
theorem parts_rel {parts : List (Nat × Operand)} (hops : ∀ p ∈ parts,VRel ρ (ev e p.2) (ev' p.2)) :
  (parts.map fun p => (p.1,ev e p.2)).length = (parts.map fun p => (p.1,ev' p.2)).length ∧
  ∀ (i : Nat) p,(parts.map fun p => (p.1,ev e p.2))[i]? = some p → ∃ p',(parts.map fun p => (p.1,ev' p.2))[i]? = some p' ∧ p'.1 = p.1 ∧ VRel ρ p.2 p'.2 := by
 refine ⟨by simp,fun i p hp => ?_⟩
 rw [List.getElem?_map] at hp
 cases hi : parts[i]? with
 | none => rw [hi] at hp; cases hp
 | some q =>
  rw [hi] at hp
  simp at hp; subst hp
  exact ⟨(q.1,ev' q.2),by rw [List.getElem?_map,hi]; rfl,rfl,hops q (List.mem_of_getElem? hi)⟩
theorem args_rel {l : List Operand} (hops : ∀ x ∈ l,VRel ρ (ev e x) (ev' x)) : LRel ρ (l.map (ev e)) (l.map ev') := by
 refine ⟨by simp,fun i v hv => ?_⟩
 rw [List.getElem?_map] at hv
 cases hi : l[i]? with
 | none => rw [hi] at hv; cases hv
 | some q =>
  rw [hi] at hv
  simp at hv; subst hv
  exact ⟨ev' q,by rw [List.getElem?_map,hi]; rfl,hops q (List.mem_of_getElem? hi)⟩
theorem places_spec : ∀ (fs : List Field) (pl : List (Nat × Nat)),placesOf P fs = some pl → pl.length = fs.length ∧ (fs.mapM fun f => (do pure (f.offset,← sizeOf f.type) : Sem (Nat × Nat))).run P w = .ok pl w
 | [],pl,h => by simp [placesOf] at h; subst h; simp
 | f :: r,pl,h => by
  simp only [placesOf] at h
  split at h <;> try cases h
  rename_i n l h1 h2
  obtain ⟨a,b⟩ := places_spec r l h2
  refine ⟨by simp [a],?_⟩
  simp only [List.mapM_cons,Sem.run_bind,size_of h1,Result.andThen_ok,Sem.run_pure,b]
theorem VRel.int_inv {k : IntKind} {n : Int} {v' : Value} (hv : VRel ρ (.int k n) v') : v' = .int k n := by cases hv; rfl
theorem VRel.bool_inv {b : Bool} {v' : Value} (hv : VRel ρ (.bool b) v') : v' = .bool b := by cases hv; rfl
theorem VRel.str_inv {b : ByteArray} {v' : Value} (hv : VRel ρ (.string b) v') : v' = .string b := by cases hv; rfl
theorem bnd_run {v v' : Value} {y y' n : Nat} (hv : VRel ρ v v') (hb : bnd v y = some n) (hy : y ≤ y') (code : BoundsCode) (w : World) : (Instr.sliceBound v' y' code).run P w = .ok n w ∧ n ≤ y := by
 cases v <;> simp only [bnd] at hb <;> try cases hb
 case int k i =>
  have := hv.int_inv; subst this
  split at hb <;> try cases hb
  rename_i hi
  refine ⟨?_,by omega⟩
  have h1 : 0 ≤ i ∧ i ≤ (y' : Int) := by omega
  simp only [Instr.sliceBound,asIntOf,Sem.run_bind,Sem.run_pure,Result.andThen_ok]
  rw [if_pos h1]
  rfl
theorem bounds_run (b : Bool) {lo hi lo' hi' : Option Value}
  (hlo : (lo = none ∧ lo' = none) ∨ ∃ a a',lo = some a ∧ lo' = some a' ∧ VRel ρ a a') (hhi : (hi = none ∧ hi' = none) ∨ ∃ a a',hi = some a ∧ hi' = some a' ∧ VRel ρ a a')
  (len cap : Nat) (T l : Nat) (hle : len ≤ cap) (h1 : bndO hi len len = some T) (h2 : bndO lo T 0 = some l) (w : World) :
  (Instr.sliceBounds b len cap lo' hi' none).run P w = .ok (l,T,cap) w ∧ T ≤ len ∧ l ≤ T := by
 rcases hhi with ⟨rfl,rfl⟩ | ⟨a,a',rfl,rfl,ha⟩
 ·simp [bndO] at h1; subst h1
  rcases hlo with ⟨rfl,rfl⟩ | ⟨c,c',rfl,rfl,hc⟩
  ·simp [bndO] at h2; subst h2
   exact ⟨by simp [Instr.sliceBounds],Nat.le_refl _,Nat.zero_le _⟩
  ·have hb := fun code => bnd_run (P := P) hc h2 (Nat.le_refl _) code w
   exact ⟨by simp [Instr.sliceBounds,(hb _).1],Nat.le_refl _,(hb .sliceB).2⟩
 ·have ha' := fun code => bnd_run (P := P) ha h1 hle code w
  rcases hlo with ⟨rfl,rfl⟩ | ⟨c,c',rfl,rfl,hc⟩
  ·simp [bndO] at h2; subst h2
   exact ⟨by simp [Instr.sliceBounds,(ha' _).1],(ha' .sliceB).2,Nat.zero_le _⟩
  ·have hb := fun code => bnd_run (P := P) hc h2 (Nat.le_refl _) code w
   exact ⟨by simp [Instr.sliceBounds,(hb _).1,(ha' _).1],(ha' .sliceB).2,(hb .sliceB).2⟩
theorem sliceV_run {t el : TypeId} {esz : Nat} (hu : P.underlying t = some (.slice el)) (hsz : sizeT P el = some esz) {x x' v : Value} (hx : VRel ρ x x') {lo hi lo' hi' : Option Value}
  (hlo : (lo = none ∧ lo' = none) ∨ ∃ a a',lo = some a ∧ lo' = some a' ∧ VRel ρ a a') (hhi : (hi = none ∧ hi' = none) ∨ ∃ a a',hi = some a ∧ hi' = some a' ∧ VRel ρ a a')
  (hs : sliceV esz x lo hi = some v) : ∃ v',(∀ w,(Instr.sliceAt t x' lo' hi' none).run P w = .ok v' w) ∧ VRel ρ v v' := by
 have key : ∀ (len cap T l : Nat),len ≤ cap → bndO hi len len = some T → bndO lo T 0 = some l → (∀ w,(Instr.sliceBounds true len cap lo' hi' none).run P w = .ok (l,T,cap) w) ∧ T ≤ len ∧ l ≤ T :=
  fun len cap T l hle h1 h2 => ⟨fun w => (bounds_run (P := P) true hlo hhi len cap T l hle h1 h2 w).1,(bounds_run (P := P) true hlo hhi len cap T l hle h1 h2 default).2⟩
 have hsl : ∀ w lo hi mx,(Instr.sliceAt t x' lo hi mx).run P w = (Instr.slice t x' lo hi mx).run P w := by
  intro w lo hi mx
  simp only [Instr.sliceAt,Sem.run_bind,run_und hu,Result.andThen_ok]
 simp only [hsl]
 cases hx with
 | nilS =>
  simp only [sliceV] at hs
  split at hs <;> try cases hs
  rename_i T h1
  split at hs <;> try cases hs
  rename_i l h2
  obtain ⟨hb,hT,hl⟩ := key 0 0 T l (Nat.le_refl _) h1 h2
  obtain rfl : T = 0 := by omega
  obtain rfl : l = 0 := by omega
  refine ⟨.slice none 0 0,fun w => ?_,.nilS⟩
  simp only [Instr.slice,Sem.run_bind,run_und hu,Result.andThen_ok,hb,size_of hsz,Sem.run_pure,if_true]
 | @slice id off n c cap p hp hz hn hc =>
  simp only [sliceV] at hs
  split at hs <;> try cases hs
  rename_i T h1
  split at hs <;> try cases hs
  rename_i l h2
  split at hs <;> try cases hs
  rename_i hce
  obtain ⟨hb,hT,hl⟩ := key n cap T l hn h1 h2
  have hrun : ∀ w,(Instr.slice t (.slice (some ⟨p.b,p.base + off,none⟩) n cap) lo' hi' none).run P w =
    .ok (.slice (if cap = l then some ⟨p.b,p.base + off,none⟩ else (some ⟨p.b,p.base + off,none⟩ : Option Addr).map (·.add (l * esz))) (T - l) (cap - l)) w := by
   intro w
   simp only [Instr.slice,Sem.run_bind,run_und hu,Result.andThen_ok,hb,size_of hsz,Sem.run_pure]
  refine ⟨_,hrun,?_⟩
  by_cases hcl : cap = l
  ·rw [if_pos hcl]
   have e1 : T - l = 0 := by omega
   have e2 : cap - l = 0 := by omega
   rw [e1,e2]
   exact .sliceE hp
  ·rw [if_neg hcl]
   simp only [Option.map_some,addr_add]
   rw [Nat.add_assoc]
   refine .slice hp (by omega) (by omega) ?_
   have : (cap - l) * p.esz + l * p.esz = cap * p.esz := by rw [← Nat.add_mul]; congr 1; omega
   rw [hz,hce] at this hc ⊢
   omega
 | @sliceE id off c p a hp =>
  simp only [sliceV] at hs
  split at hs <;> try cases hs
  rename_i T h1
  split at hs <;> try cases hs
  rename_i l h2
  split at hs <;> try cases hs
  obtain ⟨hb,hT,hl⟩ := key 0 0 T l (Nat.le_refl _) h1 h2
  obtain rfl : T = 0 := by omega
  obtain rfl : l = 0 := by omega
  refine ⟨.slice (some a) 0 0,fun w => ?_,.sliceE hp⟩
  simp only [Instr.slice,Sem.run_bind,run_und hu,Result.andThen_ok,hb,size_of hsz,Sem.run_pure,if_true]
 | _ => simp [sliceV] at hs
theorem sliceSV_run {t : TypeId} (hu : P.underlying t = some .string) {x x' v : Value} (hx : VRel ρ x x') {lo hi lo' hi' : Option Value}
  (hlo : (lo = none ∧ lo' = none) ∨ ∃ a a',lo = some a ∧ lo' = some a' ∧ VRel ρ a a') (hhi : (hi = none ∧ hi' = none) ∨ ∃ a a',hi = some a ∧ hi' = some a' ∧ VRel ρ a a')
  (hs : sliceSV x lo hi = some v) : ∃ v',(∀ w,(Instr.sliceAt t x' lo' hi' none).run P w = .ok v' w) ∧ VRel ρ v v' := by
 cases x <;> simp only [sliceSV] at hs <;> try cases hs
 rename_i s
 have := hx.str_inv; subst this
 split at hs <;> try cases hs
 rename_i T h1
 split at hs <;> try cases hs
 rename_i l h2
 refine ⟨_,fun w => ?_,.str _⟩
 have hb := (bounds_run (P := P) false hlo hhi s.size s.size T l (Nat.le_refl _) h1 h2 w).1
 simp only [Instr.sliceAt,Instr.slice,Sem.run_bind,run_und hu,Result.andThen_ok,Option.isSome_none,Bool.false_eq_true,if_false,Sem.run_pure,hb]
theorem optRel {o : Option Operand} (ho : ∀ x ∈ o.toArray,VRel ρ (ev e x) (ev' x)) :
  (o.map (ev e) = none ∧ o.map ev' = none) ∨ ∃ a a',o.map (ev e) = some a ∧ o.map ev' = some a' ∧ VRel ρ a a' := by
 cases o with
 | none => exact .inl ⟨rfl,rfl⟩
 | some x => exact .inr ⟨_,_,rfl,rfl,ho x (by simp)⟩
theorem part_run {t : TypeId} {g : Bool} {n : Nat} (hg : aggT P t = some g) (hn : sizeT P t = some n) {cs cs' : Array Value} (hr : VRel ρ (.agg cs) (.agg cs')) (off : Nat) :
  (g = true → off + n ≤ cs.size → ∃ v',(∀ w,(part t cs' off).run P w = .ok v' w) ∧ VRel ρ (.agg (cs.extract off (off + n))) v') ∧
  (g = false → ∀ v,cs[off]? = some v → ∃ v',(∀ w,(part t cs' off).run P w = .ok v' w) ∧ VRel ρ v v') := by
 cases hr with
 | agg ha hc ra =>
  refine ⟨fun hgt hle => ⟨.agg (cs'.extract off (off + n)),fun w => ?_,?_⟩,fun hgf v hv => ?_⟩
  ·subst hgt
   simp only [part,Sem.run_bind,agg_of hg,Result.andThen_ok,if_true,size_of hn,Sem.run_pure]
  ·refine .agg (by simp [ha]) (fun i hi => ?_) (fun i hi hi' => ?_)
   ·simp at hi
    simp only [Array.getElem_extract]
    exact hc _ (by omega)
   ·simp at hi hi'
    simp only [Array.getElem_extract]
    exact ra _ (by omega) (by omega)
  ·subst hgf
   have hi := (Array.getElem?_eq_some_iff.1 hv).1
   have hx := ra off hi (ha ▸ hi)
   rw [(Array.getElem?_eq_some_iff.1 hv).2] at hx
   refine ⟨_,fun w => ?_,hx⟩
   simp only [part,Sem.run_bind,agg_of hg,Result.andThen_ok,Bool.false_eq_true,if_false]
   rw [Array.getElem?_eq_getElem (ha ▸ hi)]
   rfl
theorem fold_rel {f : Value → Value → Option Value} {g : Value → Value → Sem Value} (hfg : ∀ x x' y y' v,VRel ρ x x' → VRel ρ y y' → f x y = some v → ∃ v',(∀ w,(g x' y').run P w = .ok v' w) ∧ VRel ρ v v') :
  ∀ (l l' : List Value) (x x' v : Value),LRel ρ l l' → VRel ρ x x' → foldO f x l = some v → ∃ v',(∀ w,(l'.foldlM g x').run P w = .ok v' w) ∧ VRel ρ v v'
 | [],l',x,x',v,hl,hx,hf => by
  simp [foldO] at hf; subst hf
  have : l' = [] := List.eq_nil_of_length_eq_zero (by have := hl.1; simpa using this.symm)
  subst this
  exact ⟨x',fun w => by simp,hx⟩
 | y :: l,l',x,x',v,hl,hx,hf => by
  cases l' with
  | nil => have := hl.1; simp at this
  | cons y' l' =>
   obtain ⟨y0,h1,hy⟩ := hl.2 0 y rfl
   simp at h1; subst h1
   simp only [foldO] at hf
   cases hz : f x y with
   | none => rw [hz] at hf; cases hf
   | some z =>
    rw [hz] at hf
    obtain ⟨z',hz',hzr⟩ := hfg x x' y y' z hx hy hz
    obtain ⟨v',hv',hvr⟩ := fold_rel hfg l l' z z' v ⟨by have := hl.1; simpa using this,fun i a ha => by simpa using hl.2 (i + 1) a (by simpa using ha)⟩ hzr hf
    exact ⟨v',fun w => by simp only [List.foldlM_cons,Sem.run_bind,hz',Result.andThen_ok,hv'],hvr⟩
theorem min2_rel (x x' y y' v : Value) (hx : VRel ρ x x') (hy : VRel ρ y y') (h : min2V x y = some v) : ∃ v',(∀ w,(Builtin.min2 x' y').run P w = .ok v' w) ∧ VRel ρ v v' := by
 cases hx <;> cases hy <;> simp only [min2V] at h <;> try cases h
 exact ⟨_,fun w => rfl,.int _ _⟩
theorem max2_rel (x x' y y' v : Value) (hx : VRel ρ x x') (hy : VRel ρ y y') (h : max2V x y = some v) : ∃ v',(∀ w,(Builtin.max2 x' y').run P w = .ok v' w) ∧ VRel ρ v v' := by
 cases hx <;> cases hy <;> simp only [max2V] at h <;> try cases h
 exact ⟨_,fun w => rfl,.int _ _⟩
theorem exec_builtin (b : Builtin) (args : Array Operand) (argTypes : Array TypeId) (dst : Option Tmp) (ty : TypeId) (pos : String) (after : Array Edge) (guard : Option (Nat × Bool)) :
  ∃ cs,execOp ev' { dst,op := .call { callee := .builtin b,args,argTypes },type := ty,pos,after,guard } = builtin b argTypes ty cs (args.map ev') := by
 exact ⟨_,rfl⟩
theorem simBuild {t : TypeId} {parts : Array (Nat × Operand)} {rop : ROp} (hc : compileOp P (.build t parts) = some rop) (hops : ∀ p ∈ parts.toList,VRel ρ (ev e p.2) (ev' p.2)) {v : Value} {h' : Heap} (hs : stepOp rop e h = some (v,h')) :
  h' = h ∧ ∃ v',(∀ w,OpGives P (.build t parts) ev' w v') ∧ VRel ρ v v' := by
 have hpr := parts_rel (e := e) (ev' := ev') (ρ := ρ) (parts := parts.toList) hops
 have hparts : (parts.map fun (i,x) => (i,ev' x)).toList = parts.toList.map fun p => (p.1,ev' p.2) := by simp
 simp only [compileOp] at hc
 cases hu : P.underlying t with
 | none => rw [hu] at hc; cases hc
 | some d =>
  cases hz : zeroCells P t with
  | none => rw [hu,hz] at hc; cases d <;> cases hc
  | some z =>
   rw [hu,hz] at hc
   obtain ⟨i,zv,hi,hzv,hna,hva,hsz,hpos,rfl⟩ := zero_of hz
   obtain ⟨hl,hcel⟩ := noAddr_cells hna hva ρ
   cases d <;> simp only at hc <;> try cases hc
   case struct fs =>
    cases hpl : placesOf P fs.toList with
    | none => rw [hpl] at hc; cases hc
    | some pl =>
     rw [hpl] at hc; simp at hc; subst hc
     simp only [stepOp] at hs
     split at hs <;> try cases hs
     rename_i cs hf
     obtain ⟨out',hf',hr,hcc⟩ := fill_rel (ρ := ρ) _ _ _ _ zv.cells _ hpr.1 hpr.2 hl hcel hf
     refine ⟨rfl,.agg out',fun w dst ty pos after guard => ?_,by have := hr.agg hcc; simpa using this⟩
     have hm : ∀ w,(fs.mapM fun f => (do pure (f.offset,← sizeOf f.type) : Sem (Nat × Nat))).run P w = .ok pl.toArray w := by
      intro w
      obtain ⟨l⟩ := fs
      rw [List.mapM_toArray]
      simp only [Sem.run_map,(places_spec (P := P) (w := w) l pl hpl).2,Result.andThen_ok]
     have hf2 : Instr.fill (fun x => pl.toArray[x]?) zv.cells (parts.toList.map fun p => (p.1,ev' p.2)) = some out' := by
      rw [← hf']; congr 1; funext x; simp
     simp only [execOp,Sem.run_bind,Instr.build,run_zero hi hzv,Result.andThen_ok,run_und hu,hm,hparts,hf2,Sem.run_pure]
   case array n el =>
    cases hse : sizeT P el with
    | none => rw [hse] at hc; cases hc
    | some s =>
     rw [hse] at hc; simp at hc; subst hc
     simp only [stepOp] at hs
     split at hs <;> try cases hs
     rename_i cs hf
     have hmono : ∀ (ps : List (Nat × Value)) (c out : List Value),fillL (fun i => ((List.range n).map fun i => (i * s,s))[i]?) c ps = some out → fillL (fun i => some (i * s,s)) c ps = some out := by
      intro ps
      induction ps with
      | nil => intro c out h; exact h
      | cons p ps ih =>
       intro c out h
       obtain ⟨i,x⟩ := p
       simp only [fillL] at h ⊢
       by_cases hin : i < n
       ·have : ((List.range n).map fun i => (i * s,s))[i]? = some (i * s,s) := by simp [hin]
        rw [this] at h
        simp only at h ⊢
        split at h
        ·rename_i hcnd; rw [if_pos hcnd]; exact ih _ _ h
        ·cases h
       ·have : ((List.range n).map fun i => (i * s,s))[i]? = none := by simp [hin]
        rw [this] at h; cases h
     obtain ⟨out',hf',hr,hcc⟩ := fill_rel (ρ := ρ) _ _ _ _ zv.cells _ hpr.1 hpr.2 hl hcel (hmono _ _ _ hf)
     refine ⟨rfl,.agg out',fun w dst ty pos after guard => ?_,by have := hr.agg hcc; simpa using this⟩
     simp only [execOp,Sem.run_bind,Instr.build,run_zero hi hzv,Result.andThen_ok,run_und hu,size_of hse,hparts,hf',Sem.run_pure]
theorem simIndex {t : TypeId} {x i : Operand} {rop : ROp} (hc : compileOp P (.index t x i) = some rop) (hx : VRel ρ (ev e x) (ev' x)) (hi : VRel ρ (ev e i) (ev' i)) {v : Value} {h' : Heap} (hs : stepOp rop e h = some (v,h')) :
  h' = h ∧ ∃ v',(∀ w,OpGives P (.index t x i) ev' w v') ∧ VRel ρ v v' := by
 simp only [compileOp] at hc
 cases hu : P.underlying t with
 | none => rw [hu] at hc; cases hc
 | some d =>
  rw [hu] at hc
  cases d <;> simp only at hc <;> try cases hc
  case array n el =>
   split at hc <;> try cases hc
   rename_i g s hg hsz
   simp only [stepOp] at hs
   split at hs <;> try cases hs
   rename_i cs k j hxe hie
   rw [hxe] at hx
   rw [hie] at hi
   have hi' := hi.int_inv
   split at hs <;> try cases hs
   rename_i hj
   cases hx' : ev' x <;> rw [hx'] at hx <;> try (cases hx; done)
   rename_i cs'
   obtain ⟨p1,p2⟩ := part_run hg hsz hx (j.toNat * s)
   split at hs
   ·split at hs <;> try cases hs
    rename_i hle
    obtain ⟨v',a,b⟩ := p1 rfl hle
    refine ⟨rfl,v',fun w dst ty pos after guard => ?_,b⟩
    simp only [execOp,Sem.run_bind,Instr.index,hi',asIntOf,Sem.run_pure,Result.andThen_ok,run_und hu,hx',size_of hsz,hj,and_self,if_true,a,Sem.run_ite]
   ·split at hs <;> try cases hs
    rename_i hv
    obtain ⟨v',a,b⟩ := p2 rfl _ hv
    refine ⟨rfl,v',fun w dst ty pos after guard => ?_,b⟩
    simp only [execOp,Sem.run_bind,Instr.index,hi',asIntOf,Sem.run_pure,Result.andThen_ok,run_und hu,hx',size_of hsz,hj,and_self,if_true,a,Sem.run_ite]
  simp only [stepOp] at hs
  split at hs <;> try cases hs
  rename_i s k j hxe hie
  rw [hxe] at hx
  rw [hie] at hi
  have hx' := hx.str_inv
  have hi' := hi.int_inv
  split at hs <;> try cases hs
  rename_i hj
  split at hs <;> try cases hs
  rename_i b hb
  exact ⟨rfl,_,fun w dst ty pos after guard => by simp [execOp,Instr.index,hx',hi',asIntOf,run_und hu,hj,hb],.int _ _⟩
theorem simIndexAddr {t : TypeId} {x i : Operand} {rop : ROp} (hc : compileOp P (.indexAddr t x i) = some rop) (hx : VRel ρ (ev e x) (ev' x)) (hi : VRel ρ (ev e i) (ev' i)) {v : Value} {h' : Heap} (hs : stepOp rop e h = some (v,h')) :
  h' = h ∧ ∃ v',(∀ w,OpGives P (.indexAddr t x i) ev' w v') ∧ VRel ρ v v' := by
 simp only [compileOp] at hc
 cases hu : P.underlying t with
 | none => rw [hu] at hc; cases hc
 | some d =>
  rw [hu] at hc
  cases d <;> simp only at hc <;> try cases hc
  case array n el =>
   cases hse : sizeT P el with
   | none => rw [hse] at hc; cases hc
   | some s =>
    rw [hse] at hc; simp at hc; subst hc
    simp only [stepOp] at hs
    split at hs <;> try cases hs
    rename_i id o k j hxe hie
    rw [hxe] at hx
    rw [hie] at hi
    have hi' := hi.int_inv
    split at hs <;> try cases hs
    rename_i hj
    cases hx' : ev' x <;> rw [hx'] at hx <;> try (cases hx; done)
    cases hx with
    | @ptr _ _ p hp =>
     refine ⟨rfl,_,fun w dst ty pos after guard => ?_,.ptr (off := o + j.toNat * s) hp⟩
     simp only [execOp,Sem.run_bind,Instr.indexAt,hi',asIntOf,Sem.run_pure,Result.andThen_ok,run_und hu,hx',Instr.sureAddr,hj,and_self,if_true,size_of hse,addr_add,Nat.add_assoc,Sem.run_ite]
  case slice el =>
   cases hse : sizeT P el with
   | none => rw [hse] at hc; cases hc
   | some s =>
    rw [hse] at hc; simp at hc; subst hc
    simp only [stepOp] at hs
    split at hs <;> try cases hs
    rename_i id o len c k j hxe hie
    rw [hxe] at hx
    rw [hie] at hi
    have hi' := hi.int_inv
    split at hs <;> try cases hs
    rename_i hj
    cases hx' : ev' x <;> rw [hx'] at hx <;> try (cases hx; done)
    cases hx with
    | @slice _ _ _ _ cap p hp hz hn hcc =>
     refine ⟨rfl,_,fun w dst ty pos after guard => ?_,.ptr (off := o + j.toNat * s) hp⟩
     simp only [execOp,Sem.run_bind,Instr.indexAt,hi',asIntOf,Sem.run_pure,Result.andThen_ok,run_und hu,hx',hj,and_self,if_true,size_of hse,addr_add,Nat.add_assoc,Sem.run_ite]
    | sliceE => omega
theorem simField {t : TypeId} {x : Operand} {i : Nat} {rop : ROp} (hc : compileOp P (.field t x i) = some rop) (hx : VRel ρ (ev e x) (ev' x)) {v : Value} {h' : Heap} (hs : stepOp rop e h = some (v,h')) :
  h' = h ∧ ∃ v',(∀ w,OpGives P (.field t x i) ev' w v') ∧ VRel ρ v v' := by
 simp only [compileOp] at hc
 cases hu : P.underlying t with
 | none => rw [hu] at hc; cases hc
 | some d =>
  rw [hu] at hc
  cases d <;> simp only at hc <;> try cases hc
  rename_i fs
  cases hf : fs[i]? with
  | none => rw [hf] at hc; cases hc
  | some f =>
   rw [hf] at hc
   simp only at hc
   split at hc <;> try cases hc
   rename_i g n hg hn
   simp only [stepOp] at hs
   split at hs <;> try cases hs
   rename_i cs hxe
   rw [hxe] at hx
   cases hx' : ev' x <;> rw [hx'] at hx <;> try (cases hx; done)
   rename_i cs'
   obtain ⟨p1,p2⟩ := part_run hg hn hx f.offset
   split at hs
   ·split at hs <;> try cases hs
    rename_i hle
    obtain ⟨v',a,b⟩ := p1 rfl hle
    refine ⟨rfl,v',fun w dst ty pos after guard => ?_,b⟩
    simp only [execOp,Sem.run_bind,Instr.field,run_und hu,Result.andThen_ok,hx',asAgg,hf,Sem.run_pure,a]
   ·split at hs <;> try cases hs
    rename_i hv
    obtain ⟨v',a,b⟩ := p2 rfl _ hv
    refine ⟨rfl,v',fun w dst ty pos after guard => ?_,b⟩
    simp only [execOp,Sem.run_bind,Instr.field,run_und hu,Result.andThen_ok,hx',asAgg,hf,Sem.run_pure,a]
theorem simFieldAddr {t : TypeId} {x : Operand} {i : Nat} {rop : ROp} (hc : compileOp P (.fieldAddr t x i) = some rop) (hx : VRel ρ (ev e x) (ev' x)) {v : Value} {h' : Heap} (hs : stepOp rop e h = some (v,h')) :
  h' = h ∧ ∃ v',(∀ w,OpGives P (.fieldAddr t x i) ev' w v') ∧ VRel ρ v v' := by
 simp only [compileOp] at hc
 cases hu : P.underlying t with
 | none => rw [hu] at hc; cases hc
 | some d =>
  rw [hu] at hc
  cases d <;> simp only at hc <;> try cases hc
  rename_i fs
  cases hf : fs[i]? with
  | none => rw [hf] at hc; cases hc
  | some f =>
   rw [hf] at hc
   simp only at hc
   split at hc <;> try cases hc
   rename_i n hn
   simp only [stepOp] at hs
   split at hs <;> try cases hs
   rename_i id o hxe
   rw [hxe] at hx
   cases hx' : ev' x <;> rw [hx'] at hx <;> try (cases hx; done)
   cases hx with
   | @ptr _ _ p hp =>
    refine ⟨rfl,_,fun w dst ty pos after guard => ?_,.ptr (off := o + f.offset) hp⟩
    simp only [execOp,Sem.run_bind,Instr.fieldAt,run_und hu,Result.andThen_ok,hx',Instr.sureAddr,hf,Sem.run_pure,fieldPlace,size_of hn,addr_add,Nat.add_assoc,Nat.succ_ne_zero,if_false,Sem.run_ite]
theorem eqKind_plain {t : TypeId} {k : EqK} (hk : eqKind P t = some k) : k ≠ .int ∧ k ≠ .str := by
 unfold eqKind at hk
 split at hk <;> try cases hk
 ·exact ⟨by simp,by simp⟩
 ·exact ⟨by simp,by simp⟩
 ·exact ⟨by simp,by simp⟩
 ·exact ⟨by simp,by simp⟩
 ·rename_i fs _
  split at hk <;> try cases hk
  cases hf : fieldsK P fs.toList with
  | none => rw [hf] at hk; cases hk
  | some l => rw [hf] at hk; simp at hk; subst hk; exact ⟨by simp,by simp⟩
theorem binOp_eq {t : TypeId} {k : EqK} (hk : k ≠ .int ∧ k ≠ .str) {x x' y y' : Value} {b : Bool} (hx : VRel ρ x x') (hy : VRel ρ y y') (he : eqV k x y = some b) :
  binOp .eql t x' y' = (do pure (.bool (← Op.equal t x' y'))) ∧ binOp .neq t x' y' = (do pure (.bool (!(← Op.equal t x' y')))) := by
 cases hx <;> cases hy <;> first | exact ⟨rfl,rfl⟩ | (exfalso; cases k <;> simp_all [eqV])
theorem simBin {op : BinOp} {t ty : TypeId} {x y : Operand} {rop : ROp} (hc : compileOp P (.binOp op t x y ty) = some rop) (hx : VRel ρ (ev e x) (ev' x)) (hy : VRel ρ (ev e y) (ev' y)) {v : Value} {h' : Heap} (hs : stepOp rop e h = some (v,h')) :
  h' = h ∧ ∃ v',(∀ w,OpGives P (.binOp op t x y ty) ev' w v') ∧ VRel ρ v v' := by
 have hbin : rop = .bin op x y → h' = h ∧ ∃ v',(∀ w,OpGives P (.binOp op t x y ty) ev' w v') ∧ VRel ρ v v' := by
  intro hr
  subst hr
  simp only [stepOp] at hs
  split at hs <;> try cases hs
  rename_i hb
  cases hxe : ev e x <;> rw [hxe] at hb hx <;> simp only [binV] at hb <;> try (cases hb; done)
  ·cases hye : ev e y <;> rw [hye] at hb hy <;> simp only at hb <;> try (cases hb; done)
   have hx' := hx.int_inv
   have hy' := hy.int_inv
   refine ⟨rfl,v,fun w dst ty pos after guard => ?_,?_⟩
   ·have hg : ∀ w,(eqGuard op t x y (ev' x) (ev' y)).run P w = .ok () w := by
     intro w; rw [hx',hy']; simp [eqGuard]
    simp only [execOp,Sem.run_bind,hg,Result.andThen_ok]
    rw [hx',hy',run_binI hb]
    rfl
   ·have : ∀ {op k k' a b} {v : Value},binI op k a k' b = some v → noAddr v = true := by
     intro op k k' a b v hb
     cases op <;> simp only [binI] at hb <;> (repeat (split at hb <;> try cases hb)) <;> (try (injection hb with hb; subst hb)) <;> rfl
    exact noAddr_self ρ v (this hb)
  ·cases hye : ev e y <;> rw [hye] at hb hy <;> simp only at hb <;> try (cases hb; done)
   have hx' := hx.str_inv
   have hy' := hy.str_inv
   refine ⟨rfl,v,fun w dst ty pos after guard => ?_,?_⟩
   ·have hg : ∀ w,(eqGuard op t x y (ev' x) (ev' y)).run P w = .ok () w := by
     intro w; rw [hx',hy']; simp [eqGuard]
    simp only [execOp,Sem.run_bind,hg,Result.andThen_ok]
    rw [hx',hy',run_binS hb]
    rfl
   ·have : ∀ {op a b} {v : Value},binS op a b = some v → noAddr v = true := by
     intro op a b v hb
     cases op <;> simp only [binS] at hb <;> (repeat (split at hb <;> try cases hb)) <;> (try (injection hb with hb; subst hb)) <;> (try cases hb) <;> rfl
    exact noAddr_self ρ v (this hb)
 simp only [compileOp] at hc
 split at hc
 ·injection hc with hc; exact hbin hc.symm
 ·injection hc with hc; exact hbin hc.symm
 ·cases op <;> simp only at hc <;> try (cases hc; done)
  all_goals
   cases hk : eqKind P t with
   | none => rw [hk] at hc; cases hc
   | some k =>
    rw [hk] at hc; simp at hc; subst hc
    simp only [stepOp] at hs
    split at hs <;> try cases hs
    rename_i hb
    have hrun := fun w => run_eq (P := P) hk hx hy hb w
    obtain ⟨d1,d2⟩ := binOp_eq (t := t) (eqKind_plain hk) hx hy hb
    refine ⟨rfl,_,fun w dst ty pos after guard => ?_,.bool _⟩
    simp only [execOp,Sem.run_bind,(hrun _).1,Result.andThen_ok]
    first | rw [d1] | rw [d2]
    simp only [Sem.run_bind,(hrun _).2,Result.andThen_ok,Sem.run_pure]
theorem compileCall_inv {c : Call} {rop : ROp} (hc : compileCall P c = some rop) :
  (∃ f args tys,c = ⟨.value f,args,tys⟩ ∧ calleeOk f = true ∧ rop = .call f args.toList) ∨
  (∃ x t,c = ⟨.builtin .len,#[x],#[t]⟩ ∧ ((P.underlying t = some .string ∧ rop = .lenS x) ∨ (∃ el,P.underlying t = some (.slice el)) ∧ rop = .len x)) ∨
  (∃ x xs tys,c = ⟨.builtin .min,⟨x :: xs⟩,tys⟩ ∧ rop = .min (x :: xs)) ∨
  (∃ x xs tys,c = ⟨.builtin .max,⟨x :: xs⟩,tys⟩ ∧ rop = .max (x :: xs)) ∨
  (∃ x y t u el i z,c = ⟨.builtin .append,#[x,y],#[t,u]⟩ ∧ P.underlying t = some (.slice el) ∧ P.info? el = some i ∧ zeroCells P el = some z ∧ (P.underlying u = some .string ∨ ∃ el',P.underlying u = some (.slice el')) ∧ rop = .append i.size i.bytes x y) ∨
  (∃ x y t u el i,c = ⟨.builtin .copy,#[x,y],#[t,u]⟩ ∧ P.underlying t = some (.slice el) ∧ P.info? el = some i ∧ rop = .copy i.size x y) := by
 obtain ⟨callee,args,argTypes⟩ := c
 obtain ⟨args⟩ := args
 obtain ⟨argTypes⟩ := argTypes
 cases callee with
 | value f =>
  simp only [compileCall] at hc
  split at hc
  ·rename_i ho
   injection hc with hc
   exact .inl ⟨f,_,_,rfl,ho,hc.symm⟩
  ·cases hc
 | invoke => simp [compileCall] at hc
 | builtin b =>
  simp only [compileCall] at hc
  split at hc
  ·rename_i x t
   refine .inr (.inl ⟨x,t,rfl,?_⟩)
   split at hc
   ·rename_i hu; injection hc with hc; exact .inl ⟨hu,hc.symm⟩
   ·rename_i el hu; injection hc with hc; exact .inr ⟨⟨_,hu⟩,hc.symm⟩
   ·cases hc
  ·rename_i _ x xs
   injection hc with hc
   exact .inr (.inr (.inl ⟨x,xs,_,rfl,hc.symm⟩))
  ·rename_i _ x xs
   injection hc with hc
   exact .inr (.inr (.inr (.inl ⟨x,xs,_,rfl,hc.symm⟩)))
  ·rename_i x y t u
   refine .inr (.inr (.inr (.inr (.inl ?_))))
   split at hc
   ·rename_i el hu
    split at hc
    ·rename_i i z el' hi hz hu'
     injection hc with hc
     exact ⟨x,y,t,u,el,i,z,rfl,hu,hi,hz,.inr ⟨_,hu'⟩,hc.symm⟩
    ·rename_i i z hi hz hu'
     injection hc with hc
     exact ⟨x,y,t,u,el,i,z,rfl,hu,hi,hz,.inl hu',hc.symm⟩
    ·cases hc
   ·cases hc
  ·rename_i x y t u
   refine .inr (.inr (.inr (.inr (.inr ?_))))
   split at hc
   ·rename_i el hu
    split at hc
    ·rename_i i hi
     injection hc with hc
     exact ⟨x,y,t,u,el,i,rfl,hu,hi,hc.symm⟩
    ·cases hc
   ·cases hc
  ·cases hc
theorem simCallP {c : Call} {rop : ROp} (hc : compileOp P (.call c) = some rop) (hcls : rop.cls = .P) (hops : ∀ x ∈ c.operands,VRel ρ (ev e x) (ev' x)) {v : Value} {h' : Heap} (hs : stepOp rop e h = some (v,h')) :
  h' = h ∧ ∃ v',(∀ w,OpGives P (.call c) ev' w v') ∧ VRel ρ v v' := by
 rcases compileCall_inv hc with ⟨f,args,tys,rfl,_,rfl⟩ | ⟨x,t,rfl,⟨hu,rfl⟩ | ⟨⟨el,hu⟩,rfl⟩⟩ | ⟨x,xs,tys,rfl,rfl⟩ | ⟨x,xs,tys,rfl,rfl⟩ | ⟨x,y,t,u,el,i,z,rfl,_,_,_,_,rfl⟩ | ⟨x,y,t,u,el,i,rfl,_,_,rfl⟩
 ·simp [ROp.cls] at hcls
 ·have hx := hops x (by simp [Call.operands])
  simp only [stepOp] at hs
  split at hs <;> try cases hs
  rename_i s hn
  refine ⟨rfl,_,fun w dst ty pos after guard => ?_,.int _ _⟩
  obtain ⟨cs,he⟩ := exec_builtin (ev' := ev') .len #[x] #[t] dst ty pos after guard
  rw [he]
  rw [hn] at hx
  simp [builtin,Builtin.len_,run_und hu,hx.str_inv,goInt]
 ·have hx := hops x (by simp [Call.operands])
  simp only [stepOp] at hs
  split at hs <;> try cases hs
  rename_i a n c hn
  refine ⟨rfl,_,fun w dst ty pos after guard => ?_,.int _ _⟩
  obtain ⟨cs,he⟩ := exec_builtin (ev' := ev') .len #[x] #[t] dst ty pos after guard
  rw [he]
  rw [hn] at hx
  have hx' : ∃ b c',ev' x = .slice b n c' := by
   generalize ev' x = z at hx
   cases hx
   ·exact ⟨_,_,rfl⟩
   ·exact ⟨_,_,rfl⟩
   ·exact ⟨_,_,rfl⟩
  obtain ⟨b,c',hx'⟩ := hx'
  simp [builtin,Builtin.len_,run_und hu,hx',goInt]
 ·have ha := args_rel (e := e) (ev' := ev') (ρ := ρ) (l := x :: xs) (fun y hy => hops y (by simp [Call.operands]; simpa using hy))
  simp only [stepOp,List.map_cons,fold1] at hs
  split at hs <;> try cases hs
  rename_i hf
  have hl : LRel ρ (xs.map (ev e)) (xs.map ev') := args_rel (fun y hy => hops y (by simp [Call.operands]; exact .inr hy))
  obtain ⟨v',h1,h2⟩ := fold_rel (P := P) (g := Builtin.min2) (fun x x' y y' v hx hy h => min2_rel x x' y y' v hx hy h) _ _ _ _ _ hl (hops x (by simp [Call.operands])) hf
  refine ⟨rfl,v',fun w dst ty pos after guard => ?_,h2⟩
  obtain ⟨cs,he⟩ := exec_builtin (ev' := ev') .min ⟨x :: xs⟩ tys dst ty pos after guard
  rw [he]
  simp [builtin,Builtin.min_,h1]
 ·have hl : LRel ρ (xs.map (ev e)) (xs.map ev') := args_rel (fun y hy => hops y (by simp [Call.operands]; exact .inr hy))
  simp only [stepOp,List.map_cons,fold1] at hs
  split at hs <;> try cases hs
  rename_i hf
  obtain ⟨v',h1,h2⟩ := fold_rel (P := P) (g := Builtin.max2) (fun x x' y y' v hx hy h => max2_rel x x' y y' v hx hy h) _ _ _ _ _ hl (hops x (by simp [Call.operands])) hf
  refine ⟨rfl,v',fun w dst ty pos after guard => ?_,h2⟩
  obtain ⟨cs,he⟩ := exec_builtin (ev' := ev') .max ⟨x :: xs⟩ tys dst ty pos after guard
  rw [he]
  simp [builtin,Builtin.max_,h1]
 ·simp [ROp.cls] at hcls
 ·simp [ROp.cls] at hcls
theorem simP {op : Op} {rop : ROp} (hc : compileOp P op = some rop) (hcls : rop.cls = .P) (hops : ∀ x ∈ op.operands,VRel ρ (ev e x) (ev' x)) {v : Value} {h' : Heap} (hs : stepOp rop e h = some (v,h')) :
  h' = h ∧ ∃ v',(∀ w,OpGives P op ev' w v') ∧ VRel ρ v v' := by
 cases op with
 | move x =>
  simp only [compileOp] at hc; injection hc with hc; subst hc
  simp only [stepOp] at hs; injection hs with hs; injection hs with h1 h2
  subst h1; subst h2
  exact ⟨rfl,ev' x,fun w dst ty pos after guard => rfl,hops x (by simp [Op.operands])⟩
 | assign x =>
  simp only [compileOp] at hc; injection hc with hc; subst hc
  simp only [stepOp] at hs; injection hs with hs; injection hs with h1 h2
  subst h1; subst h2
  exact ⟨rfl,ev' x,fun w dst ty pos after guard => rfl,hops x (by simp [Op.operands])⟩
 | pick c a b =>
  simp only [compileOp] at hc; injection hc with hc; subst hc
  simp only [stepOp] at hs
  have hcc := hops c (by simp [Op.operands])
  have haa := hops a (by simp [Op.operands])
  have hbb := hops b (by simp [Op.operands])
  cases hcv : ev e c <;> rw [hcv] at hs hcc <;> simp only at hs <;> try (cases hs; done)
  rename_i t
  have hce := hcc.bool_inv
  cases t <;> simp only at hs
  ·injection hs with hs; injection hs with h1 h2
   subst h1; subst h2
   exact ⟨rfl,ev' b,fun w dst ty pos after guard => by simp [execOp,hce,asBool],hbb⟩
  ·injection hs with hs; injection hs with h1 h2
   subst h1; subst h2
   exact ⟨rfl,ev' a,fun w dst ty pos after guard => by simp [execOp,hce,asBool],haa⟩
 | alloc t =>
  simp only [compileOp] at hc
  cases hz : zeroCells P t with
  | none => rw [hz] at hc; cases hc
  | some l => rw [hz] at hc; simp at hc; subst hc; simp [ROp.cls] at hcls
 | box t x => simp only [compileOp] at hc; injection hc with hc; subst hc; simp [ROp.cls] at hcls
 | build t parts => exact simBuild hc (fun p hp => hops p.2 (by simp [Op.operands]; exact ⟨p.1,by simpa using hp⟩)) hs
 | buildSlice t n parts =>
  simp only [compileOp] at hc
  repeat (split at hc <;> try (cases hc; done))
  injection hc with hc; subst hc; simp [ROp.cls] at hcls
 | load t a =>
  simp only [compileOp] at hc
  repeat (split at hc <;> try (cases hc; done))
  injection hc with hc; subst hc; simp [ROp.cls] at hcls
 | store t a x =>
  simp only [compileOp] at hc
  repeat (split at hc <;> try (cases hc; done))
  injection hc with hc; subst hc; simp [ROp.cls] at hcls
 | nilCheck x =>
  simp only [compileOp] at hc; injection hc with hc; subst hc
  have hx := hops x (by simp [Op.operands])
  simp only [stepOp] at hs
  split at hs <;> try cases hs
  ·rename_i a hxe
   rw [hxe] at hx
   cases hx' : ev' x <;> rw [hx'] at hx <;> try (cases hx; done)
   cases hx with
   | ptr hp => exact ⟨rfl,_,fun w dst ty pos after guard => by simp [execOp,hx'],.ptr hp⟩
  ·rename_i f a b hxe
   rw [hxe] at hx
   cases hx' : ev' x <;> rw [hx'] at hx <;> try (cases hx; done)
   cases hx with
   | func _ ha hb ra rb => exact ⟨rfl,_,fun w dst ty pos after guard => by simp [execOp,hx'],.func _ ha hb ra rb⟩
 | binOp op t x y ty => exact simBin hc (hops x (by simp [Op.operands])) (hops y (by simp [Op.operands])) hs
 | unOp op t x =>
  simp only [compileOp] at hc; injection hc with hc; subst hc
  have hx := hops x (by simp [Op.operands])
  simp only [stepOp] at hs
  split at hs <;> try cases hs
  rename_i hu
  cases hxe : ev e x <;> rw [hxe] at hx hu <;> simp only [unV] at hu <;> try (cases hu; done)
  ·have hx' := hx.bool_inv
   cases op <;> simp only at hu <;> try (cases hu; done)
   injection hu with hu; subst hu
   exact ⟨rfl,_,fun w dst ty pos after guard => by simp [execOp,hx',Op.unary],.bool _⟩
  ·have hx' := hx.int_inv
   cases op <;> simp only at hu <;> try (cases hu; done)
   ·injection hu with hu; subst hu
    exact ⟨rfl,_,fun w dst ty pos after guard => by simp [execOp,hx',Op.unary,Op.intArith],.int _ _⟩
   ·injection hu with hu; subst hu
    exact ⟨rfl,_,fun w dst ty pos after guard => by simp [execOp,hx',Op.unary,Op.intBits],.int _ _⟩
 | convert src dst x =>
  have hx := hops x (by simp [Op.operands])
  simp only [compileOp] at hc
  split at hc
  ·rename_i k0 k h1 h2
   injection hc with hc; subst hc
   simp only [stepOp] at hs
   split at hs <;> try cases hs
   rename_i q n hxe
   rw [hxe] at hx
   exact ⟨rfl,_,fun w dst ty pos after guard => by simp [execOp,hx.int_inv,convert,run_und h1,run_und h2,Conv.intToInt],.int _ _⟩
  ·rename_i h1 h2
   injection hc with hc; subst hc
   simp only [stepOp] at hs
   split at hs <;> try cases hs
   rename_i s hxe
   rw [hxe] at hx
   exact ⟨rfl,_,fun w dst ty pos after guard => by simp [execOp,hx.str_inv,convert,run_und h1,run_und h2],.str _⟩
  ·cases hc
 | makeFunc fn first captured =>
  cases fn <;> simp only [compileOp] at hc <;> try (cases hc; done)
  rename_i f
  injection hc with hc
  subst hc
  simp only [stepOp] at hs
  injection hs with hs; injection hs with h1 h2
  subst h1; subst h2
  have hl := args_rel (e := e) (ev' := ev') (ρ := ρ) (l := captured.toList) (fun y hy => hops y (by simp [Op.operands] at hy ⊢; exact .inr hy))
  have hf := args_rel (e := e) (ev' := ev') (ρ := ρ) (l := first.toList) (fun y hy => hops y (by simp [Op.operands] at hy ⊢; exact .inl hy))
  refine ⟨rfl,.func (.func f) (first.map ev') (captured.map ev'),fun w dst ty pos after guard => by simp [execOp,Instr.makeFunc],.func _ (by simp) (by simp) ?_ ?_⟩
  ·intro i hi hi'
   have := hf.toArray i (by simpa using hi) (by simpa using hi')
   simpa using this
  ·intro i hi hi'
   have := hl.toArray i (by simpa using hi) (by simpa using hi')
   simpa using this
 | makeSlice t l c =>
  simp only [compileOp] at hc
  repeat (split at hc <;> try (cases hc; done))
  injection hc with hc; subst hc; simp [ROp.cls] at hcls
 | slice t x lo hi mx =>
  cases mx with
  | some m => simp only [compileOp] at hc; cases hc
  | none =>
   have hx := hops x (by simp [Op.operands])
   have hlo := optRel (e := e) (ev' := ev') (ρ := ρ) (o := lo) (fun y hy => hops y (by simp [Op.operands] at hy ⊢; simp [hy]))
   have hhi := optRel (e := e) (ev' := ev') (ρ := ρ) (o := hi) (fun y hy => hops y (by simp [Op.operands] at hy ⊢; simp [hy]))
   simp only [compileOp] at hc
   split at hc
   ·rename_i hu
    injection hc with hc; subst hc
    simp only [stepOp] at hs
    split at hs <;> try cases hs
    rename_i hsl
    obtain ⟨v',h1,h2⟩ := sliceSV_run hu hx hlo hhi hsl
    exact ⟨rfl,v',fun w dst ty pos after guard => by simp [execOp,h1],h2⟩
   ·rename_i el hu
    cases hse : sizeT P el with
    | none => rw [hse] at hc; cases hc
    | some s =>
     rw [hse] at hc; simp at hc; subst hc
     simp only [stepOp] at hs
     split at hs <;> try cases hs
     rename_i hsl
     obtain ⟨v',h1,h2⟩ := sliceV_run hu hse hx hlo hhi hsl
     exact ⟨rfl,v',fun w dst ty pos after guard => by simp [execOp,h1],h2⟩
   ·cases hc
 | fieldAddr t x i => exact simFieldAddr hc (hops x (by simp [Op.operands])) hs
 | field t x i => exact simField hc (hops x (by simp [Op.operands])) hs
 | indexAddr t x i => exact simIndexAddr hc (hops x (by simp [Op.operands])) (hops i (by simp [Op.operands])) hs
 | index t x i => exact simIndex hc (hops x (by simp [Op.operands])) (hops i (by simp [Op.operands])) hs
 | call c => exact simCallP hc hcls (fun x hx => hops x hx) hs
 | extract x i =>
  simp only [compileOp] at hc; injection hc with hc; subst hc
  have hx := hops x (by simp [Op.operands])
  simp only [stepOp] at hs
  split at hs <;> try cases hs
  rename_i vs hxe
  split at hs <;> try cases hs
  rename_i hv
  rw [hxe] at hx
  cases hx' : ev' x <;> rw [hx'] at hx <;> try (cases hx; done)
  cases hx with
  | tuple ha ra =>
   have hi := (Array.getElem?_eq_some_iff.1 hv).1
   have hr := ra i hi (ha ▸ hi)
   rw [(Array.getElem?_eq_some_iff.1 hv).2] at hr
   exact ⟨rfl,_,fun w dst ty pos after guard => by simp [execOp,hx',Instr.extract,ha ▸ hi],hr⟩
 | _ => simp only [compileOp] at hc; cases hc
end
section
variable {P : Program} {ρ : PMap} {w : World} {e : Env} {ev' : Operand → Value} {h : Heap}
theorem loadVar_run {t : TypeId} {g : Bool} {n : Nat} (hg : aggT P t = some g) (hn : sizeT P t = some n) (hr : Rel ρ (view h) w) {a a' v : Value} (ha : VRel ρ a a') (hl : loadV h n g a = some v) :
  ∃ v',(Instr.loadAt t a').run P w = .ok v' w ∧ VRel ρ v v' := by
 obtain ⟨ad,v',rfl,hv,hx⟩ := rel_load (P := P) hr ha hl
 cases g with
 | true =>
  obtain ⟨cs,rfl,hx⟩ := hx
  exact ⟨_,by simp [Instr.loadAt,Instr.sureAddr,loadVar,agg_of hg,size_of hn,hx],hv⟩
 | false =>
  simp only at hx
  refine ⟨v',?_,hv⟩
  simp only [Instr.loadAt,Instr.sureAddr,loadVar,Sem.run_bind,Sem.run_pure,Result.andThen_ok,agg_of hg,Bool.false_eq_true,if_false]
  exact hx
theorem firstC_run {esz n : Nat} {y y' : Value} {new : List Value} (hr : Rel ρ (view h) w) (hy : VRel ρ y y') (hf : firstC h esz n y = some new) :
  ∃ new',(∀ w2 : World,w2.heap = w.heap → (Builtin.firstCells esz n y').run P w2 = .ok new'.toArray w2) ∧ LRel ρ new new' ∧ (∀ v ∈ new,Sim.isCell v = true) ∧ new'.length = n * esz := by
 cases hy with
 | nilS =>
  simp only [firstC] at hf
  split at hf <;> try cases hf
  rename_i hn
  subst hn
  exact ⟨[],fun w2 _ => by simp [Builtin.firstCells],LRel.nil ρ,by simp,by simp⟩
 | @slice id off len c cap p hp hz hle hc =>
  simp only [firstC] at hf
  by_cases h0 : n = 0
  ·rw [if_pos h0] at hf
   injection hf with hf; subst hf; subst h0
   exact ⟨[],fun w2 _ => run_firstCells_some (P := P) w2 esz 0 _ len cap [] (by simp) (fun j v hv => by simp at hv),LRel.nil ρ,by simp,by simp⟩
  rw [if_neg h0] at hf
  cases hb : blk? h id with
  | none => rw [hb] at hf; cases hf
  | some b =>
   rw [hb] at hf
   simp only at hf
   split at hf <;> try cases hf
   rename_i hn
   obtain ⟨cs',h1,h2,h3,h4⟩ := (hr.blk id b (view_blk hb)).part off (n * esz) hn.2 hp
   refine ⟨cs',fun w2 hw2 => ?_,h1,h2,h3⟩
   refine run_firstCells_some (P := P) w2 esz n _ len cap cs' h3 (fun j v hv => ?_)
   have := h4 j v hv
   unfold World.cell? at this ⊢
   rw [hw2]; exact this
 | @sliceE id off c p a hp =>
  simp only [firstC] at hf
  have hn0 : n = 0 ∧ new = [] := by
   by_cases h0 : n = 0
   ·rw [if_pos h0] at hf; injection hf with hf; exact ⟨h0,hf.symm⟩
   rw [if_neg h0] at hf
   cases hb : blk? h id with
   | none => rw [hb] at hf; cases hf
   | some b =>
    rw [hb] at hf
    simp only at hf
    split at hf <;> try cases hf
    rename_i hn
    omega
  ·obtain ⟨rfl,rfl⟩ := hn0
   refine ⟨[],fun w2 _ => ?_,LRel.nil ρ,by simp,by simp⟩
   simp [Builtin.firstCells,loadCells,loadCellsFrom]
 | str s =>
  simp only [firstC] at hf
  split at hf <;> try cases hf
  rename_i hn
  obtain ⟨rfl,rfl⟩ := hn
  refine ⟨s.data.toList.map fun b => .int .u8 b.toNat,fun w2 _ => ?_,⟨rfl,fun i v hv => ⟨v,hv,?_⟩⟩,?_,?_⟩
  ·have : s.extract 0 s.size = s := by simp
   simp only [Builtin.firstCells,this,Sem.run_pure]
   congr 1
   apply Array.ext'
   simp
  ·obtain ⟨b,hb,rfl⟩ := List.mem_map.1 (List.mem_of_getElem? hv)
   exact .int _ _
  ·intro v hv
   obtain ⟨b,hb,rfl⟩ := List.mem_map.1 hv
   rfl
  ·simp
 | _ => simp [firstC] at hf
theorem cls_of {op : Op} {rop : ROp} (hc : compileOp P op = some rop) :
  (rop.cls = .L → ∃ t a,op = .load t a) ∧
  (rop.cls = .A → (∃ t,op = .alloc t) ∨ (∃ t x,op = .box t x) ∨ (∃ t n ps,op = .buildSlice t n ps) ∨ (∃ t l c,op = .makeSlice t l c)) ∧
  (rop.cls = .W → (∃ t a x,op = .store t a x) ∨ ∃ c,op = .call c) := by
 cases op with
 | load t a =>
  simp only [compileOp] at hc
  repeat (split at hc <;> try (cases hc; done))
  injection hc with hc; subst hc
  exact ⟨fun _ => ⟨t,a,rfl⟩,by simp [ROp.cls],by simp [ROp.cls]⟩
 | alloc t =>
  simp only [compileOp] at hc
  cases hz : zeroCells P t with
  | none => rw [hz] at hc; cases hc
  | some l => rw [hz] at hc; simp at hc; subst hc; exact ⟨by simp [ROp.cls],fun _ => .inl ⟨t,rfl⟩,by simp [ROp.cls]⟩
 | box t x => simp only [compileOp] at hc; injection hc with hc; subst hc; exact ⟨by simp [ROp.cls],fun _ => .inr (.inl ⟨t,x,rfl⟩),by simp [ROp.cls]⟩
 | buildSlice t n ps =>
  simp only [compileOp] at hc
  repeat (split at hc <;> try (cases hc; done))
  injection hc with hc; subst hc
  exact ⟨by simp [ROp.cls],fun _ => .inr (.inr (.inl ⟨t,n,ps,rfl⟩)),by simp [ROp.cls]⟩
 | makeSlice t l c =>
  simp only [compileOp] at hc
  repeat (split at hc <;> try (cases hc; done))
  injection hc with hc; subst hc
  exact ⟨by simp [ROp.cls],fun _ => .inr (.inr (.inr ⟨t,l,c,rfl⟩)),by simp [ROp.cls]⟩
 | store t a x =>
  simp only [compileOp] at hc
  repeat (split at hc <;> try (cases hc; done))
  injection hc with hc; subst hc
  exact ⟨by simp [ROp.cls],by simp [ROp.cls],fun _ => .inl ⟨t,a,x,rfl⟩⟩
 | call c =>
  rcases compileCall_inv hc with ⟨f,args,tys,rfl,_,rfl⟩ | ⟨x,t,rfl,⟨hu,rfl⟩ | ⟨⟨el,hu⟩,rfl⟩⟩ | ⟨x,xs,tys,rfl,rfl⟩ | ⟨x,xs,tys,rfl,rfl⟩ | ⟨x,y,t,u,el,i,z,rfl,_,_,_,_,rfl⟩ | ⟨x,y,t,u,el,i,rfl,_,_,rfl⟩ <;>
   exact ⟨by simp [ROp.cls],by simp [ROp.cls],fun _ => .inr ⟨_,rfl⟩⟩
 | makeFunc fn a b =>
  cases fn <;> simp only [compileOp] at hc <;> try (cases hc; done)
  injection hc with hc; subst hc
  exact ⟨by simp [ROp.cls],by simp [ROp.cls],by simp [ROp.cls]⟩
 | slice t x lo hi mx =>
  cases mx <;> simp only [compileOp] at hc <;> try (cases hc; done)
  split at hc
  ·injection hc with hc; subst hc; exact ⟨by simp [ROp.cls],by simp [ROp.cls],by simp [ROp.cls]⟩
  ·rename_i el hu
   cases hse : sizeT P el with
   | none => rw [hse] at hc; cases hc
   | some s => rw [hse] at hc; simp at hc; subst hc; exact ⟨by simp [ROp.cls],by simp [ROp.cls],by simp [ROp.cls]⟩
  ·cases hc
 | binOp op t x y ty =>
  simp only [compileOp] at hc
  split at hc
  ·injection hc with hc; subst hc; exact ⟨by simp [ROp.cls],by simp [ROp.cls],by simp [ROp.cls]⟩
  ·injection hc with hc; subst hc; exact ⟨by simp [ROp.cls],by simp [ROp.cls],by simp [ROp.cls]⟩
  ·cases op <;> simp only at hc <;> try (cases hc; done)
   all_goals
    cases hk : eqKind P t with
    | none => rw [hk] at hc; cases hc
    | some k => rw [hk] at hc; simp at hc; subst hc; exact ⟨by simp [ROp.cls],by simp [ROp.cls],by simp [ROp.cls]⟩
 | convert src dst x =>
  simp only [compileOp] at hc
  repeat (split at hc <;> try (cases hc; done))
  all_goals (injection hc with hc; subst hc; exact ⟨by simp [ROp.cls],by simp [ROp.cls],by simp [ROp.cls]⟩)
 | fieldAddr t x i =>
  simp only [compileOp] at hc
  repeat (split at hc <;> try (cases hc; done))
  all_goals (injection hc with hc; subst hc; exact ⟨by simp [ROp.cls],by simp [ROp.cls],by simp [ROp.cls]⟩)
 | field t x i =>
  simp only [compileOp] at hc
  repeat (split at hc <;> try (cases hc; done))
  all_goals (injection hc with hc; subst hc; exact ⟨by simp [ROp.cls],by simp [ROp.cls],by simp [ROp.cls]⟩)
 | indexAddr t x i =>
  simp only [compileOp] at hc
  split at hc
  ·rename_i n el hu
   cases hse : sizeT P el with
   | none => rw [hse] at hc; cases hc
   | some s => rw [hse] at hc; simp at hc; subst hc; exact ⟨by simp [ROp.cls],by simp [ROp.cls],by simp [ROp.cls]⟩
  ·rename_i el hu
   cases hse : sizeT P el with
   | none => rw [hse] at hc; cases hc
   | some s => rw [hse] at hc; simp at hc; subst hc; exact ⟨by simp [ROp.cls],by simp [ROp.cls],by simp [ROp.cls]⟩
  ·cases hc
 | index t x i =>
  simp only [compileOp] at hc
  repeat (split at hc <;> try (cases hc; done))
  all_goals (injection hc with hc; subst hc; exact ⟨by simp [ROp.cls],by simp [ROp.cls],by simp [ROp.cls]⟩)
 | build t parts =>
  simp only [compileOp] at hc
  split at hc
  ·rename_i fs z hu hz
   cases hpl : placesOf P fs.toList with
   | none => rw [hpl] at hc; cases hc
   | some pl => rw [hpl] at hc; simp at hc; subst hc; exact ⟨by simp [ROp.cls],by simp [ROp.cls],by simp [ROp.cls]⟩
  ·rename_i n el z hu hz
   cases hse : sizeT P el with
   | none => rw [hse] at hc; cases hc
   | some s => rw [hse] at hc; simp at hc; subst hc; exact ⟨by simp [ROp.cls],by simp [ROp.cls],by simp [ROp.cls]⟩
  ·cases hc
 | move x => simp only [compileOp] at hc; injection hc with hc; subst hc; exact ⟨by simp [ROp.cls],by simp [ROp.cls],by simp [ROp.cls]⟩
 | assign x => simp only [compileOp] at hc; injection hc with hc; subst hc; exact ⟨by simp [ROp.cls],by simp [ROp.cls],by simp [ROp.cls]⟩
 | pick c a b => simp only [compileOp] at hc; injection hc with hc; subst hc; exact ⟨by simp [ROp.cls],by simp [ROp.cls],by simp [ROp.cls]⟩
 | nilCheck x => simp only [compileOp] at hc; injection hc with hc; subst hc; exact ⟨by simp [ROp.cls],by simp [ROp.cls],by simp [ROp.cls]⟩
 | unOp op t x => simp only [compileOp] at hc; injection hc with hc; subst hc; exact ⟨by simp [ROp.cls],by simp [ROp.cls],by simp [ROp.cls]⟩
 | extract x i => simp only [compileOp] at hc; injection hc with hc; subst hc; exact ⟨by simp [ROp.cls],by simp [ROp.cls],by simp [ROp.cls]⟩
 | _ => simp only [compileOp] at hc; cases hc
theorem simL {op : Op} {rop : ROp} (hc : compileOp P op = some rop) (hcls : rop.cls = .L) (hr : Rel ρ (view h) w) (hops : ∀ x ∈ op.operands,VRel ρ (ev e x) (ev' x)) {v : Value} {h' : Heap} (hs : stepOp rop e h = some (v,h')) :
  h' = h ∧ ∃ v',OpGives P op ev' w v' ∧ VRel ρ v v' := by
 obtain ⟨t,a,rfl⟩ := (cls_of hc).1 hcls
 have ha := hops a (by simp [Op.operands])
 simp only [compileOp] at hc
 split at hc <;> try cases hc
 rename_i g n hg hn
 simp only [stepOp] at hs
 split at hs <;> try cases hs
 rename_i hl
 obtain ⟨v',h1,h2⟩ := loadVar_run hg hn hr ha hl
 exact ⟨rfl,v',fun dst ty pos after guard => by simp [execOp,h1],h2⟩
theorem repL_length (z : List Value) (n : Nat) : (repL z n).length = n * z.length := by
 induction n with
 | zero => simp [repL]
 | succ n ih => simp [repL,ih,Nat.add_mul]; omega
theorem repL_get (z : List Value) : ∀ (n i : Nat),i < n * z.length → (repL z n)[i]? = z[i % z.length]?
 | 0,i,h => by simp at h
 | n + 1,i,h => by
  rw [repL]
  by_cases hi : i < z.length
  ·rw [List.getElem?_append_left hi,Nat.mod_eq_of_lt hi]
  ·rw [List.getElem?_append_right (by omega),repL_get z n _ (by rw [Nat.add_mul] at h; omega),← Nat.mod_eq_sub_mod (show i ≥ z.length by omega)]
theorem rep_cells (z : Value) (n : Nat) (hz : 0 < z.cells.size) (i : Nat) (hi : i < n) : ((Array.range n).map (fun j => z.cells[j % z.cells.size]!))[i]? = z.cells.toList[i % z.cells.toList.length]? := by
 have hm : i % z.cells.size < z.cells.size := Nat.mod_lt _ hz
 simp [hi,hm]
theorem simA {op : Op} {rop : ROp} (hc : compileOp P op = some rop) (hcls : rop.cls = .A) (hops : ∀ x ∈ op.operands,VRel ρ (ev e x) (ev' x)) {v : Value} {h' : Heap} (hs : stepOp rop e h = some (v,h')) :
  ∃ (cells : List Value) (c : Array Value) (t : TypeId) (esz : Nat) (mk : Nat → Value),h' = h ++ [some ⟨false,cells⟩] ∧ cells.length ≤ c.size ∧ (∀ v ∈ cells,Sim.isCell v = true) ∧
   (∀ (i : Nat) v,cells[i]? = some v → ∃ v',c[i]? = some v' ∧ VRel ρ v v') ∧
   (∀ w : World,∀ (dst : Option Tmp) (ty : TypeId) (pos : String) (after : Array Edge) (guard : Option (Nat × Bool)),
    (execOp ev' { dst,op,type := ty,pos,after,guard }).run P w = .ok (.value (mk w.heap.size)) { w with heap := w.heap.push (.cells c t) }) ∧
   (∀ (ρ' : PMap) b,ρ' h.length = some ⟨b,0,c.size,esz⟩ → VRel ρ' v (mk b)) := by
 have hget : ∀ {l l' : List Value},LRel ρ l l' → ∀ (i : Nat) v,l[i]? = some v → ∃ v',l'.toArray[i]? = some v' ∧ VRel ρ v v' := by
  intro l l' hl i v hv
  obtain ⟨v',h1,h2⟩ := hl.2 i v hv
  exact ⟨v',by simpa using h1,h2⟩
 rcases (cls_of hc).2.1 hcls with ⟨t,rfl⟩ | ⟨t,x,rfl⟩ | ⟨t,n,ps,rfl⟩ | ⟨t,l,c,rfl⟩
 ·simp only [compileOp] at hc
  cases hz : zeroCells P t with
  | none => rw [hz] at hc; cases hc
  | some l =>
   rw [hz] at hc; simp at hc; subst hc
   obtain ⟨i,zv,hi,hzv,hna,hva,hsz,hpos,rfl⟩ := zero_of hz
   obtain ⟨hl,hcel⟩ := noAddr_cells hna hva ρ
   simp only [stepOp] at hs
   injection hs with hs; injection hs with h1 h2
   subst h1; subst h2
   refine ⟨zv.cells.toList,zv.cells,t,1,fun b => .pointer (some ⟨b,0,none⟩),rfl,by simp,hcel,fun i v hv => by simpa using hget hl i v hv,fun w dst ty pos after guard => ?_,fun ρ' b hb => ?_⟩
   ·simp [execOp,Instr.alloc,run_zero hi hzv,newVar,newRow]
   ·have := VRel.ptr (off := 0) hb; simpa using this
 ·have hx := hops x (by simp [Op.operands])
  simp only [compileOp] at hc; injection hc with hc; subst hc
  simp only [stepOp] at hs
  split at hs <;> try cases hs
  rename_i hv
  refine ⟨(ev e x).cells.toList,(ev' x).cells,t,1,fun b => .pointer (some ⟨b,0,none⟩),rfl,by have := hx.cells.1; simp at this; simp; omega,hx.cellsOk hv,fun i v hv => by simpa using hget hx.cells i v hv,fun w dst ty pos after guard => ?_,fun ρ' b hb => ?_⟩
  ·simp [execOp,Instr.box,newVar,newRow]
  ·have := VRel.ptr (off := 0) hb; simpa using this
 ·have hpr := parts_rel (e := e) (ev' := ev') (ρ := ρ) (parts := ps.toList) (fun p hp => hops p.2 (by simp [Op.operands]; exact ⟨p.1,by simpa using hp⟩))
  have hparts : (ps.map fun (i,x) => (i,ev' x)).toList = ps.toList.map fun p => (p.1,ev' p.2) := by simp
  simp only [compileOp] at hc
  split at hc <;> try cases hc
  rename_i el hu
  split at hc <;> try cases hc
  rename_i z hz
  split at hc <;> try cases hc
  rename_i hle
  obtain ⟨i,zv,hi,hzv,hna,hva,hsz,hpos,rfl⟩ := zero_of hz
  obtain ⟨hl,hcel⟩ := noAddr_cells hna hva ρ
  simp only [stepOp] at hs
  split at hs <;> try cases hs
  rename_i cs hf
  have hzl : zv.cells.toList.length = i.size := by simpa using hsz
  have hrepl : LRel ρ (repL zv.cells.toList n) ((Array.range (n * i.size)).map (fun j => zv.cells[j % zv.cells.size]!)).toList := by
   refine ⟨by simp [repL_length,hsz],fun j v hv => ?_⟩
   have hj : j < n * i.size := by have := (List.getElem?_eq_some_iff.1 hv).1; rw [repL_length,hzl] at this; exact this
   rw [repL_get _ _ _ (by rw [hzl]; exact hj)] at hv
   obtain ⟨v',h1,h2⟩ := hl.2 _ v hv
   refine ⟨v',?_,h2⟩
   have := rep_cells zv (n * i.size) (by omega) j hj
   rw [h1] at this
   rw [Array.getElem?_toList]; exact this
  have hrc : ∀ v ∈ repL zv.cells.toList n,Sim.isCell v = true := by
   intro v hv
   obtain ⟨j,hj,rfl⟩ := List.getElem_of_mem hv
   have : (repL zv.cells.toList n)[j]? = some (repL zv.cells.toList n)[j] := by simp [hj]
   rw [repL_get _ _ _ (by rw [repL_length] at hj; exact hj)] at this
   exact hcel _ (List.mem_of_getElem? this)
  obtain ⟨out',hf',hr,hcc⟩ := fill_rel (ρ := ρ) _ _ _ _ _ _ hpr.1 hpr.2 hrepl hrc hf
  have hfl : ∀ (pl : Nat → Option (Nat × Nat)) (ps : List (Nat × Value)) (c out : List Value),fillL pl c ps = some out → out.length = c.length := by
   intro pl ps
   induction ps with
   | nil => intro c out h; simp [fillL] at h; subst h; rfl
   | cons p ps ih =>
    intro c out h
    obtain ⟨i,x⟩ := p
    simp only [fillL] at h
    split at h <;> try cases h
    split at h <;> try cases h
    rw [ih _ _ h,size_writeAt]
  have hlen := hfl _ _ _ _ hf
  rw [repL_length,hzl] at hlen
  refine ⟨cs,out',el,i.size,fun b => .slice (some ⟨b,0,none⟩) n n,rfl,by have := hr.1; simp at this; omega,hcc,fun i v hv => by simpa using hget hr i v hv,fun w dst ty pos after guard => ?_,fun ρ' b hb => ?_⟩
  ·have hle' : ¬ (16777216 < n * i.size) := by rw [hzl] at hle; omega
   have hf2 : Instr.fill (fun j => some (j * i.size,i.size)) ((Array.range (n * i.size)).map (fun j => zv.cells[j % zv.cells.size]!)) (ps.toList.map fun p => (p.1,ev' p.2)) = some out' := by rw [← hf',hzl]
   have hsize : ∀ w,(sizeOf el).run P w = .ok i.size w := fun w => by simp [sizeOf,typeInfo,hi]
   by_cases h0 : n * i.size = 0
   ·obtain rfl : n = 0 := by rcases Nat.mul_eq_zero.1 h0 with h | h <;> omega
    have hr0 : Array.range 0 = #[] := rfl
    simp only [Nat.zero_mul,hr0,List.map_toArray,List.map_nil] at hf2
    simp only [execOp,Sem.run_bind,Instr.buildSlice,run_und hu,Result.andThen_ok,hsize,hparts,Nat.zero_mul,if_true,Sem.run_pure,hr0,List.map_toArray,List.map_nil,hf2]
    simp [newRow]
   ·simp only [execOp,Sem.run_bind,Instr.buildSlice,run_und hu,Result.andThen_ok,hsize,Sem.run_ite,hparts]
    simp only [Nat.reducePow,gt_iff_lt,hle',if_false,h0,Sem.run_bind,run_zero hi hzv,Sem.run_pure,Result.andThen_ok,hf2]
    simp [newRow]
  ·rw [hzl]
   have hco : out'.size = n * i.size := by have := hr.1; simp at this; omega
   have := VRel.slice (off := 0) (n := n) (c := i.size) (cap := n) hb rfl (Nat.le_refl n) (by simp; omega)
   simpa using this
 ·have hl0 := hops l (by simp [Op.operands])
  have hc0 := hops c (by simp [Op.operands])
  simp only [compileOp] at hc
  split at hc <;> try cases hc
  rename_i el hu
  split at hc <;> try cases hc
  rename_i i z hi hz
  obtain ⟨i',zv,hi',hzv,hna,hva,hsz,hpos,rfl⟩ := zero_of hz
  obtain rfl : i = i' := by rw [hi] at hi'; exact Option.some.inj hi'
  obtain ⟨hl,hcel⟩ := noAddr_cells hna hva ρ
  simp only [stepOp] at hs
  split at hs <;> try cases hs
  rename_i a b hle hce
  split at hs <;> try cases hs
  rename_i hcond
  obtain ⟨ha,hab,hb,hby⟩ := hcond
  rw [hle] at hl0
  rw [hce] at hc0
  have hl1 := hl0.int_inv
  have hc1 := hc0.int_inv
  have hzl : zv.cells.toList.length = i.size := by simpa using hsz
  unfold roomCells at hb
  refine ⟨repL zv.cells.toList a.toNat,(Array.range (b.toNat * i.size)).map (fun j => zv.cells[j % zv.cells.size]!),el,i.size,fun k => .slice (some ⟨k,0,none⟩) a.toNat b.toNat,rfl,?_,?_,fun j v hv => ?_,fun w dst ty pos after guard => ?_,fun ρ' k hk => ?_⟩
  ·rw [repL_length,hzl]
   simp only [Array.size_map,Array.size_range]
   exact Nat.mul_le_mul_right _ (by omega)
  ·intro v hv
   obtain ⟨j,hj,rfl⟩ := List.getElem_of_mem hv
   have : (repL zv.cells.toList a.toNat)[j]? = some (repL zv.cells.toList a.toNat)[j] := by simp [hj]
   rw [repL_get _ _ _ (by rw [repL_length] at hj; exact hj)] at this
   exact hcel _ (List.mem_of_getElem? this)
  ·have hj : j < a.toNat * i.size := by have := (List.getElem?_eq_some_iff.1 hv).1; rw [repL_length,hzl] at this; exact this
   rw [repL_get _ _ _ (by rw [hzl]; exact hj)] at hv
   obtain ⟨v',h1,h2⟩ := hl.2 _ v hv
   refine ⟨v',?_,h2⟩
   have hab' : a.toNat * i.size ≤ b.toNat * i.size := Nat.mul_le_mul_right _ (by omega)
   have := rep_cells zv (b.toNat * i.size) (by omega) j (by omega)
   rw [h1] at this
   exact this
  ·have w1 : IntKind.i64.wrap a = a := by unfold IntKind.wrap; simp [IntKind.bits,IntKind.signed]; omega
   have w2 : IntKind.i64.wrap b = b := by unfold IntKind.wrap; simp [IntKind.bits,IntKind.signed]; omega
   have hsize : ∀ w,(sizeOf el).run P w = .ok i.size w := fun w => by simp [sizeOf,typeInfo,hi]
   have hbb : (i.bytes : Int) * b ≤ 4096 * 4294967296 := by
    have h1 : (i.bytes : Int) ≤ 4096 := by omega
    exact Int.mul_le_mul h1 hb (by omega) (by omega)
   have t1 : ¬ ((i.bytes : Int) * b > 2 ^ 48) := by omega
   have hrun : (Instr.makeSlice t (ev' l) (ev' c)).run P w = .ok (.slice (some ⟨w.heap.size,0,none⟩) a.toNat b.toNat) { w with heap := w.heap.push (.cells ((Array.range (b.toNat * i.size)).map (fun j => zv.cells[j % zv.cells.size]!)) el) } := by
    have hti : ∀ w,(typeInfo el).run P w = .ok i w := fun w => by simp [typeInfo,hi]
    have hcnd : (decide (b < 0) || decide ((i.bytes : Int) * b > 2 ^ 48) || decide (a < 0) || decide (a > b)) = false := by
     simp only [Bool.or_eq_false_iff,decide_eq_false_iff_not]
     omega
    simp only [Instr.makeSlice,Sem.run_bind,run_und hu,Result.andThen_ok,asInt,asIntOf,hl1,hc1,Sem.run_pure,hti,w1,w2,hcnd,Bool.false_eq_true,if_false,run_askRoom,hsize]
    by_cases h0 : b.toNat * i.size = 0
    ·have hr0 : Array.range 0 = #[] := rfl
     simp [h0,hr0,newRow]
    ·simp [h0,run_zero hi hzv,newRow]
   simp only [execOp,Sem.run_bind,hrun,Result.andThen_ok,Sem.run_pure]
  ·have := VRel.slice (off := 0) (n := a.toNat) (c := i.size) (cap := b.toNat) hk rfl (by omega) (by simp)
   simpa using this
theorem run_append {t u el : TypeId} {i : TypeInfo} {z : Value} (hu : P.underlying t = some (.slice el)) (hi : P.info? el = some i) (hz : i.zero = some z) (hux : P.underlying u = some .string ∨ ∃ el',P.underlying u = some (.slice el'))
  {y' : Value} {n : Nat} {new' : List Value} (hn : ∀ w2,(Builtin.lenOf y').run P w2 = .ok n w2) (w : World) (hnew : ∀ w2 : World,w2.heap = w.heap → (Builtin.firstCells i.size n y').run P w2 = .ok new'.toArray w2) (ty : TypeId) :
  (∀ (ad : Addr) (sLen sCap : Nat) (w' : World),sLen + n ≤ sCap → (storeCells (ad.add (sLen * i.size)) new' 0).run P w = .ok () w' →
   (Builtin.append_ #[t,u] ty #[.slice (some ad) sLen sCap,y']).run P w = .ok (.slice (some ad) (sLen + n) sCap) w') ∧
  (n = 0 → (Builtin.append_ #[t,u] ty #[.slice none 0 0,y']).run P w = .ok (.slice none 0 0) w) ∧
  (∀ (base : Option Addr) (sLen sCap : Nat) (old' : List Value),sCap < sLen + n → sLen + n ≤ roomCells → i.bytes ≤ 4096 → (∀ w2 : World,w2.heap = w.heap → (Builtin.firstCells i.size sLen (.slice base sLen sCap)).run P w2 = .ok old'.toArray w2) →
   (Builtin.append_ #[t,u] ty #[.slice base sLen sCap,y']).run P w =
    .ok (.slice (some ⟨w.heap.size,0,none⟩) (sLen + n) (grownCap w (sLen + n) sCap el))
     (w.drew.alloc (.cells ((old' ++ new').toArray ++ Builtin.zeroCells z.cells (grownCap w (sLen + n) sCap el - (sLen + n))) el))) := by
 have hsize : ∀ w,(sizeOf el).run P w = .ok i.size w := fun w => by simp [sizeOf,typeInfo,hi]
 have hti : ∀ w,(typeInfo el).run P w = .ok i w := fun w => by simp [typeInfo,hi]
 have hzr : ∀ w,(zeroValue el).run P w = .ok z w := run_zero hi hz
 have key : ∀ d : TypeDesc,(d = .string ∨ ∃ el',d = .slice el') → (∀ w,(underlying u).run P w = .ok d w) →
  (∀ (ad : Addr) (sLen sCap : Nat) (w' : World),sLen + n ≤ sCap → (storeCells (ad.add (sLen * i.size)) new' 0).run P w = .ok () w' →
   (Builtin.append_ #[t,u] ty #[.slice (some ad) sLen sCap,y']).run P w = .ok (.slice (some ad) (sLen + n) sCap) w') ∧
  (n = 0 → (Builtin.append_ #[t,u] ty #[.slice none 0 0,y']).run P w = .ok (.slice none 0 0) w) ∧
  (∀ (base : Option Addr) (sLen sCap : Nat) (old' : List Value),sCap < sLen + n → sLen + n ≤ roomCells → i.bytes ≤ 4096 → (∀ w2 : World,w2.heap = w.heap → (Builtin.firstCells i.size sLen (.slice base sLen sCap)).run P w2 = .ok old'.toArray w2) →
   (Builtin.append_ #[t,u] ty #[.slice base sLen sCap,y']).run P w =
    .ok (.slice (some ⟨w.heap.size,0,none⟩) (sLen + n) (grownCap w (sLen + n) sCap el))
     (w.drew.alloc (.cells ((old' ++ new').toArray ++ Builtin.zeroCells z.cells (grownCap w (sLen + n) sCap el - (sLen + n))) el))) := by
  intro d hd hd'
  refine ⟨fun ad sLen sCap w' hroom hst => ?_,fun hn0 => ?_,fun base sLen sCap old' hgt hle hby hold => ?_⟩
  ·rcases hd with rfl | ⟨el',rfl⟩ <;> simp [Builtin.append_,run_und hu,hsize,hd',hn,hroom,hnew w rfl,hst]
  ·subst hn0
   have := hnew w rfl
   rcases hd with rfl | ⟨el',rfl⟩ <;> simp [Builtin.append_,run_und hu,hsize,hd',hn,this]
  ·have hnr : ¬ (sLen + n ≤ sCap) := by omega
   unfold roomCells at hle
   have h63' : ¬ (9223372036854775807 < ((sLen : Int) + (n : Int))) := by omega
   have hb : (sLen + n) * i.bytes ≤ 140737488355328 := by
    have := Nat.mul_le_mul hle hby
    omega
   have h48 := growslice_fits hgt hb
   have h48' : ¬ (281474976710656 < Builtin.nextslicecap (sLen + n) sCap * i.bytes) := by omega
   have hnd := hnew w.drew rfl
   have hod := hold w.drew rfl
   rcases hd with rfl | ⟨el',rfl⟩ <;> simp [Builtin.append_,run_und hu,hsize,hti,hzr,hd',hn,hnr,h63',h48',Question.forced,hnd,hod,newRow,grownCap] <;> rw [← Array.append_assoc] <;> simp
 rcases hux with h | ⟨el',h⟩
 ·exact key _ (.inl rfl) (run_und h)
 ·exact key _ (.inr ⟨el',rfl⟩) (run_und h)
theorem newP_self (ρ : PMap) (id : Nat) (p : Place) : newP ρ id p id = some p := by simp [newP]
theorem VRel.slice0 {id n m c cap b base ext : Nat} (hh : ρ id = some ⟨b,base,ext,c⟩) (hm : m = n) (hn : n ≤ cap) (hc : cap * c ≤ ext) : VRel ρ (.slice (some ⟨id,0,none⟩) n c) (.slice (some ⟨b,base,none⟩) m cap) := by
 subst hm
 have := VRel.slice (off := 0) (n := m) (c := c) (cap := cap) hh rfl hn (by simpa using hc)
 simpa using this
theorem LRel.newP {l l' : List Value} (hl : LRel ρ l l') {id : Nat} {p : Place} (hf : ρ id = none) : LRel (newP ρ id p) l l' := hl.mono (newP_le hf)
theorem simAppend {t u el : TypeId} {i : TypeInfo} {z : List Value} {bytes : Nat} (hu : P.underlying t = some (.slice el)) (hi : P.info? el = some i) (hz : zeroCells P el = some z) (hby : i.bytes = bytes)
  (hux : P.underlying u = some .string ∨ ∃ el',P.underlying u = some (.slice el')) (hr : Rel ρ (view h) w) {x x' y y' : Value} (hx : VRel ρ x x') (hy : VRel ρ y y') {v : Value} {h' : Heap}
  (hs : appendV h i.size bytes x y = some (v,h')) (hf : Fresh ρ h.length h'.length) (ty : TypeId) :
  ∃ v' w' ρ',(Builtin.append_ #[t,u] ty #[x',y']).run P w = .ok v' w' ∧ Rel ρ' (view h') w' ∧ Ev ρ (view h) w ρ' (view h') w' ∧ PSame ρ ρ' h.length h'.length ∧ VRel ρ' v v' ∧ h.length ≤ h'.length := by
 subst hby
 obtain ⟨i',zv,hi',hzv,hna,hva,hsz,hpos,rfl⟩ := zero_of hz
 obtain rfl : i = i' := by rw [hi] at hi'; exact Option.some.inj hi'
 simp only [appendV] at hs
 split at hs <;> try cases hs
 rename_i n hn
 split at hs <;> try cases hs
 rename_i new hnew
 obtain ⟨new',hn1,hn2,hn3,hn4⟩ := firstC_run (P := P) hr hy hnew
 have hlen : ∀ w2,(Builtin.lenOf y').run P w2 = .ok n w2 := by
  intro w2
  generalize y' = q at hy
  cases hy <;> simp only [lenV] at hn <;> try (cases hn; done)
  all_goals (injection hn with hn; subst hn; rfl)
 obtain ⟨a1,a2,a3⟩ := run_append (P := P) hu hi hzv hux hlen w hn1 ty
 have hnl : new.length = n * i.size := by rw [hn2.1,hn4]
 cases hx with
 | nilS =>
  simp only at hs
  split at hs
  ·rename_i hn0
   injection hs with hs; injection hs with h1 h2
   subst h1; subst h2
   exact ⟨_,_,ρ,a2 hn0,hr,Ev.refl _ _ _,PSame.refl _ _ _,.nilS,Nat.le_refl _⟩
  ·split at hs <;> try cases hs
   rename_i hn0 hcond
   have hrun := a3 none 0 0 [] (by omega) (by omega) hcond.2 (fun w2 _ => by simp [Builtin.firstCells])
   have hge := grownCap_ge w (0 + n) 0 el
   simp only [List.nil_append] at hrun
   have hfr : ρ h.length = none := hf h.length (Nat.le_refl _) (by simp)
   have hcs : (new'.toArray ++ Builtin.zeroCells zv.cells (grownCap w (0 + n) 0 el - (0 + n))).size = grownCap w (0 + n) 0 el * i.size := by
    simp only [Array.size_append,List.size_toArray,size_zeroCells,hsz,hn4,← Nat.add_mul]
    congr 1; omega
   obtain ⟨r1,r2⟩ := rel_new (w := w.drew) hr.drew hfr (new'.toArray ++ Builtin.zeroCells zv.cells (grownCap w (0 + n) 0 el - (0 + n))) el i.size (cells := new)
    (by rw [hcs,hnl]; exact Nat.mul_le_mul_right _ (by omega)) hn3 (fun j v hv => by
     obtain ⟨v',h1,h2⟩ := hn2.2 j v hv
     refine ⟨v',?_,h2⟩
     have hj : j < new'.length := (List.getElem?_eq_some_iff.1 h1).1
     rw [Array.getElem?_append_left (by simpa using hj)]
     simpa using h1)
   refine ⟨_,_,_,hrun,r1,(Ev.drew ρ (view h) w).trans r2,by simpa using newP_same ρ h.length _,?_,by simp⟩
   exact VRel.slice0 (newP_self ρ h.length _) (by omega) (by omega) (by rw [hcs]; exact Nat.le_refl _)
 | @slice id off len c cap p hp hz hle hc =>
  simp only at hs
  split at hs <;> try cases hs
  rename_i b hb
  split at hs <;> try cases hs
  rename_i hcond
  obtain ⟨hro,hce,hfit,hroom,hbyt⟩ := hcond
  have hidl := view_lt (view_blk hb)
  have hfr : ρ h.length = none := hf h.length (Nat.le_refl _) (by simp)
  have hpz : p.esz = i.size := by rw [hz,hce]
  obtain ⟨cs',o1,o2,o3,o4⟩ := (hr.blk id b (view_blk hb)).part off (len * i.size) hfit hp
  by_cases hrm : len + n ≤ cap
  ·have hext : off + cap * i.size ≤ p.ext := by rw [← hpz]; exact hc
   have hcap : (len + n) * i.size ≤ cap * i.size := Nat.mul_le_mul_right _ hrm
   rw [Nat.add_mul] at hcap
   obtain ⟨r1,r2⟩ := rel_adopt hr hfr hb hro hp off (len * i.size) (p.ext - off) (by omega) (by omega)
   have hbnew : blk? (h.set id none ++ [some ⟨false,(b.cells.drop off).take (len * i.size)⟩]) h.length = some ⟨false,(b.cells.drop off).take (len * i.size)⟩ := by
    have := view_push (h.set id none) ⟨false,(b.cells.drop off).take (len * i.size)⟩ h.length
    rw [if_pos (by simp)] at this
    exact this
   have hol : ((b.cells.drop off).take (len * i.size)).length = len * i.size := by simp; omega
   obtain ⟨w',s1,s2,s3⟩ := rel_put r1 hbnew rfl (newP_self ρ h.length _) (len * i.size) (vs := new) (vs' := new') (by simp only [hnl]; omega) (hn2.newP hfr) hn3 ((b.cells.drop off).take (len * i.size) ++ new)
    (by simp only [List.length_append,hol,hnl]; omega) (fun k v hk => by
     by_cases hkl : k < len * i.size
     ·rw [List.getElem?_append_left (by rw [hol]; exact hkl)] at hk
      exact .inr ⟨.inl hkl,hk⟩
     ·rw [List.getElem?_append_right (by rw [hol]; omega),hol] at hk
      exact .inl ⟨by omega,hk⟩)
   have hset : (h.set id none ++ [some (⟨false,(b.cells.drop off).take (len * i.size)⟩ : Blk)]).set h.length (some (⟨false,(b.cells.drop off).take (len * i.size) ++ new⟩ : Blk)) =
     h.set id none ++ [some (⟨false,(b.cells.drop off).take (len * i.size) ++ new⟩ : Blk)] := by
    rw [List.set_append_right _ _ (by simp)]
    simp
   rw [hset] at s2 s3
   have hrun := a1 ⟨p.b,p.base + off,none⟩ len cap w' hrm (by rw [addr_add]; exact s1 P)
   refine ⟨_,_,_,hrun,s2,r2.trans s3,by simpa using newP_same ρ h.length _,?_,by simp⟩
   refine VRel.slice0 (ext := p.ext - off) ?_ rfl hrm (by omega)
   rw [← hpz]
   exact newP_self ρ h.length _
  ·have hold : ∀ w2 : World,w2.heap = w.heap → (Builtin.firstCells i.size len (.slice (some ⟨p.b,p.base + off,none⟩) len cap)).run P w2 = .ok cs'.toArray w2 := by
    intro w2 hw2
    refine run_firstCells_some (P := P) w2 i.size len _ len cap cs' o3 (fun j v hv => ?_)
    have := o4 j v hv
    unfold World.cell? at this ⊢
    rw [hw2]; exact this
   have hrun := a3 (some ⟨p.b,p.base + off,none⟩) len cap cs' (by omega) hroom hbyt hold
   have hge := grownCap_ge w (len + n) cap el
   obtain ⟨k1,k2⟩ := rel_kill hr hidl
   have hfr' : ρ (h.set id none).length = none := by simpa using hfr
   have hll : (cs' ++ new').length = (len + n) * i.size := by simp only [List.length_append,o3,hn4,← Nat.add_mul]
   have hcs : ((cs' ++ new').toArray ++ Builtin.zeroCells zv.cells (grownCap w (len + n) cap el - (len + n))).size = grownCap w (len + n) cap el * i.size := by
    simp only [Array.size_append,List.size_toArray,size_zeroCells,hsz,hll,← Nat.add_mul]
    congr 1; omega
   obtain ⟨r1,r2⟩ := rel_new (w := w.drew) k1.drew hfr' ((cs' ++ new').toArray ++ Builtin.zeroCells zv.cells (grownCap w (len + n) cap el - (len + n))) el i.size (cells := (b.cells.drop off).take (len * i.size) ++ new)
    (by rw [hcs,(o1.append hn2).1,hll]; exact Nat.mul_le_mul_right _ (by omega))
    (fun v hv => (List.mem_append.1 hv).elim (o2 v) (hn3 v)) (fun j v hv => by
     obtain ⟨v',h1,h2⟩ := (o1.append hn2).2 j v hv
     refine ⟨v',?_,h2⟩
     have hj : j < (cs' ++ new').length := (List.getElem?_eq_some_iff.1 h1).1
     rw [Array.getElem?_append_left (by simpa using hj)]
     simpa using h1)
   refine ⟨_,_,_,hrun,r1,(k2.trans (Ev.drew ρ _ w)).trans r2,by simpa using newP_same ρ (h.set id none).length _,?_,by simp⟩
   have hlen' : h.length = (h.set id none).length := by simp
   rw [show (⟨h.length,0,none⟩ : Addr) = ⟨(h.set id none).length,0,none⟩ by rw [← hlen']]
   exact VRel.slice0 (newP_self ρ (h.set id none).length _) rfl hge (by rw [hcs]; exact Nat.le_refl _)
 | @sliceE id off c p a hp =>
  simp only at hs
  split at hs <;> try cases hs
  rename_i b hb
  split at hs <;> try cases hs
  rename_i hcond
  obtain ⟨hro,hce,hfit,hroom,hbyt⟩ := hcond
  have hidl := view_lt (view_blk hb)
  have hfr : ρ h.length = none := hf h.length (Nat.le_refl _) (by simp)
  by_cases hn0 : n = 0
  ·subst hn0
   obtain rfl : new = [] := List.eq_nil_of_length_eq_zero (by simpa using hnl)
   have hnl' : new' = [] := List.eq_nil_of_length_eq_zero (by simpa using hn4)
   subst hnl'
   obtain ⟨p0,c0,t0,f0,q1,q2,q3,q4,_⟩ := hr.blk id b (view_blk hb)
   have : p0 = p := by rw [q1] at hp; exact Option.some.inj hp
   subst this
   obtain ⟨r1,r2⟩ := rel_adopt hr hfr hb hro hp off 0 0 (by omega) (by omega)
   have hrun := a1 a 0 0 w (by omega) (by simp [storeCells])
   refine ⟨_,_,_,hrun,by simpa using r1,by simpa using r2,by simpa using newP_same ρ h.length _,?_,by simp⟩
   have := VRel.sliceE (off := 0) (c := i.size) (a := a) (newP_self ρ h.length ⟨p0.b,p0.base + off,0,p0.esz⟩)
   simpa using this
  ·have hrun := a3 (some a) 0 0 [] (by omega) hroom hbyt (fun w2 _ => by simp [Builtin.firstCells,loadCells,loadCellsFrom])
   have hge := grownCap_ge w (0 + n) 0 el
   simp only [List.nil_append] at hrun
   obtain ⟨k1,k2⟩ := rel_kill hr hidl
   have hfr' : ρ (h.set id none).length = none := by simpa using hfr
   have hcs : (new'.toArray ++ Builtin.zeroCells zv.cells (grownCap w (0 + n) 0 el - (0 + n))).size = grownCap w (0 + n) 0 el * i.size := by
    simp only [Array.size_append,List.size_toArray,size_zeroCells,hsz,hn4,← Nat.add_mul]
    congr 1; omega
   obtain ⟨r1,r2⟩ := rel_new (w := w.drew) k1.drew hfr' (new'.toArray ++ Builtin.zeroCells zv.cells (grownCap w (0 + n) 0 el - (0 + n))) el i.size (cells := new)
    (by rw [hcs,hnl]; exact Nat.mul_le_mul_right _ (by omega)) hn3 (fun j v hv => by
     obtain ⟨v',h1,h2⟩ := hn2.2 j v hv
     refine ⟨v',?_,h2⟩
     have hj : j < new'.length := (List.getElem?_eq_some_iff.1 h1).1
     rw [Array.getElem?_append_left (by simpa using hj)]
     simpa using h1)
   have hz0 : (b.cells.drop off).take (0 * i.size) ++ new = new := by simp
   rw [hz0]
   refine ⟨_,_,_,hrun,r1,(k2.trans (Ev.drew ρ _ w)).trans r2,by simpa using newP_same ρ (h.set id none).length _,?_,by simp⟩
   have hlen' : h.length = (h.set id none).length := by simp
   rw [show (⟨h.length,0,none⟩ : Addr) = ⟨(h.set id none).length,0,none⟩ by rw [← hlen']]
   exact VRel.slice0 (newP_self ρ (h.set id none).length _) rfl hge (by rw [hcs]; exact Nat.le_refl _)
 | _ => simp at hs
theorem simCopy {t u el : TypeId} {i : TypeInfo} (hu : P.underlying t = some (.slice el)) (hi : P.info? el = some i)
  (hr : Rel ρ (view h) w) {x x' y y' : Value} (hx : VRel ρ x x') (hy : VRel ρ y y') {v : Value} {h' : Heap}
  (hs : copyV h i.size x y = some (v,h')) (ty : TypeId) :
  ∃ w',(Builtin.copy_ #[t,u] ty #[x',y']).run P w = .ok v w' ∧ Rel ρ (view h') w' ∧ Ev ρ (view h) w ρ (view h') w' ∧ VRel ρ v v ∧ h.length = h'.length := by
 have hsize : ∀ w,(sizeOf el).run P w = .ok i.size w := fun w => by simp [sizeOf,typeInfo,hi]
 unfold copyV at hs
 split at hs <;> try cases hs
 rename_i a dlen c
 split at hs <;> try cases hs
 rename_i sl hsl
 split at hs <;> try cases hs
 rename_i new hnew
 obtain ⟨new',hn1,hn2,hn3,hn4⟩ := firstC_run (P := P) hr hy hnew
 have hlen : ∀ w2,(Builtin.lenOf y').run P w2 = .ok sl w2 := by
  intro w2
  generalize y' = q at hy
  cases hy <;> simp only [lenV] at hsl <;> try (cases hsl; done)
  all_goals (injection hsl with hsl; subst hsl; rfl)
 have hnl : new.length = Nat.min sl dlen * i.size := by rw [hn2.1,hn4]
 have hrun : ∀ (base : Option Addr) (cap : Nat) (w' : World),(match base with | some ad => (storeCells ad new').run P w = .ok () w' | none => w' = w) →
   (Builtin.copy_ #[t,u] ty #[.slice base dlen cap,y']).run P w = .ok (goInt (Nat.min sl dlen)) w' := by
  intro base cap w' hst
  cases base with
  | none => simp only at hst; subst hst; simp [Builtin.copy_,run_und hu,hsize,hlen,hn1 w' rfl]
  | some ad => simp only at hst; simp [Builtin.copy_,run_und hu,hsize,hlen,hn1 w rfl,hst]
 cases hx with
 | nilS =>
  simp only [if_true] at hs
  injection hs with hs; injection hs with h1 h2
  subst h1; subst h2
  exact ⟨w,hrun none 0 w rfl,hr,Ev.refl _ _ _,.int _ _,rfl⟩
 | @slice id off len c cap p hp hz hle hc =>
  simp only at hs
  split at hs <;> try cases hs
  rename_i b hb
  split at hs <;> try cases hs
  rename_i hcond
  obtain ⟨w',s1,s2,s3⟩ := rel_write hr hb hcond.1 hp off (vs := new) (vs' := new') (by rw [hnl]; exact hcond.2) hn2 hn3
  exact ⟨w',hrun (some _) cap w' (s1 P),s2,s3,.int _ _,by simp⟩
 | @sliceE id off c p a hp =>
  simp only at hs
  split at hs <;> try cases hs
  rename_i b hb
  split at hs <;> try cases hs
  rename_i hcond
  have hm : Nat.min sl 0 = 0 := by simp
  obtain rfl : new = [] := List.eq_nil_of_length_eq_zero (by rw [hnl,hm]; simp)
  have hnl' : new' = [] := List.eq_nil_of_length_eq_zero (by have := hn2.1; simpa using this.symm)
  subst hnl'
  have hset : h.set id (some { b with cells := writeAt b.cells off [] }) = h := by
   simp only [writeAt]
   apply List.ext_getElem?
   intro k
   rw [List.getElem?_set]
   split
   ·rename_i e; subst e
    unfold blk? at hb
    split at hb <;> try cases hb
    rename_i hk
    rw [if_pos (List.getElem?_eq_some_iff.1 hk).1,hk]
   ·rfl
  rw [hset]
  exact ⟨w,hrun (some a) 0 w (by simp [storeCells]),hr,Ev.refl _ _ _,.int _ _,rfl⟩
theorem simW {op : Op} {rop : ROp} (hc : compileOp P op = some rop) (hcls : rop.cls = .W) (hnc : ∀ f args,rop ≠ .call f args) (hr : Rel ρ (view h) w) (hops : ∀ x ∈ op.operands,VRel ρ (ev e x) (ev' x)) {v : Value} {h' : Heap} (hs : stepOp rop e h = some (v,h')) (hf : Fresh ρ h.length h'.length) :
  ∃ v' w' ρ',(∀ (dst : Option Tmp) (ty : TypeId) (pos : String) (after : Array Edge) (guard : Option (Nat × Bool)),
    (execOp ev' { dst,op,type := ty,pos,after,guard }).run P w = .ok (.value v') w' ∨ ((execOp ev' { dst,op,type := ty,pos,after,guard }).run P w = .ok .skip w' ∧ v' = undef)) ∧
   Rel ρ' (view h') w' ∧ Ev ρ (view h) w ρ' (view h') w' ∧ PSame ρ ρ' h.length h'.length ∧ VRel ρ' v v' ∧ h.length ≤ h'.length := by
 rcases (cls_of hc).2.2 hcls with ⟨t,a,x,rfl⟩ | ⟨c,rfl⟩
 ·have ha := hops a (by simp [Op.operands])
  have hx := hops x (by simp [Op.operands])
  simp only [compileOp] at hc
  split at hc <;> try cases hc
  rename_i n hn
  simp only [stepOp] at hs
  split at hs <;> try cases hs
  rename_i hst
  obtain ⟨ad,w',hae,hsz,hrun,r1,r2,hl⟩ := rel_store hr ha hx hst
  refine ⟨undef,w',ρ,fun dst ty pos after guard => .inr ⟨?_,rfl⟩,r1,r2,PSame.refl _ _ _,noAddr_self ρ undef rfl,by omega⟩
  simp [execOp,Instr.storeAt,hae,Instr.sureAddr,storeVar,size_of hn,hsz,hrun P]
 ·rcases compileCall_inv hc with ⟨f,args,tys,rfl,_,rfl⟩ | ⟨x,t,rfl,⟨hu,rfl⟩ | ⟨⟨el,hu⟩,rfl⟩⟩ | ⟨x,xs,tys,rfl,rfl⟩ | ⟨x,xs,tys,rfl,rfl⟩ | ⟨x,y,t,u,el,i,z,rfl,hu,hi,hz,hux,rfl⟩ | ⟨x,y,t,u,el,i,rfl,hu,hi,rfl⟩
  ·exact absurd rfl (hnc _ _)
  ·simp [ROp.cls] at hcls
  ·simp [ROp.cls] at hcls
  ·simp [ROp.cls] at hcls
  ·simp [ROp.cls] at hcls
  ·have hx := hops x (by simp [Op.operands,Call.operands])
   have hy := hops y (by simp [Op.operands,Call.operands])
   simp only [stepOp] at hs
   obtain ⟨v',w',ρ',h1,h2,h3,h4,h5,h6⟩ := simAppend hu hi hz rfl hux hr hx hy hs hf 0
   refine ⟨v',w',ρ',fun dst ty pos after guard => .inl ?_,h2,h3,h4,h5,h6⟩
   obtain ⟨cs,he⟩ := exec_builtin (ev' := ev') .append #[x,y] #[t,u] dst ty pos after guard
   rw [he]
   have h1' : (Builtin.append_ #[t,u] ty #[ev' x,ev' y]).run P w = .ok v' w' := h1
   simp [builtin,h1']
  ·have hx := hops x (by simp [Op.operands,Call.operands])
   have hy := hops y (by simp [Op.operands,Call.operands])
   simp only [stepOp] at hs
   obtain ⟨w',h1,h2,h3,h4,h5⟩ := simCopy (u := u) hu hi hr hx hy hs 0
   refine ⟨v,w',ρ,fun dst ty pos after guard => .inl ?_,h2,h3,PSame.refl _ _ _,h4,by omega⟩
   obtain ⟨cs,he⟩ := exec_builtin (ev' := ev') .copy #[x,y] #[t,u] dst ty pos after guard
   rw [he]
   have h1' : (Builtin.copy_ #[t,u] ty #[ev' x,ev' y]).run P w = .ok v w' := h1
   simp [builtin,h1']
end
end Go.Sim
