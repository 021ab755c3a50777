/-
  A small deterministic evaluator: resolved code over an abstract heap. Definitions alone.
  The relation between an abstract heap and a world, and what keeps it.
  Loads, stores and new blocks, in the heap and in the world.
  The code of the program, resolved.
  An operation that writes nothing does in the program what it does in the evaluator.
  Loads, new blocks and writes: in the program as in the evaluator.
-/
import Derived.Calls
import Derived.LoopN
import Derived.Orders
import Derived.Laws.Sem
import Derived.Laws.Cells
import Derived.Laws.Tables
import Derived.Laws.Append
import Derived.Laws.CopyRow
import Derived.Below
import Derived.Laws.StructEq
import Derived.Laws.Slices
import Derived.Laws.AppendOwn
namespace Go.Sim
structure Blk where
 ro : Bool
 cells : List Value
 deriving Inhabited
abbrev Gag:=List (Option Blk)
abbrev Env:=Array Value
def isCell : Value→Bool
 | .agg _=>false
 | .tuple _=>false
 | _=>true
inductive EqK where
 | int | bool | str | ptr | slice | func
 | fields (l : List (Nat × EqK))
 deriving Inhabited
mutual
def eqV : EqK→Value→Value→Option Bool
 | .int,.int k a,.int k' b=>if k = k' then some (a == b) else none
 | .bool,.bool a,.bool b=>some (a == b)
 | .str,.string a,.string b=>some (a == b)
 | .ptr,.pointer none,.pointer b=>some b.isNone
 | .ptr,.pointer (some _),.pointer none=>some false
 | .slice,.slice none _ _,.slice b _ _=>some b.isNone
 | .slice,.slice (some _) _ _,.slice none _ _=>some false
 | .func,.nilFunc,.nilFunc=>some true
 | .func,.nilFunc,.func _ _ _=>some false
 | .func,.func _ _ _,.nilFunc=>some false
 | .fields l,.agg xs,.agg ys=>eqFields l xs ys
 | _,_,_=>none
def eqFields : List (Nat × EqK)→Array Value→Array Value→Option Bool
 | [],_,_=>some true
 | (off,k) :: l,xs,ys =>
  match xs[off]?,ys[off]? with
  | some x,some y =>
   match eqV k x y with
   | some true=>eqFields l xs ys
   | some false=>some false
   | none=>none
  | _,_=>none
end
def Gfp (op : BinOp) (k : IntKind) (a : Int) (k' : IntKind) (b : Int) : Option Value :=
 match op with
 | .shl=>if b < 0 then none else some (.int k (k.wrap (a * 2 ^ (min b.toNat k.bits))))
 | .shr=>if b < 0 then none else some (.int k (a.fdiv (2 ^ (min b.toNat k.bits))))
 | op =>
  if k ≠ k' then none else
  match op with
  | .add=>some (.int k (k.wrap (a + b)))
  | .sub=>some (.int k (k.wrap (a - b)))
  | .mul=>some (.int k (k.wrap (a * b)))
  | .quo=>if b = 0 then none else some (.int k (k.wrap (a.tdiv b)))
  | .rem=>if b = 0 then none else some (.int k (a.tmod b))
  | .and=>some (.int k (k.wrap (BitVec.ofInt k.bits a &&& BitVec.ofInt k.bits b).toNat))
  | .or=>some (.int k (k.wrap (BitVec.ofInt k.bits a ||| BitVec.ofInt k.bits b).toNat))
  | .xor=>some (.int k (k.wrap (BitVec.ofInt k.bits a ^^^ BitVec.ofInt k.bits b).toNat))
  | .andNot=>some (.int k (k.wrap (BitVec.ofInt k.bits a &&& ~~~(BitVec.ofInt k.bits b)).toNat))
  | .eql=>some (.bool (a == b))
  | .neq=>some (.bool (a != b))
  | .lss=>some (.bool (a < b))
  | .leq=>some (.bool (a≤b))
  | .gtr=>some (.bool (a > b))
  | .geq=>some (.bool (a ≥ b))
  | _=>none
def Qcg (op : BinOp) (a b : ByteArray) : Option Value :=
 match op with
 | .add=>if a.size + b.size≤140737488355328 then some (.string (a++b)) else none
 | .eql=>some (.bool (a.toList == b.toList))
 | .neq=>some (.bool !(a.toList == b.toList))
 | .lss=>some (.bool (Op.bytesLess a.toList b.toList))
 | .leq=>some (.bool (Op.bytesLess a.toList b.toList || a.toList == b.toList))
 | .gtr=>some (.bool !(Op.bytesLess a.toList b.toList || a.toList == b.toList))
 | .geq=>some (.bool !(Op.bytesLess a.toList b.toList))
 | _=>none
def Qe1 (op : BinOp) : Value→Value→Option Value
 | .int k a,.int k' b=>Gfp op k a k' b
 | .string a,.string b=>Qcg op a b
 | _,_=>none
def unV (op : UnOp) : Value→Option Value
 | .int k n =>
  match op with
  | .neg=>some (.int k (k.wrap (0 - n)))
  | .xor=>some (.int k (k.wrap (BitVec.ofInt k.bits (if k.signed then -1 else k.max) ^^^ BitVec.ofInt k.bits n).toNat))
  | _=>none
 | .bool b=>match op with | .not=>some (.bool !b) | _=>none
 | _=>none
inductive ROp where
 | mov (x : Operand)
 | movS (x : Operand)
 | pick (c a b : Operand)
 | alloc (zero : List Value)
 | box (x : Operand)
 | build (zero : List Value) (places : List (Nat × Nat)) (parts : List (Nat × Operand))
 | buildSlice (esz len : Nat) (zero : List Value) (parts : List (Nat × Operand))
 | load (n : Nat) (agg : Bool) (a : Operand)
 | store (n : Nat) (a x : Operand)
 | nilCheck (x : Operand)
 | bin (op : BinOp) (x y : Operand)
 | eq (neg : Bool) (k : EqK) (x y : Operand)
 | un (op : UnOp) (x : Operand)
 | convInt (k : IntKind) (x : Operand)
 | makeFunc (fn : FuncId) (first captured : List Operand)
 | makeSlice (esz bytes : Nat) (zero : List Value) (l c : Operand)
 | sliceS (x : Operand) (lo hi : Option Operand)
 | slice (esz : Nat) (x : Operand) (lo hi : Option Operand)
 | fieldAddr (off : Nat) (x : Operand)
 | field (off n : Nat) (agg : Bool) (x : Operand)
 | indexArr (len esz : Nat) (x i : Operand)
 | indexSl (esz : Nat) (x i : Operand)
 | indexV (len esz : Nat) (agg : Bool) (x i : Operand)
 | indexS (x i : Operand)
 | len (x : Operand)
 | lenS (x : Operand)
 | min (args : List Operand)
 | max (args : List Operand)
 | append (esz bytes : Nat) (x y : Operand)
 | copy (esz : Nat) (x y : Operand)
 | bytesToStr (x : Operand)
 | extract (x : Operand) (i : Nat)
 | call (f : Operand) (args : List Operand)
 | mkI (t : TypeId) (x : Operand)
 | bad
 deriving Inhabited
structure Ga6 where
 dst : Option Tmp
 op : ROp
 guard : Option (Option Tmp × Bool)
 deriving Inhabited
inductive Cls where | P | L | A | W
 deriving DecidableEq,Inhabited
def ROp.cls : ROp→Cls
 | .load .. | .bytesToStr _=>.L
 | .alloc _ | .box _ | .buildSlice .. | .makeSlice ..=>.A
 | .store .. | .append .. | .copy .. | .call ..=>.W
 | _=>.P
inductive RCode where
 | skip
 | region (ops : List Ga6) (pairs : List (Nat × Nat))
 | seq (a b : RCode)
 | cond (c : Operand) (thn els : RCode)
 | block (id : Nat) (c : RCode)
 | scope (c : RCode)
 | loop (c : RCode)
 | exit (id : Nat)
 | ret
 deriving Inhabited
inductive Qb7 where
 | ld (n : Nat) (agg : Bool) (str : Bool) (a v : Value)
 | hv (h h' : Gag)
 deriving Inhabited
abbrev Log:=List (Nat × Qb7)
inductive Ga1 where
 | code (c : RCode)
 | inBlock (id : Nat)
 | inScope
 | inLoop (c : RCode)
 | ops (os : List Ga6) (i : Nat) (pairs : List (Nat × Nat)) (log : Log)
 deriving Inhabited
inductive Qe5 where
 | tmp (t : Tmp)
 | cell (a : Tmp) (n : Nat) (agg : Bool)
 deriving Inhabited
inductive Mode where | run | iso | rd
 deriving Inhabited
structure Gak where
 ntmps : Nat
 results : List Qe5
 body : RCode
 iso : Mode
 deriving Inhabited
def ev (e : Env) : Operand→Value
 | .tmp t=>e.getD t undef
 | .const v=>v
 | .global g=>.pointer (some ⟨g,0,none⟩)
 | .func f=>.func (.func f) #[] #[]
def put (e : Env) (dst : Option Tmp) (v : Value) : Env :=
 match dst with
 | some d=>e.setIfInBounds d v
 | none=>e
def blk? (h : Gag) (id : Nat) : Option Blk :=
 match h[id]? with
 | some (some b)=>some b
 | _=>none
def Gdq (h : Gag) (n : Nat) (agg : Bool) : Value→Option Value
 | .pointer (some ⟨id,off,none⟩) =>
  match blk? h id with
  | some b =>
   match agg with
   | true=>if off + n≤b.cells.length then some (.agg ((b.cells.drop off).take n).toArray) else none
   | false=>b.cells[off]?
  | none=>none
 | _=>none
def writeAt : List Value→Nat→List Value→List Value
 | l,_,[]=>l
 | l,off,v :: vs=>writeAt (l.set off v) (off + 1) vs
def isVar : Value→Bool
 | .tuple _=>false
 | _=>true
def Gmn (h : Gag) (n : Nat) (a v : Value) : Option Gag :=
 match a with
 | .pointer (some ⟨id,off,none⟩) =>
  match blk? h id with
  | some b =>
   if b.ro = false∧isVar v = true∧v.cells.size = n∧off + n≤b.cells.length then
    some (h.set id (some { b with cells:=writeAt b.cells off v.cells.toList }))
   else none
  | none=>none
 | _=>none
def Gfs (place : Nat→Option (Nat × Nat)) (cells : List Value) : List (Nat × Value)→Option (List Value)
 | []=>some cells
 | (i,v) :: rest =>
  match place i with
  | none=>none
  | some (off,size) =>
   if isVar v = true∧v.cells.size = size∧off + size≤cells.length then Gfs place (writeAt cells off v.cells.toList) rest else none
def Gd4 (zero : List Value) : Nat→List Value
 | 0=>[]
 | n + 1=>zero++Gd4 zero n
def asI : Value→Option Int
 | .int _ n=>some n
 | _=>none
def bnd (v : Value) (y : Nat) : Option Nat :=
 match v with
 | .int _ i=>if 0≤i∧i≤(y : Int) then some i.toNat else none
 | _=>none
def Gl5 (o : Option Value) (y d : Nat) : Option Nat :=
 match o with
 | some v=>bnd v y
 | none=>some d
def Gc8 (esz : Nat) (x : Value) (lo hi : Option Value) : Option Value :=
 match x with
 | .slice a len c =>
  match Gl5 hi len len with
  | none=>none
  | some t =>
   match Gl5 lo t 0 with
   | none=>none
   | some l =>
    match a with
    | none=>if len = 0∧c = 0 then some (.slice none 0 0) else none
    | some ⟨id,off,none⟩ =>
     if c = esz then some (.slice (some ⟨id,off + l * esz,none⟩) (t - l) esz) else none
    | _=>none
 | _=>none
def Gs5 (x : Value) (lo hi : Option Value) : Option Value :=
 match x with
 | .string s =>
  match Gl5 hi s.size s.size with
  | none=>none
  | some t =>
   match Gl5 lo t 0 with
   | none=>none
   | some l=>some (.string (s.extract l t))
 | _=>none
def firstC (h : Gag) (esz : Nat) (n : Nat) : Value→Option (List Value)
 | .slice none _ _=>if n = 0 then some [] else none
 | .slice (some ⟨id,off,none⟩) len _ =>
  if n = 0 then some [] else
  match blk? h id with
  | some b=>if n≤len∧off + n * esz≤b.cells.length then some ((b.cells.drop off).take (n * esz)) else none
  | none=>none
 | .string s=>if n = s.size∧esz = 1 then some (s.data.toList.map fun b=>.int .u8 b.toNat) else none
 | _=>none
def lenV : Value→Option Nat
 | .slice _ n _=>some n
 | .string s=>some s.size
 | _=>none
def Gaq : Nat:=4294967296
def Gb0 (h : Gag) (esz bytes : Nat) (x y : Value) : Option (Value × Gag) :=
 match lenV y with
 | none=>none
 | some n =>
  match firstC h esz n y with
  | none=>none
  | some new =>
   match x with
   | .slice none 0 0 =>
    if n = 0 then some (.slice none 0 0,h)
    else if n≤Gaq∧bytes≤4096 then some (.slice (some ⟨h.length,0,none⟩) n esz,h++[some ⟨false,new⟩])
    else none
   | .slice (some ⟨id,off,none⟩) len c =>
    match blk? h id with
    | some b =>
     if b.ro = false∧c = esz∧off + len * esz≤b.cells.length∧len + n≤Gaq∧bytes≤4096 then
      some (.slice (some ⟨h.length,0,none⟩) (len + n) esz,h.set id none++[some ⟨false,(b.cells.drop off).take (len * esz)++new⟩])
     else none
    | none=>none
   | _=>none
def copyV (h : Gag) (esz : Nat) (x y : Value) : Option (Value × Gag) :=
 match x with
 | .slice a dlen _ =>
  match lenV y with
  | none=>none
  | some sl =>
   match firstC h esz (Nat.min sl dlen) y with
   | none=>none
   | some new =>
    match a with
    | none=>if dlen = 0 then some (.int .i64 (Nat.min sl dlen),h) else none
    | some ⟨id,off,none⟩ =>
     match blk? h id with
     | some b =>
      if b.ro = false∧off + Nat.min sl dlen * esz≤b.cells.length then
       some (.int .i64 (Nat.min sl dlen),h.set id (some { b with cells:=writeAt b.cells off new }))
      else none
     | none=>none
    | _=>none
 | _=>none
def Gfo : Value→Value→Option Value
 | .int k x,.int _ y=>some (.int k (if y < x then y else x))
 | _,_=>none
def Gh1 : Value→Value→Option Value
 | .int k x,.int _ y=>some (.int k (if y > x then y else x))
 | _,_=>none
def Gcq (f : Value→Value→Option Value) : Value→List Value→Option Value
 | x,[]=>some x
 | x,y :: ys=>match f x y with | some z=>Gcq f z ys | none=>none
def Gci (f : Value→Value→Option Value) : List Value→Option Value
 | []=>none
 | x :: xs=>Gcq f x xs
def Gfz : List Value→Option (List UInt8)
 | []=>some []
 | .int .u8 n :: r=>match Gfz r with | some l=>some (UInt8.ofNat n.toNat :: l) | none=>none
 | _=>none
def Gam (op : ROp) (e : Env) (h : Gag) : Option (Value × Gag) :=
 match op with
 | .mov x=>some (ev e x,h)
 | .movS x=>match ev e x with | .string s=>some (.string s,h) | _=>none
 | .pick c a b=>match ev e c with | .bool t=>some (match t with | true=>ev e a | false=>ev e b,h) | _=>none
 | .alloc zero=>some (.pointer (some ⟨h.length,0,none⟩),h++[some ⟨false,zero⟩])
 | .box x=>if isVar (ev e x) = true then some (.pointer (some ⟨h.length,0,none⟩),h++[some ⟨false,(ev e x).cells.toList⟩]) else none
 | .build zero places parts =>
  match Gfs (fun i=>places[i]?) zero (parts.map fun p=>(p.1,ev e p.2)) with
  | some cs=>some (.agg cs.toArray,h)
  | none=>none
 | .buildSlice esz len zero parts =>
  match Gfs (fun i=>some (i * esz,esz)) (Gd4 zero len) (parts.map fun p=>(p.1,ev e p.2)) with
  | some cs=>some (.slice (some ⟨h.length,0,none⟩) len esz,h++[some ⟨false,cs⟩])
  | none=>none
 | .load n agg a=>match Gdq h n agg (ev e a) with | some v=>some (v,h) | none=>none
 | .store n a x=>match Gmn h n (ev e a) (ev e x) with | some h'=>some (undef,h') | none=>none
 | .nilCheck x=>match ev e x with | .pointer (some a)=>some (.pointer (some a),h) | .func (.func f) a b=>some (.func (.func f) a b,h) | _=>none
 | .bin op x y=>match Qe1 op (ev e x) (ev e y) with | some v=>some (v,h) | none=>none
 | .eq neg k x y=>match eqV k (ev e x) (ev e y) with | some b=>some (.bool (match neg with | true=>!b | false=>b),h) | none=>none
 | .un op x=>match unV op (ev e x) with | some v=>some (v,h) | none=>none
 | .convInt k x=>match ev e x with | .int _ n=>some (.int k (k.wrap n),h) | _=>none
 | .makeFunc fn first cap=>some (.func (.func fn) (first.map (ev e)).toArray (cap.map (ev e)).toArray,h)
 | .makeSlice esz bytes zero l c =>
  match ev e l,ev e c with
  | .int .i64 a,.int .i64 b =>
   if 0≤a∧a≤b∧b≤(Gaq : Int)∧bytes≤4096 then
    some (.slice (some ⟨h.length,0,none⟩) a.toNat esz,h++[some ⟨false,Gd4 zero a.toNat⟩])
   else none
  | _,_=>none
 | .sliceS x lo hi=>match Gs5 (ev e x) (lo.map (ev e)) (hi.map (ev e)) with | some v=>some (v,h) | none=>none
 | .slice esz x lo hi=>match Gc8 esz (ev e x) (lo.map (ev e)) (hi.map (ev e)) with | some v=>some (v,h) | none=>none
 | .fieldAddr off x=>match ev e x with | .pointer (some ⟨id,o,none⟩)=>some (.pointer (some ⟨id,o + off,none⟩),h) | _=>none
 | .field off n agg x =>
  match ev e x with
  | .agg cs =>
   (match agg with
   | true=>if off + n≤cs.size then some (.agg (cs.extract off (off + n)),h) else none
   | false=>match cs[off]? with | some v=>some (v,h) | none=>none)
  | _=>none
 | .indexArr len esz x i =>
  match ev e x,ev e i with
  | .pointer (some ⟨id,o,none⟩),.int _ j=>if 0≤j∧j < (len : Int) then some (.pointer (some ⟨id,o + j.toNat * esz,none⟩),h) else none
  | _,_=>none
 | .indexSl esz x i =>
  match ev e x,ev e i with
  | .slice (some ⟨id,o,none⟩) len _,.int _ j=>if 0≤j∧j < (len : Int) then some (.pointer (some ⟨id,o + j.toNat * esz,none⟩),h) else none
  | _,_=>none
 | .indexV len esz agg x i =>
  match ev e x,ev e i with
  | .agg cs,.int _ j =>
   if 0≤j∧j < (len : Int) then
    match agg with
    | true=>if j.toNat * esz + esz≤cs.size then some (.agg (cs.extract (j.toNat * esz) (j.toNat * esz + esz)),h) else none
    | false=>match cs[j.toNat * esz]? with | some v=>some (v,h) | none=>none
   else none
  | _,_=>none
 | .indexS x i =>
  match ev e x,ev e i with
  | .string s,.int _ j=>if 0≤j then (match s[j.toNat]? with | some b=>some (.int .u8 b.toNat,h) | none=>none) else none
  | _,_=>none
 | .len x=>match ev e x with | .slice _ n _=>some (.int .i64 n,h) | _=>none
 | .lenS x=>match ev e x with | .string s=>some (.int .i64 s.size,h) | _=>none
 | .min args=>match Gci Gfo (args.map (ev e)) with | some v=>some (v,h) | none=>none
 | .max args=>match Gci Gh1 (args.map (ev e)) with | some v=>some (v,h) | none=>none
 | .append esz bytes x y=>Gb0 h esz bytes (ev e x) (ev e y)
 | .copy esz x y=>copyV h esz (ev e x) (ev e y)
 | .bytesToStr x =>
  match ev e x with
  | .slice a len c =>
   (match firstC h 1 len (.slice a len c) with
   | some cs=>match Gfz cs with | some l=>some (.string ⟨l.toArray⟩,h) | none=>none
   | none=>none)
  | _=>none
 | .extract x i=>match ev e x with | .tuple vs=>(match vs[i]? with | some v=>some (v,h) | none=>none) | _=>none
 | .call _ _=>none
 | .mkI t x=>if isVar (ev e x) = true then some (.iface t (ev e x),h) else none
 | .bad=>none
def veq : Nat→Value→Value→Bool
 | 0,_,_=>false
 | d + 1,x,y =>
  match x,y with
  | .bool a,.bool b=>a == b
  | .int k a,.int k' b=>decide (k = k') && decide (a = b)
  | .string a,.string b=>decide (a.data.toList = b.data.toList)
  | .pointer a,.pointer b=>decide (a = b)
  | .slice a n c,.slice b m k=>decide (a = b) && decide (n = m) && decide (c = k)
  | .nilFunc,.nilFunc=>true
  | .nilIface,.nilIface=>true
  | .iface t a,.iface u b=>decide (t = u) && veq d a b
  | .func f a b,.func g c d'=>decide (f = g) && all2 d a.toList c.toList && all2 d b.toList d'.toList
  | .agg a,.agg b=>all2 d a.toList b.toList
  | _,_=>false
 where all2 (d : Nat) : List Value→List Value→Bool
 | [],[]=>true
 | x :: xs,y :: ys=>veq d x y && all2 d xs ys
 | _,_=>false
def Gbq (log : Log) (i : Nat) : Option Qb7 :=
 match log with
 | []=>none
 | (j,x) :: r=>if j = i then some x else Gbq r i
def Gcg (h : Gag) (n : Nat) (agg str : Bool) (a : Value) : Option Value :=
 match str with
 | false=>Gdq h n agg a
 | true =>
  match a with
  | .slice p len c =>
   (match firstC h 1 len (.slice p len c) with
   | some cs=>match Gfz cs with | some l=>some (.string ⟨l.toArray⟩) | none=>none
   | none=>none)
  | _=>none
def Ghw (log : Log) (p : Nat × Nat) : Bool :=
 match Gbq log p.1,Gbq log p.2 with
 | some (.ld n agg str a v),some (.hv h h') =>
  match Gcg (if p.1 < p.2 then h' else h) n agg str a with
  | some v'=>veq 4 v v'
  | none=>false
 | _,_=>true
def wanted (o : Ga6) (e : Env) : Bool :=
 match o.guard with
 | none=>true
 | some (t,want) =>
  match (match t with | some t=>e[t]? | none=>none) with
  | some (.bool b)=>b == want
  | _=>false
def Gb5 (pairs : List (Nat × Nat)) (i : Nat) (x : Qb7) (log : Log) : Log :=
 match pairs with
 | []=>log
 | p :: ps=>if ((p :: ps).any fun q=>q.1 == i || q.2 == i) then (i,x) :: log else log
def Gd0 (op : ROp) (e : Env) (h h' : Gag) (v : Value) : Option Qb7 :=
 match op with
 | .load n agg a=>some (.ld n agg false (ev e a) v)
 | .bytesToStr a=>some (.ld 0 false true (ev e a) v)
 | .store .. | .append .. | .copy .. | .call ..=>some (.hv h h')
 | _=>none
def book (pairs : List (Nat × Nat)) (i : Nat) (op : ROp) (e : Env) (h h' : Gag) (v : Value) (log : Log) : Log :=
 match pairs with
 | []=>log
 | _ :: _=>match Gd0 op e h h' v with | some x=>Gb5 pairs i x log | none=>log
def Ghq (pairs : List (Nat × Nat)) (i : Nat) (op : ROp) (h : Gag) (log : Log) : Log :=
 match pairs with
 | []=>log
 | _ :: _=>match op.cls with | .W=>Gb5 pairs i (.hv h h) log | _=>log
def Ghb (id : Nat) : List Ga1→Option (List Ga1)
 | []=>none
 | .inBlock j :: k=>if j = id then some k else Ghb id k
 | _ :: k=>Ghb id k
def Gpk (e : Env) (h : Gag) : Qe5→Option Value
 | .tmp t=>some (e.getD t undef)
 | .cell a n agg=>Gdq h n agg (e.getD a undef)
def Gbu : List (Option Value)→Option (List Value)
 | []=>some []
 | none :: _=>none
 | some v :: r=>match Gbu r with | some l=>some (v :: l) | none=>none
def Gae (F : Gak) (e : Env) (h : Gag) : Option (Value × Gag) :=
 match Gbu (F.results.map (Gpk e h)) with
 | none=>none
 | some [v]=>some (v,h)
 | some l=>some (.tuple l.toArray,h)
mutual
def Gbi : Value→Bool
 | .bool _ | .int _ _ | .string _ | .nilFunc | .nilIface=>true
 | .pointer none=>true
 | .slice none 0 0=>true
 | .agg cs=>Gcn cs.toList
 | .tuple cs=>Gf8 cs.toList
 | _=>false
def Gcn : List Value→Bool
 | []=>true
 | v :: r=>isCell v && Gbi v && Gcn r
def Gf8 : List Value→Bool
 | []=>true
 | v :: r=>Gbi v && Gf8 r
end
mutual
def below (n : Nat) : Value→Bool
 | .pointer (some a)=>decide (a.block < n)
 | .slice (some a) _ _=>decide (a.block < n)
 | .func _ a b=>Gat n a.toList && Gat n b.toList
 | .agg cs=>Gat n cs.toList
 | .tuple cs=>Gat n cs.toList
 | .iface _ v=>below n v
 | _=>true
def Gat (n : Nat) : List Value→Bool
 | []=>true
 | v :: r=>below n v && Gat n r
end
def Qe7 (n : Nat) : Option Blk→Option Blk
 | some b=>if Gat n b.cells = true then some ⟨true,b.cells⟩ else none
 | none=>none
def frz (h : Gag) : Gag:=h.map (Qe7 h.length)
def Gfu (t : TypeId) : List Value→Option FuncId
 | .int _ u :: .func (.func g) _ _ :: r=>if u = (t : Int) then some g else Gfu t r
 | _=>none
def callee (e : Env) (f : Operand) (args : List Operand) : Option (FuncId × List Value) :=
 match f with
 | .const (.tuple tb) =>
  match args.map (ev e) with
  | .iface t v :: rest=>match Gfu t tb.toList with | some g=>some (g,v :: rest) | none=>none
  | _=>none
 | f =>
  match ev e f with
  | .func (.func g) first captured=>some (g,first.toList++args.map (ev e)++captured.toList)
  | _=>none
def Gby (F : Gak) (args : List Value) : Env:=args.toArray++Array.replicate (F.ntmps - args.length) undef
abbrev Tab:=FuncId→Option Gak
def run (T : Tab) : Nat→Gak→List Ga1→Env→Gag→Option (Value × Gag)
 | 0,_,_,_,_=>none
 | n + 1,F,k,e,h =>
  match k with
  | []=>Gae F e h
  | .code .skip :: k=>run T n F k e h
  | .code (.region os ps) :: k=>run T n F (.ops os 0 ps [] :: k) e h
  | .code (.seq a b) :: k=>run T n F (.code a :: .code b :: k) e h
  | .code (.cond c a b) :: k =>
   match ev e c with
   | .bool true=>run T n F (.code a :: k) e h
   | .bool false=>run T n F (.code b :: k) e h
   | _=>none
  | .code (.block id c) :: k=>run T n F (.code c :: .inBlock id :: k) e h
  | .code (.scope c) :: k=>run T n F (.code c :: .inScope :: k) e h
  | .code (.loop c) :: k=>run T n F (.code c :: .inLoop c :: k) e h
  | .code (.exit id) :: k=>match Ghb id k with | some k'=>run T n F k' e h | none=>none
  | .code .ret :: _=>Gae F e h
  | .inBlock _ :: k=>run T n F k e h
  | .inScope :: k=>run T n F k e h
  | .inLoop c :: k=>run T n F (.code c :: .inLoop c :: k) e h
  | .ops [] _ ps log :: k=>if ps.all (Ghw log) = true then run T n F k e h else none
  | .ops (o :: os) i ps log :: k =>
   match wanted o e with
   | false=>run T n F (.ops os (i + 1) ps (Ghq ps i o.op h log) :: k) (put e o.dst undef) h
   | true =>
    match o.op with
    | .call f args =>
     match callee e f args with
     | none=>none
     | some (g,vs) =>
      match T g with
      | none=>none
      | some G =>
       match G.iso with
       | .rd =>
        if Gat h.length vs = true then
         match run T n G [.code G.body] (Gby G vs) (frz h) with
         | some (v,_)=>if below h.length v = true then run T n F (.ops os (i + 1) ps (book ps i o.op e h h v log) :: k) (put e o.dst v) h else none
         | none=>none
        else none
       | .iso =>
        if vs.all Gbi = true then
         match run T n G [.code G.body] (Gby G vs) [] with
         | some (v,_)=>if Gbi v = true then run T n F (.ops os (i + 1) ps (book ps i o.op e h h v log) :: k) (put e o.dst v) h else none
         | none=>none
        else none
       | .run =>
        match run T n G [.code G.body] (Gby G vs) h with
        | some (v,h')=>run T n F (.ops os (i + 1) ps (book ps i o.op e h h' v log) :: k) (put e o.dst v) h'
        | none=>none
    | op =>
     match Gam op e h with
     | some (v,h')=>run T n F (.ops os (i + 1) ps (book ps i op e h h' v log) :: k) (put e o.dst v) h'
     | none=>none
abbrev RP:=Value→Gag→Prop
open Go.RowKit
structure Place where
 b : Nat
 base : Nat
 ext : Nat
 esz : Nat
abbrev Gbd:=Nat→Option Place
inductive Gav (ρ : Gbd) : Value→Value→Prop
 | bool (b : Bool) : Gav ρ (.bool b) (.bool b)
 | int (k : IntKind) (n : Int) : Gav ρ (.int k n) (.int k n)
 | str (s : ByteArray) : Gav ρ (.string s) (.string s)
 | nilF : Gav ρ .nilFunc .nilFunc
 | nilI : Gav ρ .nilIface .nilIface
 | nilP : Gav ρ (.pointer none) (.pointer none)
 | nilS : Gav ρ (.slice none 0 0) (.slice none 0 0)
 | ptr {id off : Nat} {p : Place} (h : ρ id = some p) : Gav ρ (.pointer (some ⟨id,off,none⟩)) (.pointer (some ⟨p.b,p.base + off,none⟩))
 | slice {id off n c cap : Nat} {p : Place} (h : ρ id = some p) (hz : p.esz = c) (hn : n≤cap) (hc : off + cap * p.esz≤p.ext) :
   Gav ρ (.slice (some ⟨id,off,none⟩) n c) (.slice (some ⟨p.b,p.base + off,none⟩) n cap)
 | sliceE {id off c : Nat} {p : Place} {a : Addr} (h : ρ id = some p) : Gav ρ (.slice (some ⟨id,off,none⟩) 0 c) (.slice (some a) 0 0)
 | func (f : Fn) {a a' b b' : Array Value} (ha : a.size = a'.size) (hb : b.size = b'.size)
   (ra : ∀ i (h : i < a.size) (h' : i < a'.size),Gav ρ a[i] a'[i]) (rb : ∀ i (h : i < b.size) (h' : i < b'.size),Gav ρ b[i] b'[i]) : Gav ρ (.func f a b) (.func f a' b')
 | agg {a a' : Array Value} (ha : a.size = a'.size) (hc : ∀ i (h : i < a.size),isCell a[i] = true)
   (ra : ∀ i (h : i < a.size) (h' : i < a'.size),Gav ρ a[i] a'[i]) : Gav ρ (.agg a) (.agg a')
 | iface (t : TypeId) {v v' : Value} (hv : Sim.isVar v = true) (h : Gav ρ v v') : Gav ρ (.iface t v) (.iface t v')
 | tuple {a a' : Array Value} (ha : a.size = a'.size)
   (ra : ∀ i (h : i < a.size) (h' : i < a'.size),Gav ρ a[i] a'[i]) : Gav ρ (.tuple a) (.tuple a')
def PLe (ρ ρ' : Gbd) : Prop:=∀ id p,ρ id = some p→ρ' id = some p
theorem PLe.refl (ρ : Gbd) : PLe ρ ρ:=fun _ _ h=>h
theorem Gav.mono {ρ ρ' : Gbd} (hl : PLe ρ ρ') {v v' : Value} (h : Gav ρ v v') : Gav ρ' v v':=by
 induction h with
 | bool b=>exact .bool b
 | int k n=>exact .int k n
 | str s=>exact .str s
 | nilF=>exact .nilF
 | nilI=>exact .nilI
 | nilP=>exact .nilP
 | nilS=>exact .nilS
 | ptr h=>exact .ptr (hl _ _ h)
 | slice h hz hn hc=>exact .slice (hl _ _ h) hz hn hc
 | sliceE h=>exact .sliceE (hl _ _ h)
 | func f ha hb _ _ ia ib=>exact .func f ha hb ia ib
 | agg ha hc _ ia=>exact .agg ha hc ia
 | iface t hv _ ih=>exact .iface t hv ih
 | tuple ha _ ia=>exact .tuple ha ia
theorem Gav.isCell {ρ : Gbd} {v v' : Value} (h : Gav ρ v v') : isCell v' = isCell v:=by
 cases h <;> rfl
theorem Gh5 {v : Value} (h : Sim.isCell v = true) : v.oneCell' = true:=by
 cases v <;> simp_all [Sim.isCell,Value.oneCell']
def LRel (ρ : Gbd) (l l' : List Value) : Prop:=l.length = l'.length∧∀ (i : Nat) v,l[i]? = some v→∃ v',l'[i]? = some v'∧Gav ρ v v'
theorem LRel.nil (ρ : Gbd) : LRel ρ [] []:=⟨rfl,by simp⟩
theorem LRel.cons {ρ : Gbd} {v v' : Value} {l l' : List Value} (h : Gav ρ v v') (hl : LRel ρ l l') : LRel ρ (v :: l) (v' :: l'):=by
 refine ⟨by simp [hl.1],fun i x hx=>?_⟩
 cases i with
 | zero=>simp at hx; subst hx; exact ⟨v',by simp,h⟩
 | succ i=>simp at hx; simpa using hl.2 i x hx
theorem LRel.mono {ρ ρ' : Gbd} (hp : PLe ρ ρ') {l l' : List Value} (h : LRel ρ l l') : LRel ρ' l l' :=
 ⟨h.1,fun i v hv=>let ⟨v',a,b⟩:=h.2 i v hv; ⟨v',a,b.mono hp⟩⟩
theorem LRel.append {ρ : Gbd} {a a' b b' : List Value} (h : LRel ρ a a') (k : LRel ρ b b') : LRel ρ (a++b) (a'++b'):=by
 refine ⟨by simp [h.1,k.1],fun i v hv=>?_⟩
 by_cases hi : i < a.length
 ·rw [List.getElem?_append_left hi] at hv
  rw [List.getElem?_append_left (by rw [← h.1]; exact hi)]
  exact h.2 i v hv
 ·rw [List.getElem?_append_right (by omega)] at hv
  rw [List.getElem?_append_right (by rw [← h.1]; omega),← h.1]
  exact k.2 _ v hv
theorem LRel.of_getElem {ρ : Gbd} {a a' : Array Value} (ha : a.size = a'.size) (ra : ∀ i (h : i < a.size) (h' : i < a'.size),Gav ρ a[i] a'[i]) : LRel ρ a.toList a'.toList:=by
 refine ⟨by simpa using ha,fun i v hv=>?_⟩
 have hi : i < a.size:=by
  have:=(List.getElem?_eq_some_iff.1 hv).1
  simpa using this
 refine ⟨a'[i],by simp [ha ▸ hi],?_⟩
 have : a[i] = v:=by simpa [hi] using hv
 rw [← this]
 exact ra i hi (ha ▸ hi)
theorem LRel.get {ρ : Gbd} {l l' : List Value} (h : LRel ρ l l') (i : Nat) (hi : i < l.length) (hi' : i < l'.length) : Gav ρ l[i] l'[i]:=by
 obtain ⟨v',h1,h2⟩:=h.2 i l[i] (by simp [hi])
 rw [List.getElem?_eq_getElem hi'] at h1
 injection h1 with h1
 rw [h1]; exact h2
theorem LRel.agg {ρ : Gbd} {l l' : List Value} (h : LRel ρ l l') (hc : ∀ v ∈ l,Sim.isCell v = true) : Gav ρ (.agg l.toArray) (.agg l'.toArray) :=
 .agg (by simpa using h.1) (fun i hi=>hc _ (by simp at hi; simp)) (fun i hi hi'=>by simp at hi hi'; simpa using h.get i hi hi')
theorem LRel.tuple {ρ : Gbd} {l l' : List Value} (h : LRel ρ l l') : Gav ρ (.tuple l.toArray) (.tuple l'.toArray) :=
 .tuple (by simpa using h.1) (fun i hi hi'=>by simp at hi hi'; simpa using h.get i hi hi')
theorem LRel.set {ρ : Gbd} {l l' : List Value} (h : LRel ρ l l') (n : Nat) {v v' : Value} (hv : Gav ρ v v') : LRel ρ (l.set n v) (l'.set n v'):=by
 refine ⟨by simp [h.1],fun i x hx=>?_⟩
 rw [List.getElem?_set] at hx
 rw [List.getElem?_set,← h.1]
 split at hx
 ·rename_i hi
  rw [if_pos hi]
  split at hx
  ·rename_i hl
   rw [if_pos hl]
   injection hx with hx
   subst hx; exact ⟨v',rfl,hv⟩
  ·cases hx
 ·rename_i hi
  rw [if_neg hi]
  exact h.2 i x hx
theorem LRel.writeAt {ρ : Gbd} : ∀ {vs vs' : List Value} {l l' : List Value} (n : Nat),LRel ρ l l'→LRel ρ vs vs'→LRel ρ (writeAt l n vs) (writeAt l' n vs')
 | [],[],l,l',n,h,_=>h
 | [],_ :: _,_,_,_,_,k=>by have:=k.1; simp at this
 | _ :: _,[],_,_,_,_,k=>by have:=k.1; simp at this
 | v :: vs,v' :: vs',l,l',n,h,k=>by
  have h0 : Gav ρ v v':=by obtain ⟨x,h1,h2⟩:=k.2 0 v (by simp); simp at h1; subst h1; exact h2
  have hr : LRel ρ vs vs':=⟨by have:=k.1; simpa using this,fun i x hx=>by simpa using k.2 (i + 1) x (by simpa using hx)⟩
  exact LRel.writeAt (n + 1) (h.set n h0) hr
theorem LRel.toArray {ρ : Gbd} {l l' : List Value} (h : LRel ρ l l') : ∀ i (hi : i < l.toArray.size) (hi' : i < l'.toArray.size),Gav ρ l.toArray[i] l'.toArray[i] :=
 fun i hi hi'=>by simp at hi hi'; simpa using h.get i hi hi'
theorem Gav.cells {ρ : Gbd} {v v' : Value} (h : Gav ρ v v') : LRel ρ v.cells.toList v'.cells.toList:=by
 cases h <;> try (simp only [Value.cells]; exact LRel.cons (by constructor <;> assumption) (LRel.nil ρ))
 case agg ha hc ra=>exact LRel.of_getElem ha ra
theorem Gav.cellsOk {ρ : Gbd} {v v' : Value} (h : Gav ρ v v') (hv : Sim.isVar v = true) : ∀ x ∈ v.cells.toList,Sim.isCell x = true:=by
 cases h <;> try (simp [Value.cells,Sim.isCell]; done)
 case agg a a' ha hc ra =>
  intro x hx
  simp only [Value.cells] at hx
  obtain ⟨i,hi,rfl⟩:=List.getElem_of_mem hx
  have:=hc i (by simpa using hi)
  simpa using this
 case tuple=>simp [Sim.isVar] at hv
theorem Gf4 : ∀ (vs l : List Value) (n : Nat),(writeAt l n vs).length = l.length
 | [],_,_=>rfl
 | v :: vs,l,n=>by simp [writeAt,Gf4 vs]
theorem Gho : ∀ (vs l : List Value) (n : Nat),(∀ v ∈ l,Sim.isCell v = true)→(∀ v ∈ vs,Sim.isCell v = true)→∀ v ∈ writeAt l n vs,Sim.isCell v = true
 | [],_,_,h,_=>h
 | v :: vs,l,n,h,k=>by
  refine Gho vs _ _ (fun x hx=>?_) (fun x hx=>k x (by simp [hx]))
  rcases List.mem_or_eq_of_mem_set hx with h1 | h1
  ·exact h x h1
  ·subst h1; exact k x (by simp)
theorem Gd6 : ∀ (vs l : List Value) (n : Nat),n + vs.length≤l.length→writeAt l n vs = l.take n++vs++l.drop (n + vs.length)
 | [],l,n,_=>by simp [writeAt]
 | v :: vs,l,n,h=>by
  have hn : n < l.length:=by simp at h; omega
  rw [writeAt,Gd6 vs _ _ (by simp at h ⊢; omega)]
  apply List.ext_getElem?
  intro i
  simp only [List.getElem?_append,List.length_append,List.length_take,List.length_set,List.length_cons,List.getElem?_take,List.getElem?_drop,List.getElem?_set]
  simp only [List.length_cons] at h
  have e1 : min (n + 1) l.length = n + 1:=by omega
  have e2 : min n l.length = n:=by omega
  rw [e1,e2]
  by_cases h1 : i < n
  ·rw [if_pos (by omega),if_pos (by omega),if_pos (by omega),if_neg (by omega),if_pos (by omega),if_pos (by omega),if_pos (by omega)]
  ·by_cases h2 : i = n
   ·subst h2
    rw [if_pos (by omega),if_pos (by omega),if_pos (by omega),if_pos rfl,if_pos (by omega),if_pos (by omega),if_neg (by omega)]
    simp
   ·by_cases h3 : i < n + 1 + vs.length
    ·rw [if_pos (by omega),if_neg (by omega),if_pos (by omega),if_neg (by omega)]
     rw [show i - n = (i - (n + 1)) + 1 by omega,List.getElem?_cons_succ]
    ·rw [if_neg (by omega),if_neg (by omega),if_neg (by omega)]
     congr 1
     omega
theorem Gg6 (vs l : List Value) (n : Nat) (h : n + vs.length≤l.length) (i : Nat) :
  (writeAt l n vs)[i]? = if i < n then l[i]? else if i < n + vs.length then vs[i - n]? else l[i]?:=by
 rw [Gd6 vs l n h]
 simp only [List.getElem?_append,List.length_append,List.length_take,List.getElem?_take,List.getElem?_drop]
 have e2 : min n l.length = n:=by omega
 rw [e2]
 by_cases h1 : i < n
 ·simp only [h1,if_true]; rw [if_pos (by omega)]
 ·by_cases h3 : i < n + vs.length
  ·simp only [h1,h3,if_true,if_false]
  ·simp only [h1,h3,if_false]
   congr 1
   omega
mutual
theorem Gbk (ρ : Gbd) : ∀ v,Gbi v = true→Gav ρ v v
 | .bool b,_=>.bool b
 | .int k n,_=>.int k n
 | .string s,_=>.str s
 | .nilFunc,_=>.nilF
 | .nilIface,_=>.nilI
 | .pointer none,_=>.nilP
 | .slice none 0 0,_=>.nilS
 | .agg ⟨l⟩,h=>by
  have h' : Gcn l = true:=by simpa [Gbi] using h
  exact .agg rfl (fun i hi=>(Gel ρ l h' i (by simpa using hi)).1) (fun i hi _=>(Gel ρ l h' i (by simpa using hi)).2)
 | .tuple ⟨l⟩,h=>by
  have h' : Gf8 l = true:=by simpa [Gbi] using h
  exact .tuple rfl (fun i hi _=>Glc ρ l h' i (by simpa using hi))
theorem Gel (ρ : Gbd) : ∀ (l : List Value),Gcn l = true→∀ i (hi : i < l.length),Sim.isCell l[i] = true∧Gav ρ l[i] l[i]
 | v :: r,h,i,hi=>by
  simp only [Gcn,Bool.and_eq_true] at h
  cases i with
  | zero=>exact ⟨h.1.1,Gbk ρ v h.1.2⟩
  | succ i=>exact Gel ρ r h.2 i (by simpa using hi)
theorem Glc (ρ : Gbd) : ∀ (l : List Value),Gf8 l = true→∀ i (hi : i < l.length),Gav ρ l[i] l[i]
 | v :: r,h,i,hi=>by
  simp only [Gf8,Bool.and_eq_true] at h
  cases i with
  | zero=>exact Gbk ρ v h.1
  | succ i=>exact Glc ρ r h.2 i (by simpa using hi)
end
theorem Gav.noAddr_eq {ρ : Gbd} {v v' : Value} (h : Gav ρ v v') (hn : Gbi v = true) : v' = v:=by
 induction h with
 | bool | int | str | nilF | nilI | nilP | nilS=>rfl
 | ptr=>simp [Gbi] at hn
 | slice=>simp [Gbi] at hn
 | sliceE=>simp [Gbi] at hn
 | func=>simp [Gbi] at hn
 | iface=>simp [Gbi] at hn
 | @agg a a' ha hc ra ih =>
  have hl : Gcn a.toList = true:=by cases a; simpa [Gbi] using hn
  have key : ∀ (l : List Value),Gcn l = true→∀ i (hi : i < l.length),Gbi l[i] = true:=by
   intro l
   induction l with
   | nil=>intro _ i hi; simp at hi
   | cons x r ihl =>
    intro h i hi
    simp only [Gcn,Bool.and_eq_true] at h
    cases i with
    | zero=>exact h.1.2
    | succ i=>exact ihl h.2 i (by simpa using hi)
  congr 1
  refine Array.ext ha.symm fun i h1 h2=>ih i h2 h1 ?_
  have:=key _ hl i (by simpa using h2)
  simpa using this
 | @tuple a a' ha ra ih =>
  have hl : Gf8 a.toList = true:=by cases a; simpa [Gbi] using hn
  have key : ∀ (l : List Value),Gf8 l = true→∀ i (hi : i < l.length),Gbi l[i] = true:=by
   intro l
   induction l with
   | nil=>intro _ i hi; simp at hi
   | cons x r ihl =>
    intro h i hi
    simp only [Gf8,Bool.and_eq_true] at h
    cases i with
    | zero=>exact h.1
    | succ i=>exact ihl h.2 i (by simpa using hi)
  congr 1
  refine Array.ext ha.symm fun i h1 h2=>ih i h2 h1 ?_
  have:=key _ hl i (by simpa using h2)
  simpa using this
abbrev Gi9:=Nat→Option Blk
def Ga5 (h : Gag) : Gi9:=fun i=>blk? h i
def Glz (ρ : Gbd) (w : World) (id : Nat) (b : Blk) : Prop :=
 ∃ (p : Place) (c : Array Value) (t : TypeId) (fz : Nat × Nat),ρ id = some p∧w.heap[p.b]? = some (.cells c t fz)∧p.base + p.ext≤c.size∧b.cells.length≤p.ext ∧
  (∀ (i : Nat) v,b.cells[i]? = some v→Sim.isCell v = true∧∃ v',c[p.base + i]? = some v'∧Gav ρ v v') ∧
  (b.ro = false→fz = (0,0))
def G0n (p q : Place) : Prop:=p.b = q.b→∀ k,p.base≤k→k < p.base + p.ext→q.base≤k→k < q.base + q.ext→False
theorem G0n.symm {p q : Place} (h : G0n p q) : G0n q p:=fun e k a b c d=>h e.symm k c d a b
structure Rel (ρ : Gbd) (hv : Gi9) (w : World) : Prop where
 blk : ∀ id b,hv id = some b→Glz ρ w id b
 sep : ∀ i j bi bj p q,hv i = some bi→hv j = some bj→i ≠ j→bi.ro = false→ρ i = some p→ρ j = some q→G0n p q
def Own (ρ : Gbd) (hv : Gi9) (b i : Nat) : Prop:=∃ id blk p,hv id = some blk∧blk.ro = false∧ρ id = some p∧p.b = b∧p.base≤i∧i < p.base + p.ext
def Gb4 (own : Nat→Prop) : Obj→Obj→Prop
 | .cells c t f,.cells c' t' f'=>t' = t∧f' = f∧c'.size = c.size∧∀ i,¬ own i→c'[i]? = c[i]?
 | o,o'=>o' = o
theorem Gb4.refl (own : Nat→Prop) (o : Obj) : Gb4 own o o:=by
 cases o <;> simp [Gb4]
structure Ev (ρ : Gbd) (hv : Gi9) (w : World) (ρ' : Gbd) (hv' : Gi9) (w' : World) : Prop where
 size : w.heap.size≤w'.heap.size
 os : w'.os = w.os
 tape : w'.tape = w.tape
 output : w'.output = w.output
 mem : ∀ b o,w.heap[b]? = some o→∃ o',w'.heap[b]? = some o'∧Gb4 (Own ρ hv b) o o'
 roOld : ∀ id b,hv' id = some b→b.ro = true→hv id = some b
 own : ∀ b,b < w.heap.size→∀ i,Own ρ' hv' b i→Own ρ hv b i
theorem Gb4.trans {own own' : Nat→Prop} {a b c : Obj} (h : Gb4 own a b) (k : Gb4 own' b c) (hl : ∀ i,own' i→own i) : Gb4 own a c:=by
 cases a with
 | cells c1 t1 f1 =>
  cases b with
  | cells c2 t2 f2 =>
   cases c with
   | cells c3 t3 f3 =>
    obtain ⟨rfl,rfl,h3,h4⟩:=h
    obtain ⟨rfl,rfl,k3,k4⟩:=k
    exact ⟨rfl,rfl,k3.trans h3,fun i hi=>(k4 i (fun h=>hi (hl i h))).trans (h4 i hi)⟩
   | _=>cases k
  | _=>cases h
 | _=>cases h; cases k; rfl
theorem Ev.refl (ρ : Gbd) (hv : Gi9) (w : World) : Ev ρ hv w ρ hv w :=
 ⟨Nat.le_refl _,rfl,rfl,rfl,fun _ o h=>⟨o,h,Gb4.refl _ o⟩,fun _ _ h _=>h,fun _ _ _ h=>h⟩
theorem Ev.trans {ρ ρ1 ρ2 : Gbd} {v v1 v2 : Gi9} {w w1 w2 : World} (h : Ev ρ v w ρ1 v1 w1) (k : Ev ρ1 v1 w1 ρ2 v2 w2) : Ev ρ v w ρ2 v2 w2:=by
 refine ⟨Nat.le_trans h.size k.size,k.os.trans h.os,k.tape.trans h.tape,k.output.trans h.output,fun b o hb=>?_,fun id b hb hr=>h.roOld id b (k.roOld id b hb hr) hr,fun b hb i ho=>h.own b hb i (k.own b (Nat.lt_of_lt_of_le hb h.size) i ho)⟩
 obtain ⟨o1,h1,s1⟩:=h.mem b o hb
 obtain ⟨o2,h2,s2⟩:=k.mem b o1 h1
 exact ⟨o2,h2,s1.trans s2 (fun i hi=>h.own b (Array.getElem?_eq_some_iff.1 hb).1 i hi)⟩
theorem Ev.drew (ρ : Gbd) (hv : Gi9) (w : World) : Ev ρ hv w ρ hv { w with drawn:=w.drawn + 1 } :=
 ⟨Nat.le_refl _,rfl,rfl,rfl,fun _ o h=>⟨o,h,Gb4.refl _ o⟩,fun _ _ h _=>h,fun _ _ _ h=>h⟩
theorem Glz.of_heap {ρ : Gbd} {w w' : World} {id : Nat} {b : Blk} (h : Glz ρ w id b) (hw : ∀ p,ρ id = some p→w'.heap[p.b]? = w.heap[p.b]?) : Glz ρ w' id b:=by
 obtain ⟨p,c,t,fz,h1,h2,h3⟩:=h
 exact ⟨p,c,t,fz,h1,(hw p h1).trans h2,h3⟩
theorem Rel.drew {ρ : Gbd} {hv : Gi9} {w : World} (h : Rel ρ hv w) : Rel ρ hv { w with drawn:=w.drawn + 1 } :=
 ⟨fun id b hb=>(h.blk id b hb).of_heap (fun _ _=>rfl),h.sep⟩
theorem Glz.mono {ρ ρ' : Gbd} {w : World} {id : Nat} {b : Blk} (h : Glz ρ w id b) (hl : PLe ρ ρ') : Glz ρ' w id b:=by
 obtain ⟨p,c,t,fz,h1,h2,h4,h5,h6,h7⟩:=h
 exact ⟨p,c,t,fz,hl _ _ h1,h2,h4,h5,fun i v hi=>let ⟨a,v',b,c⟩:=h6 i v hi; ⟨a,v',b,c.mono hl⟩,h7⟩
theorem Rel.sub {ρ : Gbd} {hv hv' : Gi9} {w : World} (h : Rel ρ hv w) (hs : ∀ id b,hv' id = some b→hv id = some b) : Rel ρ hv' w :=
 ⟨fun id b hb=>h.blk id b (hs id b hb),fun i j bi bj p q hi hj=>h.sep i j bi bj p q (hs _ _ hi) (hs _ _ hj)⟩
theorem Rel.frame {ρ ρ' : Gbd} {hv hv' O : Gi9} {w w' : World} (hall : Rel ρ (fun i=>(hv i).or (O i)) w) (hdis : ∀ i b,O i = some b→hv i = none)
  (hrel : Rel ρ' hv' w') (hev : Ev ρ hv w ρ' hv' w') (hle : PLe ρ ρ') : Rel ρ' (fun i=>(hv' i).or (O i)) w':=by
 have hO : ∀ i b,O i = some b→(hv i).or (O i) = some b:=fun i b h=>by simp [hdis i b h,h]
 have hap : ∀ i b p,O i = some b→ρ i = some p→∀ k,p.base≤k→k < p.base + p.ext→¬ Own ρ hv p.b k:=by
  rintro i b p hi hp k h1 h2 ⟨id,blk,q,hq,hro,hρ,hb,h3,h4⟩
  have hne : id ≠ i:=fun e=>by subst e; rw [hdis id b hi] at hq; cases hq
  have:=hall.sep id i blk b q p (by simp [hq]) (hO i b hi) hne hro hρ hp
  exact this hb k h3 h4 h1 h2
 have hblk : ∀ i b,O i = some b→Glz ρ' w' i b:=by
  intro i b hi
  obtain ⟨p,c,t,fz,h1,h2,h4,h5,h6,h7⟩:=hall.blk i b (hO i b hi)
  obtain ⟨o',ho',hs⟩:=hev.mem p.b _ h2
  cases o' with
  | cells c' t' f' =>
   obtain ⟨rfl,rfl,hsz,hsame⟩:=hs
   refine ⟨p,c',_,_,hle _ _ h1,ho',by omega,h5,fun k v hk=>?_,h7⟩
   obtain ⟨a,v',hv',hr⟩:=h6 k v hk
   refine ⟨a,v',?_,hr.mono hle⟩
   have hkl : k < b.cells.length:=(List.getElem?_eq_some_iff.1 hk).1
   rw [hsame (p.base + k) (hap i b p hi h1 _ (by omega) (by omega))]
   exact hv'
  | _=>cases hs
 have hplace : ∀ j b q,O j = some b→ρ' j = some q→ρ j = some q∧q.b < w.heap.size:=by
  intro j b q hj hq
  obtain ⟨q0,c,t,fz,h1,h2,_⟩:=hall.blk j b (hO j b hj)
  have : q0 = q:=by have:=hle _ _ h1; rw [hq] at this; exact (Option.some.inj this).symm
  subst this
  exact ⟨h1,(Array.getElem?_eq_some_iff.1 h2).1⟩
 have hnew : ∀ i j bi bj p q,hv' i = some bi→O j = some bj→bi.ro = false→ρ' i = some p→ρ' j = some q→G0n p q:=by
  intro i j bi bj p q hi hj hro hp hq hb k h1 h2 h3 h4
  obtain ⟨hq0,hlt⟩:=hplace j bj q hj hq
  have:=hev.own q.b hlt k ⟨i,bi,p,hi,hro,hp,hb,h1,h2⟩
  exact hap j bj q hj hq0 k h3 h4 this
 refine ⟨fun id b hb=>?_,fun i j bi bj p q hi hj hne hro hp hq=>?_⟩
 ·cases hc : hv' id with
  | some x=>rw [hc] at hb; simp at hb; subst hb; exact hrel.blk id x hc
  | none=>rw [hc] at hb; simp at hb; exact hblk id b hb
 ·cases hci : hv' i with
  | some x =>
   rw [hci] at hi; simp at hi; subst hi
   cases hcj : hv' j with
   | some y=>rw [hcj] at hj; simp at hj; subst hj; exact hrel.sep i j x y p q hci hcj hne hro hp hq
   | none=>rw [hcj] at hj; simp at hj; exact hnew i j x bj p q hci hj hro hp hq
  | none =>
   rw [hci] at hi; simp at hi
   have hpi:=hplace i bi p hi hp
   cases hcj : hv' j with
   | some y =>
    rw [hcj] at hj; simp at hj; subst hj
    cases hyr : y.ro with
    | false=>exact (hnew j i y bi q p hcj hi hyr hq hp).symm
    | true =>
     have hold:=hev.roOld j y hcj hyr
     obtain ⟨q0,_,_,_,h1,_⟩:=hall.blk j y (by simp [hold])
     have : q0 = q:=by have:=hle _ _ h1; rw [hq] at this; exact (Option.some.inj this).symm
     subst this
     exact hall.sep i j bi y p q0 (hO i bi hi) (by simp [hold]) hne hro hpi.1 h1
   | none =>
    rw [hcj] at hj; simp at hj
    exact hall.sep i j bi bj p q (hO i bi hi) (hO j bj hj) hne hro hpi.1 (hplace j bj q hj hq).1
theorem Ge0 (h : Gag) (b : Blk) (i : Nat) : Ga5 (h++[some b]) i = if i = h.length then some b else Ga5 h i:=by
 unfold Ga5 blk?
 by_cases hi : i = h.length
 ·subst hi; simp
 ·rw [if_neg hi]
  by_cases hl : i < h.length
  ·rw [List.getElem?_append_left hl]
  ·rw [List.getElem?_eq_none (by simp; omega),List.getElem?_eq_none (by omega)]
theorem Gdj {h : Gag} {i : Nat} {b : Blk} (hb : Ga5 h i = some b) : i < h.length:=by
 unfold Ga5 blk? at hb
 rcases Nat.lt_or_ge i h.length with h1 | h1
 ·exact h1
 ·rw [List.getElem?_eq_none h1] at hb; cases hb
theorem Go8 (h : Gag) (j : Nat) (x : Option Blk) (hj : j < h.length) (i : Nat) : Ga5 (h.set j x) i = if i = j then x else Ga5 h i:=by
 unfold Ga5 blk?
 by_cases hi : i = j
 ·subst hi
  rw [if_pos rfl,List.getElem?_set_self hj]
  cases x <;> rfl
 ·rw [if_neg hi,List.getElem?_set_ne (Ne.symm hi)]
def Ggd (ρ : Gbd) (a b : Nat) : Prop:=∀ id,a≤id→id < b→ρ id = none
def Gcp (ρ ρ' : Gbd) (a b : Nat) : Prop:=∀ id,id < a∨b≤id→ρ' id = ρ id
theorem Gcp.refl (ρ : Gbd) (a b : Nat) : Gcp ρ ρ a b:=fun _ _=>rfl
theorem Gcp.le {ρ ρ' : Gbd} {a b : Nat} (h : Gcp ρ ρ' a b) (hf : Ggd ρ a b) : PLe ρ ρ':=by
 intro id p hp
 rw [h id ?_]
 ·exact hp
 ·rcases Nat.lt_or_ge id a with h1 | h1
  ·exact .inl h1
  ·rcases Nat.lt_or_ge id b with h2 | h2
   ·rw [hf id h1 h2] at hp; cases hp
   ·exact .inr h2
theorem Gcp.trans {ρ ρ1 ρ2 : Gbd} {a b c : Nat} (h : Gcp ρ ρ1 a b) (k : Gcp ρ1 ρ2 b c) (h1 : a≤b) (h2 : b≤c) : Gcp ρ ρ2 a c:=by
 intro id hid
 rw [k id (by omega),h id (by omega)]
theorem Ggd.rest {ρ ρ1 : Gbd} {a b c : Nat} (h : Gcp ρ ρ1 a b) (hf : Ggd ρ a c) (h1 : a≤b) : Ggd ρ1 b c:=fun id i1 i2=>by
 rw [h id (.inr i1)]; exact hf id (by omega) i2
theorem Ggd.first {ρ : Gbd} {a b c : Nat} (hf : Ggd ρ a c) (h : b≤c) : Ggd ρ a b:=fun id i1 i2=>hf id i1 (by omega)
theorem addr_add (b o j : Nat) : (⟨b,o,none⟩ : Addr).add j = ⟨b,o + j,none⟩:=by
 unfold Addr.add
 split
 ·rename_i h; subst h; rfl
 ·rfl
theorem cell_of (w : World) (b o : Nat) (c : Array Value) (t : TypeId) (fz : Nat × Nat) (h : w.heap[b]? = some (.cells c t fz)) : w.cell? ⟨b,o,none⟩ = c[o]?:=by
 simp [World.cell?,h]
theorem Glz.part {ρ : Gbd} {w : World} {id : Nat} {b : Blk} (hb : Glz ρ w id b) (off n : Nat) (hn : off + n≤b.cells.length) {p : Place} (hp : ρ id = some p) :
  ∃ cs',LRel ρ ((b.cells.drop off).take n) cs'∧(∀ v ∈ (b.cells.drop off).take n,Sim.isCell v = true)∧cs'.length = n ∧
   ∀ (j : Nat) v',cs'[j]? = some v'→w.cell? ((⟨p.b,p.base + off,none⟩ : Addr).add j) = some v':=by
 obtain ⟨p0,c,t,fz,h1,h2,h4,h5,h6,h7⟩:=hb
 have : p0 = p:=by rw [h1] at hp; exact Option.some.inj hp
 subst this
 refine ⟨(c.toList.drop (p0.base + off)).take n,⟨?_,fun i v hv=>?_⟩,fun v hv=>?_,?_,fun j v' hj=>?_⟩
 ·simp only [List.length_take,List.length_drop,Array.length_toList]; omega
 ·rw [List.getElem?_take] at hv ⊢
  split at hv
  ·rename_i hi
   rw [List.getElem?_drop] at hv
   obtain ⟨_,v',hv',hr⟩:=h6 _ _ hv
   refine ⟨v',?_,hr⟩
   rw [if_pos hi,List.getElem?_drop]
   simpa [Nat.add_assoc] using hv'
  ·cases hv
 ·have:=List.mem_of_mem_drop (List.mem_of_mem_take hv)
  obtain ⟨i,hi,rfl⟩:=List.getElem_of_mem this
  exact (h6 i _ (by simp [hi])).1
 ·simp only [List.length_take,List.length_drop,Array.length_toList]; omega
 ·rw [addr_add,cell_of w _ _ c t fz h2]
  rw [List.getElem?_take] at hj
  split at hj
  ·rw [List.getElem?_drop] at hj
   simpa using hj
  ·cases hj
theorem Gbp {h : Gag} {id : Nat} {b : Blk} (hb : blk? h id = some b) : Ga5 h id = some b:=hb
theorem Gub {P : Program} {ρ : Gbd} {h : Gag} {w : World} (hr : Rel ρ (Ga5 h) w) {n : Nat} {agg : Bool} {a a' v : Value} (ha : Gav ρ a a') (hl : Gdq h n agg a = some v) :
  ∃ ad v',a' = .pointer (some ad)∧Gav ρ v v'∧(match agg with
   | true=>∃ cs,v' = .agg cs∧(loadCells ad n).run P w = .ok cs w
   | false=>(load ad).run P w = .ok v' w):=by
 cases ha <;> simp only [Gdq] at hl <;> try cases hl
 case ptr id off p hp =>
  cases hb : blk? h id with
  | none=>rw [hb] at hl; cases hl
  | some b =>
   rw [hb] at hl
   cases agg with
   | true =>
    simp only at hl
    split at hl
    ·rename_i hn
     injection hl with hl
     subst hl
     obtain ⟨cs',h1,h2,h3,h4⟩:=(hr.blk id b (Gbp hb)).part off n hn hp
     refine ⟨_,_,rfl,h1.agg h2,cs'.toArray,rfl,?_⟩
     have:=run_loadCells_list (P:=P) w (⟨p.b,p.base + off,none⟩ : Addr) cs' h4
     rw [h3] at this
     exact this
    ·cases hl
   | false =>
    simp only at hl
    obtain ⟨p0,c,t,fz,h1,h2,h4,h5,h6,h7⟩:=hr.blk id b (Gbp hb)
    have : p0 = p:=by rw [h1] at hp; exact Option.some.inj hp
    subst this
    obtain ⟨_,v',hv',hrel⟩:=h6 off v hl
    refine ⟨_,v',rfl,hrel,?_⟩
    simp only [run_load,cell_of w _ _ c t fz h2,hv']
theorem setRow_os (w : World) (g : Nat) (cs : Array Value) : (w.setRow g cs).os = w.os∧(w.setRow g cs).tape = w.tape∧(w.setRow g cs).output = w.output∧(w.setRow g cs).heap.size = w.heap.size:=by
 simp [World.setRow]
theorem Glv (P : Program) (g o : Nat) (t : TypeId) (fz : Nat × Nat) : ∀ (vs : List Value) (i : Nat) (cur : Array Value) (w : World),w.heap[g]? = some (.cells cur t fz)→fz = (0,0)→o + i + vs.length≤cur.size →
  (∀ v ∈ vs,Sim.isCell v = true) →
  (storeCells ⟨g,o,none⟩ vs i).run P w = .ok () (w.setRow g (cur.toList.take (o + i)++vs++cur.toList.drop (o + i + vs.length)).toArray):=by
 intro vs i cur w hg hf hl hc
 subst hf
 exact run_storeCells_at P g o t vs i cur w hg hl (fun v hv=>Gh5 (hc v hv))
theorem G0y {ρ : Gbd} {h : Gag} {w : World} (hr : Rel ρ (Ga5 h) w) {id : Nat} {b : Blk} (hb : blk? h id = some b) (hro : b.ro = false) {p : Place} (hp : ρ id = some p)
  (off : Nat) {vs vs' : List Value} (hn : off + vs.length≤p.ext) (hv : LRel ρ vs vs') (hc : ∀ v ∈ vs,Sim.isCell v = true) (cells2 : List Value) (hl2 : cells2.length≤p.ext)
  (h2c : ∀ (i : Nat) v,cells2[i]? = some v→(off≤i∧vs[i - off]? = some v)∨((i < off∨off + vs.length≤i)∧b.cells[i]? = some v)) :
  ∃ w',(∀ P,(storeCells ⟨p.b,p.base + off,none⟩ vs' 0).run P w = .ok () w') ∧
   Rel ρ (Ga5 (h.set id (some { b with cells:=cells2 }))) w'∧Ev ρ (Ga5 h) w ρ (Ga5 (h.set id (some { b with cells:=cells2 }))) w':=by
 obtain ⟨p0,c,t,fz,h1,h2,h4,h5,h6,h7⟩:=hr.blk id b (Gbp hb)
 have : p0 = p:=by rw [h1] at hp; exact Option.some.inj hp
 subst this
 have hfz:=h7 hro
 subst hfz
 have hidl:=Gdj (Gbp hb)
 have hl : vs'.length = vs.length:=hv.1.symm
 have hfit : p0.base + off + vs'.length≤c.size:=by omega
 let c' : Array Value:=(c.toList.take (p0.base + off)++vs'++c.toList.drop (p0.base + off + vs'.length)).toArray
 have hsz : c'.size = c.size:=by simp [c']; omega
 have hold : ∀ (k : Nat),k < p0.base + off∨p0.base + off + vs.length≤k→c'[k]? = c[k]?:=by
  intro k hk
  have:=Gg6 vs' c.toList (p0.base + off) (by simpa using hfit) k
  rw [Gd6 _ _ _ (by simpa using hfit)] at this
  simp only [c',List.getElem?_toArray,this]
  split
  ·simp
  ·split
   ·exfalso; omega
   ·simp
 have hnew : ∀ (k : Nat) v',vs'[k]? = some v'→c'[p0.base + off + k]? = some v':=by
  intro k v' hk
  have hkl : k < vs'.length:=(List.getElem?_eq_some_iff.1 hk).1
  have:=Gg6 vs' c.toList (p0.base + off) (by simpa using hfit) (p0.base + off + k)
  rw [Gd6 _ _ _ (by simpa using hfit)] at this
  simp only [c',List.getElem?_toArray,this]
  rw [if_neg (by omega),if_pos (by omega)]
  simpa using hk
 have hobj : (w.setRow p0.b c').heap[p0.b]? = some (.cells c' t (0,0)):=setRow_heap w p0.b c c' t (0,0) h2
 have hother : ∀ k,k ≠ p0.b→(w.setRow p0.b c').heap[k]? = w.heap[k]?:=fun k hk=>setRow_other w p0.b k c' hk
 have hview : ∀ j,Ga5 (h.set id (some { b with cells:=cells2 })) j = if j = id then some { b with cells:=cells2 } else Ga5 h j:=fun j=>Go8 h id _ hidl j
 refine ⟨w.setRow p0.b c',fun P=>?_,⟨fun j bj hj=>?_,fun i j bi bj q r hi hj hne hir hq hr'=>?_⟩,?_⟩
 ·have hcell' : ∀ v ∈ vs',Sim.isCell v = true:=by
   intro v hv'
   obtain ⟨i,hi,rfl⟩:=List.getElem_of_mem hv'
   have h':=hv.get i (by omega) hi
   rw [h'.isCell]; exact hc _ (by simp)
  have:=Glv P p0.b (p0.base + off) t (0,0) vs' 0 c w h2 rfl (by omega) hcell'
  simp only [Nat.add_zero] at this
  exact this
 ·rw [hview] at hj
  split at hj
  ·rename_i hji
   injection hj with hj
   subst hji; subst hj
   refine ⟨p0,c',t,(0,0),h1,hobj,by omega,hl2,fun i v hi=>?_,fun _=>rfl⟩
   rcases h2c i v hi with ⟨hoi,hvi⟩ | ⟨hout,hbi⟩
   ·obtain ⟨v',b1,b2⟩:=hv.2 _ _ hvi
    refine ⟨hc v (List.mem_of_getElem? hvi),v',?_,b2⟩
    have:=hnew _ _ b1
    rwa [show p0.base + off + (i - off) = p0.base + i by omega] at this
   ·obtain ⟨a,v',b1,b2⟩:=h6 i v hbi
    exact ⟨a,v',by rw [hold _ (by omega)]; exact b1,b2⟩
  ·rename_i hji
   obtain ⟨q,cq,tq,fq,k1,k2,k4,k5,k6,k7⟩:=hr.blk j bj hj
   by_cases hqb : q.b = p0.b
   ·have hcc : some (Obj.cells cq tq fq) = some (Obj.cells c t (0,0)):=by rw [← k2,← h2,hqb]
    injection hcc with hcc
    injection hcc with e1 e2 e3
    subst e1; subst e2; subst e3
    refine ⟨q,c',tq,(0,0),k1,by rw [hqb]; exact hobj,by omega,k5,fun i v hi=>?_,k7⟩
    obtain ⟨a,v',b1,b2⟩:=k6 i v hi
    refine ⟨a,v',?_,b2⟩
    have hil : i < bj.cells.length:=(List.getElem?_eq_some_iff.1 hi).1
    have hap:=hr.sep id j b bj p0 q (Gbp hb) hj (Ne.symm hji) hro h1 k1 hqb.symm
    rw [hold _ ?_]
    ·exact b1
    ·rcases Nat.lt_or_ge (q.base + i) (p0.base + off) with h' | h'
     ·exact .inl h'
     ·rcases Nat.lt_or_ge (q.base + i) (p0.base + off + vs.length) with h'' | h''
      ·exact (hap (q.base + i) (by omega) (by omega) (by omega) (by omega)).elim
      ·exact .inr h''
   ·exact ⟨q,cq,tq,fq,k1,by rw [hother _ hqb]; exact k2,k4,k5,k6,k7⟩
 ·have hold' : ∀ i bi,Ga5 (h.set id (some { b with cells:=cells2 })) i = some bi→∃ b0,Ga5 h i = some b0∧b0.ro = bi.ro:=by
   intro x bx hx
   rw [hview] at hx
   split at hx
   ·rename_i e; subst e; injection hx with hx; subst hx; exact ⟨b,Gbp hb,rfl⟩
   ·exact ⟨bx,hx,rfl⟩
  obtain ⟨bi0,hi0,ei⟩:=hold' i bi hi
  obtain ⟨bj0,hj0,_⟩:=hold' j bj hj
  exact hr.sep i j bi0 bj0 q r hi0 hj0 hne (ei ▸ hir) hq hr'
 ·obtain ⟨e1,e2,e3,e4⟩:=setRow_os w p0.b c'
  refine ⟨Nat.le_of_eq e4.symm,e1,e2,e3,fun k o hk=>?_,fun i bi hi hir=>?_,?_⟩
  ·by_cases hkb : k = p0.b
   ·subst hkb
    rw [h2] at hk; injection hk with hk; subst hk
    refine ⟨_,hobj,rfl,rfl,hsz,fun i hi=>hold i ?_⟩
    rcases Nat.lt_or_ge i (p0.base + off) with h' | h'
    ·exact .inl h'
    ·rcases Nat.lt_or_ge i (p0.base + off + vs.length) with h'' | h''
     ·exact absurd ⟨id,b,p0,Gbp hb,hro,h1,rfl,by omega,by omega⟩ hi
     ·exact .inr h''
   ·exact ⟨o,by rw [hother k hkb]; exact hk,Gb4.refl _ o⟩
  ·rw [hview] at hi
   split at hi
   ·rename_i e; subst e; injection hi with hi; subst hi; simp at hir; rw [hro] at hir; cases hir
   ·exact hi
  ·rintro k hk i ⟨j,bj,q,hj,hjr,hq,e1,e2,e3⟩
   rw [hview] at hj
   split at hj
   ·rename_i e; subst e; injection hj with hj; subst hj
    exact ⟨j,b,q,Gbp hb,hro,hq,e1,e2,e3⟩
   ·exact ⟨j,bj,q,hj,hjr,hq,e1,e2,e3⟩
theorem Grd {ρ : Gbd} {h : Gag} {w : World} (hr : Rel ρ (Ga5 h) w) {id : Nat} {b : Blk} (hb : blk? h id = some b) (hro : b.ro = false) {p : Place} (hp : ρ id = some p)
  (off : Nat) {vs vs' : List Value} (hn : off + vs.length≤b.cells.length) (hv : LRel ρ vs vs') (hc : ∀ v ∈ vs,Sim.isCell v = true) :
  ∃ w',(∀ P,(storeCells ⟨p.b,p.base + off,none⟩ vs' 0).run P w = .ok () w') ∧
   Rel ρ (Ga5 (h.set id (some { b with cells:=writeAt b.cells off vs }))) w'∧Ev ρ (Ga5 h) w ρ (Ga5 (h.set id (some { b with cells:=writeAt b.cells off vs }))) w':=by
 obtain ⟨p0,c,t,fz,h1,h2,h4,h5,h6,h7⟩:=hr.blk id b (Gbp hb)
 have : p0 = p:=by rw [h1] at hp; exact Option.some.inj hp
 subst this
 refine G0y hr hb hro hp off (by omega) hv hc _ (by simpa [Gf4] using h5) (fun i v hi=>?_)
 rw [Gg6 _ _ _ hn] at hi
 split at hi
 ·exact .inr ⟨.inl (by assumption),hi⟩
 ·split at hi
  ·exact .inl ⟨by omega,hi⟩
  ·exact .inr ⟨.inr (by omega),hi⟩
theorem G1e {ρ : Gbd} {h h' : Gag} {w : World} (hr : Rel ρ (Ga5 h) w) {n : Nat} {a a' v v' : Value} (ha : Gav ρ a a') (hv : Gav ρ v v') (hs : Gmn h n a v = some h') :
  ∃ ad w',a' = .pointer (some ad)∧v'.cells.size = n∧(∀ P,(storeCells ad v'.cells.toList 0).run P w = .ok () w')∧Rel ρ (Ga5 h') w'∧Ev ρ (Ga5 h) w ρ (Ga5 h') w'∧h'.length = h.length:=by
 cases ha <;> simp only [Gmn] at hs <;> try cases hs
 case ptr id off p hp =>
  cases hb : blk? h id with
  | none=>rw [hb] at hs; cases hs
  | some b =>
   rw [hb] at hs
   simp only at hs
   split at hs
   ·rename_i hc
    obtain ⟨hro,hvar,hsz,hn⟩:=hc
    injection hs with hs
    subst hs
    have hl : v.cells.toList.length = n:=by simpa using hsz
    obtain ⟨w',h1,h2,h3⟩:=Grd hr hb hro hp off (vs:=v.cells.toList) (by omega) hv.cells (hv.cellsOk hvar)
    refine ⟨_,w',rfl,?_,h1,h2,h3,by simp⟩
    have:=hv.cells.1
    simp at this
    omega
   ·cases hs
def newP (ρ : Gbd) (id : Nat) (p : Place) : Gbd:=fun i=>if i = id then some p else ρ i
theorem Gpf {ρ : Gbd} {id : Nat} {p : Place} (h : ρ id = none) : PLe ρ (newP ρ id p):=by
 intro i q hq
 unfold newP
 by_cases hi : i = id
 ·subst hi; rw [h] at hq; cases hq
 ·rw [if_neg hi]; exact hq
theorem Ge4 (ρ : Gbd) (id : Nat) (p : Place) : Gcp ρ (newP ρ id p) id (id + 1):=by
 intro i hi
 unfold newP
 rw [if_neg (by omega)]
def Gxj (hv : Gi9) (id : Nat) (b : Blk) : Gi9:=fun i=>if i = id then some b else hv i
theorem Gu8 {ρ : Gbd} {hv : Gi9} {w : World} (hr : Rel ρ hv w) {id : Nat} (hid : hv id = none) (hf : ρ id = none) (c : Array Value) (t : TypeId) (esz : Nat) {cells : List Value}
  (hl : cells.length≤c.size) (hc : ∀ v ∈ cells,Sim.isCell v = true) (hv' : ∀ (i : Nat) v,cells[i]? = some v→∃ v',c[i]? = some v'∧Gav ρ v v') :
  Rel (newP ρ id ⟨w.heap.size,0,c.size,esz⟩) (Gxj hv id ⟨false,cells⟩) { w with heap:=w.heap.push (.cells c t) } ∧
  Ev ρ hv w (newP ρ id ⟨w.heap.size,0,c.size,esz⟩) (Gxj hv id ⟨false,cells⟩) { w with heap:=w.heap.push (.cells c t) }:=by
 have hle:=Gpf (p:=⟨w.heap.size,0,c.size,esz⟩) hf
 have hself : newP ρ id ⟨w.heap.size,0,c.size,esz⟩ id = some ⟨w.heap.size,0,c.size,esz⟩:=by simp [newP]
 have hother : ∀ i,i ≠ id→newP ρ id ⟨w.heap.size,0,c.size,esz⟩ i = ρ i:=fun i hi=>by simp [newP,hi]
 have hheap : ∀ k,k < w.heap.size→(w.heap.push (.cells c t))[k]? = w.heap[k]?:=fun k hk=>by rw [Array.getElem?_push,if_neg (by omega)]
 have hplt : ∀ i b p,hv i = some b→ρ i = some p→p.b < w.heap.size:=by
  intro i b p hi hp
  obtain ⟨p0,c0,t0,f0,h1,h2,_⟩:=hr.blk i b hi
  have : p0 = p:=by rw [h1] at hp; exact Option.some.inj hp
  subst this
  exact (Array.getElem?_eq_some_iff.1 h2).1
 refine ⟨⟨fun i b hi=>?_,fun i j bi bj p q hi hj hne hro hp hq=>?_⟩,?_⟩
 ·unfold Gxj at hi
  split at hi
  ·rename_i e; subst e; injection hi with hi; subst hi
   refine ⟨_,c,t,(0,0),hself,by simp,by simp,by simpa using hl,fun i v hi=>?_,fun _=>rfl⟩
   obtain ⟨v',h1,h2⟩:=hv' i v hi
   exact ⟨hc v (List.mem_of_getElem? hi),v',by simpa using h1,h2.mono hle⟩
  ·exact ((hr.blk i b hi).mono hle).of_heap fun p hp=>hheap _ (hplt i b p hi (by rw [hother i (by assumption)] at hp; exact hp))
 ·unfold Gxj at hi hj
  split at hi
  ·rename_i e; subst e
   split at hj
   ·rename_i e2; exact absurd e2.symm hne
   ·rename_i e2
    rw [hself] at hp; injection hp with hp; subst hp
    rw [hother j e2] at hq
    intro hb
    have:=hplt j bj q hj hq
    simp at hb; omega
  ·rename_i e
   rw [hother i e] at hp
   split at hj
   ·rename_i e2; subst e2
    rw [hself] at hq; injection hq with hq; subst hq
    intro hb
    have:=hplt i bi p hi hp
    simp at hb; omega
   ·rename_i e2
    rw [hother j e2] at hq
    exact hr.sep i j bi bj p q hi hj hne hro hp hq
 ·refine ⟨by simp,rfl,rfl,rfl,fun k o hk=>⟨o,by rw [hheap k (Array.getElem?_eq_some_iff.1 hk).1]; exact hk,Gb4.refl _ o⟩,fun i b hi hir=>?_,?_⟩
  ·unfold Gxj at hi
   split at hi
   ·injection hi with hi; subst hi; cases hir
   ·exact hi
  ·rintro k hk i ⟨j,bj,p,hj,hjr,hp,e1,e2,e3⟩
   unfold Gxj at hj
   split at hj
   ·rename_i e; subst e
    rw [hself] at hp; injection hp with hp; subst hp
    simp at e1; omega
   ·rename_i e
    exact ⟨j,bj,p,hj,hjr,by rw [hother j e] at hp; exact hp,e1,e2,e3⟩
theorem Ge1 {h : Gag} {i : Nat} (hi : h.length≤i) : Ga5 h i = none:=by
 unfold Ga5 blk?
 rw [List.getElem?_eq_none hi]
theorem G16 (h : Gag) (b : Blk) : Ga5 (h++[some b]) = Gxj (Ga5 h) h.length b:=funext fun i=>Ge0 h b i
theorem Gpo {ρ : Gbd} {h : Gag} {w : World} (hr : Rel ρ (Ga5 h) w) (hf : ρ h.length = none) (c : Array Value) (t : TypeId) (esz : Nat) {cells : List Value}
  (hl : cells.length≤c.size) (hc : ∀ v ∈ cells,Sim.isCell v = true) (hv : ∀ (i : Nat) v,cells[i]? = some v→∃ v',c[i]? = some v'∧Gav ρ v v') :
  Rel (newP ρ h.length ⟨w.heap.size,0,c.size,esz⟩) (Ga5 (h++[some ⟨false,cells⟩])) { w with heap:=w.heap.push (.cells c t) } ∧
  Ev ρ (Ga5 h) w (newP ρ h.length ⟨w.heap.size,0,c.size,esz⟩) (Ga5 (h++[some ⟨false,cells⟩])) { w with heap:=w.heap.push (.cells c t) }:=by
 rw [G16]
 exact Gu8 hr (Ge1 (Nat.le_refl _)) hf c t esz hl hc hv
theorem Gb4.mono {own own' : Nat→Prop} (h : ∀ i,own i→own' i) {o o' : Obj} (hs : Gb4 own o o') : Gb4 own' o o':=by
 cases o with
 | cells c t f =>
  cases o' with
  | cells c' t' f'=>obtain ⟨a,b,c1,d⟩:=hs; exact ⟨a,b,c1,fun i hi=>d i (fun hh=>hi (h i hh))⟩
  | _=>exact hs
 | _=>exact hs
theorem Ev.beside {ρ ρ' : Gbd} {hv hv' O : Gi9} {w w' : World} (hev : Ev ρ hv w ρ' hv' w') (hdis : ∀ i b,O i = some b→hv i = none) (hsame : ∀ i b,O i = some b→ρ' i = ρ i) :
  Ev ρ (fun i=>(hv i).or (O i)) w ρ' (fun i=>(hv' i).or (O i)) w':=by
 refine ⟨hev.size,hev.os,hev.tape,hev.output,fun b o hb=>?_,fun i b hi hir=>?_,fun b hb i ho=>?_⟩
 ·obtain ⟨o',h1,h2⟩:=hev.mem b o hb
  refine ⟨o',h1,h2.mono fun i=>?_⟩
  rintro ⟨id,blk,p,e1,e2⟩
  exact ⟨id,blk,p,by simp [e1],e2⟩
 ·cases hc : hv' i with
  | some x=>rw [hc] at hi; simp at hi; subst hi; simp [hev.roOld i x hc hir]
  | none=>rw [hc] at hi; simp at hi; simp [hdis i b hi,hi]
 ·obtain ⟨id,blk,p,e1,e2,e3,e4⟩:=ho
  simp only at e1
  cases hc : hv' id with
  | some x =>
   rw [hc] at e1; simp at e1; subst e1
   obtain ⟨id2,blk2,p2,f1,f2⟩:=hev.own b hb i ⟨id,x,p,hc,e2,e3,e4⟩
   exact ⟨id2,blk2,p2,by simp [f1],f2⟩
  | none =>
   rw [hc] at e1; simp at e1
   exact ⟨id,blk,p,by simp [hdis id blk e1,e1],e2,by rw [← hsame id blk e1]; exact e3,e4⟩
theorem Ev.sub {ρ ρ' : Gbd} {hv hv' hv2 : Gi9} {w w' : World} (hev : Ev ρ hv w ρ' hv' w') (hs : ∀ i b,hv2 i = some b→hv' i = some b) : Ev ρ hv w ρ' hv2 w' :=
 ⟨hev.size,hev.os,hev.tape,hev.output,hev.mem,fun i b hi hr=>hev.roOld i b (hs i b hi) hr,fun b hb i ⟨id,blk,p,e1,e2⟩=>hev.own b hb i ⟨id,blk,p,hs id blk e1,e2⟩⟩
theorem Gtv {ρ : Gbd} {h : Gag} {w : World} (hr : Rel ρ (Ga5 h) w) {id : Nat} (hid : id < h.length) :
  Rel ρ (Ga5 (h.set id none)) w∧Ev ρ (Ga5 h) w ρ (Ga5 (h.set id none)) w:=by
 have hsub : ∀ i b,Ga5 (h.set id none) i = some b→Ga5 h i = some b:=by
  intro i b hi
  rw [Go8 h id none hid] at hi
  split at hi
  ·cases hi
  ·exact hi
 exact ⟨hr.sub hsub,⟨Nat.le_refl _,rfl,rfl,rfl,fun _ o ho=>⟨o,ho,Gb4.refl _ o⟩,fun i b hi _=>hsub i b hi,
  fun k _ i ⟨j,bj,p,hj,rest⟩=>⟨j,bj,p,hsub j bj hj,rest⟩⟩⟩
theorem Gru {ρ : Gbd} {h : Gag} {w : World} (hr : Rel ρ (Ga5 h) w) (hf : ρ h.length = none) {id : Nat} {b : Blk} (hb : blk? h id = some b) (hro : b.ro = false) {p : Place} (hp : ρ id = some p)
  (off n : Nat) (ext : Nat) (he : off + ext≤p.ext) (hx : n≤ext) :
  Rel (newP ρ h.length ⟨p.b,p.base + off,ext,p.esz⟩) (Ga5 (h.set id none++[some ⟨false,(b.cells.drop off).take n⟩])) w ∧
  Ev ρ (Ga5 h) w (newP ρ h.length ⟨p.b,p.base + off,ext,p.esz⟩) (Ga5 (h.set id none++[some ⟨false,(b.cells.drop off).take n⟩])) w:=by
 have hidl:=Gdj (Gbp hb)
 have hle:=Gpf (p:=⟨p.b,p.base + off,ext,p.esz⟩) hf
 have hself : newP ρ h.length ⟨p.b,p.base + off,ext,p.esz⟩ h.length = some ⟨p.b,p.base + off,ext,p.esz⟩:=by simp [newP]
 have hother : ∀ i,i ≠ h.length→newP ρ h.length ⟨p.b,p.base + off,ext,p.esz⟩ i = ρ i:=fun i hi=>by simp [newP,hi]
 have hview : ∀ i,Ga5 (h.set id none++[some ⟨false,(b.cells.drop off).take n⟩]) i = if i = h.length then some ⟨false,(b.cells.drop off).take n⟩ else if i = id then none else Ga5 h i:=by
  intro i
  rw [Ge0,List.length_set,Go8 h id none hidl]
 obtain ⟨p0,c,t,fz,h1,h2,h4,h5,h6,h7⟩:=hr.blk id b (Gbp hb)
 have : p0 = p:=by rw [h1] at hp; exact Option.some.inj hp
 subst this
 refine ⟨⟨fun i bi hi=>?_,fun i j bi bj q r hi hj hne hir hq hr'=>?_⟩,?_⟩
 ·rw [hview] at hi
  split at hi
  ·rename_i e; subst e; injection hi with hi; subst hi
   refine ⟨_,c,t,fz,hself,h2,by simp; omega,by simp; omega,fun i v hi=>?_,fun _=>h7 hro⟩
   simp only at hi
   rw [List.getElem?_take] at hi
   split at hi
   ·rw [List.getElem?_drop] at hi
    obtain ⟨a,v',b1,b2⟩:=h6 _ _ hi
    exact ⟨a,v',by simpa [Nat.add_assoc] using b1,b2.mono hle⟩
   ·cases hi
  ·split at hi
   ·cases hi
   ·exact (hr.blk i bi hi).mono hle
 ·rw [hview] at hi hj
  split at hi
  ·rename_i e; subst e
   split at hj
   ·rename_i e2; exact absurd e2.symm hne
   ·rename_i e2
    split at hj
    ·cases hj
    ·rename_i e3
     rw [hself] at hq; injection hq with hq; subst hq
     rw [hother j e2] at hr'
     intro hb' k k1 k2 k3 k4
     exact hr.sep id j b bj p0 r (Gbp hb) hj (Ne.symm e3) hro h1 hr' hb' k (by simp at k1; omega) (by simp at k2; omega) k3 k4
  ·rename_i e
   rw [hother i e] at hq
   split at hi
   ·cases hi
   ·rename_i e3
    split at hj
    ·rename_i e2; subst e2
     rw [hself] at hr'; injection hr' with hr'; subst hr'
     intro hb' k k1 k2 k3 k4
     exact hr.sep i id bi b q p0 hi (Gbp hb) e3 hir hq h1 hb' k k1 k2 (by simp at k3; omega) (by simp at k4; omega)
    ·rename_i e2
     rw [hother j e2] at hr'
     split at hj
     ·cases hj
     ·exact hr.sep i j bi bj q r hi hj hne hir hq hr'
 ·refine ⟨Nat.le_refl _,rfl,rfl,rfl,fun _ o ho=>⟨o,ho,Gb4.refl _ o⟩,fun i bi hi hir=>?_,?_⟩
  ·rw [hview] at hi
   split at hi
   ·injection hi with hi; subst hi; cases hir
   ·split at hi
    ·cases hi
    ·exact hi
  ·rintro k _ i ⟨j,bj,q,hj,hjr,hq,e1,e2,e3⟩
   rw [hview] at hj
   split at hj
   ·rename_i e; subst e
    rw [hself] at hq; injection hq with hq; subst hq
    exact ⟨id,b,p0,Gbp hb,hro,h1,e1,by simp at e2; omega,by simp at e3; omega⟩
   ·rename_i e
    split at hj
    ·cases hj
    ·exact ⟨j,bj,q,hj,hjr,by rw [hother j e] at hq; exact hq,e1,e2,e3⟩
def Gm2 : Operand→Bool
 | .tmp _=>true
 | .const v=>Gbi v
 | .func _=>true
 | .global _=>false
def Gnq : Operand→Bool
 | .const _=>false
 | x=>Gm2 x
def Gx3 (P : Program) (t : TypeId) : Option Bool :=
 match P.underlying t with
 | some (.struct _)=>some true
 | some (.array _ _)=>some true
 | some _=>some false
 | none=>none
def zeroCells (P : Program) (t : TypeId) : Option (List Value) :=
 match P.info? t with
 | some i =>
  match i.zero with
  | some z=>if Gbi z = true∧isVar z = true∧z.cells.size = i.size∧0 < i.size then some z.cells.toList else none
  | none=>none
 | none=>none
def Gdv (P : Program) (t : TypeId) : Option Nat:=(P.info? t).map (·.size)
def Gk0 (P : Program) (t : TypeId) : Option EqK :=
 match P.underlying t with
 | some .bool=>some .bool
 | some (.int _)=>some .int
 | some .string=>some .str
 | _=>none
def Gg2 (P : Program) : List Field→Option (List (Nat × EqK))
 | []=>some []
 | f :: r =>
  if f.name = "_" then none else
  match Gk0 P f.type,Gg2 P r with
  | some k,some l=>some ((f.offset,k) :: l)
  | _,_=>none
def Gir (P : Program) (t : TypeId) : Option EqK :=
 match P.underlying t with
 | some .bool=>some .bool
 | some (.pointer _)=>some .ptr
 | some (.slice _)=>some .slice
 | some (.func ..)=>some .func
 | some (.struct fs)=>if P.stoodInHeld t = false∧P.eqGuardType P.depth t = false then (Gg2 P fs.toList).map .fields else none
 | _=>none
def placesOf (P : Program) : List Field→Option (List (Nat × Nat))
 | []=>some []
 | f :: r =>
  match Gdv P f.type,placesOf P r with
  | some n,some l=>some ((f.offset,n) :: l)
  | _,_=>none
def Gej (P : Program) (c : Call) : Option ROp :=
 match c.callee with
 | .value f=>if Gnq f then some (.call f c.args.toList) else none
 | .invoke ..=>none
 | .builtin b =>
  match b,c.args.toList,c.argTypes.toList with
  | .len,[x],[t] =>
   match P.underlying t with
   | some .string=>some (.lenS x)
   | some (.slice _)=>some (.len x)
   | _=>none
  | .min,x :: xs,_=>some (.min (x :: xs))
  | .max,x :: xs,_=>some (.max (x :: xs))
  | .append,[x,y],[t,u] =>
   match P.underlying t with
   | some (.slice e) =>
    match P.info? e,zeroCells P e,P.underlying u with
    | some i,some _,some (.slice _)=>some (.append i.size i.bytes x y)
    | some i,some _,some .string=>some (.append i.size i.bytes x y)
    | _,_,_=>none
   | _=>none
  | .copy,[x,y],[t,_] =>
   match P.underlying t with
   | some (.slice e)=>match P.info? e with | some i=>some (.copy i.size x y) | none=>none
   | _=>none
  | _,_,_=>none
def Gaj (P : Program) (op : Op) : Option ROp :=
 match op with
 | .move x=>some (.mov x)
 | .assign x=>some (.mov x)
 | .pick c a b=>some (.pick c a b)
 | .alloc t=>(zeroCells P t).map .alloc
 | .box _ x=>some (.box x)
 | .build t parts =>
  match P.underlying t,zeroCells P t with
  | some (.struct fs),some z=>(placesOf P fs.toList).map fun pl=>.build z pl parts.toList
  | some (.array n e),some z=>(Gdv P e).map fun s=>.build z ((List.range n).map fun i=>(i * s,s)) parts.toList
  | _,_=>none
 | .buildSlice t len parts =>
  match P.underlying t with
  | some (.slice e) =>
   match zeroCells P e with
   | some z=>if len * z.length≤16777216 then some (.buildSlice z.length len z parts.toList) else none
   | none=>none
  | _=>none
 | .load t a=>match Gx3 P t,Gdv P t with | some g,some n=>some (.load n g a) | _,_=>none
 | .store t a x=>match Gdv P t with | some n=>some (.store n a x) | none=>none
 | .nilCheck x=>some (.nilCheck x)
 | .binOp op t x y _ =>
  match P.underlying t with
  | some (.int _)=>some (.bin op x y)
  | some .string=>some (.bin op x y)
  | _ =>
   match op with
   | .eql=>(Gir P t).map fun k=>.eq false k x y
   | .neq=>(Gir P t).map fun k=>.eq true k x y
   | _=>none
 | .unOp op _ x=>some (.un op x)
 | .convert src dst x =>
  match P.underlying src,P.underlying dst with
  | some (.int _),some (.int k)=>some (.convInt k x)
  | some .string,some .string=>some (.movS x)
  | _,_=>none
 | .makeFunc (.func f) first captured=>some (.makeFunc f first.toList captured.toList)
 | .makeSlice t l c =>
  match P.underlying t with
  | some (.slice e) =>
   match P.info? e,zeroCells P e with
   | some i,some z=>some (.makeSlice i.size i.bytes z l c)
   | _,_=>none
  | _=>none
 | .slice t x lo hi none =>
  match P.underlying t with
  | some .string=>some (.sliceS x lo hi)
  | some (.slice e)=>(Gdv P e).map fun s=>.slice s x lo hi
  | _=>none
 | .fieldAddr t x i =>
  match P.underlying t with
  | some (.struct fs) =>
   match fs[i]? with
   | some f=>match Gdv P f.type with | some (_ + 1)=>some (.fieldAddr f.offset x) | _=>none
   | none=>none
  | _=>none
 | .field t x i =>
  match P.underlying t with
  | some (.struct fs) =>
   match fs[i]? with
   | some f=>match Gx3 P f.type,Gdv P f.type with | some g,some n=>some (.field f.offset n g x) | _,_=>none
   | none=>none
  | _=>none
 | .indexAddr t x i =>
  match P.underlying t with
  | some (.array n e)=>(Gdv P e).map fun s=>.indexArr n s x i
  | some (.slice e)=>(Gdv P e).map fun s=>.indexSl s x i
  | _=>none
 | .index t x i =>
  match P.underlying t with
  | some (.array n e)=>match Gx3 P e,Gdv P e with | some g,some s=>some (.indexV n s g x i) | _,_=>none
  | some .string=>some (.indexS x i)
  | _=>none
 | .call c=>Gej P c
 | .extract x i=>some (.extract x i)
 | _=>none
def Gek (P : Program) (op : Op) (ev' : Operand→Value) (w : World) (v' : Value) : Prop :=
 ∀ (dst : Option Tmp) (ty : TypeId) (pos : String) (after : Array Edge) (guard : Option (Nat × Bool)),
  (execOp ev' { dst,op,type:=ty,pos,after,guard }).run P w = .ok (.value v') w
section
variable {P : Program} {ρ : Gbd} {w : World} {e : Env} {ev' : Operand→Value} {h : Gag}
theorem Gdb {t : TypeId} {n : Nat} (hs : Gdv P t = some n) (w : World) : (sizeOf t).run P w = .ok n w:=by
 unfold Gdv at hs
 cases hi : P.info? t with
 | none=>rw [hi] at hs; cases hs
 | some i =>
  rw [hi] at hs
  simp at hs
  simp [sizeOf,typeInfo,hi,hs]
theorem Gix {t : TypeId} {g : Bool} (hs : Gx3 P t = some g) (w : World) : (isAgg t).run P w = .ok g w:=by
 unfold Gx3 at hs
 cases hi : P.underlying t with
 | none=>rw [hi] at hs; cases hs
 | some d =>
  rw [hi] at hs
  cases d <;> simp at hs <;> subst hs <;> simp [isAgg,underlying,hi]
theorem Ga4 {t : TypeId} {d : TypeDesc} (hs : P.underlying t = some d) (w : World) : (underlying t).run P w = .ok d w:=by
 simp [underlying,hs]
theorem G5g {op : BinOp} {k k' : IntKind} {a b : Int} {v : Value} (hb : Gfp op k a k' b = some v) (t : TypeId) (w : World) : (binOp op t (.int k a) (.int k' b)).run P w = .ok v w:=by
  cases op <;> simp only [Gfp] at hb
  case shl =>
    split at hb
    · cases hb
    · rename_i hn; injection hb with hb; subst hb; simp [binOp,Op.shift,hn]
  case shr =>
    split at hb
    · cases hb
    · rename_i hn; injection hb with hb; subst hb; simp [binOp,Op.shift,hn]
  all_goals
    split at hb
    · cases hb
    · rename_i hk
      have hk' : k = k':=Classical.not_not.1 hk
      subst hk'
      first
        | (injection hb with hb; subst hb; simp [binOp,Op.intArith,Op.intBits,Op.intCmp]; done)
        | (split at hb
           · cases hb
           · rename_i h0; injection hb with hb; subst hb; simp [binOp,Op.intDiv,h0])
theorem G5u {op : BinOp} {a b : ByteArray} {v : Value} (hb : Qcg op a b = some v) (t : TypeId) (w : World) : (binOp op t (.string a) (.string b)).run P w = .ok v w:=by
 cases op <;> simp only [Qcg] at hb
 case add =>
  split at hb
  ·rename_i hn
   injection hb with hb; subst hb
   have : ¬ (((a.size + b.size : Nat) : Int) > IntKind.i64.max):=by
    simp [IntKind.max,IntKind.bits,IntKind.signed]
    omega
   simp only [binOp,Op.stringOp]
   rw [if_neg this]
   rfl
  ·cases hb
 all_goals first | (cases hb; done) | (injection hb with hb; subst hb; simp [binOp,Op.stringOp]; done)
end
theorem Qaj {ρ : Gbd} : ∀ {k : EqK} {x x' y y' : Value} {b : Bool},(∀ l,k ≠ .fields l)→Gav ρ x x'→Gav ρ y y'→eqV k x y = some b→eqV k x' y' = some b:=by
 intro k x x' y y' b hk hx hy he
 cases k with
 | fields l=>exact absurd rfl (hk l)
 | _=>cases hx <;> cases hy <;> simp_all [eqV]
theorem Gi7 {P : Program} {t : TypeId} {k : EqK} (hk : Gk0 P t = some k) {x y : Value} {b : Bool} (he : eqV k x y = some b) (d : Nat) (w : World) : (Op.equalIn (d + 1) t x y).run P w = .ok b w:=by
 unfold Gk0 at hk
 split at hk <;> try cases hk
 ·rename_i hu
  cases x <;> cases y <;> simp [eqV] at he
  subst he
  exact run_equalIn_bool' w d t _ _ hu
 ·rename_i hu
  cases x <;> cases y <;> simp [eqV] at he
  obtain ⟨rfl,rfl⟩:=he
  exact run_equalIn_int w d t _ _ _ _ hu
 ·rename_i hu
  cases x <;> cases y <;> simp [eqV] at he
  subst he
  rw [run_equalIn_string w d t _ _ hu,beq_toListBytes]
theorem Gil {P : Program} {ρ : Gbd} {xs xs' ys ys' : Array Value} (hx : Gav ρ (.agg xs) (.agg xs')) (hy : Gav ρ (.agg ys) (.agg ys')) (d : Nat) (w : World) :
  ∀ (fs : List Field) (l : List (Nat × EqK)) (b : Bool),Gg2 P fs = some l→eqFields l xs ys = some b→(Op.eqFields (d + 1) xs' ys' fs).run P w = .ok b w
 | [],l,b,hl,he=>by
  simp [Gg2] at hl; subst hl
  simp [Sim.eqFields] at he; subst he
  simp [Op.eqFields]
 | f :: fs,l,b,hl,he=>by
  simp only [Gg2] at hl
  split at hl
  ·cases hl
  ·rename_i hn
   split at hl
   ·rename_i k l' hk hr
    injection hl with hl; subst hl
    simp only [Sim.eqFields] at he
    have hagg : Gx3 P f.type = some false:=by
     unfold Gk0 at hk
     unfold Gx3
     split at hk <;> simp_all
    cases hxo : xs[f.offset]? with
    | none=>rw [hxo] at he; simp at he
    | some x =>
     cases hyo : ys[f.offset]? with
     | none=>rw [hxo,hyo] at he; simp at he
     | some y =>
      rw [hxo,hyo] at he
      simp only at he
      cases hx with
      | agg ha hc ra =>
       cases hy with
       | agg ha' hc' ra' =>
        have hi:=(Array.getElem?_eq_some_iff.1 hxo).1
        have hi':=(Array.getElem?_eq_some_iff.1 hyo).1
        have hx1:=ra f.offset hi (ha ▸ hi)
        have hy1:=ra' f.offset hi' (ha' ▸ hi')
        rw [(Array.getElem?_eq_some_iff.1 hxo).2] at hx1
        rw [(Array.getElem?_eq_some_iff.1 hyo).2] at hy1
        have p1 : ∀ w,(part f.type xs' f.offset).run P w = .ok (xs'[f.offset]'(ha ▸ hi)) w:=fun w=>by
         simp [part,Gix hagg,ha ▸ hi]
        have p2 : ∀ w,(part f.type ys' f.offset).run P w = .ok (ys'[f.offset]'(ha' ▸ hi')) w:=fun w=>by
         simp [part,Gix hagg,ha' ▸ hi']
        have hkf : ∀ l,k ≠ .fields l:=by
         intro l e; subst e
         unfold Gk0 at hk
         split at hk <;> simp at hk
        cases hb : eqV k x y with
        | none=>rw [hb] at he; simp at he
        | some b0 =>
         rw [hb] at he
         have hb':=Qaj hkf hx1 hy1 hb
         have hrun:=Gi7 hk hb' d
         simp only [Op.eqFields,ne_eq,hn,not_false_eq_true,if_true,Sem.run_bind,p1,p2,Result.andThen_ok,hrun]
         cases b0 with
         | true =>
          simp only [Bool.not_true,Bool.false_eq_true,if_false]
          exact Gil (.agg ha hc ra) (.agg ha' hc' ra') d w fs l' b hr (by simpa using he)
         | false =>
          simp at he; subst he
          simp
   ·cases hl
theorem Gi5 {P : Program} {t : TypeId} (d : Nat) (w : World) :
  (∀ e,P.underlying t = some (.pointer e)→(∀ b,(Op.equalIn (d + 1) t (.pointer none) (.pointer b)).run P w = .ok b.isNone w)∧(∀ a,(Op.equalIn (d + 1) t (.pointer (some a)) (.pointer none)).run P w = .ok false w)) ∧
  (∀ e,P.underlying t = some (.slice e)→(∀ b n c n' c',(Op.equalIn (d + 1) t (.slice none n c) (.slice b n' c')).run P w = .ok b.isNone w)∧(∀ a n c n' c',(Op.equalIn (d + 1) t (.slice (some a) n c) (.slice none n' c')).run P w = .ok false w)) ∧
  (∀ x y z,P.underlying t = some (.func x y z)→(Op.equalIn (d + 1) t .nilFunc .nilFunc).run P w = .ok true w∧(∀ f a b,(Op.equalIn (d + 1) t .nilFunc (.func f a b)).run P w = .ok false w)∧(∀ f a b,(Op.equalIn (d + 1) t (.func f a b) .nilFunc).run P w = .ok false w)):=by
 refine ⟨fun e hu=>⟨fun b=>?_,fun a=>?_⟩,fun e hu=>⟨fun b n c n' c'=>?_,fun a n c n' c'=>?_⟩,fun x y z hu=>⟨?_,fun f a b=>?_,fun f a b=>?_⟩⟩ <;>
  simp only [Op.equalIn,Sem.run_bind,Ga4 hu,Result.andThen_ok,Sem.run_pure]
theorem run_eq {P : Program} {ρ : Gbd} {t : TypeId} {k : EqK} (hk : Gir P t = some k) {x x' y y' : Value} {b : Bool} (hx : Gav ρ x x') (hy : Gav ρ y y') (he : eqV k x y = some b) (w : World) :
  (∀ op x0 y0,(eqGuard op t x0 y0 x' y').run P w = .ok () w)∧(Op.equal t x' y').run P w = .ok b w:=by
 have e0 : ∀ x y,(Op.equal t x y).run P w = (Op.equalIn (9999 + 1) t x y).run P w:=fun _ _=>rfl
 rw [e0]
 obtain ⟨n1,n2,n3⟩:=Gi5 (P:=P) (t:=t) 9999 w
 unfold Gir at hk
 split at hk <;> try cases hk
 ·rename_i hu
  cases hx <;> cases hy <;> simp [eqV] at he
  subst he
  exact ⟨fun op x0 y0=>by simp [eqGuard],run_equalIn_bool' w 9999 t _ _ hu⟩
 ·rename_i hu
  cases hx <;> cases hy <;> simp [eqV] at he <;> subst he <;> refine ⟨fun op x0 y0=>by simp [eqGuard],?_⟩ <;> first | exact (n1 _ hu).1 _ | exact (n1 _ hu).2 _
 ·rename_i hu
  cases hx <;> cases hy <;> simp [eqV] at he <;> subst he <;> refine ⟨fun op x0 y0=>by simp [eqGuard],?_⟩ <;> first | exact (n2 _ hu).1 _ _ _ _ _ | exact (n2 _ hu).2 _ _ _ _ _
 ·rename_i hu
  cases hx <;> cases hy <;> simp [eqV] at he <;> subst he <;> refine ⟨fun op x0 y0=>by simp [eqGuard],?_⟩ <;> first | exact (n3 _ _ _ hu).1 | exact (n3 _ _ _ hu).2.1 _ _ _ | exact (n3 _ _ _ hu).2.2 _ _ _
 ·rename_i fs hu
  split at hk
  ·rename_i hp
   cases hl : Gg2 P fs.toList with
   | none=>rw [hl] at hk; cases hk
   | some l =>
    rw [hl] at hk; simp at hk; subst hk
    have hf : P.fieldsOf t = fs:=by simp [Program.fieldsOf,hu]
    cases hx with
    | @agg a a' ha hc ra =>
     cases hy with
     | @agg c c' ha' hc' ra' =>
      simp only [eqV] at he
      refine ⟨fun op x0 y0=>by simp [eqGuard,hp.2],?_⟩
      have:=run_equalIn_struct w 9999 t a' c' (by rw [hf]; exact hu) hp.1
      rw [this,hf]
      exact Gil (.agg ha hc ra) (.agg ha' hc' ra') 9998 w _ _ _ hl he
     | _=>simp [eqV] at he
    | _=>simp [eqV] at he
  ·cases hk
section
variable {P : Program} {ρ : Gbd} {w : World} {e : Env} {ev' : Operand→Value} {h : Gag}
theorem Gk1 {t : TypeId} {l : List Value} (hz : zeroCells P t = some l) :
  ∃ i z,P.info? t = some i∧i.zero = some z∧Gbi z = true∧isVar z = true∧z.cells.size = i.size∧0 < i.size∧l = z.cells.toList:=by
 unfold zeroCells at hz
 split at hz <;> try cases hz
 rename_i i hi
 split at hz <;> try cases hz
 rename_i z hzz
 split at hz <;> try cases hz
 rename_i hc
 exact ⟨i,z,hi,hzz,hc.1,hc.2.1,hc.2.2.1,hc.2.2.2,rfl⟩
theorem Ggo {t : TypeId} {i : TypeInfo} {z : Value} (hi : P.info? t = some i) (hz : i.zero = some z) (w : World) : (zeroValue t).run P w = .ok z w:=by
 simp [zeroValue,typeInfo,hi,hz]
theorem Geo {z : Value} (hn : Gbi z = true) (hv : Sim.isVar z = true) (ρ : Gbd) : LRel ρ z.cells.toList z.cells.toList∧∀ v ∈ z.cells.toList,Sim.isCell v = true :=
 ⟨(Gbk ρ z hn).cells,(Gbk ρ z hn).cellsOk hv⟩
theorem G0a (vs : List Value) : ∀ (off k : Nat) (cs : Array Value),((vs.zipIdx k).foldl (fun (cs : Array Value) x=>cs.setIfInBounds (off + x.2) x.1) cs).toList = writeAt cs.toList (off + k) vs:=by
 induction vs with
 | nil=>intro off k cs; simp [writeAt]
 | cons v vs ih =>
  intro off k cs
  rw [List.zipIdx_cons,List.foldl_cons,ih off (k + 1)]
  simp [writeAt,Nat.add_assoc]
theorem Gjg (place : Nat→Option (Nat × Nat)) : ∀ (parts : List (Nat × Value)) (parts' : List (Nat × Value)) (cells : List Value) (cells' : Array Value) (out : List Value),
  parts.length = parts'.length→(∀ (i : Nat) p,parts[i]? = some p→∃ p',parts'[i]? = some p'∧p'.1 = p.1∧Gav ρ p.2 p'.2)→LRel ρ cells cells'.toList→(∀ v ∈ cells,Sim.isCell v = true)→Gfs place cells parts = some out →
  ∃ out',Instr.fill place cells' parts' = some out'∧LRel ρ out out'.toList∧(∀ v ∈ out,Sim.isCell v = true)
 | [],[],cells,cells',out,_,_,hr,hc,hf=>by
  simp [Gfs] at hf; subst hf
  exact ⟨cells',rfl,hr,hc⟩
 | [],_ :: _,_,_,_,hl,_,_,_,_=>by simp at hl
 | _ :: _,[],_,_,_,hl,_,_,_,_=>by simp at hl
 | (i,v) :: r,(i',v') :: r',cells,cells',out,hl,hp,hr,hc,hf=>by
  obtain ⟨p',h1,h2,h3⟩:=hp 0 (i,v) rfl
  simp at h1; subst h1
  simp at h2; subst h2
  simp only [Gfs] at hf
  cases hpl : place i' with
  | none=>rw [hpl] at hf; cases hf
  | some os =>
   obtain ⟨off,size⟩:=os
   rw [hpl] at hf
   simp only at hf
   split at hf
   ·rename_i hcond
    obtain ⟨hv,hsz,hfit⟩:=hcond
    have hsz' : v'.cells.size = size:=by have:=h3.cells.1; simp at this; omega
    have hlen : cells'.size = cells.length:=by have:=hr.1; simpa using this.symm
    simp only [Instr.fill,hpl]
    rw [if_neg (by simp [hsz']; omega)]
    refine Gjg place r r' _ _ out (by simpa using hl) (fun j p hj=>by simpa using hp (j + 1) p (by simpa using hj)) ?_ ?_ hf
    ·have e1 : (Array.foldl (fun (cs : Array Value) x=>cs.setIfInBounds (off + x.2) x.1) cells' v'.cells.zipIdx).toList = writeAt cells'.toList off v'.cells.toList:=by
      rw [← Array.foldl_toList,Array.toList_zipIdx]
      exact G0a v'.cells.toList off 0 cells'
     rw [e1]
     exact LRel.writeAt off hr h3.cells
    ·exact Gho _ _ _ hc (h3.cellsOk hv)
   ·cases hf
theorem Grn {parts : List (Nat × Operand)} (hops : ∀ p ∈ parts,Gav ρ (ev e p.2) (ev' p.2)) :
  (parts.map fun p=>(p.1,ev e p.2)).length = (parts.map fun p=>(p.1,ev' p.2)).length ∧
  ∀ (i : Nat) p,(parts.map fun p=>(p.1,ev e p.2))[i]? = some p→∃ p',(parts.map fun p=>(p.1,ev' p.2))[i]? = some p'∧p'.1 = p.1∧Gav ρ p.2 p'.2:=by
 refine ⟨by simp,fun i p hp=>?_⟩
 rw [List.getElem?_map] at hp
 cases hi : parts[i]? with
 | none=>rw [hi] at hp; cases hp
 | some q =>
  rw [hi] at hp
  simp at hp; subst hp
  exact ⟨(q.1,ev' q.2),by rw [List.getElem?_map,hi]; rfl,rfl,hops q (List.mem_of_getElem? hi)⟩
theorem Gfh {l : List Operand} (hops : ∀ x ∈ l,Gav ρ (ev e x) (ev' x)) : LRel ρ (l.map (ev e)) (l.map ev'):=by
 refine ⟨by simp,fun i v hv=>?_⟩
 rw [List.getElem?_map] at hv
 cases hi : l[i]? with
 | none=>rw [hi] at hv; cases hv
 | some q =>
  rw [hi] at hv
  simp at hv; subst hv
  exact ⟨ev' q,by rw [List.getElem?_map,hi]; rfl,hops q (List.mem_of_getElem? hi)⟩
theorem Gkf : ∀ (fs : List Field) (pl : List (Nat × Nat)),placesOf P fs = some pl→pl.length = fs.length∧(fs.mapM fun f=>(do pure (f.offset,← sizeOf f.type) : Sem (Nat × Nat))).run P w = .ok pl w
 | [],pl,h=>by simp [placesOf] at h; subst h; simp
 | f :: r,pl,h=>by
  simp only [placesOf] at h
  split at h <;> try cases h
  rename_i n l h1 h2
  obtain ⟨a,b⟩:=Gkf r l h2
  refine ⟨by simp [a],?_⟩
  simp only [List.mapM_cons,Sem.run_bind,Gdb h1,Result.andThen_ok,Sem.run_pure,b]
theorem Gav.int_inv {k : IntKind} {n : Int} {v' : Value} (hv : Gav ρ (.int k n) v') : v' = .int k n:=by cases hv; rfl
theorem Gav.bool_inv {b : Bool} {v' : Value} (hv : Gav ρ (.bool b) v') : v' = .bool b:=by cases hv; rfl
theorem Gav.str_inv {b : ByteArray} {v' : Value} (hv : Gav ρ (.string b) v') : v' = .string b:=by cases hv; rfl
theorem Gsx {v v' : Value} {y y' n : Nat} (hv : Gav ρ v v') (hb : bnd v y = some n) (hy : y≤y') (code : BoundsCode) (w : World) : (Instr.sliceBound v' y' code).run P w = .ok n w∧n≤y:=by
 cases v <;> simp only [bnd] at hb <;> try cases hb
 case int k i =>
  have:=hv.int_inv; subst this
  split at hb <;> try cases hb
  rename_i hi
  refine ⟨?_,by omega⟩
  have h1 : 0≤i∧i≤(y' : Int):=by omega
  simp only [Instr.sliceBound,asIntOf,Sem.run_bind,Sem.run_pure,Result.andThen_ok]
  rw [if_pos h1]
  rfl
theorem Gic (b : Bool) {lo hi lo' hi' : Option Value}
  (hlo : (lo = none∧lo' = none)∨∃ a a',lo = some a∧lo' = some a'∧Gav ρ a a') (hhi : (hi = none∧hi' = none)∨∃ a a',hi = some a∧hi' = some a'∧Gav ρ a a')
  (len cap : Nat) (T l : Nat) (hle : len≤cap) (h1 : Gl5 hi len len = some T) (h2 : Gl5 lo T 0 = some l) (w : World) :
  (Instr.sliceBounds b len cap lo' hi' none).run P w = .ok (l,T,cap) w∧T≤len∧l≤T:=by
 rcases hhi with ⟨rfl,rfl⟩ | ⟨a,a',rfl,rfl,ha⟩
 ·simp [Gl5] at h1; subst h1
  rcases hlo with ⟨rfl,rfl⟩ | ⟨c,c',rfl,rfl,hc⟩
  ·simp [Gl5] at h2; subst h2
   exact ⟨by simp [Instr.sliceBounds],Nat.le_refl _,Nat.zero_le _⟩
  ·have hb:=fun code=>Gsx (P:=P) hc h2 (Nat.le_refl _) code w
   exact ⟨by simp [Instr.sliceBounds,(hb _).1],Nat.le_refl _,(hb .sliceB).2⟩
 ·have ha':=fun code=>Gsx (P:=P) ha h1 hle code w
  rcases hlo with ⟨rfl,rfl⟩ | ⟨c,c',rfl,rfl,hc⟩
  ·simp [Gl5] at h2; subst h2
   exact ⟨by simp [Instr.sliceBounds,(ha' _).1],(ha' .sliceB).2,Nat.zero_le _⟩
  ·have hb:=fun code=>Gsx (P:=P) hc h2 (Nat.le_refl _) code w
   exact ⟨by simp [Instr.sliceBounds,(hb _).1,(ha' _).1],(ha' .sliceB).2,(hb .sliceB).2⟩
theorem Gw6 {t el : TypeId} {esz : Nat} (hu : P.underlying t = some (.slice el)) (hsz : Gdv P el = some esz) {x x' v : Value} (hx : Gav ρ x x') {lo hi lo' hi' : Option Value}
  (hlo : (lo = none∧lo' = none)∨∃ a a',lo = some a∧lo' = some a'∧Gav ρ a a') (hhi : (hi = none∧hi' = none)∨∃ a a',hi = some a∧hi' = some a'∧Gav ρ a a')
  (hs : Gc8 esz x lo hi = some v) : ∃ v',(∀ w,(Instr.sliceAt t x' lo' hi' none).run P w = .ok v' w)∧Gav ρ v v':=by
 have key : ∀ (len cap T l : Nat),len≤cap→Gl5 hi len len = some T→Gl5 lo T 0 = some l→(∀ w,(Instr.sliceBounds true len cap lo' hi' none).run P w = .ok (l,T,cap) w)∧T≤len∧l≤T :=
  fun len cap T l hle h1 h2=>⟨fun w=>(Gic (P:=P) true hlo hhi len cap T l hle h1 h2 w).1,(Gic (P:=P) true hlo hhi len cap T l hle h1 h2 default).2⟩
 have hsl : ∀ w lo hi mx,(Instr.sliceAt t x' lo hi mx).run P w = (Instr.slice t x' lo hi mx).run P w:=by
  intro w lo hi mx
  simp only [Instr.sliceAt,Sem.run_bind,Ga4 hu,Result.andThen_ok]
 simp only [hsl]
 cases hx with
 | nilS =>
  simp only [Gc8] at hs
  split at hs <;> try cases hs
  rename_i T h1
  split at hs <;> try cases hs
  rename_i l h2
  obtain ⟨hb,hT,hl⟩:=key 0 0 T l (Nat.le_refl _) h1 h2
  obtain rfl : T = 0:=by omega
  obtain rfl : l = 0:=by omega
  refine ⟨.slice none 0 0,fun w=>?_,.nilS⟩
  simp only [Instr.slice,Sem.run_bind,Ga4 hu,Result.andThen_ok,hb,Gdb hsz,Sem.run_pure,if_true]
 | @slice id off n c cap p hp hz hn hc =>
  simp only [Gc8] at hs
  split at hs <;> try cases hs
  rename_i T h1
  split at hs <;> try cases hs
  rename_i l h2
  split at hs <;> try cases hs
  rename_i hce
  obtain ⟨hb,hT,hl⟩:=key n cap T l hn h1 h2
  have hrun : ∀ w,(Instr.slice t (.slice (some ⟨p.b,p.base + off,none⟩) n cap) lo' hi' none).run P w =
    .ok (.slice (if cap = l then some ⟨p.b,p.base + off,none⟩ else (some ⟨p.b,p.base + off,none⟩ : Option Addr).map (·.add (l * esz))) (T - l) (cap - l)) w:=by
   intro w
   simp only [Instr.slice,Sem.run_bind,Ga4 hu,Result.andThen_ok,hb,Gdb hsz,Sem.run_pure]
  refine ⟨_,hrun,?_⟩
  by_cases hcl : cap = l
  ·rw [if_pos hcl]
   have e1 : T - l = 0:=by omega
   have e2 : cap - l = 0:=by omega
   rw [e1,e2]
   exact .sliceE hp
  ·rw [if_neg hcl]
   simp only [Option.map_some,addr_add]
   rw [Nat.add_assoc]
   refine .slice hp (by omega) (by omega) ?_
   have : (cap - l) * p.esz + l * p.esz = cap * p.esz:=by rw [← Nat.add_mul]; congr 1; omega
   rw [hz,hce] at this hc ⊢
   omega
 | @sliceE id off c p a hp =>
  simp only [Gc8] at hs
  split at hs <;> try cases hs
  rename_i T h1
  split at hs <;> try cases hs
  rename_i l h2
  split at hs <;> try cases hs
  obtain ⟨hb,hT,hl⟩:=key 0 0 T l (Nat.le_refl _) h1 h2
  obtain rfl : T = 0:=by omega
  obtain rfl : l = 0:=by omega
  refine ⟨.slice (some a) 0 0,fun w=>?_,.sliceE hp⟩
  simp only [Instr.slice,Sem.run_bind,Ga4 hu,Result.andThen_ok,hb,Gdb hsz,Sem.run_pure,if_true]
 | _=>simp [Gc8] at hs
theorem Gr8 {t : TypeId} (hu : P.underlying t = some .string) {x x' v : Value} (hx : Gav ρ x x') {lo hi lo' hi' : Option Value}
  (hlo : (lo = none∧lo' = none)∨∃ a a',lo = some a∧lo' = some a'∧Gav ρ a a') (hhi : (hi = none∧hi' = none)∨∃ a a',hi = some a∧hi' = some a'∧Gav ρ a a')
  (hs : Gs5 x lo hi = some v) : ∃ v',(∀ w,(Instr.sliceAt t x' lo' hi' none).run P w = .ok v' w)∧Gav ρ v v':=by
 cases x <;> simp only [Gs5] at hs <;> try cases hs
 rename_i s
 have:=hx.str_inv; subst this
 split at hs <;> try cases hs
 rename_i T h1
 split at hs <;> try cases hs
 rename_i l h2
 refine ⟨_,fun w=>?_,.str _⟩
 have hb:=(Gic (P:=P) false hlo hhi s.size s.size T l (Nat.le_refl _) h1 h2 w).1
 simp only [Instr.sliceAt,Instr.slice,Sem.run_bind,Ga4 hu,Result.andThen_ok,Option.isSome_none,Bool.false_eq_true,if_false,Sem.run_pure,hb]
theorem G7v {o : Option Operand} (ho : ∀ x ∈ o.toArray,Gav ρ (ev e x) (ev' x)) :
  (o.map (ev e) = none∧o.map ev' = none)∨∃ a a',o.map (ev e) = some a∧o.map ev' = some a'∧Gav ρ a a':=by
 cases o with
 | none=>exact .inl ⟨rfl,rfl⟩
 | some x=>exact .inr ⟨_,_,rfl,rfl,ho x (by simp)⟩
theorem Gwd {t : TypeId} {g : Bool} {n : Nat} (hg : Gx3 P t = some g) (hn : Gdv P t = some n) {cs cs' : Array Value} (hr : Gav ρ (.agg cs) (.agg cs')) (off : Nat) :
  (g = true→off + n≤cs.size→∃ v',(∀ w,(part t cs' off).run P w = .ok v' w)∧Gav ρ (.agg (cs.extract off (off + n))) v') ∧
  (g = false→∀ v,cs[off]? = some v→∃ v',(∀ w,(part t cs' off).run P w = .ok v' w)∧Gav ρ v v'):=by
 cases hr with
 | agg ha hc ra =>
  refine ⟨fun hgt hle=>⟨.agg (cs'.extract off (off + n)),fun w=>?_,?_⟩,fun hgf v hv=>?_⟩
  ·subst hgt
   simp only [part,Sem.run_bind,Gix hg,Result.andThen_ok,if_true,Gdb hn,Sem.run_pure]
  ·refine .agg (by simp [ha]) (fun i hi=>?_) (fun i hi hi'=>?_)
   ·simp at hi
    simp only [Array.getElem_extract]
    exact hc _ (by omega)
   ·simp at hi hi'
    simp only [Array.getElem_extract]
    exact ra _ (by omega) (by omega)
  ·subst hgf
   have hi:=(Array.getElem?_eq_some_iff.1 hv).1
   have hx:=ra off hi (ha ▸ hi)
   rw [(Array.getElem?_eq_some_iff.1 hv).2] at hx
   refine ⟨_,fun w=>?_,hx⟩
   simp only [part,Sem.run_bind,Gix hg,Result.andThen_ok,Bool.false_eq_true,if_false]
   rw [Array.getElem?_eq_getElem (ha ▸ hi)]
   rfl
theorem Gnh {f : Value→Value→Option Value} {g : Value→Value→Sem Value} (hfg : ∀ x x' y y' v,Gav ρ x x'→Gav ρ y y'→f x y = some v→∃ v',(∀ w,(g x' y').run P w = .ok v' w)∧Gav ρ v v') :
  ∀ (l l' : List Value) (x x' v : Value),LRel ρ l l'→Gav ρ x x'→Gcq f x l = some v→∃ v',(∀ w,(l'.foldlM g x').run P w = .ok v' w)∧Gav ρ v v'
 | [],l',x,x',v,hl,hx,hf=>by
  simp [Gcq] at hf; subst hf
  have : l' = []:=List.eq_nil_of_length_eq_zero (by have:=hl.1; simpa using this.symm)
  subst this
  exact ⟨x',fun w=>by simp,hx⟩
 | y :: l,l',x,x',v,hl,hx,hf=>by
  cases l' with
  | nil=>have:=hl.1; simp at this
  | cons y' l' =>
   obtain ⟨y0,h1,hy⟩:=hl.2 0 y rfl
   simp at h1; subst h1
   simp only [Gcq] at hf
   cases hz : f x y with
   | none=>rw [hz] at hf; cases hf
   | some z =>
    rw [hz] at hf
    obtain ⟨z',hz',hzr⟩:=hfg x x' y y' z hx hy hz
    obtain ⟨v',hv',hvr⟩:=Gnh hfg l l' z z' v ⟨by have:=hl.1; simpa using this,fun i a ha=>by simpa using hl.2 (i + 1) a (by simpa using ha)⟩ hzr hf
    exact ⟨v',fun w=>by simp only [List.foldlM_cons,Sem.run_bind,hz',Result.andThen_ok,hv'],hvr⟩
theorem G5b (x x' y y' v : Value) (hx : Gav ρ x x') (hy : Gav ρ y y') (h : Gfo x y = some v) : ∃ v',(∀ w,(Builtin.min2 x' y').run P w = .ok v' w)∧Gav ρ v v':=by
 cases hx <;> cases hy <;> simp only [Gfo] at h <;> try cases h
 exact ⟨_,fun w=>rfl,.int _ _⟩
theorem G2q (x x' y y' v : Value) (hx : Gav ρ x x') (hy : Gav ρ y y') (h : Gh1 x y = some v) : ∃ v',(∀ w,(Builtin.max2 x' y').run P w = .ok v' w)∧Gav ρ v v':=by
 cases hx <;> cases hy <;> simp only [Gh1] at h <;> try cases h
 exact ⟨_,fun w=>rfl,.int _ _⟩
theorem Gcy (b : Builtin) (args : Array Operand) (argTypes : Array TypeId) (dst : Option Tmp) (ty : TypeId) (pos : String) (after : Array Edge) (guard : Option (Nat × Bool)) :
  ∃ cs,execOp ev' { dst,op:=.call { callee:=.builtin b,args,argTypes },type:=ty,pos,after,guard } = builtin b argTypes ty cs (args.map ev'):=by
 exact ⟨_,rfl⟩
theorem G2p {t : TypeId} {parts : Array (Nat × Operand)} {rop : ROp} (hc : Gaj P (.build t parts) = some rop) (hops : ∀ p ∈ parts.toList,Gav ρ (ev e p.2) (ev' p.2)) {v : Value} {h' : Gag} (hs : Gam rop e h = some (v,h')) :
  h' = h∧∃ v',(∀ w,Gek P (.build t parts) ev' w v')∧Gav ρ v v':=by
 have hpr:=Grn (e:=e) (ev':=ev') (ρ:=ρ) (parts:=parts.toList) hops
 have hparts : (parts.map fun (i,x)=>(i,ev' x)).toList = parts.toList.map fun p=>(p.1,ev' p.2):=by simp
 simp only [Gaj] at hc
 cases hu : P.underlying t with
 | none=>rw [hu] at hc; cases hc
 | some d =>
  cases hz : zeroCells P t with
  | none=>rw [hu,hz] at hc; cases d <;> cases hc
  | some z =>
   rw [hu,hz] at hc
   obtain ⟨i,zv,hi,hzv,hna,hva,hsz,hpos,rfl⟩:=Gk1 hz
   obtain ⟨hl,hcel⟩:=Geo hna hva ρ
   cases d <;> simp only at hc <;> try cases hc
   case struct fs =>
    cases hpl : placesOf P fs.toList with
    | none=>rw [hpl] at hc; cases hc
    | some pl =>
     rw [hpl] at hc; simp at hc; subst hc
     simp only [Gam] at hs
     split at hs <;> try cases hs
     rename_i cs hf
     obtain ⟨out',hf',hr,hcc⟩:=Gjg (ρ:=ρ) _ _ _ _ zv.cells _ hpr.1 hpr.2 hl hcel hf
     refine ⟨rfl,.agg out',fun w dst ty pos after guard=>?_,by have:=hr.agg hcc; simpa using this⟩
     have hm : ∀ w,(fs.mapM fun f=>(do pure (f.offset,← sizeOf f.type) : Sem (Nat × Nat))).run P w = .ok pl.toArray w:=by
      intro w
      obtain ⟨l⟩:=fs
      rw [List.mapM_toArray]
      simp only [Sem.run_map,(Gkf (P:=P) (w:=w) l pl hpl).2,Result.andThen_ok]
     have hf2 : Instr.fill (fun x=>pl.toArray[x]?) zv.cells (parts.toList.map fun p=>(p.1,ev' p.2)) = some out':=by
      rw [← hf']; congr 1; funext x; simp
     simp only [execOp,Sem.run_bind,Instr.build,Ggo hi hzv,Result.andThen_ok,Ga4 hu,hm,hparts,hf2,Sem.run_pure]
   case array n el =>
    cases hse : Gdv P el with
    | none=>rw [hse] at hc; cases hc
    | some s =>
     rw [hse] at hc; simp at hc; subst hc
     simp only [Gam] at hs
     split at hs <;> try cases hs
     rename_i cs hf
     have hmono : ∀ (ps : List (Nat × Value)) (c out : List Value),Gfs (fun i=>((List.range n).map fun i=>(i * s,s))[i]?) c ps = some out→Gfs (fun i=>some (i * s,s)) c ps = some out:=by
      intro ps
      induction ps with
      | nil=>intro c out h; exact h
      | cons p ps ih =>
       intro c out h
       obtain ⟨i,x⟩:=p
       simp only [Gfs] at h ⊢
       by_cases hin : i < n
       ·have : ((List.range n).map fun i=>(i * s,s))[i]? = some (i * s,s):=by simp [hin]
        rw [this] at h
        simp only at h ⊢
        split at h
        ·rename_i hcnd; rw [if_pos hcnd]; exact ih _ _ h
        ·cases h
       ·have : ((List.range n).map fun i=>(i * s,s))[i]? = none:=by simp [hin]
        rw [this] at h; cases h
     obtain ⟨out',hf',hr,hcc⟩:=Gjg (ρ:=ρ) _ _ _ _ zv.cells _ hpr.1 hpr.2 hl hcel (hmono _ _ _ hf)
     refine ⟨rfl,.agg out',fun w dst ty pos after guard=>?_,by have:=hr.agg hcc; simpa using this⟩
     simp only [execOp,Sem.run_bind,Instr.build,Ggo hi hzv,Result.andThen_ok,Ga4 hu,Gdb hse,hparts,hf',Sem.run_pure]
theorem G4j {t : TypeId} {x i : Operand} {rop : ROp} (hc : Gaj P (.index t x i) = some rop) (hx : Gav ρ (ev e x) (ev' x)) (hi : Gav ρ (ev e i) (ev' i)) {v : Value} {h' : Gag} (hs : Gam rop e h = some (v,h')) :
  h' = h∧∃ v',(∀ w,Gek P (.index t x i) ev' w v')∧Gav ρ v v':=by
 simp only [Gaj] at hc
 cases hu : P.underlying t with
 | none=>rw [hu] at hc; cases hc
 | some d =>
  rw [hu] at hc
  cases d <;> simp only at hc <;> try cases hc
  case array n el =>
   split at hc <;> try cases hc
   rename_i g s hg hsz
   simp only [Gam] at hs
   split at hs <;> try cases hs
   rename_i cs k j hxe hie
   rw [hxe] at hx
   rw [hie] at hi
   have hi':=hi.int_inv
   split at hs <;> try cases hs
   rename_i hj
   cases hx' : ev' x <;> rw [hx'] at hx <;> try (cases hx; done)
   rename_i cs'
   obtain ⟨p1,p2⟩:=Gwd hg hsz hx (j.toNat * s)
   split at hs
   ·split at hs <;> try cases hs
    rename_i hle
    obtain ⟨v',a,b⟩:=p1 rfl hle
    refine ⟨rfl,v',fun w dst ty pos after guard=>?_,b⟩
    simp only [execOp,Sem.run_bind,Instr.index,hi',asIntOf,Sem.run_pure,Result.andThen_ok,Ga4 hu,hx',Gdb hsz,hj,and_self,if_true,a,Sem.run_ite]
   ·split at hs <;> try cases hs
    rename_i hv
    obtain ⟨v',a,b⟩:=p2 rfl _ hv
    refine ⟨rfl,v',fun w dst ty pos after guard=>?_,b⟩
    simp only [execOp,Sem.run_bind,Instr.index,hi',asIntOf,Sem.run_pure,Result.andThen_ok,Ga4 hu,hx',Gdb hsz,hj,and_self,if_true,a,Sem.run_ite]
  simp only [Gam] at hs
  split at hs <;> try cases hs
  rename_i s k j hxe hie
  rw [hxe] at hx
  rw [hie] at hi
  have hx':=hx.str_inv
  have hi':=hi.int_inv
  split at hs <;> try cases hs
  rename_i hj
  split at hs <;> try cases hs
  rename_i b hb
  exact ⟨rfl,_,fun w dst ty pos after guard=>by simp [execOp,Instr.index,hx',hi',asIntOf,Ga4 hu,hj,hb],.int _ _⟩
theorem Gro {t : TypeId} {x i : Operand} {rop : ROp} (hc : Gaj P (.indexAddr t x i) = some rop) (hx : Gav ρ (ev e x) (ev' x)) (hi : Gav ρ (ev e i) (ev' i)) {v : Value} {h' : Gag} (hs : Gam rop e h = some (v,h')) :
  h' = h∧∃ v',(∀ w,Gek P (.indexAddr t x i) ev' w v')∧Gav ρ v v':=by
 simp only [Gaj] at hc
 cases hu : P.underlying t with
 | none=>rw [hu] at hc; cases hc
 | some d =>
  rw [hu] at hc
  cases d <;> simp only at hc <;> try cases hc
  case array n el =>
   cases hse : Gdv P el with
   | none=>rw [hse] at hc; cases hc
   | some s =>
    rw [hse] at hc; simp at hc; subst hc
    simp only [Gam] at hs
    split at hs <;> try cases hs
    rename_i id o k j hxe hie
    rw [hxe] at hx
    rw [hie] at hi
    have hi':=hi.int_inv
    split at hs <;> try cases hs
    rename_i hj
    cases hx' : ev' x <;> rw [hx'] at hx <;> try (cases hx; done)
    cases hx with
    | @ptr _ _ p hp =>
     refine ⟨rfl,_,fun w dst ty pos after guard=>?_,.ptr (off:=o + j.toNat * s) hp⟩
     simp only [execOp,Sem.run_bind,Instr.indexAt,hi',asIntOf,Sem.run_pure,Result.andThen_ok,Ga4 hu,hx',Instr.sureAddr,hj,and_self,if_true,Gdb hse,addr_add,Nat.add_assoc,Sem.run_ite]
  case slice el =>
   cases hse : Gdv P el with
   | none=>rw [hse] at hc; cases hc
   | some s =>
    rw [hse] at hc; simp at hc; subst hc
    simp only [Gam] at hs
    split at hs <;> try cases hs
    rename_i id o len c k j hxe hie
    rw [hxe] at hx
    rw [hie] at hi
    have hi':=hi.int_inv
    split at hs <;> try cases hs
    rename_i hj
    cases hx' : ev' x <;> rw [hx'] at hx <;> try (cases hx; done)
    cases hx with
    | @slice _ _ _ _ cap p hp hz hn hcc =>
     refine ⟨rfl,_,fun w dst ty pos after guard=>?_,.ptr (off:=o + j.toNat * s) hp⟩
     simp only [execOp,Sem.run_bind,Instr.indexAt,hi',asIntOf,Sem.run_pure,Result.andThen_ok,Ga4 hu,hx',hj,and_self,if_true,Gdb hse,addr_add,Nat.add_assoc,Sem.run_ite]
    | sliceE=>omega
theorem G33 {t : TypeId} {x : Operand} {i : Nat} {rop : ROp} (hc : Gaj P (.field t x i) = some rop) (hx : Gav ρ (ev e x) (ev' x)) {v : Value} {h' : Gag} (hs : Gam rop e h = some (v,h')) :
  h' = h∧∃ v',(∀ w,Gek P (.field t x i) ev' w v')∧Gav ρ v v':=by
 simp only [Gaj] at hc
 cases hu : P.underlying t with
 | none=>rw [hu] at hc; cases hc
 | some d =>
  rw [hu] at hc
  cases d <;> simp only at hc <;> try cases hc
  rename_i fs
  cases hf : fs[i]? with
  | none=>rw [hf] at hc; cases hc
  | some f =>
   rw [hf] at hc
   simp only at hc
   split at hc <;> try cases hc
   rename_i g n hg hn
   simp only [Gam] at hs
   split at hs <;> try cases hs
   rename_i cs hxe
   rw [hxe] at hx
   cases hx' : ev' x <;> rw [hx'] at hx <;> try (cases hx; done)
   rename_i cs'
   obtain ⟨p1,p2⟩:=Gwd hg hn hx f.offset
   split at hs
   ·split at hs <;> try cases hs
    rename_i hle
    obtain ⟨v',a,b⟩:=p1 rfl hle
    refine ⟨rfl,v',fun w dst ty pos after guard=>?_,b⟩
    simp only [execOp,Sem.run_bind,Instr.field,Ga4 hu,Result.andThen_ok,hx',asAgg,hf,Sem.run_pure,a]
   ·split at hs <;> try cases hs
    rename_i hv
    obtain ⟨v',a,b⟩:=p2 rfl _ hv
    refine ⟨rfl,v',fun w dst ty pos after guard=>?_,b⟩
    simp only [execOp,Sem.run_bind,Instr.field,Ga4 hu,Result.andThen_ok,hx',asAgg,hf,Sem.run_pure,a]
theorem Grx {t : TypeId} {x : Operand} {i : Nat} {rop : ROp} (hc : Gaj P (.fieldAddr t x i) = some rop) (hx : Gav ρ (ev e x) (ev' x)) {v : Value} {h' : Gag} (hs : Gam rop e h = some (v,h')) :
  h' = h∧∃ v',(∀ w,Gek P (.fieldAddr t x i) ev' w v')∧Gav ρ v v':=by
 simp only [Gaj] at hc
 cases hu : P.underlying t with
 | none=>rw [hu] at hc; cases hc
 | some d =>
  rw [hu] at hc
  cases d <;> simp only at hc <;> try cases hc
  rename_i fs
  cases hf : fs[i]? with
  | none=>rw [hf] at hc; cases hc
  | some f =>
   rw [hf] at hc
   simp only at hc
   split at hc <;> try cases hc
   rename_i n hn
   simp only [Gam] at hs
   split at hs <;> try cases hs
   rename_i id o hxe
   rw [hxe] at hx
   cases hx' : ev' x <;> rw [hx'] at hx <;> try (cases hx; done)
   cases hx with
   | @ptr _ _ p hp =>
    refine ⟨rfl,_,fun w dst ty pos after guard=>?_,.ptr (off:=o + f.offset) hp⟩
    simp only [execOp,Sem.run_bind,Instr.fieldAt,Ga4 hu,Result.andThen_ok,hx',Instr.sureAddr,hf,Sem.run_pure,fieldPlace,Gdb hn,addr_add,Nat.add_assoc,Nat.succ_ne_zero,if_false,Sem.run_ite]
theorem Grg {t : TypeId} {k : EqK} (hk : Gir P t = some k) : k ≠ .int∧k ≠ .str:=by
 unfold Gir at hk
 split at hk <;> try cases hk
 ·exact ⟨by simp,by simp⟩
 ·exact ⟨by simp,by simp⟩
 ·exact ⟨by simp,by simp⟩
 ·exact ⟨by simp,by simp⟩
 ·rename_i fs _
  split at hk <;> try cases hk
  cases hf : Gg2 P fs.toList with
  | none=>rw [hf] at hk; cases hk
  | some l=>rw [hf] at hk; simp at hk; subst hk; exact ⟨by simp,by simp⟩
theorem G3c {t : TypeId} {k : EqK} (hk : k ≠ .int∧k ≠ .str) {x x' y y' : Value} {b : Bool} (hx : Gav ρ x x') (hy : Gav ρ y y') (he : eqV k x y = some b) :
  binOp .eql t x' y' = (do pure (.bool (← Op.equal t x' y')))∧binOp .neq t x' y' = (do pure (.bool (!(← Op.equal t x' y')))):=by
 cases hx <;> cases hy <;> first | exact ⟨rfl,rfl⟩ | (exfalso; cases k <;> simp_all [eqV])
theorem simBin {op : BinOp} {t ty : TypeId} {x y : Operand} {rop : ROp} (hc : Gaj P (.binOp op t x y ty) = some rop) (hx : Gav ρ (ev e x) (ev' x)) (hy : Gav ρ (ev e y) (ev' y)) {v : Value} {h' : Gag} (hs : Gam rop e h = some (v,h')) :
  h' = h∧∃ v',(∀ w,Gek P (.binOp op t x y ty) ev' w v')∧Gav ρ v v':=by
 have hbin : rop = .bin op x y→h' = h∧∃ v',(∀ w,Gek P (.binOp op t x y ty) ev' w v')∧Gav ρ v v':=by
  intro hr
  subst hr
  simp only [Gam] at hs
  split at hs <;> try cases hs
  rename_i hb
  cases hxe : ev e x <;> rw [hxe] at hb hx <;> simp only [Qe1] at hb <;> try (cases hb; done)
  ·cases hye : ev e y <;> rw [hye] at hb hy <;> simp only at hb <;> try (cases hb; done)
   have hx':=hx.int_inv
   have hy':=hy.int_inv
   refine ⟨rfl,v,fun w dst ty pos after guard=>?_,?_⟩
   ·have hg : ∀ w,(eqGuard op t x y (ev' x) (ev' y)).run P w = .ok () w:=by
     intro w; rw [hx',hy']; simp [eqGuard]
    simp only [execOp,Sem.run_bind,hg,Result.andThen_ok]
    rw [hx',hy',G5g hb]
    rfl
   ·have : ∀ {op k k' a b} {v : Value},Gfp op k a k' b = some v→Gbi v = true:=by
     intro op k k' a b v hb
     cases op <;> simp only [Gfp] at hb <;> (repeat (split at hb <;> try cases hb)) <;> (try (injection hb with hb; subst hb)) <;> rfl
    exact Gbk ρ v (this hb)
  ·cases hye : ev e y <;> rw [hye] at hb hy <;> simp only at hb <;> try (cases hb; done)
   have hx':=hx.str_inv
   have hy':=hy.str_inv
   refine ⟨rfl,v,fun w dst ty pos after guard=>?_,?_⟩
   ·have hg : ∀ w,(eqGuard op t x y (ev' x) (ev' y)).run P w = .ok () w:=by
     intro w; rw [hx',hy']; simp [eqGuard]
    simp only [execOp,Sem.run_bind,hg,Result.andThen_ok]
    rw [hx',hy',G5u hb]
    rfl
   ·have : ∀ {op a b} {v : Value},Qcg op a b = some v→Gbi v = true:=by
     intro op a b v hb
     cases op <;> simp only [Qcg] at hb <;> (repeat (split at hb <;> try cases hb)) <;> (try (injection hb with hb; subst hb)) <;> (try cases hb) <;> rfl
    exact Gbk ρ v (this hb)
 simp only [Gaj] at hc
 split at hc
 ·injection hc with hc; exact hbin hc.symm
 ·injection hc with hc; exact hbin hc.symm
 ·cases op <;> simp only at hc <;> try (cases hc; done)
  all_goals
   cases hk : Gir P t with
   | none=>rw [hk] at hc; cases hc
   | some k =>
    rw [hk] at hc; simp at hc; subst hc
    simp only [Gam] at hs
    split at hs <;> try cases hs
    rename_i hb
    have hrun:=fun w=>run_eq (P:=P) hk hx hy hb w
    obtain ⟨d1,d2⟩:=G3c (t:=t) (Grg hk) hx hy hb
    refine ⟨rfl,_,fun w dst ty pos after guard=>?_,.bool _⟩
    simp only [execOp,Sem.run_bind,(hrun _).1,Result.andThen_ok]
    first | rw [d1] | rw [d2]
    simp only [Sem.run_bind,(hrun _).2,Result.andThen_ok,Sem.run_pure]
theorem Gc2 {c : Call} {rop : ROp} (hc : Gej P c = some rop) :
  (∃ f args tys,c = ⟨.value f,args,tys⟩∧Gnq f = true∧rop = .call f args.toList) ∨
  (∃ x t,c = ⟨.builtin .len,#[x],#[t]⟩∧((P.underlying t = some .string∧rop = .lenS x)∨(∃ el,P.underlying t = some (.slice el))∧rop = .len x)) ∨
  (∃ x xs tys,c = ⟨.builtin .min,⟨x :: xs⟩,tys⟩∧rop = .min (x :: xs)) ∨
  (∃ x xs tys,c = ⟨.builtin .max,⟨x :: xs⟩,tys⟩∧rop = .max (x :: xs)) ∨
  (∃ x y t u el i z,c = ⟨.builtin .append,#[x,y],#[t,u]⟩∧P.underlying t = some (.slice el)∧P.info? el = some i∧zeroCells P el = some z∧(P.underlying u = some .string∨∃ el',P.underlying u = some (.slice el'))∧rop = .append i.size i.bytes x y) ∨
  (∃ x y t u el i,c = ⟨.builtin .copy,#[x,y],#[t,u]⟩∧P.underlying t = some (.slice el)∧P.info? el = some i∧rop = .copy i.size x y):=by
 obtain ⟨callee,args,argTypes⟩:=c
 obtain ⟨args⟩:=args
 obtain ⟨argTypes⟩:=argTypes
 cases callee with
 | value f =>
  simp only [Gej] at hc
  split at hc
  ·rename_i ho
   injection hc with hc
   exact .inl ⟨f,_,_,rfl,ho,hc.symm⟩
  ·cases hc
 | invoke=>simp [Gej] at hc
 | builtin b =>
  simp only [Gej] at hc
  split at hc
  ·rename_i x t
   refine .inr (.inl ⟨x,t,rfl,?_⟩)
   split at hc
   ·rename_i hu; injection hc with hc; exact .inl ⟨hu,hc.symm⟩
   ·rename_i el hu; injection hc with hc; exact .inr ⟨⟨_,hu⟩,hc.symm⟩
   ·cases hc
  ·rename_i _ x xs
   injection hc with hc
   exact .inr (.inr (.inl ⟨x,xs,_,rfl,hc.symm⟩))
  ·rename_i _ x xs
   injection hc with hc
   exact .inr (.inr (.inr (.inl ⟨x,xs,_,rfl,hc.symm⟩)))
  ·rename_i x y t u
   refine .inr (.inr (.inr (.inr (.inl ?_))))
   split at hc
   ·rename_i el hu
    split at hc
    ·rename_i i z el' hi hz hu'
     injection hc with hc
     exact ⟨x,y,t,u,el,i,z,rfl,hu,hi,hz,.inr ⟨_,hu'⟩,hc.symm⟩
    ·rename_i i z hi hz hu'
     injection hc with hc
     exact ⟨x,y,t,u,el,i,z,rfl,hu,hi,hz,.inl hu',hc.symm⟩
    ·cases hc
   ·cases hc
  ·rename_i x y t u
   refine .inr (.inr (.inr (.inr (.inr ?_))))
   split at hc
   ·rename_i el hu
    split at hc
    ·rename_i i hi
     injection hc with hc
     exact ⟨x,y,t,u,el,i,rfl,hu,hi,hc.symm⟩
    ·cases hc
   ·cases hc
  ·cases hc
theorem G40 {c : Call} {rop : ROp} (hc : Gaj P (.call c) = some rop) (hcls : rop.cls = .P) (hops : ∀ x ∈ c.operands,Gav ρ (ev e x) (ev' x)) {v : Value} {h' : Gag} (hs : Gam rop e h = some (v,h')) :
  h' = h∧∃ v',(∀ w,Gek P (.call c) ev' w v')∧Gav ρ v v':=by
 rcases Gc2 hc with ⟨f,args,tys,rfl,_,rfl⟩ | ⟨x,t,rfl,⟨hu,rfl⟩ | ⟨⟨el,hu⟩,rfl⟩⟩ | ⟨x,xs,tys,rfl,rfl⟩ | ⟨x,xs,tys,rfl,rfl⟩ | ⟨x,y,t,u,el,i,z,rfl,_,_,_,_,rfl⟩ | ⟨x,y,t,u,el,i,rfl,_,_,rfl⟩
 ·simp [ROp.cls] at hcls
 ·have hx:=hops x (by simp [Call.operands])
  simp only [Gam] at hs
  split at hs <;> try cases hs
  rename_i s hn
  refine ⟨rfl,_,fun w dst ty pos after guard=>?_,.int _ _⟩
  obtain ⟨cs,he⟩:=Gcy (ev':=ev') .len #[x] #[t] dst ty pos after guard
  rw [he]
  rw [hn] at hx
  simp [builtin,Builtin.len_,Ga4 hu,hx.str_inv,goInt]
 ·have hx:=hops x (by simp [Call.operands])
  simp only [Gam] at hs
  split at hs <;> try cases hs
  rename_i a n c hn
  refine ⟨rfl,_,fun w dst ty pos after guard=>?_,.int _ _⟩
  obtain ⟨cs,he⟩:=Gcy (ev':=ev') .len #[x] #[t] dst ty pos after guard
  rw [he]
  rw [hn] at hx
  have hx' : ∃ b c',ev' x = .slice b n c':=by
   generalize ev' x = z at hx
   cases hx
   ·exact ⟨_,_,rfl⟩
   ·exact ⟨_,_,rfl⟩
   ·exact ⟨_,_,rfl⟩
  obtain ⟨b,c',hx'⟩:=hx'
  simp [builtin,Builtin.len_,Ga4 hu,hx',goInt]
 ·have ha:=Gfh (e:=e) (ev':=ev') (ρ:=ρ) (l:=x :: xs) (fun y hy=>hops y (by simp [Call.operands]; simpa using hy))
  simp only [Gam,List.map_cons,Gci] at hs
  split at hs <;> try cases hs
  rename_i hf
  have hl : LRel ρ (xs.map (ev e)) (xs.map ev'):=Gfh (fun y hy=>hops y (by simp [Call.operands]; exact .inr hy))
  obtain ⟨v',h1,h2⟩:=Gnh (P:=P) (g:=Builtin.min2) (fun x x' y y' v hx hy h=>G5b x x' y y' v hx hy h) _ _ _ _ _ hl (hops x (by simp [Call.operands])) hf
  refine ⟨rfl,v',fun w dst ty pos after guard=>?_,h2⟩
  obtain ⟨cs,he⟩:=Gcy (ev':=ev') .min ⟨x :: xs⟩ tys dst ty pos after guard
  rw [he]
  simp [builtin,Builtin.min_,h1]
 ·have hl : LRel ρ (xs.map (ev e)) (xs.map ev'):=Gfh (fun y hy=>hops y (by simp [Call.operands]; exact .inr hy))
  simp only [Gam,List.map_cons,Gci] at hs
  split at hs <;> try cases hs
  rename_i hf
  obtain ⟨v',h1,h2⟩:=Gnh (P:=P) (g:=Builtin.max2) (fun x x' y y' v hx hy h=>G2q x x' y y' v hx hy h) _ _ _ _ _ hl (hops x (by simp [Call.operands])) hf
  refine ⟨rfl,v',fun w dst ty pos after guard=>?_,h2⟩
  obtain ⟨cs,he⟩:=Gcy (ev':=ev') .max ⟨x :: xs⟩ tys dst ty pos after guard
  rw [he]
  simp [builtin,Builtin.max_,h1]
 ·simp [ROp.cls] at hcls
 ·simp [ROp.cls] at hcls
theorem simP {op : Op} {rop : ROp} (hc : Gaj P op = some rop) (hcls : rop.cls = .P) (hops : ∀ x ∈ op.operands,Gav ρ (ev e x) (ev' x)) {v : Value} {h' : Gag} (hs : Gam rop e h = some (v,h')) :
  h' = h∧∃ v',(∀ w,Gek P op ev' w v')∧Gav ρ v v':=by
 cases op with
 | move x =>
  simp only [Gaj] at hc; injection hc with hc; subst hc
  simp only [Gam] at hs; injection hs with hs; injection hs with h1 h2
  subst h1; subst h2
  exact ⟨rfl,ev' x,fun w dst ty pos after guard=>rfl,hops x (by simp [Op.operands])⟩
 | assign x =>
  simp only [Gaj] at hc; injection hc with hc; subst hc
  simp only [Gam] at hs; injection hs with hs; injection hs with h1 h2
  subst h1; subst h2
  exact ⟨rfl,ev' x,fun w dst ty pos after guard=>rfl,hops x (by simp [Op.operands])⟩
 | pick c a b =>
  simp only [Gaj] at hc; injection hc with hc; subst hc
  simp only [Gam] at hs
  have hcc:=hops c (by simp [Op.operands])
  have haa:=hops a (by simp [Op.operands])
  have hbb:=hops b (by simp [Op.operands])
  cases hcv : ev e c <;> rw [hcv] at hs hcc <;> simp only at hs <;> try (cases hs; done)
  rename_i t
  have hce:=hcc.bool_inv
  cases t <;> simp only at hs
  ·injection hs with hs; injection hs with h1 h2
   subst h1; subst h2
   exact ⟨rfl,ev' b,fun w dst ty pos after guard=>by simp [execOp,hce,asBool],hbb⟩
  ·injection hs with hs; injection hs with h1 h2
   subst h1; subst h2
   exact ⟨rfl,ev' a,fun w dst ty pos after guard=>by simp [execOp,hce,asBool],haa⟩
 | alloc t =>
  simp only [Gaj] at hc
  cases hz : zeroCells P t with
  | none=>rw [hz] at hc; cases hc
  | some l=>rw [hz] at hc; simp at hc; subst hc; simp [ROp.cls] at hcls
 | box t x=>simp only [Gaj] at hc; injection hc with hc; subst hc; simp [ROp.cls] at hcls
 | build t parts=>exact G2p hc (fun p hp=>hops p.2 (by simp [Op.operands]; exact ⟨p.1,by simpa using hp⟩)) hs
 | buildSlice t n parts =>
  simp only [Gaj] at hc
  repeat (split at hc <;> try (cases hc; done))
  injection hc with hc; subst hc; simp [ROp.cls] at hcls
 | load t a =>
  simp only [Gaj] at hc
  repeat (split at hc <;> try (cases hc; done))
  injection hc with hc; subst hc; simp [ROp.cls] at hcls
 | store t a x =>
  simp only [Gaj] at hc
  repeat (split at hc <;> try (cases hc; done))
  injection hc with hc; subst hc; simp [ROp.cls] at hcls
 | nilCheck x =>
  simp only [Gaj] at hc; injection hc with hc; subst hc
  have hx:=hops x (by simp [Op.operands])
  simp only [Gam] at hs
  split at hs <;> try cases hs
  ·rename_i a hxe
   rw [hxe] at hx
   cases hx' : ev' x <;> rw [hx'] at hx <;> try (cases hx; done)
   cases hx with
   | ptr hp=>exact ⟨rfl,_,fun w dst ty pos after guard=>by simp [execOp,hx'],.ptr hp⟩
  ·rename_i f a b hxe
   rw [hxe] at hx
   cases hx' : ev' x <;> rw [hx'] at hx <;> try (cases hx; done)
   cases hx with
   | func _ ha hb ra rb=>exact ⟨rfl,_,fun w dst ty pos after guard=>by simp [execOp,hx'],.func _ ha hb ra rb⟩
 | binOp op t x y ty=>exact simBin hc (hops x (by simp [Op.operands])) (hops y (by simp [Op.operands])) hs
 | unOp op t x =>
  simp only [Gaj] at hc; injection hc with hc; subst hc
  have hx:=hops x (by simp [Op.operands])
  simp only [Gam] at hs
  split at hs <;> try cases hs
  rename_i hu
  cases hxe : ev e x <;> rw [hxe] at hx hu <;> simp only [unV] at hu <;> try (cases hu; done)
  ·have hx':=hx.bool_inv
   cases op <;> simp only at hu <;> try (cases hu; done)
   injection hu with hu; subst hu
   exact ⟨rfl,_,fun w dst ty pos after guard=>by simp [execOp,hx',Op.unary],.bool _⟩
  ·have hx':=hx.int_inv
   cases op <;> simp only at hu <;> try (cases hu; done)
   ·injection hu with hu; subst hu
    exact ⟨rfl,_,fun w dst ty pos after guard=>by simp [execOp,hx',Op.unary,Op.intArith],.int _ _⟩
   ·injection hu with hu; subst hu
    exact ⟨rfl,_,fun w dst ty pos after guard=>by simp [execOp,hx',Op.unary,Op.intBits],.int _ _⟩
 | convert src dst x =>
  have hx:=hops x (by simp [Op.operands])
  simp only [Gaj] at hc
  split at hc
  ·rename_i k0 k h1 h2
   injection hc with hc; subst hc
   simp only [Gam] at hs
   split at hs <;> try cases hs
   rename_i q n hxe
   rw [hxe] at hx
   exact ⟨rfl,_,fun w dst ty pos after guard=>by simp [execOp,hx.int_inv,convert,Ga4 h1,Ga4 h2,Conv.intToInt],.int _ _⟩
  ·rename_i h1 h2
   injection hc with hc; subst hc
   simp only [Gam] at hs
   split at hs <;> try cases hs
   rename_i s hxe
   rw [hxe] at hx
   exact ⟨rfl,_,fun w dst ty pos after guard=>by simp [execOp,hx.str_inv,convert,Ga4 h1,Ga4 h2],.str _⟩
  ·cases hc
 | makeFunc fn first captured =>
  cases fn <;> simp only [Gaj] at hc <;> try (cases hc; done)
  rename_i f
  injection hc with hc
  subst hc
  simp only [Gam] at hs
  injection hs with hs; injection hs with h1 h2
  subst h1; subst h2
  have hl:=Gfh (e:=e) (ev':=ev') (ρ:=ρ) (l:=captured.toList) (fun y hy=>hops y (by simp [Op.operands] at hy ⊢; exact .inr hy))
  have hf:=Gfh (e:=e) (ev':=ev') (ρ:=ρ) (l:=first.toList) (fun y hy=>hops y (by simp [Op.operands] at hy ⊢; exact .inl hy))
  refine ⟨rfl,.func (.func f) (first.map ev') (captured.map ev'),fun w dst ty pos after guard=>by simp [execOp,Instr.makeFunc],.func _ (by simp) (by simp) ?_ ?_⟩
  ·intro i hi hi'
   have:=hf.toArray i (by simpa using hi) (by simpa using hi')
   simpa using this
  ·intro i hi hi'
   have:=hl.toArray i (by simpa using hi) (by simpa using hi')
   simpa using this
 | makeSlice t l c =>
  simp only [Gaj] at hc
  repeat (split at hc <;> try (cases hc; done))
  injection hc with hc; subst hc; simp [ROp.cls] at hcls
 | slice t x lo hi mx =>
  cases mx with
  | some m=>simp only [Gaj] at hc; cases hc
  | none =>
   have hx:=hops x (by simp [Op.operands])
   have hlo:=G7v (e:=e) (ev':=ev') (ρ:=ρ) (o:=lo) (fun y hy=>hops y (by simp [Op.operands] at hy ⊢; simp [hy]))
   have hhi:=G7v (e:=e) (ev':=ev') (ρ:=ρ) (o:=hi) (fun y hy=>hops y (by simp [Op.operands] at hy ⊢; simp [hy]))
   simp only [Gaj] at hc
   split at hc
   ·rename_i hu
    injection hc with hc; subst hc
    simp only [Gam] at hs
    split at hs <;> try cases hs
    rename_i hsl
    obtain ⟨v',h1,h2⟩:=Gr8 hu hx hlo hhi hsl
    exact ⟨rfl,v',fun w dst ty pos after guard=>by simp [execOp,h1],h2⟩
   ·rename_i el hu
    cases hse : Gdv P el with
    | none=>rw [hse] at hc; cases hc
    | some s =>
     rw [hse] at hc; simp at hc; subst hc
     simp only [Gam] at hs
     split at hs <;> try cases hs
     rename_i hsl
     obtain ⟨v',h1,h2⟩:=Gw6 hu hse hx hlo hhi hsl
     exact ⟨rfl,v',fun w dst ty pos after guard=>by simp [execOp,h1],h2⟩
   ·cases hc
 | fieldAddr t x i=>exact Grx hc (hops x (by simp [Op.operands])) hs
 | field t x i=>exact G33 hc (hops x (by simp [Op.operands])) hs
 | indexAddr t x i=>exact Gro hc (hops x (by simp [Op.operands])) (hops i (by simp [Op.operands])) hs
 | index t x i=>exact G4j hc (hops x (by simp [Op.operands])) (hops i (by simp [Op.operands])) hs
 | call c=>exact G40 hc hcls (fun x hx=>hops x hx) hs
 | extract x i =>
  simp only [Gaj] at hc; injection hc with hc; subst hc
  have hx:=hops x (by simp [Op.operands])
  simp only [Gam] at hs
  split at hs <;> try cases hs
  rename_i vs hxe
  split at hs <;> try cases hs
  rename_i hv
  rw [hxe] at hx
  cases hx' : ev' x <;> rw [hx'] at hx <;> try (cases hx; done)
  cases hx with
  | tuple ha ra =>
   have hi:=(Array.getElem?_eq_some_iff.1 hv).1
   have hr:=ra i hi (ha ▸ hi)
   rw [(Array.getElem?_eq_some_iff.1 hv).2] at hr
   exact ⟨rfl,_,fun w dst ty pos after guard=>by simp [execOp,hx',Instr.extract,ha ▸ hi],hr⟩
 | _=>simp only [Gaj] at hc; cases hc
end
section
variable {P : Program} {ρ : Gbd} {w : World} {e : Env} {ev' : Operand→Value} {h : Gag}
theorem Gko {t : TypeId} {g : Bool} {n : Nat} (hg : Gx3 P t = some g) (hn : Gdv P t = some n) (hr : Rel ρ (Ga5 h) w) {a a' v : Value} (ha : Gav ρ a a') (hl : Gdq h n g a = some v) :
  ∃ v',(Instr.loadAt t a').run P w = .ok v' w∧Gav ρ v v':=by
 obtain ⟨ad,v',rfl,hv,hx⟩:=Gub (P:=P) hr ha hl
 cases g with
 | true =>
  obtain ⟨cs,rfl,hx⟩:=hx
  exact ⟨_,by simp [Instr.loadAt,Instr.sureAddr,loadVar,Gix hg,Gdb hn,hx],hv⟩
 | false =>
  simp only at hx
  refine ⟨v',?_,hv⟩
  simp only [Instr.loadAt,Instr.sureAddr,loadVar,Sem.run_bind,Sem.run_pure,Result.andThen_ok,Gix hg,Bool.false_eq_true,if_false]
  exact hx
theorem Gm4 {esz n : Nat} {y y' : Value} {new : List Value} (hr : Rel ρ (Ga5 h) w) (hy : Gav ρ y y') (hf : firstC h esz n y = some new) :
  ∃ new',(∀ w2 : World,w2.heap = w.heap→(Builtin.firstCells esz n y').run P w2 = .ok new'.toArray w2)∧LRel ρ new new'∧(∀ v ∈ new,Sim.isCell v = true)∧new'.length = n * esz:=by
 cases hy with
 | nilS =>
  simp only [firstC] at hf
  split at hf <;> try cases hf
  rename_i hn
  subst hn
  exact ⟨[],fun w2 _=>by simp [Builtin.firstCells],LRel.nil ρ,by simp,by simp⟩
 | @slice id off len c cap p hp hz hle hc =>
  simp only [firstC] at hf
  by_cases h0 : n = 0
  ·rw [if_pos h0] at hf
   injection hf with hf; subst hf; subst h0
   exact ⟨[],fun w2 _=>run_firstCells_some (P:=P) w2 esz 0 _ len cap [] (by simp) (fun j v hv=>by simp at hv),LRel.nil ρ,by simp,by simp⟩
  rw [if_neg h0] at hf
  cases hb : blk? h id with
  | none=>rw [hb] at hf; cases hf
  | some b =>
   rw [hb] at hf
   simp only at hf
   split at hf <;> try cases hf
   rename_i hn
   obtain ⟨cs',h1,h2,h3,h4⟩:=(hr.blk id b (Gbp hb)).part off (n * esz) hn.2 hp
   refine ⟨cs',fun w2 hw2=>?_,h1,h2,h3⟩
   refine run_firstCells_some (P:=P) w2 esz n _ len cap cs' h3 (fun j v hv=>?_)
   have:=h4 j v hv
   unfold World.cell? at this ⊢
   rw [hw2]; exact this
 | @sliceE id off c p a hp =>
  simp only [firstC] at hf
  have hn0 : n = 0∧new = []:=by
   by_cases h0 : n = 0
   ·rw [if_pos h0] at hf; injection hf with hf; exact ⟨h0,hf.symm⟩
   rw [if_neg h0] at hf
   cases hb : blk? h id with
   | none=>rw [hb] at hf; cases hf
   | some b =>
    rw [hb] at hf
    simp only at hf
    split at hf <;> try cases hf
    rename_i hn
    omega
  ·obtain ⟨rfl,rfl⟩:=hn0
   refine ⟨[],fun w2 _=>?_,LRel.nil ρ,by simp,by simp⟩
   simp [Builtin.firstCells,loadCells,loadCellsFrom]
 | str s =>
  simp only [firstC] at hf
  split at hf <;> try cases hf
  rename_i hn
  obtain ⟨rfl,rfl⟩:=hn
  refine ⟨s.data.toList.map fun b=>.int .u8 b.toNat,fun w2 _=>?_,⟨rfl,fun i v hv=>⟨v,hv,?_⟩⟩,?_,?_⟩
  ·have : s.extract 0 s.size = s:=by simp
   simp only [Builtin.firstCells,this,Sem.run_pure]
   congr 1
   apply Array.ext'
   simp
  ·obtain ⟨b,hb,rfl⟩:=List.mem_map.1 (List.mem_of_getElem? hv)
   exact .int _ _
  ·intro v hv
   obtain ⟨b,hb,rfl⟩:=List.mem_map.1 hv
   rfl
  ·simp
 | _=>simp [firstC] at hf
theorem Gqi {op : Op} {rop : ROp} (hc : Gaj P op = some rop) :
  (rop.cls = .L→∃ t a,op = .load t a) ∧
  (rop.cls = .A→(∃ t,op = .alloc t)∨(∃ t x,op = .box t x)∨(∃ t n ps,op = .buildSlice t n ps)∨(∃ t l c,op = .makeSlice t l c)) ∧
  (rop.cls = .W→(∃ t a x,op = .store t a x)∨∃ c,op = .call c):=by
 cases op with
 | load t a =>
  simp only [Gaj] at hc
  repeat (split at hc <;> try (cases hc; done))
  injection hc with hc; subst hc
  exact ⟨fun _=>⟨t,a,rfl⟩,by simp [ROp.cls],by simp [ROp.cls]⟩
 | alloc t =>
  simp only [Gaj] at hc
  cases hz : zeroCells P t with
  | none=>rw [hz] at hc; cases hc
  | some l=>rw [hz] at hc; simp at hc; subst hc; exact ⟨by simp [ROp.cls],fun _=>.inl ⟨t,rfl⟩,by simp [ROp.cls]⟩
 | box t x=>simp only [Gaj] at hc; injection hc with hc; subst hc; exact ⟨by simp [ROp.cls],fun _=>.inr (.inl ⟨t,x,rfl⟩),by simp [ROp.cls]⟩
 | buildSlice t n ps =>
  simp only [Gaj] at hc
  repeat (split at hc <;> try (cases hc; done))
  injection hc with hc; subst hc
  exact ⟨by simp [ROp.cls],fun _=>.inr (.inr (.inl ⟨t,n,ps,rfl⟩)),by simp [ROp.cls]⟩
 | makeSlice t l c =>
  simp only [Gaj] at hc
  repeat (split at hc <;> try (cases hc; done))
  injection hc with hc; subst hc
  exact ⟨by simp [ROp.cls],fun _=>.inr (.inr (.inr ⟨t,l,c,rfl⟩)),by simp [ROp.cls]⟩
 | store t a x =>
  simp only [Gaj] at hc
  repeat (split at hc <;> try (cases hc; done))
  injection hc with hc; subst hc
  exact ⟨by simp [ROp.cls],by simp [ROp.cls],fun _=>.inl ⟨t,a,x,rfl⟩⟩
 | call c =>
  rcases Gc2 hc with ⟨f,args,tys,rfl,_,rfl⟩ | ⟨x,t,rfl,⟨hu,rfl⟩ | ⟨⟨el,hu⟩,rfl⟩⟩ | ⟨x,xs,tys,rfl,rfl⟩ | ⟨x,xs,tys,rfl,rfl⟩ | ⟨x,y,t,u,el,i,z,rfl,_,_,_,_,rfl⟩ | ⟨x,y,t,u,el,i,rfl,_,_,rfl⟩ <;>
   exact ⟨by simp [ROp.cls],by simp [ROp.cls],fun _=>.inr ⟨_,rfl⟩⟩
 | makeFunc fn a b =>
  cases fn <;> simp only [Gaj] at hc <;> try (cases hc; done)
  injection hc with hc; subst hc
  exact ⟨by simp [ROp.cls],by simp [ROp.cls],by simp [ROp.cls]⟩
 | slice t x lo hi mx =>
  cases mx <;> simp only [Gaj] at hc <;> try (cases hc; done)
  split at hc
  ·injection hc with hc; subst hc; exact ⟨by simp [ROp.cls],by simp [ROp.cls],by simp [ROp.cls]⟩
  ·rename_i el hu
   cases hse : Gdv P el with
   | none=>rw [hse] at hc; cases hc
   | some s=>rw [hse] at hc; simp at hc; subst hc; exact ⟨by simp [ROp.cls],by simp [ROp.cls],by simp [ROp.cls]⟩
  ·cases hc
 | binOp op t x y ty =>
  simp only [Gaj] at hc
  split at hc
  ·injection hc with hc; subst hc; exact ⟨by simp [ROp.cls],by simp [ROp.cls],by simp [ROp.cls]⟩
  ·injection hc with hc; subst hc; exact ⟨by simp [ROp.cls],by simp [ROp.cls],by simp [ROp.cls]⟩
  ·cases op <;> simp only at hc <;> try (cases hc; done)
   all_goals
    cases hk : Gir P t with
    | none=>rw [hk] at hc; cases hc
    | some k=>rw [hk] at hc; simp at hc; subst hc; exact ⟨by simp [ROp.cls],by simp [ROp.cls],by simp [ROp.cls]⟩
 | convert src dst x =>
  simp only [Gaj] at hc
  repeat (split at hc <;> try (cases hc; done))
  all_goals (injection hc with hc; subst hc; exact ⟨by simp [ROp.cls],by simp [ROp.cls],by simp [ROp.cls]⟩)
 | fieldAddr t x i =>
  simp only [Gaj] at hc
  repeat (split at hc <;> try (cases hc; done))
  all_goals (injection hc with hc; subst hc; exact ⟨by simp [ROp.cls],by simp [ROp.cls],by simp [ROp.cls]⟩)
 | field t x i =>
  simp only [Gaj] at hc
  repeat (split at hc <;> try (cases hc; done))
  all_goals (injection hc with hc; subst hc; exact ⟨by simp [ROp.cls],by simp [ROp.cls],by simp [ROp.cls]⟩)
 | indexAddr t x i =>
  simp only [Gaj] at hc
  split at hc
  ·rename_i n el hu
   cases hse : Gdv P el with
   | none=>rw [hse] at hc; cases hc
   | some s=>rw [hse] at hc; simp at hc; subst hc; exact ⟨by simp [ROp.cls],by simp [ROp.cls],by simp [ROp.cls]⟩
  ·rename_i el hu
   cases hse : Gdv P el with
   | none=>rw [hse] at hc; cases hc
   | some s=>rw [hse] at hc; simp at hc; subst hc; exact ⟨by simp [ROp.cls],by simp [ROp.cls],by simp [ROp.cls]⟩
  ·cases hc
 | index t x i =>
  simp only [Gaj] at hc
  repeat (split at hc <;> try (cases hc; done))
  all_goals (injection hc with hc; subst hc; exact ⟨by simp [ROp.cls],by simp [ROp.cls],by simp [ROp.cls]⟩)
 | build t parts =>
  simp only [Gaj] at hc
  split at hc
  ·rename_i fs z hu hz
   cases hpl : placesOf P fs.toList with
   | none=>rw [hpl] at hc; cases hc
   | some pl=>rw [hpl] at hc; simp at hc; subst hc; exact ⟨by simp [ROp.cls],by simp [ROp.cls],by simp [ROp.cls]⟩
  ·rename_i n el z hu hz
   cases hse : Gdv P el with
   | none=>rw [hse] at hc; cases hc
   | some s=>rw [hse] at hc; simp at hc; subst hc; exact ⟨by simp [ROp.cls],by simp [ROp.cls],by simp [ROp.cls]⟩
  ·cases hc
 | move x=>simp only [Gaj] at hc; injection hc with hc; subst hc; exact ⟨by simp [ROp.cls],by simp [ROp.cls],by simp [ROp.cls]⟩
 | assign x=>simp only [Gaj] at hc; injection hc with hc; subst hc; exact ⟨by simp [ROp.cls],by simp [ROp.cls],by simp [ROp.cls]⟩
 | pick c a b=>simp only [Gaj] at hc; injection hc with hc; subst hc; exact ⟨by simp [ROp.cls],by simp [ROp.cls],by simp [ROp.cls]⟩
 | nilCheck x=>simp only [Gaj] at hc; injection hc with hc; subst hc; exact ⟨by simp [ROp.cls],by simp [ROp.cls],by simp [ROp.cls]⟩
 | unOp op t x=>simp only [Gaj] at hc; injection hc with hc; subst hc; exact ⟨by simp [ROp.cls],by simp [ROp.cls],by simp [ROp.cls]⟩
 | extract x i=>simp only [Gaj] at hc; injection hc with hc; subst hc; exact ⟨by simp [ROp.cls],by simp [ROp.cls],by simp [ROp.cls]⟩
 | _=>simp only [Gaj] at hc; cases hc
theorem simL {op : Op} {rop : ROp} (hc : Gaj P op = some rop) (hcls : rop.cls = .L) (hr : Rel ρ (Ga5 h) w) (hops : ∀ x ∈ op.operands,Gav ρ (ev e x) (ev' x)) {v : Value} {h' : Gag} (hs : Gam rop e h = some (v,h')) :
  h' = h∧∃ v',Gek P op ev' w v'∧Gav ρ v v':=by
 obtain ⟨t,a,rfl⟩:=(Gqi hc).1 hcls
 have ha:=hops a (by simp [Op.operands])
 simp only [Gaj] at hc
 split at hc <;> try cases hc
 rename_i g n hg hn
 simp only [Gam] at hs
 split at hs <;> try cases hs
 rename_i hl
 obtain ⟨v',h1,h2⟩:=Gko hg hn hr ha hl
 exact ⟨rfl,v',fun dst ty pos after guard=>by simp [execOp,h1],h2⟩
theorem Gcu (z : List Value) (n : Nat) : (Gd4 z n).length = n * z.length:=by
 induction n with
 | zero=>simp [Gd4]
 | succ n ih=>simp [Gd4,ih,Nat.add_mul]; omega
theorem Ghc (z : List Value) : ∀ (n i : Nat),i < n * z.length→(Gd4 z n)[i]? = z[i % z.length]?
 | 0,i,h=>by simp at h
 | n + 1,i,h=>by
  rw [Gd4]
  by_cases hi : i < z.length
  ·rw [List.getElem?_append_left hi,Nat.mod_eq_of_lt hi]
  ·rw [List.getElem?_append_right (by omega),Ghc z n _ (by rw [Nat.add_mul] at h; omega),← Nat.mod_eq_sub_mod (show i ≥ z.length by omega)]
theorem Grz (z : Value) (n : Nat) (hz : 0 < z.cells.size) (i : Nat) (hi : i < n) : ((Array.range n).map (fun j=>z.cells[j % z.cells.size]!))[i]? = z.cells.toList[i % z.cells.toList.length]?:=by
 have hm : i % z.cells.size < z.cells.size:=Nat.mod_lt _ hz
 simp [hi,hm]
theorem simA {op : Op} {rop : ROp} (hc : Gaj P op = some rop) (hcls : rop.cls = .A) (hops : ∀ x ∈ op.operands,Gav ρ (ev e x) (ev' x)) {v : Value} {h' : Gag} (hs : Gam rop e h = some (v,h')) :
  ∃ (cells : List Value) (c : Array Value) (t : TypeId) (esz : Nat) (mk : Nat→Value),h' = h++[some ⟨false,cells⟩]∧cells.length≤c.size∧(∀ v ∈ cells,Sim.isCell v = true) ∧
   (∀ (i : Nat) v,cells[i]? = some v→∃ v',c[i]? = some v'∧Gav ρ v v') ∧
   (∀ w : World,∀ (dst : Option Tmp) (ty : TypeId) (pos : String) (after : Array Edge) (guard : Option (Nat × Bool)),
    (execOp ev' { dst,op,type:=ty,pos,after,guard }).run P w = .ok (.value (mk w.heap.size)) { w with heap:=w.heap.push (.cells c t) }) ∧
   (∀ (ρ' : Gbd) b,ρ' h.length = some ⟨b,0,c.size,esz⟩→Gav ρ' v (mk b)):=by
 have hget : ∀ {l l' : List Value},LRel ρ l l'→∀ (i : Nat) v,l[i]? = some v→∃ v',l'.toArray[i]? = some v'∧Gav ρ v v':=by
  intro l l' hl i v hv
  obtain ⟨v',h1,h2⟩:=hl.2 i v hv
  exact ⟨v',by simpa using h1,h2⟩
 rcases (Gqi hc).2.1 hcls with ⟨t,rfl⟩ | ⟨t,x,rfl⟩ | ⟨t,n,ps,rfl⟩ | ⟨t,l,c,rfl⟩
 ·simp only [Gaj] at hc
  cases hz : zeroCells P t with
  | none=>rw [hz] at hc; cases hc
  | some l =>
   rw [hz] at hc; simp at hc; subst hc
   obtain ⟨i,zv,hi,hzv,hna,hva,hsz,hpos,rfl⟩:=Gk1 hz
   obtain ⟨hl,hcel⟩:=Geo hna hva ρ
   simp only [Gam] at hs
   injection hs with hs; injection hs with h1 h2
   subst h1; subst h2
   refine ⟨zv.cells.toList,zv.cells,t,1,fun b=>.pointer (some ⟨b,0,none⟩),rfl,by simp,hcel,fun i v hv=>by simpa using hget hl i v hv,fun w dst ty pos after guard=>?_,fun ρ' b hb=>?_⟩
   ·simp [execOp,Instr.alloc,Ggo hi hzv,newVar,newRow]
   ·have:=Gav.ptr (off:=0) hb; simpa using this
 ·have hx:=hops x (by simp [Op.operands])
  simp only [Gaj] at hc; injection hc with hc; subst hc
  simp only [Gam] at hs
  split at hs <;> try cases hs
  rename_i hv
  refine ⟨(ev e x).cells.toList,(ev' x).cells,t,1,fun b=>.pointer (some ⟨b,0,none⟩),rfl,by have:=hx.cells.1; simp at this; simp; omega,hx.cellsOk hv,fun i v hv=>by simpa using hget hx.cells i v hv,fun w dst ty pos after guard=>?_,fun ρ' b hb=>?_⟩
  ·simp [execOp,Instr.box,newVar,newRow]
  ·have:=Gav.ptr (off:=0) hb; simpa using this
 ·have hpr:=Grn (e:=e) (ev':=ev') (ρ:=ρ) (parts:=ps.toList) (fun p hp=>hops p.2 (by simp [Op.operands]; exact ⟨p.1,by simpa using hp⟩))
  have hparts : (ps.map fun (i,x)=>(i,ev' x)).toList = ps.toList.map fun p=>(p.1,ev' p.2):=by simp
  simp only [Gaj] at hc
  split at hc <;> try cases hc
  rename_i el hu
  split at hc <;> try cases hc
  rename_i z hz
  split at hc <;> try cases hc
  rename_i hle
  obtain ⟨i,zv,hi,hzv,hna,hva,hsz,hpos,rfl⟩:=Gk1 hz
  obtain ⟨hl,hcel⟩:=Geo hna hva ρ
  simp only [Gam] at hs
  split at hs <;> try cases hs
  rename_i cs hf
  have hzl : zv.cells.toList.length = i.size:=by simpa using hsz
  have hrepl : LRel ρ (Gd4 zv.cells.toList n) ((Array.range (n * i.size)).map (fun j=>zv.cells[j % zv.cells.size]!)).toList:=by
   refine ⟨by simp [Gcu,hsz],fun j v hv=>?_⟩
   have hj : j < n * i.size:=by have:=(List.getElem?_eq_some_iff.1 hv).1; rw [Gcu,hzl] at this; exact this
   rw [Ghc _ _ _ (by rw [hzl]; exact hj)] at hv
   obtain ⟨v',h1,h2⟩:=hl.2 _ v hv
   refine ⟨v',?_,h2⟩
   have:=Grz zv (n * i.size) (by omega) j hj
   rw [h1] at this
   rw [Array.getElem?_toList]; exact this
  have hrc : ∀ v ∈ Gd4 zv.cells.toList n,Sim.isCell v = true:=by
   intro v hv
   obtain ⟨j,hj,rfl⟩:=List.getElem_of_mem hv
   have : (Gd4 zv.cells.toList n)[j]? = some (Gd4 zv.cells.toList n)[j]:=by simp [hj]
   rw [Ghc _ _ _ (by rw [Gcu] at hj; exact hj)] at this
   exact hcel _ (List.mem_of_getElem? this)
  obtain ⟨out',hf',hr,hcc⟩:=Gjg (ρ:=ρ) _ _ _ _ _ _ hpr.1 hpr.2 hrepl hrc hf
  have hfl : ∀ (pl : Nat→Option (Nat × Nat)) (ps : List (Nat × Value)) (c out : List Value),Gfs pl c ps = some out→out.length = c.length:=by
   intro pl ps
   induction ps with
   | nil=>intro c out h; simp [Gfs] at h; subst h; rfl
   | cons p ps ih =>
    intro c out h
    obtain ⟨i,x⟩:=p
    simp only [Gfs] at h
    split at h <;> try cases h
    split at h <;> try cases h
    rw [ih _ _ h,Gf4]
  have hlen:=hfl _ _ _ _ hf
  rw [Gcu,hzl] at hlen
  refine ⟨cs,out',el,i.size,fun b=>.slice (some ⟨b,0,none⟩) n n,rfl,by have:=hr.1; simp at this; omega,hcc,fun i v hv=>by simpa using hget hr i v hv,fun w dst ty pos after guard=>?_,fun ρ' b hb=>?_⟩
  ·have hle' : ¬ (16777216 < n * i.size):=by rw [hzl] at hle; omega
   have hf2 : Instr.fill (fun j=>some (j * i.size,i.size)) ((Array.range (n * i.size)).map (fun j=>zv.cells[j % zv.cells.size]!)) (ps.toList.map fun p=>(p.1,ev' p.2)) = some out':=by rw [← hf',hzl]
   have hsize : ∀ w,(sizeOf el).run P w = .ok i.size w:=fun w=>by simp [sizeOf,typeInfo,hi]
   by_cases h0 : n * i.size = 0
   ·obtain rfl : n = 0:=by rcases Nat.mul_eq_zero.1 h0 with h | h <;> omega
    have hr0 : Array.range 0 = #[]:=rfl
    simp only [Nat.zero_mul,hr0,List.map_toArray,List.map_nil] at hf2
    simp only [execOp,Sem.run_bind,Instr.buildSlice,Ga4 hu,Result.andThen_ok,hsize,hparts,Nat.zero_mul,if_true,Sem.run_pure,hr0,List.map_toArray,List.map_nil,hf2]
    simp [newRow]
   ·simp only [execOp,Sem.run_bind,Instr.buildSlice,Ga4 hu,Result.andThen_ok,hsize,Sem.run_ite,hparts]
    simp only [Nat.reducePow,gt_iff_lt,hle',if_false,h0,Sem.run_bind,Ggo hi hzv,Sem.run_pure,Result.andThen_ok,hf2]
    simp [newRow]
  ·rw [hzl]
   have hco : out'.size = n * i.size:=by have:=hr.1; simp at this; omega
   have:=Gav.slice (off:=0) (n:=n) (c:=i.size) (cap:=n) hb rfl (Nat.le_refl n) (by simp; omega)
   simpa using this
 ·have hl0:=hops l (by simp [Op.operands])
  have hc0:=hops c (by simp [Op.operands])
  simp only [Gaj] at hc
  split at hc <;> try cases hc
  rename_i el hu
  split at hc <;> try cases hc
  rename_i i z hi hz
  obtain ⟨i',zv,hi',hzv,hna,hva,hsz,hpos,rfl⟩:=Gk1 hz
  obtain rfl : i = i':=by rw [hi] at hi'; exact Option.some.inj hi'
  obtain ⟨hl,hcel⟩:=Geo hna hva ρ
  simp only [Gam] at hs
  split at hs <;> try cases hs
  rename_i a b hle hce
  split at hs <;> try cases hs
  rename_i hcond
  obtain ⟨ha,hab,hb,hby⟩:=hcond
  rw [hle] at hl0
  rw [hce] at hc0
  have hl1:=hl0.int_inv
  have hc1:=hc0.int_inv
  have hzl : zv.cells.toList.length = i.size:=by simpa using hsz
  unfold Gaq at hb
  refine ⟨Gd4 zv.cells.toList a.toNat,(Array.range (b.toNat * i.size)).map (fun j=>zv.cells[j % zv.cells.size]!),el,i.size,fun k=>.slice (some ⟨k,0,none⟩) a.toNat b.toNat,rfl,?_,?_,fun j v hv=>?_,fun w dst ty pos after guard=>?_,fun ρ' k hk=>?_⟩
  ·rw [Gcu,hzl]
   simp only [Array.size_map,Array.size_range]
   exact Nat.mul_le_mul_right _ (by omega)
  ·intro v hv
   obtain ⟨j,hj,rfl⟩:=List.getElem_of_mem hv
   have : (Gd4 zv.cells.toList a.toNat)[j]? = some (Gd4 zv.cells.toList a.toNat)[j]:=by simp [hj]
   rw [Ghc _ _ _ (by rw [Gcu] at hj; exact hj)] at this
   exact hcel _ (List.mem_of_getElem? this)
  ·have hj : j < a.toNat * i.size:=by have:=(List.getElem?_eq_some_iff.1 hv).1; rw [Gcu,hzl] at this; exact this
   rw [Ghc _ _ _ (by rw [hzl]; exact hj)] at hv
   obtain ⟨v',h1,h2⟩:=hl.2 _ v hv
   refine ⟨v',?_,h2⟩
   have hab' : a.toNat * i.size≤b.toNat * i.size:=Nat.mul_le_mul_right _ (by omega)
   have:=Grz zv (b.toNat * i.size) (by omega) j (by omega)
   rw [h1] at this
   exact this
  ·have w1 : IntKind.i64.wrap a = a:=by unfold IntKind.wrap; simp [IntKind.bits,IntKind.signed]; omega
   have w2 : IntKind.i64.wrap b = b:=by unfold IntKind.wrap; simp [IntKind.bits,IntKind.signed]; omega
   have hsize : ∀ w,(sizeOf el).run P w = .ok i.size w:=fun w=>by simp [sizeOf,typeInfo,hi]
   have hbb : (i.bytes : Int) * b≤4096 * 4294967296:=by
    have h1 : (i.bytes : Int)≤4096:=by omega
    exact Int.mul_le_mul h1 hb (by omega) (by omega)
   have t1 : ¬ ((i.bytes : Int) * b > 2 ^ 48):=by omega
   have hrun : (Instr.makeSlice t (ev' l) (ev' c)).run P w = .ok (.slice (some ⟨w.heap.size,0,none⟩) a.toNat b.toNat) { w with heap:=w.heap.push (.cells ((Array.range (b.toNat * i.size)).map (fun j=>zv.cells[j % zv.cells.size]!)) el) }:=by
    have hti : ∀ w,(typeInfo el).run P w = .ok i w:=fun w=>by simp [typeInfo,hi]
    have hcnd : (decide (b < 0) || decide ((i.bytes : Int) * b > 2 ^ 48) || decide (a < 0) || decide (a > b)) = false:=by
     simp only [Bool.or_eq_false_iff,decide_eq_false_iff_not]
     omega
    simp only [Instr.makeSlice,Sem.run_bind,Ga4 hu,Result.andThen_ok,asInt,asIntOf,hl1,hc1,Sem.run_pure,hti,w1,w2,hcnd,Bool.false_eq_true,if_false,run_askRoom,hsize]
    by_cases h0 : b.toNat * i.size = 0
    ·have hr0 : Array.range 0 = #[]:=rfl
     simp [h0,hr0,newRow]
    ·simp [h0,Ggo hi hzv,newRow]
   simp only [execOp,Sem.run_bind,hrun,Result.andThen_ok,Sem.run_pure]
  ·have:=Gav.slice (off:=0) (n:=a.toNat) (c:=i.size) (cap:=b.toNat) hk rfl (by omega) (by simp)
   simpa using this
theorem Gxk {t u el : TypeId} {i : TypeInfo} {z : Value} (hu : P.underlying t = some (.slice el)) (hi : P.info? el = some i) (hz : i.zero = some z) (hux : P.underlying u = some .string∨∃ el',P.underlying u = some (.slice el'))
  {y' : Value} {n : Nat} {new' : List Value} (hn : ∀ w2,(Builtin.lenOf y').run P w2 = .ok n w2) (w : World) (hnew : ∀ w2 : World,w2.heap = w.heap→(Builtin.firstCells i.size n y').run P w2 = .ok new'.toArray w2) (ty : TypeId) :
  (∀ (ad : Addr) (sLen sCap : Nat) (w' : World),sLen + n≤sCap→(storeCells (ad.add (sLen * i.size)) new' 0).run P w = .ok () w' →
   (Builtin.append_ #[t,u] ty #[.slice (some ad) sLen sCap,y']).run P w = .ok (.slice (some ad) (sLen + n) sCap) w') ∧
  (n = 0→(Builtin.append_ #[t,u] ty #[.slice none 0 0,y']).run P w = .ok (.slice none 0 0) w) ∧
  (∀ (base : Option Addr) (sLen sCap : Nat) (old' : List Value),sCap < sLen + n→sLen + n≤Gaq→i.bytes≤4096→(∀ w2 : World,w2.heap = w.heap→(Builtin.firstCells i.size sLen (.slice base sLen sCap)).run P w2 = .ok old'.toArray w2) →
   (Builtin.append_ #[t,u] ty #[.slice base sLen sCap,y']).run P w =
    .ok (.slice (some ⟨w.heap.size,0,none⟩) (sLen + n) (grownCap w (sLen + n) sCap el))
     (w.drew.alloc (.cells ((old'++new').toArray++Builtin.zeroCells z.cells (grownCap w (sLen + n) sCap el - (sLen + n))) el))):=by
 have hsize : ∀ w,(sizeOf el).run P w = .ok i.size w:=fun w=>by simp [sizeOf,typeInfo,hi]
 have hti : ∀ w,(typeInfo el).run P w = .ok i w:=fun w=>by simp [typeInfo,hi]
 have hzr : ∀ w,(zeroValue el).run P w = .ok z w:=Ggo hi hz
 have key : ∀ d : TypeDesc,(d = .string∨∃ el',d = .slice el')→(∀ w,(underlying u).run P w = .ok d w) →
  (∀ (ad : Addr) (sLen sCap : Nat) (w' : World),sLen + n≤sCap→(storeCells (ad.add (sLen * i.size)) new' 0).run P w = .ok () w' →
   (Builtin.append_ #[t,u] ty #[.slice (some ad) sLen sCap,y']).run P w = .ok (.slice (some ad) (sLen + n) sCap) w') ∧
  (n = 0→(Builtin.append_ #[t,u] ty #[.slice none 0 0,y']).run P w = .ok (.slice none 0 0) w) ∧
  (∀ (base : Option Addr) (sLen sCap : Nat) (old' : List Value),sCap < sLen + n→sLen + n≤Gaq→i.bytes≤4096→(∀ w2 : World,w2.heap = w.heap→(Builtin.firstCells i.size sLen (.slice base sLen sCap)).run P w2 = .ok old'.toArray w2) →
   (Builtin.append_ #[t,u] ty #[.slice base sLen sCap,y']).run P w =
    .ok (.slice (some ⟨w.heap.size,0,none⟩) (sLen + n) (grownCap w (sLen + n) sCap el))
     (w.drew.alloc (.cells ((old'++new').toArray++Builtin.zeroCells z.cells (grownCap w (sLen + n) sCap el - (sLen + n))) el))):=by
  intro d hd hd'
  refine ⟨fun ad sLen sCap w' hroom hst=>?_,fun hn0=>?_,fun base sLen sCap old' hgt hle hby hold=>?_⟩
  ·rcases hd with rfl | ⟨el',rfl⟩ <;> simp [Builtin.append_,Ga4 hu,hsize,hd',hn,hroom,hnew w rfl,hst]
  ·subst hn0
   have:=hnew w rfl
   rcases hd with rfl | ⟨el',rfl⟩ <;> simp [Builtin.append_,Ga4 hu,hsize,hd',hn,this]
  ·have hnr : ¬ (sLen + n≤sCap):=by omega
   unfold Gaq at hle
   have h63' : ¬ (9223372036854775807 < ((sLen : Int) + (n : Int))):=by omega
   have hb : (sLen + n) * i.bytes≤140737488355328:=by
    have:=Nat.mul_le_mul hle hby
    omega
   have h48:=growslice_fits hgt hb
   have h48' : ¬ (281474976710656 < Builtin.nextslicecap (sLen + n) sCap * i.bytes):=by omega
   have hnd:=hnew w.drew rfl
   have hod:=hold w.drew rfl
   rcases hd with rfl | ⟨el',rfl⟩ <;> simp [Builtin.append_,Ga4 hu,hsize,hti,hzr,hd',hn,hnr,h63',h48',Question.forced,hnd,hod,newRow,grownCap] <;> rw [← Array.append_assoc] <;> simp
 rcases hux with h | ⟨el',h⟩
 ·exact key _ (.inl rfl) (Ga4 h)
 ·exact key _ (.inr ⟨el',rfl⟩) (Ga4 h)
theorem Gdt (ρ : Gbd) (id : Nat) (p : Place) : newP ρ id p id = some p:=by simp [newP]
theorem Gav.slice0 {id n m c cap b base ext : Nat} (hh : ρ id = some ⟨b,base,ext,c⟩) (hm : m = n) (hn : n≤cap) (hc : cap * c≤ext) : Gav ρ (.slice (some ⟨id,0,none⟩) n c) (.slice (some ⟨b,base,none⟩) m cap):=by
 subst hm
 have:=Gav.slice (off:=0) (n:=m) (c:=c) (cap:=cap) hh rfl hn (by simpa using hc)
 simpa using this
theorem LRel.newP {l l' : List Value} (hl : LRel ρ l l') {id : Nat} {p : Place} (hf : ρ id = none) : LRel (newP ρ id p) l l':=hl.mono (Gpf hf)
theorem G05 {t u el : TypeId} {i : TypeInfo} {z : List Value} {bytes : Nat} (hu : P.underlying t = some (.slice el)) (hi : P.info? el = some i) (hz : zeroCells P el = some z) (hby : i.bytes = bytes)
  (hux : P.underlying u = some .string∨∃ el',P.underlying u = some (.slice el')) (hr : Rel ρ (Ga5 h) w) {x x' y y' : Value} (hx : Gav ρ x x') (hy : Gav ρ y y') {v : Value} {h' : Gag}
  (hs : Gb0 h i.size bytes x y = some (v,h')) (hf : Ggd ρ h.length h'.length) (ty : TypeId) :
  ∃ v' w' ρ',(Builtin.append_ #[t,u] ty #[x',y']).run P w = .ok v' w'∧Rel ρ' (Ga5 h') w'∧Ev ρ (Ga5 h) w ρ' (Ga5 h') w'∧Gcp ρ ρ' h.length h'.length∧Gav ρ' v v'∧h.length≤h'.length:=by
 subst hby
 obtain ⟨i',zv,hi',hzv,hna,hva,hsz,hpos,rfl⟩:=Gk1 hz
 obtain rfl : i = i':=by rw [hi] at hi'; exact Option.some.inj hi'
 simp only [Gb0] at hs
 split at hs <;> try cases hs
 rename_i n hn
 split at hs <;> try cases hs
 rename_i new hnew
 obtain ⟨new',hn1,hn2,hn3,hn4⟩:=Gm4 (P:=P) hr hy hnew
 have hlen : ∀ w2,(Builtin.lenOf y').run P w2 = .ok n w2:=by
  intro w2
  generalize y' = q at hy
  cases hy <;> simp only [lenV] at hn <;> try (cases hn; done)
  all_goals (injection hn with hn; subst hn; rfl)
 obtain ⟨a1,a2,a3⟩:=Gxk (P:=P) hu hi hzv hux hlen w hn1 ty
 have hnl : new.length = n * i.size:=by rw [hn2.1,hn4]
 cases hx with
 | nilS =>
  simp only at hs
  split at hs
  ·rename_i hn0
   injection hs with hs; injection hs with h1 h2
   subst h1; subst h2
   exact ⟨_,_,ρ,a2 hn0,hr,Ev.refl _ _ _,Gcp.refl _ _ _,.nilS,Nat.le_refl _⟩
  ·split at hs <;> try cases hs
   rename_i hn0 hcond
   have hrun:=a3 none 0 0 [] (by omega) (by omega) hcond.2 (fun w2 _=>by simp [Builtin.firstCells])
   have hge:=grownCap_ge w (0 + n) 0 el
   simp only [List.nil_append] at hrun
   have hfr : ρ h.length = none:=hf h.length (Nat.le_refl _) (by simp)
   have hcs : (new'.toArray++Builtin.zeroCells zv.cells (grownCap w (0 + n) 0 el - (0 + n))).size = grownCap w (0 + n) 0 el * i.size:=by
    simp only [Array.size_append,List.size_toArray,size_zeroCells,hsz,hn4,← Nat.add_mul]
    congr 1; omega
   obtain ⟨r1,r2⟩:=Gpo (w:=w.drew) hr.drew hfr (new'.toArray++Builtin.zeroCells zv.cells (grownCap w (0 + n) 0 el - (0 + n))) el i.size (cells:=new)
    (by rw [hcs,hnl]; exact Nat.mul_le_mul_right _ (by omega)) hn3 (fun j v hv=>by
     obtain ⟨v',h1,h2⟩:=hn2.2 j v hv
     refine ⟨v',?_,h2⟩
     have hj : j < new'.length:=(List.getElem?_eq_some_iff.1 h1).1
     rw [Array.getElem?_append_left (by simpa using hj)]
     simpa using h1)
   refine ⟨_,_,_,hrun,r1,(Ev.drew ρ (Ga5 h) w).trans r2,by simpa using Ge4 ρ h.length _,?_,by simp⟩
   exact Gav.slice0 (Gdt ρ h.length _) (by omega) (by omega) (by rw [hcs]; exact Nat.le_refl _)
 | @slice id off len c cap p hp hz hle hc =>
  simp only at hs
  split at hs <;> try cases hs
  rename_i b hb
  split at hs <;> try cases hs
  rename_i hcond
  obtain ⟨hro,hce,hfit,hroom,hbyt⟩:=hcond
  have hidl:=Gdj (Gbp hb)
  have hfr : ρ h.length = none:=hf h.length (Nat.le_refl _) (by simp)
  have hpz : p.esz = i.size:=by rw [hz,hce]
  obtain ⟨cs',o1,o2,o3,o4⟩:=(hr.blk id b (Gbp hb)).part off (len * i.size) hfit hp
  by_cases hrm : len + n≤cap
  ·have hext : off + cap * i.size≤p.ext:=by rw [← hpz]; exact hc
   have hcap : (len + n) * i.size≤cap * i.size:=Nat.mul_le_mul_right _ hrm
   rw [Nat.add_mul] at hcap
   obtain ⟨r1,r2⟩:=Gru hr hfr hb hro hp off (len * i.size) (p.ext - off) (by omega) (by omega)
   have hbnew : blk? (h.set id none++[some ⟨false,(b.cells.drop off).take (len * i.size)⟩]) h.length = some ⟨false,(b.cells.drop off).take (len * i.size)⟩:=by
    have:=Ge0 (h.set id none) ⟨false,(b.cells.drop off).take (len * i.size)⟩ h.length
    rw [if_pos (by simp)] at this
    exact this
   have hol : ((b.cells.drop off).take (len * i.size)).length = len * i.size:=by simp; omega
   obtain ⟨w',s1,s2,s3⟩:=G0y r1 hbnew rfl (Gdt ρ h.length _) (len * i.size) (vs:=new) (vs':=new') (by simp only [hnl]; omega) (hn2.newP hfr) hn3 ((b.cells.drop off).take (len * i.size)++new)
    (by simp only [List.length_append,hol,hnl]; omega) (fun k v hk=>by
     by_cases hkl : k < len * i.size
     ·rw [List.getElem?_append_left (by rw [hol]; exact hkl)] at hk
      exact .inr ⟨.inl hkl,hk⟩
     ·rw [List.getElem?_append_right (by rw [hol]; omega),hol] at hk
      exact .inl ⟨by omega,hk⟩)
   have hset : (h.set id none++[some (⟨false,(b.cells.drop off).take (len * i.size)⟩ : Blk)]).set h.length (some (⟨false,(b.cells.drop off).take (len * i.size)++new⟩ : Blk)) =
     h.set id none++[some (⟨false,(b.cells.drop off).take (len * i.size)++new⟩ : Blk)]:=by
    rw [List.set_append_right _ _ (by simp)]
    simp
   rw [hset] at s2 s3
   have hrun:=a1 ⟨p.b,p.base + off,none⟩ len cap w' hrm (by rw [addr_add]; exact s1 P)
   refine ⟨_,_,_,hrun,s2,r2.trans s3,by simpa using Ge4 ρ h.length _,?_,by simp⟩
   refine Gav.slice0 (ext:=p.ext - off) ?_ rfl hrm (by omega)
   rw [← hpz]
   exact Gdt ρ h.length _
  ·have hold : ∀ w2 : World,w2.heap = w.heap→(Builtin.firstCells i.size len (.slice (some ⟨p.b,p.base + off,none⟩) len cap)).run P w2 = .ok cs'.toArray w2:=by
    intro w2 hw2
    refine run_firstCells_some (P:=P) w2 i.size len _ len cap cs' o3 (fun j v hv=>?_)
    have:=o4 j v hv
    unfold World.cell? at this ⊢
    rw [hw2]; exact this
   have hrun:=a3 (some ⟨p.b,p.base + off,none⟩) len cap cs' (by omega) hroom hbyt hold
   have hge:=grownCap_ge w (len + n) cap el
   obtain ⟨k1,k2⟩:=Gtv hr hidl
   have hfr' : ρ (h.set id none).length = none:=by simpa using hfr
   have hll : (cs'++new').length = (len + n) * i.size:=by simp only [List.length_append,o3,hn4,← Nat.add_mul]
   have hcs : ((cs'++new').toArray++Builtin.zeroCells zv.cells (grownCap w (len + n) cap el - (len + n))).size = grownCap w (len + n) cap el * i.size:=by
    simp only [Array.size_append,List.size_toArray,size_zeroCells,hsz,hll,← Nat.add_mul]
    congr 1; omega
   obtain ⟨r1,r2⟩:=Gpo (w:=w.drew) k1.drew hfr' ((cs'++new').toArray++Builtin.zeroCells zv.cells (grownCap w (len + n) cap el - (len + n))) el i.size (cells:=(b.cells.drop off).take (len * i.size)++new)
    (by rw [hcs,(o1.append hn2).1,hll]; exact Nat.mul_le_mul_right _ (by omega))
    (fun v hv=>(List.mem_append.1 hv).elim (o2 v) (hn3 v)) (fun j v hv=>by
     obtain ⟨v',h1,h2⟩:=(o1.append hn2).2 j v hv
     refine ⟨v',?_,h2⟩
     have hj : j < (cs'++new').length:=(List.getElem?_eq_some_iff.1 h1).1
     rw [Array.getElem?_append_left (by simpa using hj)]
     simpa using h1)
   refine ⟨_,_,_,hrun,r1,(k2.trans (Ev.drew ρ _ w)).trans r2,by simpa using Ge4 ρ (h.set id none).length _,?_,by simp⟩
   have hlen' : h.length = (h.set id none).length:=by simp
   rw [show (⟨h.length,0,none⟩ : Addr) = ⟨(h.set id none).length,0,none⟩ by rw [← hlen']]
   exact Gav.slice0 (Gdt ρ (h.set id none).length _) rfl hge (by rw [hcs]; exact Nat.le_refl _)
 | @sliceE id off c p a hp =>
  simp only at hs
  split at hs <;> try cases hs
  rename_i b hb
  split at hs <;> try cases hs
  rename_i hcond
  obtain ⟨hro,hce,hfit,hroom,hbyt⟩:=hcond
  have hidl:=Gdj (Gbp hb)
  have hfr : ρ h.length = none:=hf h.length (Nat.le_refl _) (by simp)
  by_cases hn0 : n = 0
  ·subst hn0
   obtain rfl : new = []:=List.eq_nil_of_length_eq_zero (by simpa using hnl)
   have hnl' : new' = []:=List.eq_nil_of_length_eq_zero (by simpa using hn4)
   subst hnl'
   obtain ⟨p0,c0,t0,f0,q1,q2,q3,q4,_⟩:=hr.blk id b (Gbp hb)
   have : p0 = p:=by rw [q1] at hp; exact Option.some.inj hp
   subst this
   obtain ⟨r1,r2⟩:=Gru hr hfr hb hro hp off 0 0 (by omega) (by omega)
   have hrun:=a1 a 0 0 w (by omega) (by simp [storeCells])
   refine ⟨_,_,_,hrun,by simpa using r1,by simpa using r2,by simpa using Ge4 ρ h.length _,?_,by simp⟩
   have:=Gav.sliceE (off:=0) (c:=i.size) (a:=a) (Gdt ρ h.length ⟨p0.b,p0.base + off,0,p0.esz⟩)
   simpa using this
  ·have hrun:=a3 (some a) 0 0 [] (by omega) hroom hbyt (fun w2 _=>by simp [Builtin.firstCells,loadCells,loadCellsFrom])
   have hge:=grownCap_ge w (0 + n) 0 el
   simp only [List.nil_append] at hrun
   obtain ⟨k1,k2⟩:=Gtv hr hidl
   have hfr' : ρ (h.set id none).length = none:=by simpa using hfr
   have hcs : (new'.toArray++Builtin.zeroCells zv.cells (grownCap w (0 + n) 0 el - (0 + n))).size = grownCap w (0 + n) 0 el * i.size:=by
    simp only [Array.size_append,List.size_toArray,size_zeroCells,hsz,hn4,← Nat.add_mul]
    congr 1; omega
   obtain ⟨r1,r2⟩:=Gpo (w:=w.drew) k1.drew hfr' (new'.toArray++Builtin.zeroCells zv.cells (grownCap w (0 + n) 0 el - (0 + n))) el i.size (cells:=new)
    (by rw [hcs,hnl]; exact Nat.mul_le_mul_right _ (by omega)) hn3 (fun j v hv=>by
     obtain ⟨v',h1,h2⟩:=hn2.2 j v hv
     refine ⟨v',?_,h2⟩
     have hj : j < new'.length:=(List.getElem?_eq_some_iff.1 h1).1
     rw [Array.getElem?_append_left (by simpa using hj)]
     simpa using h1)
   have hz0 : (b.cells.drop off).take (0 * i.size)++new = new:=by simp
   rw [hz0]
   refine ⟨_,_,_,hrun,r1,(k2.trans (Ev.drew ρ _ w)).trans r2,by simpa using Ge4 ρ (h.set id none).length _,?_,by simp⟩
   have hlen' : h.length = (h.set id none).length:=by simp
   rw [show (⟨h.length,0,none⟩ : Addr) = ⟨(h.set id none).length,0,none⟩ by rw [← hlen']]
   exact Gav.slice0 (Gdt ρ (h.set id none).length _) rfl hge (by rw [hcs]; exact Nat.le_refl _)
 | _=>simp at hs
theorem Qa6 {t u el : TypeId} {i : TypeInfo} (hu : P.underlying t = some (.slice el)) (hi : P.info? el = some i)
  (hr : Rel ρ (Ga5 h) w) {x x' y y' : Value} (hx : Gav ρ x x') (hy : Gav ρ y y') {v : Value} {h' : Gag}
  (hs : copyV h i.size x y = some (v,h')) (ty : TypeId) :
  ∃ w',(Builtin.copy_ #[t,u] ty #[x',y']).run P w = .ok v w'∧Rel ρ (Ga5 h') w'∧Ev ρ (Ga5 h) w ρ (Ga5 h') w'∧Gav ρ v v∧h.length = h'.length:=by
 have hsize : ∀ w,(sizeOf el).run P w = .ok i.size w:=fun w=>by simp [sizeOf,typeInfo,hi]
 unfold copyV at hs
 split at hs <;> try cases hs
 rename_i a dlen c
 split at hs <;> try cases hs
 rename_i sl hsl
 split at hs <;> try cases hs
 rename_i new hnew
 obtain ⟨new',hn1,hn2,hn3,hn4⟩:=Gm4 (P:=P) hr hy hnew
 have hlen : ∀ w2,(Builtin.lenOf y').run P w2 = .ok sl w2:=by
  intro w2
  generalize y' = q at hy
  cases hy <;> simp only [lenV] at hsl <;> try (cases hsl; done)
  all_goals (injection hsl with hsl; subst hsl; rfl)
 have hnl : new.length = Nat.min sl dlen * i.size:=by rw [hn2.1,hn4]
 have hrun : ∀ (base : Option Addr) (cap : Nat) (w' : World),(match base with | some ad=>(storeCells ad new').run P w = .ok () w' | none=>w' = w) →
   (Builtin.copy_ #[t,u] ty #[.slice base dlen cap,y']).run P w = .ok (goInt (Nat.min sl dlen)) w':=by
  intro base cap w' hst
  cases base with
  | none=>simp only at hst; subst hst; simp [Builtin.copy_,Ga4 hu,hsize,hlen,hn1 w' rfl]
  | some ad=>simp only at hst; simp [Builtin.copy_,Ga4 hu,hsize,hlen,hn1 w rfl,hst]
 cases hx with
 | nilS =>
  simp only [if_true] at hs
  injection hs with hs; injection hs with h1 h2
  subst h1; subst h2
  exact ⟨w,hrun none 0 w rfl,hr,Ev.refl _ _ _,.int _ _,rfl⟩
 | @slice id off len c cap p hp hz hle hc =>
  simp only at hs
  split at hs <;> try cases hs
  rename_i b hb
  split at hs <;> try cases hs
  rename_i hcond
  obtain ⟨w',s1,s2,s3⟩:=Grd hr hb hcond.1 hp off (vs:=new) (vs':=new') (by rw [hnl]; exact hcond.2) hn2 hn3
  exact ⟨w',hrun (some _) cap w' (s1 P),s2,s3,.int _ _,by simp⟩
 | @sliceE id off c p a hp =>
  simp only at hs
  split at hs <;> try cases hs
  rename_i b hb
  split at hs <;> try cases hs
  rename_i hcond
  have hm : Nat.min sl 0 = 0:=by simp
  obtain rfl : new = []:=List.eq_nil_of_length_eq_zero (by rw [hnl,hm]; simp)
  have hnl' : new' = []:=List.eq_nil_of_length_eq_zero (by have:=hn2.1; simpa using this.symm)
  subst hnl'
  have hset : h.set id (some { b with cells:=writeAt b.cells off [] }) = h:=by
   simp only [writeAt]
   apply List.ext_getElem?
   intro k
   rw [List.getElem?_set]
   split
   ·rename_i e; subst e
    unfold blk? at hb
    split at hb <;> try cases hb
    rename_i hk
    rw [if_pos (List.getElem?_eq_some_iff.1 hk).1,hk]
   ·rfl
  rw [hset]
  exact ⟨w,hrun (some a) 0 w (by simp [storeCells]),hr,Ev.refl _ _ _,.int _ _,rfl⟩
theorem simW {op : Op} {rop : ROp} (hc : Gaj P op = some rop) (hcls : rop.cls = .W) (hnc : ∀ f args,rop ≠ .call f args) (hr : Rel ρ (Ga5 h) w) (hops : ∀ x ∈ op.operands,Gav ρ (ev e x) (ev' x)) {v : Value} {h' : Gag} (hs : Gam rop e h = some (v,h')) (hf : Ggd ρ h.length h'.length) :
  ∃ v' w' ρ',(∀ (dst : Option Tmp) (ty : TypeId) (pos : String) (after : Array Edge) (guard : Option (Nat × Bool)),
    (execOp ev' { dst,op,type:=ty,pos,after,guard }).run P w = .ok (.value v') w'∨((execOp ev' { dst,op,type:=ty,pos,after,guard }).run P w = .ok .skip w'∧v' = undef)) ∧
   Rel ρ' (Ga5 h') w'∧Ev ρ (Ga5 h) w ρ' (Ga5 h') w'∧Gcp ρ ρ' h.length h'.length∧Gav ρ' v v'∧h.length≤h'.length:=by
 rcases (Gqi hc).2.2 hcls with ⟨t,a,x,rfl⟩ | ⟨c,rfl⟩
 ·have ha:=hops a (by simp [Op.operands])
  have hx:=hops x (by simp [Op.operands])
  simp only [Gaj] at hc
  split at hc <;> try cases hc
  rename_i n hn
  simp only [Gam] at hs
  split at hs <;> try cases hs
  rename_i hst
  obtain ⟨ad,w',hae,hsz,hrun,r1,r2,hl⟩:=G1e hr ha hx hst
  refine ⟨undef,w',ρ,fun dst ty pos after guard=>.inr ⟨?_,rfl⟩,r1,r2,Gcp.refl _ _ _,Gbk ρ undef rfl,by omega⟩
  simp [execOp,Instr.storeAt,hae,Instr.sureAddr,storeVar,Gdb hn,hsz,hrun P]
 ·rcases Gc2 hc with ⟨f,args,tys,rfl,_,rfl⟩ | ⟨x,t,rfl,⟨hu,rfl⟩ | ⟨⟨el,hu⟩,rfl⟩⟩ | ⟨x,xs,tys,rfl,rfl⟩ | ⟨x,xs,tys,rfl,rfl⟩ | ⟨x,y,t,u,el,i,z,rfl,hu,hi,hz,hux,rfl⟩ | ⟨x,y,t,u,el,i,rfl,hu,hi,rfl⟩
  ·exact absurd rfl (hnc _ _)
  ·simp [ROp.cls] at hcls
  ·simp [ROp.cls] at hcls
  ·simp [ROp.cls] at hcls
  ·simp [ROp.cls] at hcls
  ·have hx:=hops x (by simp [Op.operands,Call.operands])
   have hy:=hops y (by simp [Op.operands,Call.operands])
   simp only [Gam] at hs
   obtain ⟨v',w',ρ',h1,h2,h3,h4,h5,h6⟩:=G05 hu hi hz rfl hux hr hx hy hs hf 0
   refine ⟨v',w',ρ',fun dst ty pos after guard=>.inl ?_,h2,h3,h4,h5,h6⟩
   obtain ⟨cs,he⟩:=Gcy (ev':=ev') .append #[x,y] #[t,u] dst ty pos after guard
   rw [he]
   have h1' : (Builtin.append_ #[t,u] ty #[ev' x,ev' y]).run P w = .ok v' w':=h1
   simp [builtin,h1']
  ·have hx:=hops x (by simp [Op.operands,Call.operands])
   have hy:=hops y (by simp [Op.operands,Call.operands])
   simp only [Gam] at hs
   obtain ⟨w',h1,h2,h3,h4,h5⟩:=Qa6 (u:=u) hu hi hr hx hy hs 0
   refine ⟨v,w',ρ,fun dst ty pos after guard=>.inl ?_,h2,h3,Gcp.refl _ _ _,h4,by omega⟩
   obtain ⟨cs,he⟩:=Gcy (ev':=ev') .copy #[x,y] #[t,u] dst ty pos after guard
   rw [he]
   have h1' : (Builtin.copy_ #[t,u] ty #[ev' x,ev' y]).run P w = .ok v w':=h1
   simp [builtin,h1']
end
end Go.Sim
