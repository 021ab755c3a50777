/-
  The rules by which a run is followed, as rewriting rules.
-/
import Derived.Test.YtlflfkdnpalhlaaSimP
import Derived.Laws.BitsAllLaws
import Derived.Laws.Bits64
namespace Go.Sim

def andI (i : IntKind) (a b : Int) : Int := i.wrap (BitVec.ofInt i.bits a &&& BitVec.ofInt i.bits b).toNat
def orI (i : IntKind) (a b : Int) : Int := i.wrap (BitVec.ofInt i.bits a ||| BitVec.ofInt i.bits b).toNat
def xorI (i : IntKind) (a b : Int) : Int := i.wrap (BitVec.ofInt i.bits a ^^^ BitVec.ofInt i.bits b).toNat
def andNotI (i : IntKind) (a b : Int) : Int := i.wrap (BitVec.ofInt i.bits a &&& ~~~(BitVec.ofInt i.bits b)).toNat
def shlI (i : IntKind) (a b : Int) : Int := i.wrap (a * 2 ^ (min b.toNat i.bits))
def shrI (i : IntKind) (a b : Int) : Int := a.fdiv (2 ^ (min b.toNat i.bits))

section
variable {T : Tab} {F : RFunc} {k : List RItem} {e : Env} {h : Heap} {R : Value → Heap → Prop} {x y z : Operand}

theorem ok_congr {k1 k2 : List RItem} (hr : ∀ n, run T n F k1 e h = run T n F k2 e h) : Ok T F k1 e h R = Ok T F k2 e h R := by
  unfold Ok; simp only [hr]

@[simp] theorem q_op {d : Option Tmp} {op : ROp} {os : List ROper} {i : Nat} (hn : ∀ f args, op ≠ .call f args) :
    Ok T F (.ops (⟨d, op, none⟩ :: os) i [] [] :: k) e h R = opK (stepOp op e h) T F d os k e R := k_op hn
@[simp] theorem q_cond {c : Operand} {a b : RCode} : Ok T F (.code (.cond c a b) :: k) e h R = brK (ev e c) T F a b k e h R := k_cond

@[simp] theorem x_code {id : Nat} {c : RCode} : Ok T F (.code (.exit id) :: .code c :: k) e h R = Ok T F (.code (.exit id) :: k) e h R := ok_congr fun n => by cases n <;> simp [run, exitR]
@[simp] theorem x_loop {id : Nat} {c : RCode} : Ok T F (.code (.exit id) :: .inLoop c :: k) e h R = Ok T F (.code (.exit id) :: k) e h R := ok_congr fun n => by cases n <;> simp [run, exitR]
@[simp] theorem x_scope {id : Nat} : Ok T F (.code (.exit id) :: .inScope :: k) e h R = Ok T F (.code (.exit id) :: k) e h R := ok_congr fun n => by cases n <;> simp [run, exitR]
theorem x_here' {id : Nat} : Ok T F (.code (.exit id) :: .inBlock id :: k) e h R = Ok T F k e h R := propext (ok_exit (by simp [exitR]))
@[simp] theorem x_block {id j : Nat} : Ok T F (.code (.exit id) :: .inBlock j :: k) e h R = if j = id then Ok T F k e h R else Ok T F (.code (.exit id) :: k) e h R := by
  by_cases hj : j = id
  · subst hj; rw [if_pos rfl]; exact x_here'
  · rw [if_neg hj]; exact ok_congr fun n => by cases n <;> simp [run, exitR, hj]

@[simp] theorem ev_tmp {t : Tmp} : ev e (.tmp t) = e.getD t undef := rfl
@[simp] theorem ev_const {v : Value} : ev e (.const v) = v := rfl
@[simp] theorem ev_func {f : FuncId} : ev e (.func f) = .func (.func f) #[] #[] := rfl
@[simp] theorem put_some {d : Tmp} {v : Value} : put e (some d) v = e.setIfInBounds d v := rfl
@[simp] theorem put_none {v : Value} : put e none v = e := rfl

@[simp] theorem st_mov : stepOp (.mov x) e h = some (ev e x, h) := rfl
@[simp] theorem st_movS : stepOp (.movS x) e h = (match ev e x with | .string s => some (.string s, h) | _ => none) := rfl
@[simp] theorem st_pick {c : Operand} : stepOp (.pick c x y) e h = (match ev e c with | .bool t => some (match t with | true => ev e x | false => ev e y, h) | _ => none) := rfl
@[simp] theorem st_alloc {zero : List Value} : stepOp (.alloc zero) e h = some (.pointer (some ⟨h.length, 0, none⟩), h ++ [some ⟨false, zero⟩]) := rfl
@[simp] theorem st_box : stepOp (.box x) e h = (if isVar (ev e x) = true then some (.pointer (some ⟨h.length, 0, none⟩), h ++ [some ⟨false, (ev e x).cells.toList⟩]) else none) := rfl
@[simp] theorem st_build {zero : List Value} {places : List (Nat × Nat)} {parts : List (Nat × Operand)} : stepOp (.build zero places parts) e h =
    (match fillL (fun i => places[i]?) zero (parts.map fun p => (p.1, ev e p.2)) with | some cs => some (.agg cs.toArray, h) | none => none) := rfl
@[simp] theorem st_buildSlice {esz len : Nat} {zero : List Value} {parts : List (Nat × Operand)} : stepOp (.buildSlice esz len zero parts) e h =
    (match fillL (fun i => some (i * esz, esz)) (repL zero len) (parts.map fun p => (p.1, ev e p.2)) with
    | some cs => some (.slice (some ⟨h.length, 0, none⟩) len esz, h ++ [some ⟨false, cs⟩]) | none => none) := rfl
@[simp] theorem st_load {n : Nat} {agg : Bool} : stepOp (.load n agg x) e h = (match loadV h n agg (ev e x) with | some v => some (v, h) | none => none) := rfl
@[simp] theorem st_store {n : Nat} : stepOp (.store n x y) e h = (match storeV h n (ev e x) (ev e y) with | some h' => some (undef, h') | none => none) := rfl
@[simp] theorem st_nilCheck : stepOp (.nilCheck x) e h = (match ev e x with | .pointer (some a) => some (.pointer (some a), h) | .func (.func f) a b => some (.func (.func f) a b, h) | _ => none) := rfl
@[simp] theorem st_bin {op : BinOp} : stepOp (.bin op x y) e h = (match binV op (ev e x) (ev e y) with | some v => some (v, h) | none => none) := rfl
@[simp] theorem st_eq {neg : Bool} {q : EqK} : stepOp (.eq neg q x y) e h = (match eqV q (ev e x) (ev e y) with | some b => some (.bool (match neg with | true => !b | false => b), h) | none => none) := rfl
@[simp] theorem st_un {op : UnOp} : stepOp (.un op x) e h = (match unV op (ev e x) with | some v => some (v, h) | none => none) := rfl
@[simp] theorem st_convInt {i : IntKind} : stepOp (.convInt i x) e h = (match ev e x with | .int _ n => some (.int i (i.wrap n), h) | _ => none) := rfl
@[simp] theorem st_makeFunc {fn : FuncId} {cap : List Operand} : stepOp (.makeFunc fn cap) e h = some (.func (.func fn) #[] (cap.map (ev e)).toArray, h) := rfl
@[simp] theorem st_makeSlice {esz bytes : Nat} {zero : List Value} : stepOp (.makeSlice esz bytes zero x y) e h =
    (match ev e x, ev e y with
    | .int .i64 a, .int .i64 b =>
      if 0 ≤ a ∧ a ≤ b ∧ b ≤ (roomCells : Int) ∧ bytes ≤ 4096 then
        some (.slice (some ⟨h.length, 0, none⟩) a.toNat esz, h ++ [some ⟨false, repL zero a.toNat⟩])
      else none
    | _, _ => none) := rfl
@[simp] theorem st_slice {esz : Nat} {lo hi : Option Operand} : stepOp (.slice esz x lo hi) e h = (match sliceV esz (ev e x) (lo.map (ev e)) (hi.map (ev e)) with | some v => some (v, h) | none => none) := rfl
@[simp] theorem st_fieldAddr {off : Nat} : stepOp (.fieldAddr off x) e h = (match ev e x with | .pointer (some ⟨id, o, none⟩) => some (.pointer (some ⟨id, o + off, none⟩), h) | _ => none) := rfl
@[simp] theorem st_field {off n : Nat} {agg : Bool} : stepOp (.field off n agg x) e h =
    (match ev e x with
    | .agg cs =>
      (match agg with
      | true => if off + n ≤ cs.size then some (.agg (cs.extract off (off + n)), h) else none
      | false => match cs[off]? with | some v => some (v, h) | none => none)
    | _ => none) := rfl
@[simp] theorem st_indexArr {len esz : Nat} : stepOp (.indexArr len esz x y) e h =
    (match ev e x, ev e y with
    | .pointer (some ⟨id, o, none⟩), .int _ j => if 0 ≤ j ∧ j < (len : Int) then some (.pointer (some ⟨id, o + j.toNat * esz, none⟩), h) else none
    | _, _ => none) := rfl
@[simp] theorem st_indexSl {esz : Nat} : stepOp (.indexSl esz x y) e h =
    (match ev e x, ev e y with
    | .slice (some ⟨id, o, none⟩) len _, .int _ j => if 0 ≤ j ∧ j < (len : Int) then some (.pointer (some ⟨id, o + j.toNat * esz, none⟩), h) else none
    | _, _ => none) := rfl
@[simp] theorem st_indexV {len esz : Nat} {agg : Bool} : stepOp (.indexV len esz agg x y) e h =
    (match ev e x, ev e y with
    | .agg cs, .int _ j =>
      if 0 ≤ j ∧ j < (len : Int) then
        match agg with
        | true => if j.toNat * esz + esz ≤ cs.size then some (.agg (cs.extract (j.toNat * esz) (j.toNat * esz + esz)), h) else none
        | false => match cs[j.toNat * esz]? with | some v => some (v, h) | none => none
      else none
    | _, _ => none) := rfl
@[simp] theorem st_len : stepOp (.len x) e h = (match ev e x with | .slice _ n _ => some (.int .i64 n, h) | _ => none) := rfl
@[simp] theorem st_lenS : stepOp (.lenS x) e h = (match ev e x with | .string s => some (.int .i64 s.size, h) | _ => none) := rfl
@[simp] theorem st_min {args : List Operand} : stepOp (.min args) e h = (match fold1 min2V (args.map (ev e)) with | some v => some (v, h) | none => none) := rfl
@[simp] theorem st_max {args : List Operand} : stepOp (.max args) e h = (match fold1 max2V (args.map (ev e)) with | some v => some (v, h) | none => none) := rfl
@[simp] theorem st_append {esz bytes : Nat} : stepOp (.append esz bytes x y) e h = appendV h esz bytes (ev e x) (ev e y) := rfl
@[simp] theorem st_copy {esz : Nat} : stepOp (.copy esz x y) e h = copyV h esz (ev e x) (ev e y) := rfl
@[simp] theorem st_extract {i : Nat} : stepOp (.extract x i) e h = (match ev e x with | .tuple vs => (match vs[i]? with | some v => some (v, h) | none => none) | _ => none) := rfl

@[simp] theorem bv_int {op : BinOp} {i j : IntKind} {a b : Int} : binV op (.int i a) (.int j b) = binI op i a j b := rfl
@[simp] theorem bi_add {i : IntKind} {a b : Int} : binI .add i a i b = some (.int i (i.wrap (a + b))) := by simp [binI]
@[simp] theorem bi_sub {i : IntKind} {a b : Int} : binI .sub i a i b = some (.int i (i.wrap (a - b))) := by simp [binI]
@[simp] theorem bi_mul {i : IntKind} {a b : Int} : binI .mul i a i b = some (.int i (i.wrap (a * b))) := by simp [binI]
@[simp] theorem bi_quo {i : IntKind} {a b : Int} : binI .quo i a i b = if b = 0 then none else some (.int i (i.wrap (a.tdiv b))) := by simp [binI]
@[simp] theorem bi_rem {i : IntKind} {a b : Int} : binI .rem i a i b = if b = 0 then none else some (.int i (a.tmod b)) := by simp [binI]
@[simp] theorem bi_eql {i : IntKind} {a b : Int} : binI .eql i a i b = some (.bool (a == b)) := by simp [binI]
@[simp] theorem bi_neq {i : IntKind} {a b : Int} : binI .neq i a i b = some (.bool (a != b)) := by simp [binI]
@[simp] theorem bi_lss {i : IntKind} {a b : Int} : binI .lss i a i b = some (.bool (a < b)) := by simp [binI]
@[simp] theorem bi_leq {i : IntKind} {a b : Int} : binI .leq i a i b = some (.bool (a ≤ b)) := by simp [binI]
@[simp] theorem bi_gtr {i : IntKind} {a b : Int} : binI .gtr i a i b = some (.bool (a > b)) := by simp [binI]
@[simp] theorem bi_geq {i : IntKind} {a b : Int} : binI .geq i a i b = some (.bool (a ≥ b)) := by simp [binI]
@[simp] theorem bi_and {i : IntKind} {a b : Int} : binI .and i a i b = some (.int i (andI i a b)) := by simp [binI, andI]
@[simp] theorem bi_or {i : IntKind} {a b : Int} : binI .or i a i b = some (.int i (orI i a b)) := by simp [binI, orI]
@[simp] theorem bi_xor {i : IntKind} {a b : Int} : binI .xor i a i b = some (.int i (xorI i a b)) := by simp [binI, xorI]
@[simp] theorem bi_andNot {i : IntKind} {a b : Int} : binI .andNot i a i b = some (.int i (andNotI i a b)) := by simp [binI, andNotI]
@[simp] theorem bi_shl {i j : IntKind} {a b : Int} : binI .shl i a j b = if b < 0 then none else some (.int i (shlI i a b)) := by simp [binI, shlI]
@[simp] theorem bi_shr {i j : IntKind} {a b : Int} : binI .shr i a j b = if b < 0 then none else some (.int i (shrI i a b)) := by simp [binI, shrI]
@[simp] theorem un_neg {i : IntKind} {a : Int} : unV .neg (.int i a) = some (.int i (i.wrap (0 - a))) := rfl
@[simp] theorem un_not {b : Bool} : unV .not (.bool b) = some (.bool !b) := rfl

@[simp] theorem ld_word {n id off : Nat} : loadV h n false (.pointer (some ⟨id, off, none⟩)) = match blk? h id with | some b => b.cells[off]? | none => none := rfl
@[simp] theorem ld_agg {n id off : Nat} : loadV h n true (.pointer (some ⟨id, off, none⟩)) = match blk? h id with | some b => if off + n ≤ b.cells.length then some (.agg ((b.cells.drop off).take n).toArray) else none | none => none := rfl
@[simp] theorem sto_ptr {n id off : Nat} {v : Value} : storeV h n (.pointer (some ⟨id, off, none⟩)) v = match blk? h id with
    | some b =>
      if b.ro = false ∧ isVar v = true ∧ v.cells.size = n ∧ off + n ≤ b.cells.length then
        some (h.set id (some { b with cells := writeAt b.cells off v.cells.toList }))
      else none
    | none => none := rfl

@[simp] theorem var_int {i : IntKind} {n : Int} : isVar (.int i n) = true := rfl
@[simp] theorem var_bool {b : Bool} : isVar (.bool b) = true := rfl
@[simp] theorem var_ptr {a : Option Addr} : isVar (.pointer a) = true := rfl
@[simp] theorem var_slice {a : Option Addr} {n c : Nat} : isVar (.slice a n c) = true := rfl
@[simp] theorem var_agg {a : Array Value} : isVar (.agg a) = true := rfl
@[simp] theorem var_str {s : ByteArray} : isVar (.string s) = true := rfl
@[simp] theorem cells_int {i : IntKind} {n : Int} : (Value.int i n).cells = #[.int i n] := rfl
@[simp] theorem cells_bool {b : Bool} : (Value.bool b).cells = #[.bool b] := rfl
@[simp] theorem cells_ptr {a : Option Addr} : (Value.pointer a).cells = #[.pointer a] := rfl
@[simp] theorem cells_slice {a : Option Addr} {n c : Nat} : (Value.slice a n c).cells = #[.slice a n c] := rfl
@[simp] theorem cells_str {s : ByteArray} : (Value.string s).cells = #[.string s] := rfl
@[simp] theorem cells_agg {a : Array Value} : (Value.agg a).cells = a := rfl
@[simp] theorem write_nil {l : List Value} {o : Nat} : writeAt l o [] = l := rfl
@[simp] theorem write_cons {l : List Value} {o : Nat} {v : Value} {vs : List Value} : writeAt l o (v :: vs) = writeAt (l.set o v) (o + 1) vs := rfl
@[simp] theorem fill_nil {p : Nat → Option (Nat × Nat)} {cs : List Value} : fillL p cs [] = some cs := rfl
@[simp] theorem fill_cons {p : Nat → Option (Nat × Nat)} {cs : List Value} {i : Nat} {v : Value} {rest : List (Nat × Value)} : fillL p cs ((i, v) :: rest) =
    match p i with
    | none => none
    | some (off, size) =>
      if isVar v = true ∧ v.cells.size = size ∧ off + size ≤ cs.length then fillL p (writeAt cs off v.cells.toList) rest else none := by
  rw [fillL]; cases p i <;> rfl
@[simp] theorem rep_zero {z : List Value} : repL z 0 = [] := rfl

@[simp] theorem q_call {d : Option Tmp} {f : FuncId} {args : List Operand} {os : List ROper} {i : Nat} :
    Ok T F (.ops (⟨d, .call (.func f) args, none⟩ :: os) i [] [] :: k) e h R = Ret T f (args.map (ev e)) h fun v h' => Ok T F (.ops os 0 [] [] :: k) (put e d v) h' R := k_call
end

@[simp] theorem eq_pn {b : Option Addr} : eqV .ptr (.pointer none) (.pointer b) = some b.isNone := by simp [eqV]
@[simp] theorem eq_ps {a : Addr} : eqV .ptr (.pointer (some a)) (.pointer none) = some false := by simp [eqV]
@[simp] theorem eq_sn {b : Option Addr} {n c m d : Nat} : eqV .slice (.slice none n c) (.slice b m d) = some b.isNone := by simp [eqV]
@[simp] theorem eq_ss {a : Addr} {n c m d : Nat} : eqV .slice (.slice (some a) n c) (.slice none m d) = some false := by simp [eqV]
@[simp] theorem eq_int {i : IntKind} {a b : Int} : eqV .int (.int i a) (.int i b) = some (a == b) := by simp [eqV]
@[simp] theorem eq_bool {a b : Bool} : eqV .bool (.bool a) (.bool b) = some (a == b) := by simp [eqV]

theorem run_det {T : Tab} {F : RFunc} {k : List RItem} {e : Env} {h : Heap} {n m : Nat} {r r' : Value × Heap} (h1 : run T n F k e h = some r) (h2 : run T m F k e h = some r') : r = r' := by
  have a := run_mono T n (n + m) F k e h r (by omega) h1
  have b := run_mono T m (n + m) F k e h r' (by omega) h2
  rw [a] at b; exact Option.some.inj b

/-- A call of a function that is run apart, as a rule. -/
theorem iso_eq {T : Tab} {g : FuncId} {G : RFunc} {vs : List Value} {h : Heap} {R : Value → Heap → Prop} (hG : T g = some G) (hi : G.iso = true) (hv : vs.all noAddr = true) {n : Nat} {v : Value} (hr : (run T n G [.code G.body] (mkEnv G vs) []).map (·.1) = some v) (hn : noAddr v = true) :
    Ret T g vs h R = R v h := by
  apply propext
  constructor
  · rintro ⟨G', hG', hor⟩
    rw [hG] at hG'; injection hG' with hG'; subst hG'
    rcases hor with ⟨_, _, n', v', h', h1, _, h2⟩ | ⟨hi', _⟩
    · rw [Option.map_eq_some_iff] at hr
      obtain ⟨⟨v0, h0⟩, h3, h4⟩ := hr
      have := run_det h1 h3
      injection this with e1 _
      subst e1
      simp only at h4; subst h4
      exact h2
    · rw [hi] at hi'; cases hi'
  · exact fun hR => ret_iso hG hi hv hr hn hR

abbrev ptr (p : Nat) : Value := .pointer (some ⟨p, 0, none⟩)

theorem wrapN {n : Nat} (h : n < 9223372036854775808) : IntKind.i64.wrap (n : Int) = n := by
  rw [IntKind.wrap_i64]; omega
theorem shrN {i : IntKind} {a b : Nat} (h : b ≤ i.bits) : shrI i (a : Int) (b : Int) = ((a / 2 ^ b : Nat) : Int) := by
  unfold shrI
  rw [Int.toNat_natCast, Nat.min_eq_left h, show ((2 : Int) ^ b) = ((2 ^ b : Nat) : Int) by simp]
  exact Int.fdiv_eq_ediv_of_nonneg _ (Int.natCast_nonneg _)
theorem wrapI {n : Int} (h : -9223372036854775808 ≤ n) (h' : n < 9223372036854775808) : IntKind.i64.wrap n = n := by
  rw [IntKind.wrap_i64]; omega
end Go.Sim
