/-
  The code of the program, resolved.
-/
import Derived.Test.YtlflfkdnpalhlaaSimC
import Derived.Laws.StructEq
import Derived.Laws.Slices
namespace Go.Sim
open Go.RowKit

def okOpnd : Operand → Bool
  | .tmp _ => true
  | .const v => noAddr v
  | .func _ => true
  | .global _ => false

def aggT (P : Program) (t : TypeId) : Option Bool :=
  match P.underlying t with
  | some (.struct _) => some true
  | some (.array _ _) => some true
  | some _ => some false
  | none => none

def zeroCells (P : Program) (t : TypeId) : Option (List Value) :=
  match P.info? t with
  | some i =>
    match i.zero with
    | some z => if noAddr z = true ∧ isVar z = true ∧ z.cells.size = i.size ∧ 0 < i.size then some z.cells.toList else none
    | none => none
  | none => none

def sizeT (P : Program) (t : TypeId) : Option Nat := (P.info? t).map (·.size)

def scalarK (P : Program) (t : TypeId) : Option EqK :=
  match P.underlying t with
  | some .bool => some .bool
  | some (.int _) => some .int
  | some .string => some .str
  | _ => none

def fieldsK (P : Program) : List Field → Option (List (Nat × EqK))
  | [] => some []
  | f :: r =>
    if f.name = "_" then none else
    match scalarK P f.type, fieldsK P r with
    | some k, some l => some ((f.offset, k) :: l)
    | _, _ => none

def eqKind (P : Program) (t : TypeId) : Option EqK :=
  match P.underlying t with
  | some .bool => some .bool
  | some (.pointer _) => some .ptr
  | some (.slice _) => some .slice
  | some (.func ..) => some .func
  | some (.struct fs) => if P.stoodInHeld t = false ∧ P.eqGuardType P.depth t = false then (fieldsK P fs.toList).map .fields else none
  | _ => none

def placesOf (P : Program) : List Field → Option (List (Nat × Nat))
  | [] => some []
  | f :: r =>
    match sizeT P f.type, placesOf P r with
    | some n, some l => some ((f.offset, n) :: l)
    | _, _ => none

def compileCall (P : Program) (c : Call) : Option ROp :=
  match c.callee with
  | .value f => if okOpnd f then some (.call f c.args.toList) else none
  | .invoke .. => none
  | .builtin b =>
    match b, c.args.toList, c.argTypes.toList with
    | .len, [x], [t] =>
      match P.underlying t with
      | some .string => some (.lenS x)
      | some (.slice _) => some (.len x)
      | _ => none
    | .min, x :: xs, _ => some (.min (x :: xs))
    | .max, x :: xs, _ => some (.max (x :: xs))
    | .append, [x, y], [t, u] =>
      match P.underlying t with
      | some (.slice e) =>
        match P.info? e, zeroCells P e, P.underlying u with
        | some i, some _, some (.slice _) => some (.append i.size i.bytes x y)
        | some i, some _, some .string => some (.append i.size i.bytes x y)
        | _, _, _ => none
      | _ => none
    | .copy, [x, y], [t, _] =>
      match P.underlying t with
      | some (.slice e) => match P.info? e with | some i => some (.copy i.size x y) | none => none
      | _ => none
    | _, _, _ => none

/-- An operation, resolved. -/
def compileOp (P : Program) (op : Op) : Option ROp :=
  match op with
  | .move x => some (.mov x)
  | .assign x => some (.mov x)
  | .pick c a b => some (.pick c a b)
  | .alloc t => (zeroCells P t).map .alloc
  | .box _ x => some (.box x)
  | .build t parts =>
    match P.underlying t, zeroCells P t with
    | some (.struct fs), some z => (placesOf P fs.toList).map fun pl => .build z pl parts.toList
    | some (.array n e), some z => (sizeT P e).map fun s => .build z ((List.range n).map fun i => (i * s, s)) parts.toList
    | _, _ => none
  | .buildSlice t len parts =>
    match P.underlying t with
    | some (.slice e) =>
      match zeroCells P e with
      | some z => if len * z.length ≤ 16777216 then some (.buildSlice z.length len z parts.toList) else none
      | none => none
    | _ => none
  | .load t a => match aggT P t, sizeT P t with | some g, some n => some (.load n g a) | _, _ => none
  | .store t a x => match sizeT P t with | some n => some (.store n a x) | none => none
  | .nilCheck x => some (.nilCheck x)
  | .binOp op t x y _ =>
    match P.underlying t with
    | some (.int _) => some (.bin op x y)
    | some .string => some (.bin op x y)
    | _ =>
      match op with
      | .eql => (eqKind P t).map fun k => .eq false k x y
      | .neq => (eqKind P t).map fun k => .eq true k x y
      | _ => none
  | .unOp op _ x => some (.un op x)
  | .convert src dst x =>
    match P.underlying src, P.underlying dst with
    | some (.int _), some (.int k) => some (.convInt k x)
    | some .string, some .string => some (.movS x)
    | _, _ => none
  | .makeFunc (.func f) first captured => if first.size = 0 then some (.makeFunc f captured.toList) else none
  | .makeSlice t l c =>
    match P.underlying t with
    | some (.slice e) =>
      match P.info? e, zeroCells P e with
      | some i, some z => some (.makeSlice i.size i.bytes z l c)
      | _, _ => none
    | _ => none
  | .slice t x lo hi none =>
    match P.underlying t with
    | some .string => some (.sliceS x lo hi)
    | some (.slice e) => (sizeT P e).map fun s => .slice s x lo hi
    | _ => none
  | .fieldAddr t x i =>
    match P.underlying t with
    | some (.struct fs) =>
      match fs[i]? with
      | some f => match sizeT P f.type with | some (_ + 1) => some (.fieldAddr f.offset x) | _ => none
      | none => none
    | _ => none
  | .field t x i =>
    match P.underlying t with
    | some (.struct fs) =>
      match fs[i]? with
      | some f => match aggT P f.type, sizeT P f.type with | some g, some n => some (.field f.offset n g x) | _, _ => none
      | none => none
    | _ => none
  | .indexAddr t x i =>
    match P.underlying t with
    | some (.array n e) => (sizeT P e).map fun s => .indexArr n s x i
    | some (.slice e) => (sizeT P e).map fun s => .indexSl s x i
    | _ => none
  | .index t x i =>
    match P.underlying t with
    | some (.array n e) => match aggT P e, sizeT P e with | some g, some s => some (.indexV n s g x i) | _, _ => none
    | some .string => some (.indexS x i)
    | _ => none
  | .call c => compileCall P c
  | .extract x i => some (.extract x i)
  | _ => none

/-- What an operation that writes nothing gives. -/
def OpGives (P : Program) (op : Op) (ev' : Operand → Value) (w : World) (v' : Value) : Prop :=
  ∀ (dst : Option Tmp) (ty : TypeId) (pos : String) (after : Array Edge) (guard : Option (Nat × Bool)),
    (execOp ev' { dst, op, type := ty, pos, after, guard }).run P w = .ok (.value v') w

section
variable {P : Program} {ρ : PMap} {w : World} {e : Env} {ev' : Operand → Value} {h : Heap}

theorem size_of {t : TypeId} {n : Nat} (hs : sizeT P t = some n) (w : World) : (sizeOf t).run P w = .ok n w := by
  unfold sizeT at hs
  cases hi : P.info? t with
  | none => rw [hi] at hs; cases hs
  | some i =>
    rw [hi] at hs
    simp at hs
    simp [sizeOf, typeInfo, hi, hs]

theorem agg_of {t : TypeId} {g : Bool} (hs : aggT P t = some g) (w : World) : (isAgg t).run P w = .ok g w := by
  unfold aggT at hs
  cases hi : P.underlying t with
  | none => rw [hi] at hs; cases hs
  | some d =>
    rw [hi] at hs
    cases d <;> simp at hs <;> subst hs <;> simp [isAgg, underlying, hi]

theorem run_und {t : TypeId} {d : TypeDesc} (hs : P.underlying t = some d) (w : World) : (underlying t).run P w = .ok d w := by
  simp [underlying, hs]

theorem run_binI {op : BinOp} {k k' : IntKind} {a b : Int} {v : Value} (hb : binI op k a k' b = some v) (t : TypeId) (w : World) : (binOp op t (.int k a) (.int k' b)).run P w = .ok v w := by
  cases op <;> simp only [binI] at hb
  case shl =>
    split at hb
    · cases hb
    · rename_i hn; injection hb with hb; subst hb; simp [binOp, Op.shift, hn]
  case shr =>
    split at hb
    · cases hb
    · rename_i hn; injection hb with hb; subst hb; simp [binOp, Op.shift, hn]
  all_goals
    split at hb
    · cases hb
    · rename_i hk
      have hk' : k = k' := Classical.not_not.1 hk
      subst hk'
      first
        | (injection hb with hb; subst hb; simp [binOp, Op.intArith, Op.intBits, Op.intCmp]; done)
        | (split at hb
           · cases hb
           · rename_i h0; injection hb with hb; subst hb; simp [binOp, Op.intDiv, h0])

theorem run_binS {op : BinOp} {a b : ByteArray} {v : Value} (hb : binS op a b = some v) (t : TypeId) (w : World) : (binOp op t (.string a) (.string b)).run P w = .ok v w := by
  cases op <;> simp only [binS] at hb
  case add =>
    split at hb
    · rename_i hn
      injection hb with hb; subst hb
      have : ¬ (((a.size + b.size : Nat) : Int) > IntKind.i64.max) := by
        simp [IntKind.max, IntKind.bits, IntKind.signed]
        omega
      simp only [binOp, Op.stringOp]
      rw [if_neg this]
      rfl
    · cases hb
  all_goals first | (cases hb; done) | (injection hb with hb; subst hb; simp [binOp, Op.stringOp]; done)
end

theorem eqV_rel {ρ : PMap} : ∀ {k : EqK} {x x' y y' : Value} {b : Bool}, (∀ l, k ≠ .fields l) → VRel ρ x x' → VRel ρ y y' → eqV k x y = some b → eqV k x' y' = some b := by
  intro k x x' y y' b hk hx hy he
  cases k with
  | fields l => exact absurd rfl (hk l)
  | _ => cases hx <;> cases hy <;> simp_all [eqV]

theorem run_equal_scalar {P : Program} {t : TypeId} {k : EqK} (hk : scalarK P t = some k) {x y : Value} {b : Bool} (he : eqV k x y = some b) (d : Nat) (w : World) : (Op.equalIn (d + 1) t x y).run P w = .ok b w := by
  unfold scalarK at hk
  split at hk <;> try cases hk
  · rename_i hu
    cases x <;> cases y <;> simp [eqV] at he
    subst he
    exact run_equalIn_bool' w d t _ _ hu
  · rename_i hu
    cases x <;> cases y <;> simp [eqV] at he
    obtain ⟨rfl, rfl⟩ := he
    exact run_equalIn_int w d t _ _ _ _ hu
  · rename_i hu
    cases x <;> cases y <;> simp [eqV] at he
    subst he
    rw [run_equalIn_string w d t _ _ hu, beq_toListBytes]

theorem eqFields_run {P : Program} {ρ : PMap} {xs xs' ys ys' : Array Value} (hx : VRel ρ (.agg xs) (.agg xs')) (hy : VRel ρ (.agg ys) (.agg ys')) (d : Nat) (w : World) :
    ∀ (fs : List Field) (l : List (Nat × EqK)) (b : Bool), fieldsK P fs = some l → eqFields l xs ys = some b → (Op.eqFields (d + 1) xs' ys' fs).run P w = .ok b w
  | [], l, b, hl, he => by
    simp [fieldsK] at hl; subst hl
    simp [Sim.eqFields] at he; subst he
    simp [Op.eqFields]
  | f :: fs, l, b, hl, he => by
    simp only [fieldsK] at hl
    split at hl
    · cases hl
    · rename_i hn
      split at hl
      · rename_i k l' hk hr
        injection hl with hl; subst hl
        simp only [Sim.eqFields] at he
        have hagg : aggT P f.type = some false := by
          unfold scalarK at hk
          unfold aggT
          split at hk <;> simp_all
        cases hxo : xs[f.offset]? with
        | none => rw [hxo] at he; simp at he
        | some x =>
          cases hyo : ys[f.offset]? with
          | none => rw [hxo, hyo] at he; simp at he
          | some y =>
            rw [hxo, hyo] at he
            simp only at he
            cases hx with
            | agg ha hc ra =>
              cases hy with
              | agg ha' hc' ra' =>
                have hi := (Array.getElem?_eq_some_iff.1 hxo).1
                have hi' := (Array.getElem?_eq_some_iff.1 hyo).1
                have hx1 := ra f.offset hi (ha ▸ hi)
                have hy1 := ra' f.offset hi' (ha' ▸ hi')
                rw [(Array.getElem?_eq_some_iff.1 hxo).2] at hx1
                rw [(Array.getElem?_eq_some_iff.1 hyo).2] at hy1
                have p1 : ∀ w, (part f.type xs' f.offset).run P w = .ok (xs'[f.offset]'(ha ▸ hi)) w := fun w => by
                  simp [part, agg_of hagg, ha ▸ hi]
                have p2 : ∀ w, (part f.type ys' f.offset).run P w = .ok (ys'[f.offset]'(ha' ▸ hi')) w := fun w => by
                  simp [part, agg_of hagg, ha' ▸ hi']
                have hkf : ∀ l, k ≠ .fields l := by
                  intro l e; subst e
                  unfold scalarK at hk
                  split at hk <;> simp at hk
                cases hb : eqV k x y with
                | none => rw [hb] at he; simp at he
                | some b0 =>
                  rw [hb] at he
                  have hb' := eqV_rel hkf hx1 hy1 hb
                  have hrun := run_equal_scalar hk hb' d
                  simp only [Op.eqFields, ne_eq, hn, not_false_eq_true, if_true, Sem.run_bind, p1, p2, Result.andThen_ok, hrun]
                  cases b0 with
                  | true =>
                    simp only [Bool.not_true, Bool.false_eq_true, if_false]
                    exact eqFields_run (.agg ha hc ra) (.agg ha' hc' ra') d w fs l' b hr (by simpa using he)
                  | false =>
                    simp at he; subst he
                    simp
      · cases hl

theorem run_equalIn_nils {P : Program} {t : TypeId} (d : Nat) (w : World) :
    (∀ e, P.underlying t = some (.pointer e) → (∀ b, (Op.equalIn (d + 1) t (.pointer none) (.pointer b)).run P w = .ok b.isNone w) ∧ (∀ a, (Op.equalIn (d + 1) t (.pointer (some a)) (.pointer none)).run P w = .ok false w)) ∧
    (∀ e, P.underlying t = some (.slice e) → (∀ b n c n' c', (Op.equalIn (d + 1) t (.slice none n c) (.slice b n' c')).run P w = .ok b.isNone w) ∧ (∀ a n c n' c', (Op.equalIn (d + 1) t (.slice (some a) n c) (.slice none n' c')).run P w = .ok false w)) ∧
    (∀ x y z, P.underlying t = some (.func x y z) → (Op.equalIn (d + 1) t .nilFunc .nilFunc).run P w = .ok true w ∧ (∀ f a b, (Op.equalIn (d + 1) t .nilFunc (.func f a b)).run P w = .ok false w) ∧ (∀ f a b, (Op.equalIn (d + 1) t (.func f a b) .nilFunc).run P w = .ok false w)) := by
  refine ⟨fun e hu => ⟨fun b => ?_, fun a => ?_⟩, fun e hu => ⟨fun b n c n' c' => ?_, fun a n c n' c' => ?_⟩, fun x y z hu => ⟨?_, fun f a b => ?_, fun f a b => ?_⟩⟩ <;>
    simp only [Op.equalIn, Sem.run_bind, run_und hu, Result.andThen_ok, Sem.run_pure]

theorem run_eq {P : Program} {ρ : PMap} {t : TypeId} {k : EqK} (hk : eqKind P t = some k) {x x' y y' : Value} {b : Bool} (hx : VRel ρ x x') (hy : VRel ρ y y') (he : eqV k x y = some b) (w : World) :
    (∀ op x0 y0, (eqGuard op t x0 y0 x' y').run P w = .ok () w) ∧ (Op.equal t x' y').run P w = .ok b w := by
  have e0 : ∀ x y, (Op.equal t x y).run P w = (Op.equalIn (9999 + 1) t x y).run P w := fun _ _ => rfl
  rw [e0]
  obtain ⟨n1, n2, n3⟩ := run_equalIn_nils (P := P) (t := t) 9999 w
  unfold eqKind at hk
  split at hk <;> try cases hk
  · rename_i hu
    cases hx <;> cases hy <;> simp [eqV] at he
    subst he
    exact ⟨fun op x0 y0 => by simp [eqGuard], run_equalIn_bool' w 9999 t _ _ hu⟩
  · rename_i hu
    cases hx <;> cases hy <;> simp [eqV] at he <;> subst he <;> refine ⟨fun op x0 y0 => by simp [eqGuard], ?_⟩ <;> first | exact (n1 _ hu).1 _ | exact (n1 _ hu).2 _
  · rename_i hu
    cases hx <;> cases hy <;> simp [eqV] at he <;> subst he <;> refine ⟨fun op x0 y0 => by simp [eqGuard], ?_⟩ <;> first | exact (n2 _ hu).1 _ _ _ _ _ | exact (n2 _ hu).2 _ _ _ _ _
  · rename_i hu
    cases hx <;> cases hy <;> simp [eqV] at he <;> subst he <;> refine ⟨fun op x0 y0 => by simp [eqGuard], ?_⟩ <;> first | exact (n3 _ _ _ hu).1 | exact (n3 _ _ _ hu).2.1 _ _ _ | exact (n3 _ _ _ hu).2.2 _ _ _
  · rename_i fs hu
    split at hk
    · rename_i hp
      cases hl : fieldsK P fs.toList with
      | none => rw [hl] at hk; cases hk
      | some l =>
        rw [hl] at hk; simp at hk; subst hk
        have hf : P.fieldsOf t = fs := by simp [Program.fieldsOf, hu]
        cases hx with
        | @agg a a' ha hc ra =>
          cases hy with
          | @agg c c' ha' hc' ra' =>
            simp only [eqV] at he
            refine ⟨fun op x0 y0 => by simp [eqGuard, hp.2], ?_⟩
            have := run_equalIn_struct w 9999 t a' c' (by rw [hf]; exact hu) hp.1
            rw [this, hf]
            exact eqFields_run (.agg ha hc ra) (.agg ha' hc' ra') 9998 w _ _ _ hl he
          | _ => simp [eqV] at he
        | _ => simp [eqV] at he
    · cases hk
end Go.Sim
