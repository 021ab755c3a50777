/-
  The relation between an abstract heap and a world, and what keeps it.
-/
import Derived.Test.YtlflfkdnpalhlaaSimA
import Derived.Laws.Sem
import Derived.Laws.Cells
import Derived.Laws.Tables
import Derived.Laws.Append
import Derived.Laws.CopyRow
import Derived.Below
namespace Go.Sim
open Go.RowKit

structure Place where
  b : Nat
  base : Nat
  ext : Nat
  esz : Nat

abbrev PMap := Nat → Option Place

inductive VRel (ρ : PMap) : Value → Value → Prop
  | bool (b : Bool) : VRel ρ (.bool b) (.bool b)
  | int (k : IntKind) (n : Int) : VRel ρ (.int k n) (.int k n)
  | str (s : ByteArray) : VRel ρ (.string s) (.string s)
  | nilF : VRel ρ .nilFunc .nilFunc
  | nilI : VRel ρ .nilIface .nilIface
  | nilP : VRel ρ (.pointer none) (.pointer none)
  | nilS : VRel ρ (.slice none 0 0) (.slice none 0 0)
  | ptr {id off : Nat} {p : Place} (h : ρ id = some p) : VRel ρ (.pointer (some ⟨id, off, none⟩)) (.pointer (some ⟨p.b, p.base + off, none⟩))
  | slice {id off n c cap : Nat} {p : Place} (h : ρ id = some p) (hz : p.esz = c) (hn : n ≤ cap) (hc : off + cap * p.esz ≤ p.ext) :
      VRel ρ (.slice (some ⟨id, off, none⟩) n c) (.slice (some ⟨p.b, p.base + off, none⟩) n cap)
  | sliceE {id off c : Nat} {p : Place} {a : Addr} (h : ρ id = some p) : VRel ρ (.slice (some ⟨id, off, none⟩) 0 c) (.slice (some a) 0 0)
  | func (f : Fn) {a a' b b' : Array Value} (ha : a.size = a'.size) (hb : b.size = b'.size)
      (ra : ∀ i (h : i < a.size) (h' : i < a'.size), VRel ρ a[i] a'[i]) (rb : ∀ i (h : i < b.size) (h' : i < b'.size), VRel ρ b[i] b'[i]) : VRel ρ (.func f a b) (.func f a' b')
  | agg {a a' : Array Value} (ha : a.size = a'.size) (hc : ∀ i (h : i < a.size), isCell a[i] = true)
      (ra : ∀ i (h : i < a.size) (h' : i < a'.size), VRel ρ a[i] a'[i]) : VRel ρ (.agg a) (.agg a')
  | tuple {a a' : Array Value} (ha : a.size = a'.size)
      (ra : ∀ i (h : i < a.size) (h' : i < a'.size), VRel ρ a[i] a'[i]) : VRel ρ (.tuple a) (.tuple a')

def PLe (ρ ρ' : PMap) : Prop := ∀ id p, ρ id = some p → ρ' id = some p
theorem PLe.refl (ρ : PMap) : PLe ρ ρ := fun _ _ h => h
theorem PLe.trans {a b c : PMap} (h : PLe a b) (k : PLe b c) : PLe a c := fun i p hp => k i p (h i p hp)

theorem VRel.mono {ρ ρ' : PMap} (hl : PLe ρ ρ') {v v' : Value} (h : VRel ρ v v') : VRel ρ' v v' := by
  induction h with
  | bool b => exact .bool b
  | int k n => exact .int k n
  | str s => exact .str s
  | nilF => exact .nilF
  | nilI => exact .nilI
  | nilP => exact .nilP
  | nilS => exact .nilS
  | ptr h => exact .ptr (hl _ _ h)
  | slice h hz hn hc => exact .slice (hl _ _ h) hz hn hc
  | sliceE h => exact .sliceE (hl _ _ h)
  | func f ha hb _ _ ia ib => exact .func f ha hb ia ib
  | agg ha hc _ ia => exact .agg ha hc ia
  | tuple ha _ ia => exact .tuple ha ia

theorem VRel.isCell {ρ : PMap} {v v' : Value} (h : VRel ρ v v') : isCell v' = isCell v := by
  cases h <;> rfl
theorem VRel.isVar {ρ : PMap} {v v' : Value} (h : VRel ρ v v') : isVar v' = isVar v := by
  cases h <;> rfl

theorem oneCell_of_isCell {v : Value} (h : Sim.isCell v = true) : v.oneCell' = true := by
  cases v <;> simp_all [Sim.isCell, Value.oneCell']

/-- Lists, one by one. -/
def LRel (ρ : PMap) (l l' : List Value) : Prop := l.length = l'.length ∧ ∀ (i : Nat) v, l[i]? = some v → ∃ v', l'[i]? = some v' ∧ VRel ρ v v'

theorem LRel.nil (ρ : PMap) : LRel ρ [] [] := ⟨rfl, by simp⟩
theorem LRel.cons {ρ : PMap} {v v' : Value} {l l' : List Value} (h : VRel ρ v v') (hl : LRel ρ l l') : LRel ρ (v :: l) (v' :: l') := by
  refine ⟨by simp [hl.1], fun i x hx => ?_⟩
  cases i with
  | zero => simp at hx; subst hx; exact ⟨v', by simp, h⟩
  | succ i => simp at hx; simpa using hl.2 i x hx
theorem LRel.mono {ρ ρ' : PMap} (hp : PLe ρ ρ') {l l' : List Value} (h : LRel ρ l l') : LRel ρ' l l' :=
  ⟨h.1, fun i v hv => let ⟨v', a, b⟩ := h.2 i v hv; ⟨v', a, b.mono hp⟩⟩
theorem LRel.append {ρ : PMap} {a a' b b' : List Value} (h : LRel ρ a a') (k : LRel ρ b b') : LRel ρ (a ++ b) (a' ++ b') := by
  refine ⟨by simp [h.1, k.1], fun i v hv => ?_⟩
  by_cases hi : i < a.length
  · rw [List.getElem?_append_left hi] at hv
    rw [List.getElem?_append_left (by rw [← h.1]; exact hi)]
    exact h.2 i v hv
  · rw [List.getElem?_append_right (by omega)] at hv
    rw [List.getElem?_append_right (by rw [← h.1]; omega), ← h.1]
    exact k.2 _ v hv
theorem LRel.of_getElem {ρ : PMap} {a a' : Array Value} (ha : a.size = a'.size) (ra : ∀ i (h : i < a.size) (h' : i < a'.size), VRel ρ a[i] a'[i]) : LRel ρ a.toList a'.toList := by
  refine ⟨by simpa using ha, fun i v hv => ?_⟩
  have hi : i < a.size := by
    have := (List.getElem?_eq_some_iff.1 hv).1
    simpa using this
  refine ⟨a'[i], by simp [ha ▸ hi], ?_⟩
  have : a[i] = v := by simpa [hi] using hv
  rw [← this]
  exact ra i hi (ha ▸ hi)
theorem LRel.get {ρ : PMap} {l l' : List Value} (h : LRel ρ l l') (i : Nat) (hi : i < l.length) (hi' : i < l'.length) : VRel ρ l[i] l'[i] := by
  obtain ⟨v', h1, h2⟩ := h.2 i l[i] (by simp [hi])
  rw [List.getElem?_eq_getElem hi'] at h1
  injection h1 with h1
  rw [h1]; exact h2
theorem LRel.agg {ρ : PMap} {l l' : List Value} (h : LRel ρ l l') (hc : ∀ v ∈ l, Sim.isCell v = true) : VRel ρ (.agg l.toArray) (.agg l'.toArray) :=
  .agg (by simpa using h.1) (fun i hi => hc _ (by simp at hi; simp)) (fun i hi hi' => by simp at hi hi'; simpa using h.get i hi hi')
theorem LRel.tuple {ρ : PMap} {l l' : List Value} (h : LRel ρ l l') : VRel ρ (.tuple l.toArray) (.tuple l'.toArray) :=
  .tuple (by simpa using h.1) (fun i hi hi' => by simp at hi hi'; simpa using h.get i hi hi')
theorem LRel.take {ρ : PMap} {l l' : List Value} (h : LRel ρ l l') (n : Nat) : LRel ρ (l.take n) (l'.take n) := by
  refine ⟨by simp [h.1], fun i v hv => ?_⟩
  rw [List.getElem?_take] at hv ⊢
  split at hv
  · rename_i hi; rw [if_pos hi]; exact h.2 i v hv
  · cases hv
theorem LRel.drop {ρ : PMap} {l l' : List Value} (h : LRel ρ l l') (n : Nat) : LRel ρ (l.drop n) (l'.drop n) := by
  refine ⟨by simp [h.1], fun i v hv => ?_⟩
  rw [List.getElem?_drop] at hv ⊢
  exact h.2 _ v hv
theorem LRel.set {ρ : PMap} {l l' : List Value} (h : LRel ρ l l') (n : Nat) {v v' : Value} (hv : VRel ρ v v') : LRel ρ (l.set n v) (l'.set n v') := by
  refine ⟨by simp [h.1], fun i x hx => ?_⟩
  rw [List.getElem?_set] at hx
  rw [List.getElem?_set, ← h.1]
  split at hx
  · rename_i hi
    rw [if_pos hi]
    split at hx
    · rename_i hl
      rw [if_pos hl]
      injection hx with hx
      subst hx; exact ⟨v', rfl, hv⟩
    · cases hx
  · rename_i hi
    rw [if_neg hi]
    exact h.2 i x hx
theorem LRel.writeAt {ρ : PMap} : ∀ {vs vs' : List Value} {l l' : List Value} (n : Nat), LRel ρ l l' → LRel ρ vs vs' → LRel ρ (writeAt l n vs) (writeAt l' n vs')
  | [], [], l, l', n, h, _ => h
  | [], _ :: _, _, _, _, _, k => by have := k.1; simp at this
  | _ :: _, [], _, _, _, _, k => by have := k.1; simp at this
  | v :: vs, v' :: vs', l, l', n, h, k => by
    have h0 : VRel ρ v v' := by obtain ⟨x, h1, h2⟩ := k.2 0 v (by simp); simp at h1; subst h1; exact h2
    have hr : LRel ρ vs vs' := ⟨by have := k.1; simpa using this, fun i x hx => by simpa using k.2 (i + 1) x (by simpa using hx)⟩
    exact LRel.writeAt (n + 1) (h.set n h0) hr
theorem LRel.toArray {ρ : PMap} {l l' : List Value} (h : LRel ρ l l') : ∀ i (hi : i < l.toArray.size) (hi' : i < l'.toArray.size), VRel ρ l.toArray[i] l'.toArray[i] :=
  fun i hi hi' => by simp at hi hi'; simpa using h.get i hi hi'
theorem VRel.cells {ρ : PMap} {v v' : Value} (h : VRel ρ v v') : LRel ρ v.cells.toList v'.cells.toList := by
  cases h <;> try (simp only [Value.cells]; exact LRel.cons (by constructor <;> assumption) (LRel.nil ρ))
  case agg ha hc ra => exact LRel.of_getElem ha ra
theorem VRel.cellsOk {ρ : PMap} {v v' : Value} (h : VRel ρ v v') (hv : Sim.isVar v = true) : ∀ x ∈ v.cells.toList, Sim.isCell x = true := by
  cases h <;> try (simp [Value.cells, Sim.isCell]; done)
  case agg a a' ha hc ra =>
    intro x hx
    simp only [Value.cells] at hx
    obtain ⟨i, hi, rfl⟩ := List.getElem_of_mem hx
    have := hc i (by simpa using hi)
    simpa using this
  case tuple => simp [Sim.isVar] at hv

theorem size_writeAt : ∀ (vs l : List Value) (n : Nat), (writeAt l n vs).length = l.length
  | [], _, _ => rfl
  | v :: vs, l, n => by simp [writeAt, size_writeAt vs]
theorem writeAt_cells : ∀ (vs l : List Value) (n : Nat), (∀ v ∈ l, Sim.isCell v = true) → (∀ v ∈ vs, Sim.isCell v = true) → ∀ v ∈ writeAt l n vs, Sim.isCell v = true
  | [], _, _, h, _ => h
  | v :: vs, l, n, h, k => by
    refine writeAt_cells vs _ _ (fun x hx => ?_) (fun x hx => k x (by simp [hx]))
    rcases List.mem_or_eq_of_mem_set hx with h1 | h1
    · exact h x h1
    · subst h1; exact k x (by simp)
theorem writeAt_eq : ∀ (vs l : List Value) (n : Nat), n + vs.length ≤ l.length → writeAt l n vs = l.take n ++ vs ++ l.drop (n + vs.length)
  | [], l, n, _ => by simp [writeAt]
  | v :: vs, l, n, h => by
    have hn : n < l.length := by simp at h; omega
    rw [writeAt, writeAt_eq vs _ _ (by simp at h ⊢; omega)]
    apply List.ext_getElem?
    intro i
    simp only [List.getElem?_append, List.length_append, List.length_take, List.length_set, List.length_cons, List.getElem?_take, List.getElem?_drop, List.getElem?_set]
    simp only [List.length_cons] at h
    have e1 : min (n + 1) l.length = n + 1 := by omega
    have e2 : min n l.length = n := by omega
    rw [e1, e2]
    by_cases h1 : i < n
    · rw [if_pos (by omega), if_pos (by omega), if_pos (by omega), if_neg (by omega), if_pos (by omega), if_pos (by omega), if_pos (by omega)]
    · by_cases h2 : i = n
      · subst h2
        rw [if_pos (by omega), if_pos (by omega), if_pos (by omega), if_pos rfl, if_pos (by omega), if_pos (by omega), if_neg (by omega)]
        simp
      · by_cases h3 : i < n + 1 + vs.length
        · rw [if_pos (by omega), if_neg (by omega), if_pos (by omega), if_neg (by omega)]
          rw [show i - n = (i - (n + 1)) + 1 by omega, List.getElem?_cons_succ]
        · rw [if_neg (by omega), if_neg (by omega), if_neg (by omega)]
          congr 1
          omega
theorem writeAt_get (vs l : List Value) (n : Nat) (h : n + vs.length ≤ l.length) (i : Nat) :
    (writeAt l n vs)[i]? = if i < n then l[i]? else if i < n + vs.length then vs[i - n]? else l[i]? := by
  rw [writeAt_eq vs l n h]
  simp only [List.getElem?_append, List.length_append, List.length_take, List.getElem?_take, List.getElem?_drop]
  have e2 : min n l.length = n := by omega
  rw [e2]
  by_cases h1 : i < n
  · simp only [h1, if_true]; rw [if_pos (by omega)]
  · by_cases h3 : i < n + vs.length
    · simp only [h1, h3, if_true, if_false]
    · simp only [h1, h3, if_false]
      congr 1
      omega

mutual
theorem noAddr_self (ρ : PMap) : ∀ v, noAddr v = true → VRel ρ v v
  | .bool b, _ => .bool b
  | .int k n, _ => .int k n
  | .string s, _ => .str s
  | .nilFunc, _ => .nilF
  | .nilIface, _ => .nilI
  | .pointer none, _ => .nilP
  | .slice none 0 0, _ => .nilS
  | .agg ⟨l⟩, h => by
    have h' : noAddrCells l = true := by simpa [noAddr] using h
    exact .agg rfl (fun i hi => (noAddrCells_get ρ l h' i (by simpa using hi)).1) (fun i hi _ => (noAddrCells_get ρ l h' i (by simpa using hi)).2)
  | .tuple ⟨l⟩, h => by
    have h' : noAddrL l = true := by simpa [noAddr] using h
    exact .tuple rfl (fun i hi _ => noAddrL_get ρ l h' i (by simpa using hi))
theorem noAddrCells_get (ρ : PMap) : ∀ (l : List Value), noAddrCells l = true → ∀ i (hi : i < l.length), Sim.isCell l[i] = true ∧ VRel ρ l[i] l[i]
  | v :: r, h, i, hi => by
    simp only [noAddrCells, Bool.and_eq_true] at h
    cases i with
    | zero => exact ⟨h.1.1, noAddr_self ρ v h.1.2⟩
    | succ i => exact noAddrCells_get ρ r h.2 i (by simpa using hi)
theorem noAddrL_get (ρ : PMap) : ∀ (l : List Value), noAddrL l = true → ∀ i (hi : i < l.length), VRel ρ l[i] l[i]
  | v :: r, h, i, hi => by
    simp only [noAddrL, Bool.and_eq_true] at h
    cases i with
    | zero => exact noAddr_self ρ v h.1
    | succ i => exact noAddrL_get ρ r h.2 i (by simpa using hi)
end

/-- What bears no address is related to itself alone. -/
theorem VRel.noAddr_eq {ρ : PMap} {v v' : Value} (h : VRel ρ v v') (hn : noAddr v = true) : v' = v := by
  induction h with
  | bool | int | str | nilF | nilI | nilP | nilS => rfl
  | ptr => simp [noAddr] at hn
  | slice => simp [noAddr] at hn
  | sliceE => simp [noAddr] at hn
  | func => simp [noAddr] at hn
  | @agg a a' ha hc ra ih =>
    have hl : noAddrCells a.toList = true := by cases a; simpa [noAddr] using hn
    have key : ∀ (l : List Value), noAddrCells l = true → ∀ i (hi : i < l.length), noAddr l[i] = true := by
      intro l
      induction l with
      | nil => intro _ i hi; simp at hi
      | cons x r ihl =>
        intro h i hi
        simp only [noAddrCells, Bool.and_eq_true] at h
        cases i with
        | zero => exact h.1.2
        | succ i => exact ihl h.2 i (by simpa using hi)
    congr 1
    refine Array.ext ha.symm fun i h1 h2 => ih i h2 h1 ?_
    have := key _ hl i (by simpa using h2)
    simpa using this
  | @tuple a a' ha ra ih =>
    have hl : noAddrL a.toList = true := by cases a; simpa [noAddr] using hn
    have key : ∀ (l : List Value), noAddrL l = true → ∀ i (hi : i < l.length), noAddr l[i] = true := by
      intro l
      induction l with
      | nil => intro _ i hi; simp at hi
      | cons x r ihl =>
        intro h i hi
        simp only [noAddrL, Bool.and_eq_true] at h
        cases i with
        | zero => exact h.1
        | succ i => exact ihl h.2 i (by simpa using hi)
    congr 1
    refine Array.ext ha.symm fun i h1 h2 => ih i h2 h1 ?_
    have := key _ hl i (by simpa using h2)
    simpa using this

/-! ## The heap -/

/-- A view of a heap. -/
abbrev View := Nat → Option Blk
def view (h : Heap) : View := fun i => blk? h i

def BlkAt (ρ : PMap) (w : World) (id : Nat) (b : Blk) : Prop :=
  ∃ (p : Place) (c : Array Value) (t : TypeId) (fz : Nat × Nat), ρ id = some p ∧ w.heap[p.b]? = some (.cells c t fz) ∧ p.base + p.ext ≤ c.size ∧ b.cells.length ≤ p.ext ∧
    (∀ (i : Nat) v, b.cells[i]? = some v → Sim.isCell v = true ∧ ∃ v', c[p.base + i]? = some v' ∧ VRel ρ v v') ∧
    (b.ro = false → fz = (0, 0))

def Apart (p q : Place) : Prop := p.b = q.b → ∀ k, p.base ≤ k → k < p.base + p.ext → q.base ≤ k → k < q.base + q.ext → False
theorem Apart.symm {p q : Place} (h : Apart p q) : Apart q p := fun e k a b c d => h e.symm k c d a b

structure Rel (ρ : PMap) (hv : View) (w : World) : Prop where
  blk : ∀ id b, hv id = some b → BlkAt ρ w id b
  sep : ∀ i j bi bj p q, hv i = some bi → hv j = some bj → i ≠ j → bi.ro = false → ρ i = some p → ρ j = some q → Apart p q

def Own (ρ : PMap) (hv : View) (b i : Nat) : Prop := ∃ id blk p, hv id = some blk ∧ blk.ro = false ∧ ρ id = some p ∧ p.b = b ∧ p.base ≤ i ∧ i < p.base + p.ext

def SameObj (own : Nat → Prop) : Obj → Obj → Prop
  | .cells c t f, .cells c' t' f' => t' = t ∧ f' = f ∧ c'.size = c.size ∧ ∀ i, ¬ own i → c'[i]? = c[i]?
  | o, o' => o' = o

theorem SameObj.refl (own : Nat → Prop) (o : Obj) : SameObj own o o := by
  cases o <;> simp [SameObj]

/-- What may have become of the world. -/
structure Ev (ρ : PMap) (hv : View) (w : World) (ρ' : PMap) (hv' : View) (w' : World) : Prop where
  size : w.heap.size ≤ w'.heap.size
  os : w'.os = w.os
  tape : w'.tape = w.tape
  output : w'.output = w.output
  mem : ∀ b o, w.heap[b]? = some o → ∃ o', w'.heap[b]? = some o' ∧ SameObj (Own ρ hv b) o o'
  roOld : ∀ id b, hv' id = some b → b.ro = true → hv id = some b
  own : ∀ b, b < w.heap.size → ∀ i, Own ρ' hv' b i → Own ρ hv b i

theorem SameObj.trans {own own' : Nat → Prop} {a b c : Obj} (h : SameObj own a b) (k : SameObj own' b c) (hl : ∀ i, own' i → own i) : SameObj own a c := by
  cases a with
  | cells c1 t1 f1 =>
    cases b with
    | cells c2 t2 f2 =>
      cases c with
      | cells c3 t3 f3 =>
        obtain ⟨rfl, rfl, h3, h4⟩ := h
        obtain ⟨rfl, rfl, k3, k4⟩ := k
        exact ⟨rfl, rfl, k3.trans h3, fun i hi => (k4 i (fun h => hi (hl i h))).trans (h4 i hi)⟩
      | _ => cases k
    | _ => cases h
  | _ => cases h; cases k; rfl

theorem Ev.refl (ρ : PMap) (hv : View) (w : World) : Ev ρ hv w ρ hv w :=
  ⟨Nat.le_refl _, rfl, rfl, rfl, fun _ o h => ⟨o, h, SameObj.refl _ o⟩, fun _ _ h _ => h, fun _ _ _ h => h⟩

theorem Ev.trans {ρ ρ1 ρ2 : PMap} {v v1 v2 : View} {w w1 w2 : World} (h : Ev ρ v w ρ1 v1 w1) (k : Ev ρ1 v1 w1 ρ2 v2 w2) : Ev ρ v w ρ2 v2 w2 := by
  refine ⟨Nat.le_trans h.size k.size, k.os.trans h.os, k.tape.trans h.tape, k.output.trans h.output, fun b o hb => ?_, fun id b hb hr => h.roOld id b (k.roOld id b hb hr) hr, fun b hb i ho => h.own b hb i (k.own b (Nat.lt_of_lt_of_le hb h.size) i ho)⟩
  obtain ⟨o1, h1, s1⟩ := h.mem b o hb
  obtain ⟨o2, h2, s2⟩ := k.mem b o1 h1
  exact ⟨o2, h2, s1.trans s2 (fun i hi => h.own b (Array.getElem?_eq_some_iff.1 hb).1 i hi)⟩

/-- A draw. -/
theorem Ev.drew (ρ : PMap) (hv : View) (w : World) : Ev ρ hv w ρ hv { w with drawn := w.drawn + 1 } :=
  ⟨Nat.le_refl _, rfl, rfl, rfl, fun _ o h => ⟨o, h, SameObj.refl _ o⟩, fun _ _ h _ => h, fun _ _ _ h => h⟩

theorem BlkAt.of_heap {ρ : PMap} {w w' : World} {id : Nat} {b : Blk} (h : BlkAt ρ w id b) (hw : ∀ p, ρ id = some p → w'.heap[p.b]? = w.heap[p.b]?) : BlkAt ρ w' id b := by
  obtain ⟨p, c, t, fz, h1, h2, h3⟩ := h
  exact ⟨p, c, t, fz, h1, (hw p h1).trans h2, h3⟩

theorem Rel.drew {ρ : PMap} {hv : View} {w : World} (h : Rel ρ hv w) : Rel ρ hv { w with drawn := w.drawn + 1 } :=
  ⟨fun id b hb => (h.blk id b hb).of_heap (fun _ _ => rfl), h.sep⟩

theorem BlkAt.mono {ρ ρ' : PMap} {w : World} {id : Nat} {b : Blk} (h : BlkAt ρ w id b) (hl : PLe ρ ρ') : BlkAt ρ' w id b := by
  obtain ⟨p, c, t, fz, h1, h2, h4, h5, h6, h7⟩ := h
  exact ⟨p, c, t, fz, hl _ _ h1, h2, h4, h5, fun i v hi => let ⟨a, v', b, c⟩ := h6 i v hi; ⟨a, v', b, c.mono hl⟩, h7⟩

theorem BlkAt.place {ρ : PMap} {w : World} {id : Nat} {b : Blk} (h : BlkAt ρ w id b) : ∃ p, ρ id = some p := let ⟨p, _, _, _, h1, _⟩ := h; ⟨p, h1⟩

theorem Rel.sub {ρ : PMap} {hv hv' : View} {w : World} (h : Rel ρ hv w) (hs : ∀ id b, hv' id = some b → hv id = some b) : Rel ρ hv' w :=
  ⟨fun id b hb => h.blk id b (hs id b hb), fun i j bi bj p q hi hj => h.sep i j bi bj p q (hs _ _ hi) (hs _ _ hj)⟩

/-- **The frame.** A part of the heap that the step did not see is there behind it. -/
theorem Rel.frame {ρ ρ' : PMap} {hv hv' O : View} {w w' : World} (hall : Rel ρ (fun i => (hv i).or (O i)) w) (hdis : ∀ i b, O i = some b → hv i = none)
    (hrel : Rel ρ' hv' w') (hev : Ev ρ hv w ρ' hv' w') (hle : PLe ρ ρ') : Rel ρ' (fun i => (hv' i).or (O i)) w' := by
  have hO : ∀ i b, O i = some b → (hv i).or (O i) = some b := fun i b h => by simp [hdis i b h, h]
  -- what O holds lies apart from all that is owned
  have hap : ∀ i b p, O i = some b → ρ i = some p → ∀ k, p.base ≤ k → k < p.base + p.ext → ¬ Own ρ hv p.b k := by
    rintro i b p hi hp k h1 h2 ⟨id, blk, q, hq, hro, hρ, hb, h3, h4⟩
    have hne : id ≠ i := fun e => by subst e; rw [hdis id b hi] at hq; cases hq
    have := hall.sep id i blk b q p (by simp [hq]) (hO i b hi) hne hro hρ hp
    exact this hb k h3 h4 h1 h2
  have hblk : ∀ i b, O i = some b → BlkAt ρ' w' i b := by
    intro i b hi
    obtain ⟨p, c, t, fz, h1, h2, h4, h5, h6, h7⟩ := hall.blk i b (hO i b hi)
    obtain ⟨o', ho', hs⟩ := hev.mem p.b _ h2
    cases o' with
    | cells c' t' f' =>
      obtain ⟨rfl, rfl, hsz, hsame⟩ := hs
      refine ⟨p, c', _, _, hle _ _ h1, ho', by omega, h5, fun k v hk => ?_, h7⟩
      obtain ⟨a, v', hv', hr⟩ := h6 k v hk
      refine ⟨a, v', ?_, hr.mono hle⟩
      have hkl : k < b.cells.length := (List.getElem?_eq_some_iff.1 hk).1
      rw [hsame (p.base + k) (hap i b p hi h1 _ (by omega) (by omega))]
      exact hv'
    | _ => cases hs
  -- what is owned behind the step lies apart from O
  have hplace : ∀ j b q, O j = some b → ρ' j = some q → ρ j = some q ∧ q.b < w.heap.size := by
    intro j b q hj hq
    obtain ⟨q0, c, t, fz, h1, h2, _⟩ := hall.blk j b (hO j b hj)
    have : q0 = q := by have := hle _ _ h1; rw [hq] at this; exact (Option.some.inj this).symm
    subst this
    exact ⟨h1, (Array.getElem?_eq_some_iff.1 h2).1⟩
  have hnew : ∀ i j bi bj p q, hv' i = some bi → O j = some bj → bi.ro = false → ρ' i = some p → ρ' j = some q → Apart p q := by
    intro i j bi bj p q hi hj hro hp hq hb k h1 h2 h3 h4
    obtain ⟨hq0, hlt⟩ := hplace j bj q hj hq
    have := hev.own q.b hlt k ⟨i, bi, p, hi, hro, hp, hb, h1, h2⟩
    exact hap j bj q hj hq0 k h3 h4 this
  refine ⟨fun id b hb => ?_, fun i j bi bj p q hi hj hne hro hp hq => ?_⟩
  · cases hc : hv' id with
    | some x => rw [hc] at hb; simp at hb; subst hb; exact hrel.blk id x hc
    | none => rw [hc] at hb; simp at hb; exact hblk id b hb
  · cases hci : hv' i with
    | some x =>
      rw [hci] at hi; simp at hi; subst hi
      cases hcj : hv' j with
      | some y => rw [hcj] at hj; simp at hj; subst hj; exact hrel.sep i j x y p q hci hcj hne hro hp hq
      | none => rw [hcj] at hj; simp at hj; exact hnew i j x bj p q hci hj hro hp hq
    | none =>
      rw [hci] at hi; simp at hi
      have hpi := hplace i bi p hi hp
      cases hcj : hv' j with
      | some y =>
        rw [hcj] at hj; simp at hj; subst hj
        cases hyr : y.ro with
        | false => exact (hnew j i y bi q p hcj hi hyr hq hp).symm
        | true =>
          have hold := hev.roOld j y hcj hyr
          obtain ⟨q0, _, _, _, h1, _⟩ := hall.blk j y (by simp [hold])
          have : q0 = q := by have := hle _ _ h1; rw [hq] at this; exact (Option.some.inj this).symm
          subst this
          exact hall.sep i j bi y p q0 (hO i bi hi) (by simp [hold]) hne hro hpi.1 h1
      | none =>
        rw [hcj] at hj; simp at hj
        exact hall.sep i j bi bj p q (hO i bi hi) (hO j bj hj) hne hro hpi.1 (hplace j bj q hj hq).1
end Go.Sim
