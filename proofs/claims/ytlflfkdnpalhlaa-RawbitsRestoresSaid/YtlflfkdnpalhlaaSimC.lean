/-
  Loads, stores and new blocks, in the heap and in the world.
-/
import Derived.Test.YtlflfkdnpalhlaaSimB
namespace Go.Sim
open Go.RowKit

theorem view_push (h : Heap) (b : Blk) (i : Nat) : view (h ++ [some b]) i = if i = h.length then some b else view h i := by
  unfold view blk?
  by_cases hi : i = h.length
  · subst hi; simp
  · rw [if_neg hi]
    by_cases hl : i < h.length
    · rw [List.getElem?_append_left hl]
    · rw [List.getElem?_eq_none (by simp; omega), List.getElem?_eq_none (by omega)]
theorem view_lt {h : Heap} {i : Nat} {b : Blk} (hb : view h i = some b) : i < h.length := by
  unfold view blk? at hb
  rcases Nat.lt_or_ge i h.length with h1 | h1
  · exact h1
  · rw [List.getElem?_eq_none h1] at hb; cases hb
theorem view_set (h : Heap) (j : Nat) (x : Option Blk) (hj : j < h.length) (i : Nat) : view (h.set j x) i = if i = j then x else view h i := by
  unfold view blk?
  by_cases hi : i = j
  · subst hi
    rw [if_pos rfl, List.getElem?_set_self hj]
    cases x <;> rfl
  · rw [if_neg hi, List.getElem?_set_ne (Ne.symm hi)]

def Fresh (ρ : PMap) (a b : Nat) : Prop := ∀ id, a ≤ id → id < b → ρ id = none
def PSame (ρ ρ' : PMap) (a b : Nat) : Prop := ∀ id, id < a ∨ b ≤ id → ρ' id = ρ id
theorem PSame.refl (ρ : PMap) (a b : Nat) : PSame ρ ρ a b := fun _ _ => rfl
theorem PSame.le {ρ ρ' : PMap} {a b : Nat} (h : PSame ρ ρ' a b) (hf : Fresh ρ a b) : PLe ρ ρ' := by
  intro id p hp
  rw [h id ?_]
  · exact hp
  · rcases Nat.lt_or_ge id a with h1 | h1
    · exact .inl h1
    · rcases Nat.lt_or_ge id b with h2 | h2
      · rw [hf id h1 h2] at hp; cases hp
      · exact .inr h2
theorem PSame.trans {ρ ρ1 ρ2 : PMap} {a b c : Nat} (h : PSame ρ ρ1 a b) (k : PSame ρ1 ρ2 b c) (h1 : a ≤ b) (h2 : b ≤ c) : PSame ρ ρ2 a c := by
  intro id hid
  rw [k id (by omega), h id (by omega)]
theorem Fresh.rest {ρ ρ1 : PMap} {a b c : Nat} (h : PSame ρ ρ1 a b) (hf : Fresh ρ a c) (h1 : a ≤ b) : Fresh ρ1 b c := fun id i1 i2 => by
  rw [h id (.inr i1)]; exact hf id (by omega) i2
theorem Fresh.first {ρ : PMap} {a b c : Nat} (hf : Fresh ρ a c) (h : b ≤ c) : Fresh ρ a b := fun id i1 i2 => hf id i1 (by omega)

theorem addr_add (b o j : Nat) : (⟨b, o, none⟩ : Addr).add j = ⟨b, o + j, none⟩ := by
  unfold Addr.add
  split
  · rename_i h; subst h; rfl
  · rfl

theorem cell_of (w : World) (b o : Nat) (c : Array Value) (t : TypeId) (fz : Nat × Nat) (h : w.heap[b]? = some (.cells c t fz)) : w.cell? ⟨b, o, none⟩ = c[o]? := by
  simp [World.cell?, h]

/-- The cells of a part of a block. -/
theorem BlkAt.part {ρ : PMap} {w : World} {id : Nat} {b : Blk} (hb : BlkAt ρ w id b) (off n : Nat) (hn : off + n ≤ b.cells.length) {p : Place} (hp : ρ id = some p) :
    ∃ cs', LRel ρ ((b.cells.drop off).take n) cs' ∧ (∀ v ∈ (b.cells.drop off).take n, Sim.isCell v = true) ∧ cs'.length = n ∧
      ∀ (j : Nat) v', cs'[j]? = some v' → w.cell? ((⟨p.b, p.base + off, none⟩ : Addr).add j) = some v' := by
  obtain ⟨p0, c, t, fz, h1, h2, h4, h5, h6, h7⟩ := hb
  have : p0 = p := by rw [h1] at hp; exact Option.some.inj hp
  subst this
  refine ⟨(c.toList.drop (p0.base + off)).take n, ⟨?_, fun i v hv => ?_⟩, fun v hv => ?_, ?_, fun j v' hj => ?_⟩
  · simp only [List.length_take, List.length_drop, Array.length_toList]; omega
  · rw [List.getElem?_take] at hv ⊢
    split at hv
    · rename_i hi
      rw [List.getElem?_drop] at hv
      obtain ⟨_, v', hv', hr⟩ := h6 _ _ hv
      refine ⟨v', ?_, hr⟩
      rw [if_pos hi, List.getElem?_drop]
      simpa [Nat.add_assoc] using hv'
    · cases hv
  · have := List.mem_of_mem_drop (List.mem_of_mem_take hv)
    obtain ⟨i, hi, rfl⟩ := List.getElem_of_mem this
    exact (h6 i _ (by simp [hi])).1
  · simp only [List.length_take, List.length_drop, Array.length_toList]; omega
  · rw [addr_add, cell_of w _ _ c t fz h2]
    rw [List.getElem?_take] at hj
    split at hj
    · rw [List.getElem?_drop] at hj
      simpa using hj
    · cases hj

theorem view_blk {h : Heap} {id : Nat} {b : Blk} (hb : blk? h id = some b) : view h id = some b := hb

/-- A load. -/
theorem rel_load {P : Program} {ρ : PMap} {h : Heap} {w : World} (hr : Rel ρ (view h) w) {n : Nat} {agg : Bool} {a a' v : Value} (ha : VRel ρ a a') (hl : loadV h n agg a = some v) :
    ∃ ad v', a' = .pointer (some ad) ∧ VRel ρ v v' ∧ (match agg with
      | true => ∃ cs, v' = .agg cs ∧ (loadCells ad n).run P w = .ok cs w
      | false => (load ad).run P w = .ok v' w) := by
  cases ha <;> simp only [loadV] at hl <;> try cases hl
  case ptr id off p hp =>
    cases hb : blk? h id with
    | none => rw [hb] at hl; cases hl
    | some b =>
      rw [hb] at hl
      cases agg with
      | true =>
        simp only at hl
        split at hl
        · rename_i hn
          injection hl with hl
          subst hl
          obtain ⟨cs', h1, h2, h3, h4⟩ := (hr.blk id b (view_blk hb)).part off n hn hp
          refine ⟨_, _, rfl, h1.agg h2, cs'.toArray, rfl, ?_⟩
          have := run_loadCells_list (P := P) w (⟨p.b, p.base + off, none⟩ : Addr) cs' h4
          rw [h3] at this
          exact this
        · cases hl
      | false =>
        simp only at hl
        obtain ⟨p0, c, t, fz, h1, h2, h4, h5, h6, h7⟩ := hr.blk id b (view_blk hb)
        have : p0 = p := by rw [h1] at hp; exact Option.some.inj hp
        subst this
        obtain ⟨_, v', hv', hrel⟩ := h6 off v hl
        refine ⟨_, v', rfl, hrel, ?_⟩
        simp only [run_load, cell_of w _ _ c t fz h2, hv']

theorem setRow_os (w : World) (g : Nat) (cs : Array Value) : (w.setRow g cs).os = w.os ∧ (w.setRow g cs).tape = w.tape ∧ (w.setRow g cs).output = w.output ∧ (w.setRow g cs).heap.size = w.heap.size := by
  simp [World.setRow]

/-- A row of cells is written. -/
theorem run_storeCells (P : Program) (g o : Nat) (t : TypeId) (fz : Nat × Nat) : ∀ (vs : List Value) (i : Nat) (cur : Array Value) (w : World), w.heap[g]? = some (.cells cur t fz) → fz = (0, 0) → o + i + vs.length ≤ cur.size →
    (∀ v ∈ vs, Sim.isCell v = true) →
    (storeCells ⟨g, o, none⟩ vs i).run P w = .ok () (w.setRow g (cur.toList.take (o + i) ++ vs ++ cur.toList.drop (o + i + vs.length)).toArray) := by
  intro vs i cur w hg hf hl hc
  subst hf
  exact run_storeCells_at P g o t vs i cur w hg hl (fun v hv => oneCell_of_isCell (hc v hv))

/-- A block of the heap is written, and so is its row. -/
theorem rel_put {ρ : PMap} {h : Heap} {w : World} (hr : Rel ρ (view h) w) {id : Nat} {b : Blk} (hb : blk? h id = some b) (hro : b.ro = false) {p : Place} (hp : ρ id = some p)
    (off : Nat) {vs vs' : List Value} (hn : off + vs.length ≤ p.ext) (hv : LRel ρ vs vs') (hc : ∀ v ∈ vs, Sim.isCell v = true) (cells2 : List Value) (hl2 : cells2.length ≤ p.ext)
    (h2c : ∀ (i : Nat) v, cells2[i]? = some v → (off ≤ i ∧ vs[i - off]? = some v) ∨ ((i < off ∨ off + vs.length ≤ i) ∧ b.cells[i]? = some v)) :
    ∃ w', (∀ P, (storeCells ⟨p.b, p.base + off, none⟩ vs' 0).run P w = .ok () w') ∧
      Rel ρ (view (h.set id (some { b with cells := cells2 }))) w' ∧ Ev ρ (view h) w ρ (view (h.set id (some { b with cells := cells2 }))) w' := by
  obtain ⟨p0, c, t, fz, h1, h2, h4, h5, h6, h7⟩ := hr.blk id b (view_blk hb)
  have : p0 = p := by rw [h1] at hp; exact Option.some.inj hp
  subst this
  have hfz := h7 hro
  subst hfz
  have hidl := view_lt (view_blk hb)
  have hl : vs'.length = vs.length := hv.1.symm
  have hfit : p0.base + off + vs'.length ≤ c.size := by omega
  let c' : Array Value := (c.toList.take (p0.base + off) ++ vs' ++ c.toList.drop (p0.base + off + vs'.length)).toArray
  have hsz : c'.size = c.size := by simp [c']; omega
  have hold : ∀ (k : Nat), k < p0.base + off ∨ p0.base + off + vs.length ≤ k → c'[k]? = c[k]? := by
    intro k hk
    have := writeAt_get vs' c.toList (p0.base + off) (by simpa using hfit) k
    rw [writeAt_eq _ _ _ (by simpa using hfit)] at this
    simp only [c', List.getElem?_toArray, this]
    split
    · simp
    · split
      · exfalso; omega
      · simp
  have hnew : ∀ (k : Nat) v', vs'[k]? = some v' → c'[p0.base + off + k]? = some v' := by
    intro k v' hk
    have hkl : k < vs'.length := (List.getElem?_eq_some_iff.1 hk).1
    have := writeAt_get vs' c.toList (p0.base + off) (by simpa using hfit) (p0.base + off + k)
    rw [writeAt_eq _ _ _ (by simpa using hfit)] at this
    simp only [c', List.getElem?_toArray, this]
    rw [if_neg (by omega), if_pos (by omega)]
    simpa using hk
  have hobj : (w.setRow p0.b c').heap[p0.b]? = some (.cells c' t (0, 0)) := setRow_heap w p0.b c c' t (0, 0) h2
  have hother : ∀ k, k ≠ p0.b → (w.setRow p0.b c').heap[k]? = w.heap[k]? := fun k hk => setRow_other w p0.b k c' hk
  have hview : ∀ j, view (h.set id (some { b with cells := cells2 })) j = if j = id then some { b with cells := cells2 } else view h j := fun j => view_set h id _ hidl j
  refine ⟨w.setRow p0.b c', fun P => ?_, ⟨fun j bj hj => ?_, fun i j bi bj q r hi hj hne hir hq hr' => ?_⟩, ?_⟩
  · have hcell' : ∀ v ∈ vs', Sim.isCell v = true := by
      intro v hv'
      obtain ⟨i, hi, rfl⟩ := List.getElem_of_mem hv'
      have h' := hv.get i (by omega) hi
      rw [h'.isCell]; exact hc _ (by simp)
    have := run_storeCells P p0.b (p0.base + off) t (0, 0) vs' 0 c w h2 rfl (by omega) hcell'
    simp only [Nat.add_zero] at this
    exact this
  · rw [hview] at hj
    split at hj
    · rename_i hji
      injection hj with hj
      subst hji; subst hj
      refine ⟨p0, c', t, (0, 0), h1, hobj, by omega, hl2, fun i v hi => ?_, fun _ => rfl⟩
      rcases h2c i v hi with ⟨hoi, hvi⟩ | ⟨hout, hbi⟩
      · obtain ⟨v', b1, b2⟩ := hv.2 _ _ hvi
        refine ⟨hc v (List.mem_of_getElem? hvi), v', ?_, b2⟩
        have := hnew _ _ b1
        rwa [show p0.base + off + (i - off) = p0.base + i by omega] at this
      · obtain ⟨a, v', b1, b2⟩ := h6 i v hbi
        exact ⟨a, v', by rw [hold _ (by omega)]; exact b1, b2⟩
    · rename_i hji
      obtain ⟨q, cq, tq, fq, k1, k2, k4, k5, k6, k7⟩ := hr.blk j bj hj
      by_cases hqb : q.b = p0.b
      · have hcc : some (Obj.cells cq tq fq) = some (Obj.cells c t (0, 0)) := by rw [← k2, ← h2, hqb]
        injection hcc with hcc
        injection hcc with e1 e2 e3
        subst e1; subst e2; subst e3
        refine ⟨q, c', tq, (0, 0), k1, by rw [hqb]; exact hobj, by omega, k5, fun i v hi => ?_, k7⟩
        obtain ⟨a, v', b1, b2⟩ := k6 i v hi
        refine ⟨a, v', ?_, b2⟩
        have hil : i < bj.cells.length := (List.getElem?_eq_some_iff.1 hi).1
        have hap := hr.sep id j b bj p0 q (view_blk hb) hj (Ne.symm hji) hro h1 k1 hqb.symm
        rw [hold _ ?_]
        · exact b1
        · rcases Nat.lt_or_ge (q.base + i) (p0.base + off) with h' | h'
          · exact .inl h'
          · rcases Nat.lt_or_ge (q.base + i) (p0.base + off + vs.length) with h'' | h''
            · exact (hap (q.base + i) (by omega) (by omega) (by omega) (by omega)).elim
            · exact .inr h''
      · exact ⟨q, cq, tq, fq, k1, by rw [hother _ hqb]; exact k2, k4, k5, k6, k7⟩
  · have hold' : ∀ i bi, view (h.set id (some { b with cells := cells2 })) i = some bi → ∃ b0, view h i = some b0 ∧ b0.ro = bi.ro := by
      intro x bx hx
      rw [hview] at hx
      split at hx
      · rename_i e; subst e; injection hx with hx; subst hx; exact ⟨b, view_blk hb, rfl⟩
      · exact ⟨bx, hx, rfl⟩
    obtain ⟨bi0, hi0, ei⟩ := hold' i bi hi
    obtain ⟨bj0, hj0, _⟩ := hold' j bj hj
    exact hr.sep i j bi0 bj0 q r hi0 hj0 hne (ei ▸ hir) hq hr'
  · obtain ⟨e1, e2, e3, e4⟩ := setRow_os w p0.b c'
    refine ⟨Nat.le_of_eq e4.symm, e1, e2, e3, fun k o hk => ?_, fun i bi hi hir => ?_, ?_⟩
    · by_cases hkb : k = p0.b
      · subst hkb
        rw [h2] at hk; injection hk with hk; subst hk
        refine ⟨_, hobj, rfl, rfl, hsz, fun i hi => hold i ?_⟩
        rcases Nat.lt_or_ge i (p0.base + off) with h' | h'
        · exact .inl h'
        · rcases Nat.lt_or_ge i (p0.base + off + vs.length) with h'' | h''
          · exact absurd ⟨id, b, p0, view_blk hb, hro, h1, rfl, by omega, by omega⟩ hi
          · exact .inr h''
      · exact ⟨o, by rw [hother k hkb]; exact hk, SameObj.refl _ o⟩
    · rw [hview] at hi
      split at hi
      · rename_i e; subst e; injection hi with hi; subst hi; simp at hir; rw [hro] at hir; cases hir
      · exact hi
    · rintro k hk i ⟨j, bj, q, hj, hjr, hq, e1, e2, e3⟩
      rw [hview] at hj
      split at hj
      · rename_i e; subst e; injection hj with hj; subst hj
        exact ⟨j, b, q, view_blk hb, hro, hq, e1, e2, e3⟩
      · exact ⟨j, bj, q, hj, hjr, hq, e1, e2, e3⟩

/-- A part of a block is written. -/
theorem rel_write {ρ : PMap} {h : Heap} {w : World} (hr : Rel ρ (view h) w) {id : Nat} {b : Blk} (hb : blk? h id = some b) (hro : b.ro = false) {p : Place} (hp : ρ id = some p)
    (off : Nat) {vs vs' : List Value} (hn : off + vs.length ≤ b.cells.length) (hv : LRel ρ vs vs') (hc : ∀ v ∈ vs, Sim.isCell v = true) :
    ∃ w', (∀ P, (storeCells ⟨p.b, p.base + off, none⟩ vs' 0).run P w = .ok () w') ∧
      Rel ρ (view (h.set id (some { b with cells := writeAt b.cells off vs }))) w' ∧ Ev ρ (view h) w ρ (view (h.set id (some { b with cells := writeAt b.cells off vs }))) w' := by
  obtain ⟨p0, c, t, fz, h1, h2, h4, h5, h6, h7⟩ := hr.blk id b (view_blk hb)
  have : p0 = p := by rw [h1] at hp; exact Option.some.inj hp
  subst this
  refine rel_put hr hb hro hp off (by omega) hv hc _ (by simpa [size_writeAt] using h5) (fun i v hi => ?_)
  rw [writeAt_get _ _ _ hn] at hi
  split at hi
  · exact .inr ⟨.inl (by assumption), hi⟩
  · split at hi
    · exact .inl ⟨by omega, hi⟩
    · exact .inr ⟨.inr (by omega), hi⟩

/-- A store. -/
theorem rel_store {ρ : PMap} {h h' : Heap} {w : World} (hr : Rel ρ (view h) w) {n : Nat} {a a' v v' : Value} (ha : VRel ρ a a') (hv : VRel ρ v v') (hs : storeV h n a v = some h') :
    ∃ ad w', a' = .pointer (some ad) ∧ v'.cells.size = n ∧ (∀ P, (storeCells ad v'.cells.toList 0).run P w = .ok () w') ∧ Rel ρ (view h') w' ∧ Ev ρ (view h) w ρ (view h') w' ∧ h'.length = h.length := by
  cases ha <;> simp only [storeV] at hs <;> try cases hs
  case ptr id off p hp =>
    cases hb : blk? h id with
    | none => rw [hb] at hs; cases hs
    | some b =>
      rw [hb] at hs
      simp only at hs
      split at hs
      · rename_i hc
        obtain ⟨hro, hvar, hsz, hn⟩ := hc
        injection hs with hs
        subst hs
        have hl : v.cells.toList.length = n := by simpa using hsz
        obtain ⟨w', h1, h2, h3⟩ := rel_write hr hb hro hp off (vs := v.cells.toList) (by omega) hv.cells (hv.cellsOk hvar)
        refine ⟨_, w', rfl, ?_, h1, h2, h3, by simp⟩
        have := hv.cells.1
        simp at this
        omega
      · cases hs

/-- The place of a new block. -/
def newP (ρ : PMap) (id : Nat) (p : Place) : PMap := fun i => if i = id then some p else ρ i

theorem newP_le {ρ : PMap} {id : Nat} {p : Place} (h : ρ id = none) : PLe ρ (newP ρ id p) := by
  intro i q hq
  unfold newP
  by_cases hi : i = id
  · subst hi; rw [h] at hq; cases hq
  · rw [if_neg hi]; exact hq

theorem newP_same (ρ : PMap) (id : Nat) (p : Place) : PSame ρ (newP ρ id p) id (id + 1) := by
  intro i hi
  unfold newP
  rw [if_neg (by omega)]

/-- A view with one block more. -/
def addV (hv : View) (id : Nat) (b : Blk) : View := fun i => if i = id then some b else hv i

/-- A new row. -/
theorem rel_newV {ρ : PMap} {hv : View} {w : World} (hr : Rel ρ hv w) {id : Nat} (hid : hv id = none) (hf : ρ id = none) (c : Array Value) (t : TypeId) (esz : Nat) {cells : List Value}
    (hl : cells.length ≤ c.size) (hc : ∀ v ∈ cells, Sim.isCell v = true) (hv' : ∀ (i : Nat) v, cells[i]? = some v → ∃ v', c[i]? = some v' ∧ VRel ρ v v') :
    Rel (newP ρ id ⟨w.heap.size, 0, c.size, esz⟩) (addV hv id ⟨false, cells⟩) { w with heap := w.heap.push (.cells c t) } ∧
    Ev ρ hv w (newP ρ id ⟨w.heap.size, 0, c.size, esz⟩) (addV hv id ⟨false, cells⟩) { w with heap := w.heap.push (.cells c t) } := by
  have hle := newP_le (p := ⟨w.heap.size, 0, c.size, esz⟩) hf
  have hself : newP ρ id ⟨w.heap.size, 0, c.size, esz⟩ id = some ⟨w.heap.size, 0, c.size, esz⟩ := by simp [newP]
  have hother : ∀ i, i ≠ id → newP ρ id ⟨w.heap.size, 0, c.size, esz⟩ i = ρ i := fun i hi => by simp [newP, hi]
  have hheap : ∀ k, k < w.heap.size → (w.heap.push (.cells c t))[k]? = w.heap[k]? := fun k hk => by rw [Array.getElem?_push, if_neg (by omega)]
  have hplt : ∀ i b p, hv i = some b → ρ i = some p → p.b < w.heap.size := by
    intro i b p hi hp
    obtain ⟨p0, c0, t0, f0, h1, h2, _⟩ := hr.blk i b hi
    have : p0 = p := by rw [h1] at hp; exact Option.some.inj hp
    subst this
    exact (Array.getElem?_eq_some_iff.1 h2).1
  refine ⟨⟨fun i b hi => ?_, fun i j bi bj p q hi hj hne hro hp hq => ?_⟩, ?_⟩
  · unfold addV at hi
    split at hi
    · rename_i e; subst e; injection hi with hi; subst hi
      refine ⟨_, c, t, (0, 0), hself, by simp, by simp, by simpa using hl, fun i v hi => ?_, fun _ => rfl⟩
      obtain ⟨v', h1, h2⟩ := hv' i v hi
      exact ⟨hc v (List.mem_of_getElem? hi), v', by simpa using h1, h2.mono hle⟩
    · exact ((hr.blk i b hi).mono hle).of_heap fun p hp => hheap _ (hplt i b p hi (by rw [hother i (by assumption)] at hp; exact hp))
  · unfold addV at hi hj
    split at hi
    · rename_i e; subst e
      split at hj
      · rename_i e2; exact absurd e2.symm hne
      · rename_i e2
        rw [hself] at hp; injection hp with hp; subst hp
        rw [hother j e2] at hq
        intro hb
        have := hplt j bj q hj hq
        simp at hb; omega
    · rename_i e
      rw [hother i e] at hp
      split at hj
      · rename_i e2; subst e2
        rw [hself] at hq; injection hq with hq; subst hq
        intro hb
        have := hplt i bi p hi hp
        simp at hb; omega
      · rename_i e2
        rw [hother j e2] at hq
        exact hr.sep i j bi bj p q hi hj hne hro hp hq
  · refine ⟨by simp, rfl, rfl, rfl, fun k o hk => ⟨o, by rw [hheap k (Array.getElem?_eq_some_iff.1 hk).1]; exact hk, SameObj.refl _ o⟩, fun i b hi hir => ?_, ?_⟩
    · unfold addV at hi
      split at hi
      · injection hi with hi; subst hi; cases hir
      · exact hi
    · rintro k hk i ⟨j, bj, p, hj, hjr, hp, e1, e2, e3⟩
      unfold addV at hj
      split at hj
      · rename_i e; subst e
        rw [hself] at hp; injection hp with hp; subst hp
        simp at e1; omega
      · rename_i e
        exact ⟨j, bj, p, hj, hjr, by rw [hother j e] at hp; exact hp, e1, e2, e3⟩

theorem view_none {h : Heap} {i : Nat} (hi : h.length ≤ i) : view h i = none := by
  unfold view blk?
  rw [List.getElem?_eq_none hi]

theorem view_addV (h : Heap) (b : Blk) : view (h ++ [some b]) = addV (view h) h.length b := funext fun i => view_push h b i

theorem rel_new {ρ : PMap} {h : Heap} {w : World} (hr : Rel ρ (view h) w) (hf : ρ h.length = none) (c : Array Value) (t : TypeId) (esz : Nat) {cells : List Value}
    (hl : cells.length ≤ c.size) (hc : ∀ v ∈ cells, Sim.isCell v = true) (hv : ∀ (i : Nat) v, cells[i]? = some v → ∃ v', c[i]? = some v' ∧ VRel ρ v v') :
    Rel (newP ρ h.length ⟨w.heap.size, 0, c.size, esz⟩) (view (h ++ [some ⟨false, cells⟩])) { w with heap := w.heap.push (.cells c t) } ∧
    Ev ρ (view h) w (newP ρ h.length ⟨w.heap.size, 0, c.size, esz⟩) (view (h ++ [some ⟨false, cells⟩])) { w with heap := w.heap.push (.cells c t) } := by
  rw [view_addV]
  exact rel_newV hr (view_none (Nat.le_refl _)) hf c t esz hl hc hv

theorem SameObj.mono {own own' : Nat → Prop} (h : ∀ i, own i → own' i) {o o' : Obj} (hs : SameObj own o o') : SameObj own' o o' := by
  cases o with
  | cells c t f =>
    cases o' with
    | cells c' t' f' => obtain ⟨a, b, c1, d⟩ := hs; exact ⟨a, b, c1, fun i hi => d i (fun hh => hi (h i hh))⟩
    | _ => exact hs
  | _ => exact hs

/-- A step beside which a part of the heap lies that it did not see. -/
theorem Ev.beside {ρ ρ' : PMap} {hv hv' O : View} {w w' : World} (hev : Ev ρ hv w ρ' hv' w') (hdis : ∀ i b, O i = some b → hv i = none) (hsame : ∀ i b, O i = some b → ρ' i = ρ i) :
    Ev ρ (fun i => (hv i).or (O i)) w ρ' (fun i => (hv' i).or (O i)) w' := by
  refine ⟨hev.size, hev.os, hev.tape, hev.output, fun b o hb => ?_, fun i b hi hir => ?_, fun b hb i ho => ?_⟩
  · obtain ⟨o', h1, h2⟩ := hev.mem b o hb
    refine ⟨o', h1, h2.mono fun i => ?_⟩
    rintro ⟨id, blk, p, e1, e2⟩
    exact ⟨id, blk, p, by simp [e1], e2⟩
  · cases hc : hv' i with
    | some x => rw [hc] at hi; simp at hi; subst hi; simp [hev.roOld i x hc hir]
    | none => rw [hc] at hi; simp at hi; simp [hdis i b hi, hi]
  · obtain ⟨id, blk, p, e1, e2, e3, e4⟩ := ho
    simp only at e1
    cases hc : hv' id with
    | some x =>
      rw [hc] at e1; simp at e1; subst e1
      obtain ⟨id2, blk2, p2, f1, f2⟩ := hev.own b hb i ⟨id, x, p, hc, e2, e3, e4⟩
      exact ⟨id2, blk2, p2, by simp [f1], f2⟩
    | none =>
      rw [hc] at e1; simp at e1
      exact ⟨id, blk, p, by simp [hdis id blk e1, e1], e2, by rw [← hsame id blk e1]; exact e3, e4⟩

theorem Ev.sub {ρ ρ' : PMap} {hv hv' hv2 : View} {w w' : World} (hev : Ev ρ hv w ρ' hv' w') (hs : ∀ i b, hv2 i = some b → hv' i = some b) : Ev ρ hv w ρ' hv2 w' :=
  ⟨hev.size, hev.os, hev.tape, hev.output, hev.mem, fun i b hi hr => hev.roOld i b (hs i b hi) hr, fun b hb i ⟨id, blk, p, e1, e2⟩ => hev.own b hb i ⟨id, blk, p, hs id blk e1, e2⟩⟩

theorem rel_kill {ρ : PMap} {h : Heap} {w : World} (hr : Rel ρ (view h) w) {id : Nat} (hid : id < h.length) :
    Rel ρ (view (h.set id none)) w ∧ Ev ρ (view h) w ρ (view (h.set id none)) w := by
  have hsub : ∀ i b, view (h.set id none) i = some b → view h i = some b := by
    intro i b hi
    rw [view_set h id none hid] at hi
    split at hi
    · cases hi
    · exact hi
  exact ⟨hr.sub hsub, ⟨Nat.le_refl _, rfl, rfl, rfl, fun _ o ho => ⟨o, ho, SameObj.refl _ o⟩, fun i b hi _ => hsub i b hi,
    fun k _ i ⟨j, bj, p, hj, rest⟩ => ⟨j, bj, p, hsub j bj hj, rest⟩⟩⟩

/-- A block takes over a part of the place of a block that is given up. -/
theorem rel_adopt {ρ : PMap} {h : Heap} {w : World} (hr : Rel ρ (view h) w) (hf : ρ h.length = none) {id : Nat} {b : Blk} (hb : blk? h id = some b) (hro : b.ro = false) {p : Place} (hp : ρ id = some p)
    (off n : Nat) (ext : Nat) (he : off + ext ≤ p.ext) (hx : n ≤ ext) :
    Rel (newP ρ h.length ⟨p.b, p.base + off, ext, p.esz⟩) (view (h.set id none ++ [some ⟨false, (b.cells.drop off).take n⟩])) w ∧
    Ev ρ (view h) w (newP ρ h.length ⟨p.b, p.base + off, ext, p.esz⟩) (view (h.set id none ++ [some ⟨false, (b.cells.drop off).take n⟩])) w := by
  have hidl := view_lt (view_blk hb)
  have hle := newP_le (p := ⟨p.b, p.base + off, ext, p.esz⟩) hf
  have hself : newP ρ h.length ⟨p.b, p.base + off, ext, p.esz⟩ h.length = some ⟨p.b, p.base + off, ext, p.esz⟩ := by simp [newP]
  have hother : ∀ i, i ≠ h.length → newP ρ h.length ⟨p.b, p.base + off, ext, p.esz⟩ i = ρ i := fun i hi => by simp [newP, hi]
  have hview : ∀ i, view (h.set id none ++ [some ⟨false, (b.cells.drop off).take n⟩]) i = if i = h.length then some ⟨false, (b.cells.drop off).take n⟩ else if i = id then none else view h i := by
    intro i
    rw [view_push, List.length_set, view_set h id none hidl]
  obtain ⟨p0, c, t, fz, h1, h2, h4, h5, h6, h7⟩ := hr.blk id b (view_blk hb)
  have : p0 = p := by rw [h1] at hp; exact Option.some.inj hp
  subst this
  refine ⟨⟨fun i bi hi => ?_, fun i j bi bj q r hi hj hne hir hq hr' => ?_⟩, ?_⟩
  · rw [hview] at hi
    split at hi
    · rename_i e; subst e; injection hi with hi; subst hi
      refine ⟨_, c, t, fz, hself, h2, by simp; omega, by simp; omega, fun i v hi => ?_, fun _ => h7 hro⟩
      simp only at hi
      rw [List.getElem?_take] at hi
      split at hi
      · rw [List.getElem?_drop] at hi
        obtain ⟨a, v', b1, b2⟩ := h6 _ _ hi
        exact ⟨a, v', by simpa [Nat.add_assoc] using b1, b2.mono hle⟩
      · cases hi
    · split at hi
      · cases hi
      · exact (hr.blk i bi hi).mono hle
  · rw [hview] at hi hj
    split at hi
    · rename_i e; subst e
      split at hj
      · rename_i e2; exact absurd e2.symm hne
      · rename_i e2
        split at hj
        · cases hj
        · rename_i e3
          rw [hself] at hq; injection hq with hq; subst hq
          rw [hother j e2] at hr'
          intro hb' k k1 k2 k3 k4
          exact hr.sep id j b bj p0 r (view_blk hb) hj (Ne.symm e3) hro h1 hr' hb' k (by simp at k1; omega) (by simp at k2; omega) k3 k4
    · rename_i e
      rw [hother i e] at hq
      split at hi
      · cases hi
      · rename_i e3
        split at hj
        · rename_i e2; subst e2
          rw [hself] at hr'; injection hr' with hr'; subst hr'
          intro hb' k k1 k2 k3 k4
          exact hr.sep i id bi b q p0 hi (view_blk hb) e3 hir hq h1 hb' k k1 k2 (by simp at k3; omega) (by simp at k4; omega)
        · rename_i e2
          rw [hother j e2] at hr'
          split at hj
          · cases hj
          · exact hr.sep i j bi bj q r hi hj hne hir hq hr'
  · refine ⟨Nat.le_refl _, rfl, rfl, rfl, fun _ o ho => ⟨o, ho, SameObj.refl _ o⟩, fun i bi hi hir => ?_, ?_⟩
    · rw [hview] at hi
      split at hi
      · injection hi with hi; subst hi; cases hir
      · split at hi
        · cases hi
        · exact hi
    · rintro k _ i ⟨j, bj, q, hj, hjr, hq, e1, e2, e3⟩
      rw [hview] at hj
      split at hj
      · rename_i e; subst e
        rw [hself] at hq; injection hq with hq; subst hq
        exact ⟨id, b, p0, view_blk hb, hro, h1, e1, by simp at e2; omega, by simp at e3; omega⟩
      · rename_i e
        split at hj
        · cases hj
        · exact ⟨j, bj, q, hj, hjr, by rw [hother j e] at hq; exact hq, e1, e2, e3⟩
end Go.Sim
