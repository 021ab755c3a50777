/-
  Blocks of the abstract heap: what writes and new blocks leave; slices; the rows that came in.
-/
import Derived.Test.YtlflfkdnpalhlaaSimO
import Derived.DataReads
namespace Go.Sim
open Go.RowKit

theorem blk?_lt {h : Heap} {id : Nat} {b : Blk} (hb : blk? h id = some b) : id < h.length := by
  unfold blk? at hb
  split at hb
  · rename_i h1; exact (List.getElem?_eq_some_iff.1 h1).1
  · cases hb
theorem blk?_set {h : Heap} {i j : Nat} {x : Option Blk} : blk? (h.set i x) j = if i = j ∧ i < h.length then x else blk? h j := by
  unfold blk?
  rw [List.getElem?_set]
  by_cases hij : i = j
  · subst hij
    by_cases hi : i < h.length
    · simp [hi]; cases x <;> rfl
    · simp [hi]
  · simp [hij]
theorem blk?_set_ne {h : Heap} {i j : Nat} {x : Option Blk} (hij : i ≠ j) : blk? (h.set i x) j = blk? h j := by
  rw [blk?_set, if_neg (by simp [hij])]
theorem blk?_set_eq {h : Heap} {i : Nat} {x : Option Blk} (hi : i < h.length) : blk? (h.set i x) i = x := by
  rw [blk?_set, if_pos ⟨rfl, hi⟩]
theorem blk?_push_lt {h : Heap} {j : Nat} {x : Option Blk} (hj : j < h.length) : blk? (h ++ [x]) j = blk? h j := by
  unfold blk?
  rw [List.getElem?_append_left hj]
theorem blk?_push_eq {h : Heap} {x : Option Blk} : blk? (h ++ [x]) h.length = x := by
  unfold blk?
  rw [List.getElem?_append_right (Nat.le_refl _)]
  cases x <;> simp
theorem blk?_push {h : Heap} {j : Nat} {b : Blk} {x : Option Blk} (hb : blk? h j = some b) : blk? (h ++ [x]) j = some b := by
  rw [blk?_push_lt (blk?_lt hb)]; exact hb

/-- A slice value, its length in elements, and its cells. -/
def Sl (h : Heap) (esz : Nat) (s : Value) (n : Nat) (cs : List Value) : Prop :=
  cs.length = n * esz ∧
  ((s = .slice none 0 0 ∧ n = 0) ∨
   ∃ id off, s = .slice (some ⟨id, off, none⟩) n esz ∧ (n = 0 ∨ ∃ b, blk? h id = some b ∧ off + n * esz ≤ b.cells.length ∧ (b.cells.drop off).take (n * esz) = cs))

theorem Sl.lenV {h : Heap} {esz n : Nat} {s : Value} {cs : List Value} (hs : Sl h esz s n cs) : lenV s = some n := by
  rcases hs.2 with ⟨rfl, rfl⟩ | ⟨id, off, rfl, _⟩ <;> rfl
theorem Sl.firstC {h : Heap} {esz n : Nat} {s : Value} {cs : List Value} (hs : Sl h esz s n cs) : firstC h esz n s = some cs := by
  obtain ⟨hl, hs⟩ := hs
  rcases hs with ⟨rfl, rfl⟩ | ⟨id, off, rfl, h0 | ⟨b, hb, hle, hc⟩⟩
  · simp at hl; subst hl; simp [Sim.firstC]
  · subst h0; simp at hl; subst hl; simp [Sim.firstC]
  · by_cases h0 : n = 0
    · subst h0; simp at hl; subst hl; simp [Sim.firstC]
    · simp only [Sim.firstC, if_neg h0, hb]
      rw [if_pos ⟨Nat.le_refl _, hle⟩, hc]
theorem Sl.get {h : Heap} {esz n : Nat} {s : Value} {cs : List Value} (hs : Sl h esz s n cs) {i : Nat} (hi : i < n) :
    ∃ id off b, s = .slice (some ⟨id, off, none⟩) n esz ∧ blk? h id = some b ∧ ∀ j, j < esz → b.cells[off + i * esz + j]? = cs[i * esz + j]? := by
  obtain ⟨hl, hs⟩ := hs
  rcases hs with ⟨rfl, rfl⟩ | ⟨id, off, rfl, h0 | ⟨b, hb, hle, hc⟩⟩
  · omega
  · omega
  · refine ⟨id, off, b, rfl, hb, fun j hj => ?_⟩
    have : i * esz + j < n * esz := by
      have := Nat.mul_le_mul_right esz (show i + 1 ≤ n by omega)
      rw [Nat.add_mul] at this; omega
    rw [← hc, List.getElem?_take, if_pos this, List.getElem?_drop]
    congr 1; omega

/-- What a slice leads to is not touched. -/
theorem Sl.of_blk {h h' : Heap} {esz n : Nat} {s : Value} {cs : List Value} (hs : Sl h esz s n cs) (hk : ∀ id off b, s = .slice (some ⟨id, off, none⟩) n esz → blk? h id = some b → n ≠ 0 → blk? h' id = some b) : Sl h' esz s n cs := by
  obtain ⟨hl, hs⟩ := hs
  refine ⟨hl, ?_⟩
  rcases hs with hs | ⟨id, off, rfl, h0 | ⟨b, hb, hle, hc⟩⟩
  · exact .inl hs
  · exact .inr ⟨id, off, rfl, .inl h0⟩
  · by_cases h0 : n = 0
    · exact .inr ⟨id, off, rfl, .inl h0⟩
    · exact .inr ⟨id, off, rfl, .inr ⟨b, hk id off b rfl hb h0, hle, hc⟩⟩
theorem Sl.push {h : Heap} {esz n : Nat} {s : Value} {cs : List Value} (hs : Sl h esz s n cs) (x : Option Blk) : Sl (h ++ [x]) esz s n cs :=
  hs.of_blk fun _ _ _ _ hb _ => blk?_push hb

/-! The rows that came in. -/

structure Row where
  esz : Nat
  a : Option Addr
  len : Nat
  cap : Nat
  cs : List Value

def Row.ok (W : World) (r : Row) : Prop :=
  (r.a = none ∧ r.len = 0 ∧ r.cap = 0 ∧ r.cs = []) ∨
  ∃ x, r.a = some x ∧ r.len ≤ r.cap ∧ r.cs.length = r.cap * r.esz ∧ ∀ i v, r.cs[i]? = some v → Sim.isCell v = true ∧ noAddr v = true ∧ W.cell? (x.add i) = some v

def Row.blk (r : Row) : Option Blk := if r.cs = [] then none else some ⟨true, r.cs⟩
def Row.place (r : Row) : Option Place :=
  match r.a with
  | none => none
  | some x => if r.cs = [] then some ⟨0, 0, 0, r.esz⟩ else some ⟨x.block, x.off, r.cap * r.esz, r.esz⟩
def Row.val (id : Nat) (r : Row) : Value :=
  match r.a with
  | none => .slice none 0 0
  | some _ => .slice (some ⟨id, 0, none⟩) r.len r.esz

def heapOf (rs : List Row) : Heap := rs.map Row.blk
def rhoOf (rs : List Row) : PMap := fun id => (rs[id]?).bind Row.place

theorem blk_heapOf {rs : List Row} {id : Nat} {b : Blk} (hb : blk? (heapOf rs) id = some b) : ∃ r, rs[id]? = some r ∧ r.cs ≠ [] ∧ b = ⟨true, r.cs⟩ := by
  unfold blk? heapOf at hb
  rw [List.getElem?_map] at hb
  cases hr : rs[id]? with
  | none => rw [hr] at hb; cases hb
  | some r =>
    rw [hr] at hb
    simp only [Option.map_some, Row.blk] at hb
    by_cases hc : r.cs = []
    · rw [if_pos hc] at hb; cases hb
    · rw [if_neg hc] at hb
      injection hb with hb
      exact ⟨r, rfl, hc, hb.symm⟩

theorem allRo_heapOf (rs : List Row) : AllRo (heapOf rs) := fun id b hb => by
  obtain ⟨r, _, _, rfl⟩ := blk_heapOf hb; rfl

theorem rhoOf_none (rs : List Row) (id : Nat) (h : (heapOf rs).length ≤ id) : rhoOf rs id = none := by
  simp only [heapOf, List.length_map] at h
  simp [rhoOf, List.getElem?_eq_none h]

theorem rel_heapOf {rs : List Row} {W : World} (hok : ∀ r ∈ rs, r.ok W) : Rel (rhoOf rs) (view (heapOf rs)) W := by
  refine ⟨fun id b hb => ?_, fun i j bi bj p q hi hj hij hro => ?_⟩
  · obtain ⟨r, hr, hc, rfl⟩ := blk_heapOf hb
    rcases hok r (List.mem_of_getElem? hr) with ⟨_, _, _, h4⟩ | ⟨x, hx, hle, hlen, hcell⟩
    · exact absurd h4 hc
    have hpos : 0 < r.cs.length := List.length_pos_iff.2 hc
    have hlast := hcell (r.cs.length - 1) (r.cs[r.cs.length - 1]) (by simp)
    have hfirst := hcell 0 (r.cs[0]) (by simp [hpos])
    have hsp : x.spot = none := by
      have := World.cell?_spot hfirst.2.2
      simpa [Addr.add] using this
    have hblk : ∀ i, (x.add i).block = x.block ∧ (x.add i).off = x.off + i ∧ (x.add i).spot = none := by
      intro i
      unfold Addr.add
      by_cases hi : i = 0
      · subst hi; simp [hsp]
      · simp [hi]
    obtain ⟨c, t, fz, hh⟩ : ∃ c t fz, W.heap[x.block]? = some (.cells c t fz) := by
      have := hfirst.2.2
      unfold World.cell? at this
      rw [(hblk 0).1] at this
      split at this
      · rename_i c t fz h1; exact ⟨c, t, fz, h1⟩
      · cases this
    have hget : ∀ i v, r.cs[i]? = some v → c[x.off + i]? = some v := by
      intro i v hv
      have := (hcell i v hv).2.2
      unfold World.cell? at this
      rw [(hblk i).1, hh] at this
      simpa [(hblk i).2.1, (hblk i).2.2] using this
    have hρ : rhoOf rs id = some ⟨x.block, x.off, r.cap * r.esz, r.esz⟩ := by
      simp [rhoOf, hr, Row.place, hx, hc]
    refine ⟨_, c, t, fz, hρ, hh, ?_, ?_, ?_, fun h => by cases h⟩
    · have := hget (r.cs.length - 1) (r.cs[r.cs.length - 1]) (by simp)
      have := (Array.getElem?_eq_some_iff.1 this).1
      simp only
      omega
    · simp only; omega
    · intro i v hv
      exact ⟨(hcell i v hv).1, v, hget i v hv, noAddr_self _ v (hcell i v hv).2.1⟩
  · have hi' : blk? (heapOf rs) i = some bi := hi
    have := allRo_heapOf rs i bi hi'
    rw [this] at hro; cases hro

theorem vrel_row {rs : List Row} {W : World} {id : Nat} {r : Row} (hr : rs[id]? = some r) (hok : r.ok W) (hesz : 0 < r.esz) : VRel (rhoOf rs) (r.val id) (.slice r.a r.len r.cap) := by
  rcases hok with ⟨h1, h2, h3, h4⟩ | ⟨x, hx, hle, hlen, hcell⟩
  · rw [Row.val, h1, h2, h3]; exact .nilS
  · rw [Row.val, hx]
    by_cases hc : r.cs = []
    · have hcap : r.cap = 0 := by
        rw [hc] at hlen
        simp only [List.length_nil] at hlen
        rcases Nat.mul_eq_zero.1 hlen.symm with h | h
        · exact h
        · omega
      have hl0 : r.len = 0 := by omega
      rw [hcap, hl0]
      refine .sliceE (p := ⟨0, 0, 0, r.esz⟩) ?_
      simp [rhoOf, hr, Row.place, hx, hc]
    · have hpos : 0 < r.cs.length := List.length_pos_iff.2 hc
      have hfirst := hcell 0 (r.cs[0]) (by simp [hpos])
      have hsp : x.spot = none := by
        have := World.cell?_spot hfirst.2.2
        simpa [Addr.add] using this
      obtain ⟨b, off, spot⟩ := x
      simp only at hsp; subst hsp
      have := VRel.slice (ρ := rhoOf rs) (id := id) (off := 0) (n := r.len) (c := r.esz) (cap := r.cap) (p := ⟨b, off, r.cap * r.esz, r.esz⟩) (by simp [rhoOf, hr, Row.place, hx, hc]) rfl hle (by simp)
      simpa using this

theorem sl_row {rs : List Row} {W : World} {id : Nat} {r : Row} (hr : rs[id]? = some r) (hok : r.ok W) (hesz : 0 < r.esz) : Sl (heapOf rs) r.esz (r.val id) r.len (r.cs.take (r.len * r.esz)) := by
  rcases hok with ⟨h1, h2, h3, h4⟩ | ⟨x, hx, hle, hlen, hcell⟩
  · refine ⟨by simp [h2, h4], .inl ⟨by rw [Row.val, h1], h2⟩⟩
  · have hm : r.len * r.esz ≤ r.cap * r.esz := Nat.mul_le_mul_right _ hle
    refine ⟨by rw [List.length_take, hlen]; omega, .inr ⟨id, 0, by rw [Row.val, hx], ?_⟩⟩
    by_cases hc : r.cs = []
    · left
      rw [hc] at hlen
      simp only [List.length_nil] at hlen
      rcases Nat.mul_eq_zero.1 hlen.symm with h | h <;> omega
    · refine .inr ⟨⟨true, r.cs⟩, ?_, by simp only; omega, by simp⟩
      simp [blk?, heapOf, hr, Row.blk, hc]
end Go.Sim
