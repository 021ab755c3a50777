/-
  Slices that a value alone leads to: append, and what it leaves.
-/
import Derived.Test.YtlflfkdnpalhlaaSimS
namespace Go.Sim

/-- The block that a slice leads to. -/
def sid : Value → Option Nat
  | .slice (some a) _ _ => some a.block
  | _ => none

/-- A slice whose block is its own: nil, or a whole block. -/
def OwnS (h : Heap) (esz : Nat) (s : Value) (n : Nat) (cs : List Value) : Prop :=
  cs.length = n * esz ∧ ((s = .slice none 0 0 ∧ n = 0) ∨ ∃ id, s = .slice (some ⟨id, 0, none⟩) n esz ∧ blk? h id = some ⟨false, cs⟩)

theorem OwnS.sl {h : Heap} {esz n : Nat} {s : Value} {cs : List Value} (ho : OwnS h esz s n cs) : Sl h esz s n cs := by
  obtain ⟨hl, hs⟩ := ho
  refine ⟨hl, ?_⟩
  rcases hs with hs | ⟨id, rfl, hb⟩
  · exact .inl hs
  · exact .inr ⟨id, 0, rfl, .inr ⟨_, hb, by show 0 + n * esz ≤ cs.length; omega, by rw [List.drop_zero]; exact List.take_of_length_le (show cs.length ≤ n * esz by omega)⟩⟩

theorem OwnS.nil (h : Heap) (esz : Nat) : OwnS h esz (.slice none 0 0) 0 [] := ⟨by simp, .inl ⟨rfl, rfl⟩⟩

theorem OwnS.of_blk {h h' : Heap} {esz n : Nat} {s : Value} {cs : List Value} (ho : OwnS h esz s n cs) (hk : ∀ id, sid s = some id → blk? h id = some ⟨false, cs⟩ → blk? h' id = some ⟨false, cs⟩) : OwnS h' esz s n cs := by
  obtain ⟨hl, hs⟩ := ho
  refine ⟨hl, ?_⟩
  rcases hs with hs | ⟨id, rfl, hb⟩
  · exact .inl hs
  · exact .inr ⟨id, rfl, hk id rfl hb⟩

theorem OwnS.lt {h : Heap} {esz n : Nat} {s : Value} {cs : List Value} (ho : OwnS h esz s n cs) {id : Nat} (hs : sid s = some id) : id < h.length := by
  rcases ho.2 with ⟨rfl, _⟩ | ⟨id', rfl, hb⟩
  · simp [sid] at hs
  · simp [sid] at hs; subst hs; exact blk?_lt hb

theorem OwnS.ne_nil {h : Heap} {esz n : Nat} {s : Value} {cs : List Value} (ho : OwnS h esz s n cs) (hn : n ≠ 0) : ∃ id, s = .slice (some ⟨id, 0, none⟩) n esz ∧ blk? h id = some ⟨false, cs⟩ := by
  rcases ho.2 with ⟨_, h0⟩ | hx
  · exact absurd h0 hn
  · exact hx

/-- What a slice that came in leads to stays if its block does. -/
theorem Sl.of_sid {h h' : Heap} {esz n : Nat} {s : Value} {cs : List Value} (hs : Sl h esz s n cs) (hk : ∀ id b, sid s = some id → blk? h id = some b → blk? h' id = some b) : Sl h' esz s n cs :=
  hs.of_blk fun id _ b e hb _ => hk id b (by rw [e]; rfl) hb

theorem Sl.shape {h : Heap} {esz n : Nat} {s : Value} {cs : List Value} (hs : Sl h esz s n cs) : ∃ a c, s = .slice a n c := by
  rcases hs.2 with ⟨rfl, h0⟩ | ⟨id, off, rfl, _⟩
  · exact ⟨none, 0, by rw [h0]⟩
  · exact ⟨_, _, rfl⟩

/-- Appending to a slice of one's own. -/
theorem own_append {h : Heap} {esz bytes n m : Nat} {s t : Value} {cs new : List Value} (ho : OwnS h esz s n cs) (ht : Sl h esz t m new) (hr : n + m ≤ roomCells) (hb : bytes ≤ 4096) (hm : m ≠ 0) :
    ∃ H, appendV h esz bytes s t = some (.slice (some ⟨h.length, 0, none⟩) (n + m) esz, H) ∧ blk? H h.length = some ⟨false, cs ++ new⟩ ∧ H.length = h.length + 1 ∧ (∀ id, id < h.length → sid s ≠ some id → blk? H id = blk? h id) := by
  obtain ⟨hl, hs⟩ := ho
  rcases hs with ⟨rfl, rfl⟩ | ⟨id, rfl, hbk⟩
  · have hc : cs = [] := List.eq_nil_of_length_eq_zero (by omega)
    subst hc
    refine ⟨h ++ [some ⟨false, new⟩], ?_, blk?_push_eq, by simp, fun id hid _ => blk?_push_lt hid⟩
    simp only [appendV, ht.lenV, ht.firstC, if_neg hm]
    rw [if_pos ⟨by omega, hb⟩, Nat.zero_add]
  · refine ⟨h.set id none ++ [some ⟨false, cs ++ new⟩], ?_, ?_, by simp, fun j hj hne => ?_⟩
    · simp only [appendV, ht.lenV, ht.firstC, hbk]
      rw [if_pos ⟨trivial, trivial, by omega, hr, hb⟩]
      rw [List.drop_zero, List.take_of_length_le (by omega)]
    · have := blk?_push_eq (h := h.set id none) (x := some ⟨false, cs ++ new⟩)
      simpa using this
    · rw [blk?_push_lt (by simpa using hj), blk?_set_ne (fun e => hne (by rw [e]; rfl))]
end Go.Sim
