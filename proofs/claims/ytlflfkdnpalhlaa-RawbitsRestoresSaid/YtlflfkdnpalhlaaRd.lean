/-
  The readers: what Get and At answer, the program's and the reference's.
-/
import Derived.Test.YtlflfkdnpalhlaaTab
import Derived.Test.YtlflfkdnpalhlaaSimT
import Derived.Test.YtlflfkdnpalhlaaPack
namespace Go.Proofs.Ytlflfkdnpalhlaa
open Go Go.Sim

def Bits (h : Heap) (p : Nat) (s : Value) (xs : List Nat) (n : Nat) : Prop :=
  blk? h p = some ⟨false, [.bool true, s, .int .i64 n]⟩ ∧ Sl h 1 s xs.length (xs.map fun (x : Nat) => .int .u8 x) ∧
    (∀ id off n c, s = .slice (some ⟨id, off, none⟩) n c → id ≠ p) ∧ (∀ x ∈ xs, x < 256)

theorem bits_get : ∀ (x : Fin 256) (j : Fin 8), andI .i64 (shrI .i64 (IntKind.i64.wrap (x.1 : Int)) ((j.1 : Int))) 1 = ((x.1 / 2 ^ j.1 % 2 : Nat) : Int) := by decide +kernel
theorem bits_get' : ∀ (x : Fin 256) (j : Fin 8), (shrI .i64 (IntKind.i64.wrap (x.1 : Int)) ((j.1 : Int))).tmod 2 = ((x.1 / 2 ^ j.1 % 2 : Nat) : Int) := by decide +kernel

theorem get49 {h : Heap} {p : Nat} {s : Value} {xs : List Nat} {n : Nat} (hb : Bits h p s xs n) (hn : n < 1000000) (R : Value → Heap → Prop) :
    Ret tab 49 [ptr p] h R = R (.int .i64 (bitAt xs n)) (h.set p (some ⟨false, [.bool true, s, .int .i64 ((n : Int) + 1)]⟩)) := by
  obtain ⟨hp, hs, hne, hx⟩ := hb
  have hw : IntKind.i64.wrap ((n : Int) + 1) = (n : Int) + 1 := wrapN (n := n + 1) (by omega)
  have hq : IntKind.i64.wrap ((n : Int) / 8) = (n : Int) / 8 := wrapN (n := n / 8) (by omega)
  have hlt := blk?_lt hp
  rw [enter49, B49]
  by_cases hi : n / 8 < xs.length
  · obtain ⟨id, off, b, rfl, hbk, hcell⟩ := hs.get hi
    have hid : p ≠ id := fun e => hne id off _ _ rfl e.symm
    have h1 : ¬ ((xs.length : Int) ≤ (n : Int) / 8) := by omega
    have h2 : (0 : Int) ≤ (n : Int) / 8 ∧ (n : Int) / 8 < xs.length := by omega
    have h3 : ((n : Int) / 8).toNat = n / 8 := by omega
    have h4 := hcell 0 (by omega)
    simp [hi] at h4
    have h5 : IntKind.u64.wrap (IntKind.i64.wrap (7 - (n : Int).tmod 8)) = ((7 - n % 8 : Nat) : Int) := by
      rw [show (n : Int).tmod 8 = ((n % 8 : Nat) : Int) from rfl, wrapI (by omega) (by omega), IntKind.wrap_u64]; omega
    have h6 : ¬ ((7 - n % 8 : Nat) : Int) < 0 := by omega
    have hx8 : xs[n / 8] < 256 := hx _ (by simp)
    have hb : bitAt xs n = xs[n / 8] / 2 ^ (7 - n % 8) % 2 := by simp [bitAt, hi]
    have h7 := bits_get ⟨xs[n / 8], hx8⟩ ⟨7 - n % 8, by omega⟩
    simp only at h7
    simp [hp, hw, hq, hlt, blk?_set_eq, blk?_set_ne hid, h1, h2, h3, h4, hbk, h5, h6, h7, fin49, hb]
  · have hl := hs.2
    have h1 : (xs.length : Int) ≤ (n : Int) / 8 := by omega
    have h0 : bitAt xs n = 0 := by simp [bitAt, List.getElem?_eq_none (Nat.le_of_not_lt hi)]
    rcases hl with ⟨rfl, hl⟩ | ⟨id, off, rfl, hl⟩
    · have h1 : (0 : Int) ≤ (n : Int) / 8 := by omega
      simp [hp, hw, hq, hlt, blk?_set_eq, h0, h1, fin49]
    · simp [hp, hw, hq, hlt, blk?_set_eq, h1, h0, fin49]

theorem get26 {h : Heap} {p : Nat} {s : Value} {xs : List Nat} {n : Nat} (hb : Bits h p s xs n) (hn : n < 1000000) (R : Value → Heap → Prop) :
    Ret tab 26 [ptr p] h R = R (.int .i64 (bitAt xs n)) (h.set p (some ⟨false, [.bool true, s, .int .i64 ((n : Int) + 1)]⟩)) := by
  have hp := hb.1
  rw [enter26, B26]
  simp [k_guard, hp, fin26, get49 hb hn]

theorem get27 {h : Heap} {p : Nat} {s : Value} {xs : List Nat} {n : Nat} (hb : Bits h p s xs n) (hn : n < 1000000) (R : Value → Heap → Prop) :
    Ret tab 27 [ptr p] h R = R (.int .i64 (bitAt xs n)) (h.set p (some ⟨false, [.bool true, s, .int .i64 ((n : Int) + 1)]⟩)) := by
  obtain ⟨hp, hs, hne, hx⟩ := hb
  have hw : IntKind.i64.wrap ((n : Int) + 1) = (n : Int) + 1 := wrapN (n := n + 1) (by omega)
  have hq : IntKind.i64.wrap ((n : Int) / 8) = (n : Int) / 8 := wrapN (n := n / 8) (by omega)
  have hlt := blk?_lt hp
  rw [enter27, B27]
  by_cases hi : n / 8 < xs.length
  · obtain ⟨id, off, b, rfl, hbk, hcell⟩ := hs.get hi
    have hid : p ≠ id := fun e => hne id off _ _ rfl e.symm
    have h1 : ¬ ((xs.length : Int) ≤ (n : Int) / 8) := by omega
    have h2 : (0 : Int) ≤ (n : Int) / 8 ∧ (n : Int) / 8 < xs.length := by omega
    have h3 : ((n : Int) / 8).toNat = n / 8 := by omega
    have h4 := hcell 0 (by omega)
    simp [hi] at h4
    have h5 : (IntKind.i64.wrap (7 - (n : Int).tmod 8)) = ((7 - n % 8 : Nat) : Int) := by
      rw [show (n : Int).tmod 8 = ((n % 8 : Nat) : Int) from rfl, wrapI (by omega) (by omega)]; omega
    have h6 : ¬ ((7 - n % 8 : Nat) : Int) < 0 := by omega
    have hx8 : xs[n / 8] < 256 := hx _ (by simp)
    have hb : bitAt xs n = xs[n / 8] / 2 ^ (7 - n % 8) % 2 := by simp [bitAt, hi]
    have h7 := bits_get' ⟨xs[n / 8], hx8⟩ ⟨7 - n % 8, by omega⟩
    simp only at h7
    simp [k_guard, hp, hw, hq, hlt, blk?_set_eq, blk?_set_ne hid, h1, h2, h3, h4, hbk, h5, h6, h7, fin27, hb]
  · have hl := hs.2
    have h1 : (xs.length : Int) ≤ (n : Int) / 8 := by omega
    have h0 : bitAt xs n = 0 := by simp [bitAt, List.getElem?_eq_none (Nat.le_of_not_lt hi)]
    rcases hl with ⟨rfl, hl⟩ | ⟨id, off, rfl, hl⟩
    · have h1 : (0 : Int) ≤ (n : Int) / 8 := by omega
      simp [k_guard, hp, hw, hq, hlt, blk?_set_eq, h0, h1, fin27]
    · simp [k_guard, hp, hw, hq, hlt, blk?_set_eq, h1, h0, fin27]

theorem at28 {h : Heap} {p : Nat} {s : Value} {xs : List Nat} {n : Nat} (hb : Bits h p s xs n) (R : Value → Heap → Prop) :
    Ret tab 28 [ptr p] h R = R (.int .i64 n) h := by
  have hp := hb.1
  rw [enter28, B28]
  simp [k_guard, hp, fin28]

theorem at29 {h : Heap} {p : Nat} {s : Value} {xs : List Nat} {n : Nat} (hb : Bits h p s xs n) (R : Value → Heap → Prop) :
    Ret tab 29 [ptr p] h R = R (.int .i64 n) h := by
  have hp := hb.1
  rw [enter29, B29]
  simp [hp, fin29]

/-- The reader stands one bit on. -/
theorem Bits.next {h : Heap} {p : Nat} {s : Value} {xs : List Nat} {n : Nat} (hb : Bits h p s xs n) : Bits (h.set p (some ⟨false, [.bool true, s, .int .i64 ((n : Int) + 1)]⟩)) p s xs (n + 1) := by
  obtain ⟨hp, hs, hne, hx⟩ := hb
  exact ⟨blk?_set_eq (blk?_lt hp), hs.of_blk fun id off b e hb _ => by rw [blk?_set_ne (fun e' => hne id off _ _ e e'.symm)]; exact hb, hne, hx⟩
/-- Another reader stays. -/
theorem Bits.other {h : Heap} {p q : Nat} {s : Value} {xs : List Nat} {n : Nat} (hb : Bits h p s xs n) (hq : q ≠ p) (hsq : ∀ id off n c, s = .slice (some ⟨id, off, none⟩) n c → id ≠ q) (x : Option Blk) : Bits (h.set q x) p s xs n := by
  obtain ⟨hp, hs, hne, hx⟩ := hb
  exact ⟨by rw [blk?_set_ne hq]; exact hp, hs.of_blk fun id off b e hb _ => by rw [blk?_set_ne (fun e' => hsq id off _ _ e e'.symm)]; exact hb, hne, hx⟩
theorem Bits.push {h : Heap} {p : Nat} {s : Value} {xs : List Nat} {n : Nat} (hb : Bits h p s xs n) (x : Option Blk) : Bits (h ++ [x]) p s xs n :=
  ⟨blk?_push hb.1, hb.2.1.push x, hb.2.2⟩

theorem new24 {h : Heap} {s : Value} {xs : List Nat} (hs : Sl h 1 s xs.length (xs.map fun (x : Nat) => .int .u8 x)) (hx : ∀ x ∈ xs, x < 256) (hl : xs.length < 1000000) :
    ∃ p s' h', (∀ R : Value → Heap → Prop, Ret tab 24 [s] h R = R (ptr p) h') ∧ Bits h' p s' xs 0 ∧ h.length ≤ p ∧ h.length ≤ h'.length ∧ (∀ id, id < h.length → blk? h' id = blk? h id) ∧
      (∀ id off n c, s' = .slice (some ⟨id, off, none⟩) n c → h.length ≤ id ∧ id < h'.length) := by
  by_cases h0 : xs.length = 0
  · have hn : xs = [] := List.eq_nil_of_length_eq_zero h0
    subst hn
    refine ⟨h.length, .slice none 0 0, h ++ [some ⟨false, [.bool true, .slice none 0 0, .int .i64 0]⟩], fun R => ?_, ⟨blk?_push_eq, ⟨by simp, .inl ⟨rfl, rfl⟩⟩, fun _ _ _ _ e => by simp at e, hx⟩, Nat.le_refl _, by simp, fun id hid => blk?_push_lt hid, fun _ _ _ _ e => by simp at e⟩
    have ha : appendV h 1 1 (.slice none 0 0) s = some (.slice none 0 0, h) := by
      simp only [appendV, hs.lenV, hs.firstC]; rfl
    rw [enter24, B24]
    simp [ha, fin24]
  · refine ⟨h.length + 1, .slice (some ⟨h.length, 0, none⟩) xs.length 1, h ++ [some ⟨false, xs.map fun (x : Nat) => .int .u8 x⟩] ++ [some ⟨false, [.bool true, .slice (some ⟨h.length, 0, none⟩) xs.length 1, .int .i64 0]⟩], fun R => ?_, ⟨?_, ?_, ?_, hx⟩, by omega, by simp, fun id hid => ?_, fun id off n c e => ?_⟩
    · have ha : appendV h 1 1 (.slice none 0 0) s = some (.slice (some ⟨h.length, 0, none⟩) xs.length 1, h ++ [some ⟨false, xs.map fun (x : Nat) => .int .u8 x⟩]) := by
        simp only [appendV, hs.lenV, hs.firstC, if_neg h0]
        rw [if_pos ⟨by unfold roomCells; omega, by omega⟩]
      rw [enter24, B24]
      simp [ha, fin24]
    · have := blk?_push_eq (h := h ++ [some ⟨false, xs.map fun (x : Nat) => .int .u8 x⟩]) (x := some ⟨false, [.bool true, .slice (some ⟨h.length, 0, none⟩) xs.length 1, .int .i64 0]⟩)
      simpa using this
    · refine ⟨by simp, .inr ⟨h.length, 0, rfl, .inr ⟨⟨false, xs.map fun (x : Nat) => .int .u8 x⟩, blk?_push blk?_push_eq, by simp, by rw [List.drop_zero, List.take_of_length_le (by simp)]⟩⟩⟩
    · intro id off n c e
      injection e with e; injection e with e; injection e with e; omega
    · rw [blk?_push_lt (by simp; omega), blk?_push_lt hid]
    · injection e with e; injection e with e; injection e with e; simp; omega

theorem new25 {h : Heap} {s : Value} {xs : List Nat} (hs : Sl h 1 s xs.length (xs.map fun (x : Nat) => .int .u8 x)) (hx : ∀ x ∈ xs, x < 256) (hl : xs.length < 1000000) :
    ∃ p s' h', (∀ R : Value → Heap → Prop, Ret tab 25 [s] h R = R (ptr p) h') ∧ Bits h' p s' xs 0 ∧ h.length ≤ p ∧ h.length ≤ h'.length ∧ (∀ id, id < h.length → blk? h' id = blk? h id) ∧
      (∀ id off n c, s' = .slice (some ⟨id, off, none⟩) n c → h.length ≤ id ∧ id < h'.length) := by
  have hs' := (hs.push (some ⟨false, []⟩))
  have e0 : blk? (h ++ [some ⟨false, []⟩]) h.length = some ⟨false, []⟩ := blk?_push_eq
  have ha : appendV (h ++ [some ⟨false, []⟩]) 1 1 (.slice (some ⟨h.length, 0, none⟩) 0 1) s = some (.slice (some ⟨h.length + 1, 0, none⟩) xs.length 1, h ++ [none] ++ [some ⟨false, xs.map fun (x : Nat) => .int .u8 x⟩]) := by
    simp only [appendV, hs'.lenV, hs'.firstC, e0]
    rw [if_pos ⟨by simp, by simp, by simp, by unfold roomCells; omega, by omega⟩]
    simp
  have e1 : blk? (h ++ [none] ++ [some ⟨false, xs.map fun (x : Nat) => .int .u8 x⟩]) (h.length + 1) = some ⟨false, xs.map fun (x : Nat) => .int .u8 x⟩ := by
    have := blk?_push_eq (h := h ++ [none]) (x := some ⟨false, xs.map fun (x : Nat) => .int .u8 x⟩)
    simpa using this
  refine ⟨h.length + 2, .slice (some ⟨h.length + 1, 0, none⟩) xs.length 1, h ++ [none] ++ [some ⟨false, xs.map fun (x : Nat) => .int .u8 x⟩] ++ [some ⟨false, [.bool true, .slice (some ⟨h.length + 1, 0, none⟩) xs.length 1, .int .i64 0]⟩], fun R => ?_, ⟨?_, ?_, ?_, hx⟩, by omega, by simp, fun id hid => ?_, fun id off n c e => ?_⟩
  · rw [enter25, B25]
    simp [ha, fin25]
  · have := blk?_push_eq (h := h ++ [none] ++ [some ⟨false, xs.map fun (x : Nat) => .int .u8 x⟩]) (x := some ⟨false, [.bool true, .slice (some ⟨h.length + 1, 0, none⟩) xs.length 1, .int .i64 0]⟩)
    simpa using this
  · refine ⟨by simp, .inr ⟨h.length + 1, 0, rfl, .inr ⟨⟨false, xs.map fun (x : Nat) => .int .u8 x⟩, blk?_push e1, by simp, by rw [List.drop_zero, List.take_of_length_le (by simp)]⟩⟩⟩
  · intro id off n c e
    injection e with e; injection e with e; injection e with e; omega
  · rw [blk?_push_lt (by simp; omega), blk?_push_lt (by simp; omega), blk?_push_lt hid]
  · injection e with e; injection e with e; injection e with e; simp; omega
end Go.Proofs.Ytlflfkdnpalhlaa
