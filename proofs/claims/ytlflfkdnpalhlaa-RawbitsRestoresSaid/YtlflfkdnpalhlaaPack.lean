/-
  Bits in bytes: plain facts, no program in sight.
-/
namespace Go.Proofs.Ytlflfkdnpalhlaa

def bitAt (xs : List Nat) (n : Nat) : Nat := (xs.getD (n / 8) 0) / 2 ^ (7 - n % 8) % 2

/-- Byte j of some bits. -/
def byteAt (bs : List Nat) (j : Nat) : Nat :=
  bs.getD (8 * j) 0 * 128 + bs.getD (8 * j + 1) 0 * 64 + bs.getD (8 * j + 2) 0 * 32 + bs.getD (8 * j + 3) 0 * 16 + bs.getD (8 * j + 4) 0 * 8 + bs.getD (8 * j + 5) 0 * 4 + bs.getD (8 * j + 6) 0 * 2 + bs.getD (8 * j + 7) 0

/-- The first m bytes of some bits. -/
def bytesOf (bs : List Nat) (m : Nat) : List Nat := (List.range m).map (byteAt bs)
def pack (bs : List Nat) : List Nat := bytesOf bs ((bs.length + 7) / 8)

def AreBits (bs : List Nat) : Prop := ∀ b ∈ bs, b ≤ 1

theorem AreBits.getD {bs : List Nat} (h : AreBits bs) (i : Nat) : bs.getD i 0 ≤ 1 := by
  rw [List.getD_eq_getElem?_getD]
  cases hi : bs[i]? with
  | none => simp
  | some b => exact h b (List.mem_of_getElem? hi)

theorem AreBits.push {bs : List Nat} (h : AreBits bs) {b : Nat} (hb : b ≤ 1) : AreBits (bs ++ [b]) := by
  intro x hx
  rw [List.mem_append] at hx
  rcases hx with hx | hx
  · exact h x hx
  · simp at hx; omega

theorem byteAt_lt {bs : List Nat} (h : AreBits bs) (j : Nat) : byteAt bs j < 256 := by
  unfold byteAt
  have := h.getD (8 * j); have := h.getD (8 * j + 1); have := h.getD (8 * j + 2); have := h.getD (8 * j + 3)
  have := h.getD (8 * j + 4); have := h.getD (8 * j + 5); have := h.getD (8 * j + 6); have := h.getD (8 * j + 7)
  omega

theorem getD_push (bs : List Nat) (b i : Nat) : (bs ++ [b]).getD i 0 = if i = bs.length then b else bs.getD i 0 := by
  simp only [List.getD_eq_getElem?_getD]
  by_cases h : i < bs.length
  · rw [List.getElem?_append_left h, if_neg (by omega)]
  · by_cases h2 : i = bs.length
    · subst h2; simp
    · rw [if_neg h2, List.getElem?_eq_none (by simp; omega), List.getElem?_eq_none (by omega)]

theorem getD_out {bs : List Nat} {i : Nat} (h : bs.length ≤ i) : bs.getD i 0 = 0 := by
  rw [List.getD_eq_getElem?_getD, List.getElem?_eq_none h]; rfl

/-- One bit more. -/
theorem byteAt_push (bs : List Nat) (b j : Nat) : byteAt (bs ++ [b]) j = if j = bs.length / 8 then byteAt bs j + b * 2 ^ (7 - bs.length % 8) else byteAt bs j := by
  unfold byteAt
  simp only [getD_push]
  by_cases hj : j = bs.length / 8
  · rw [if_pos hj]
    have h8 : bs.length % 8 < 8 := Nat.mod_lt _ (by omega)
    generalize hn : bs.length = n at *
    have : n % 8 = 0 ∨ n % 8 = 1 ∨ n % 8 = 2 ∨ n % 8 = 3 ∨ n % 8 = 4 ∨ n % 8 = 5 ∨ n % 8 = 6 ∨ n % 8 = 7 := by omega
    rcases this with h | h | h | h | h | h | h | h
    · rw [if_pos (by omega), if_neg (by omega), if_neg (by omega), if_neg (by omega), if_neg (by omega), if_neg (by omega), if_neg (by omega), if_neg (by omega), getD_out (show bs.length ≤ 8 * j by omega), h]; omega
    · rw [if_neg (by omega), if_pos (by omega), if_neg (by omega), if_neg (by omega), if_neg (by omega), if_neg (by omega), if_neg (by omega), if_neg (by omega), getD_out (show bs.length ≤ 8 * j + 1 by omega), h]; omega
    · rw [if_neg (by omega), if_neg (by omega), if_pos (by omega), if_neg (by omega), if_neg (by omega), if_neg (by omega), if_neg (by omega), if_neg (by omega), getD_out (show bs.length ≤ 8 * j + 2 by omega), h]; omega
    · rw [if_neg (by omega), if_neg (by omega), if_neg (by omega), if_pos (by omega), if_neg (by omega), if_neg (by omega), if_neg (by omega), if_neg (by omega), getD_out (show bs.length ≤ 8 * j + 3 by omega), h]; omega
    · rw [if_neg (by omega), if_neg (by omega), if_neg (by omega), if_neg (by omega), if_pos (by omega), if_neg (by omega), if_neg (by omega), if_neg (by omega), getD_out (show bs.length ≤ 8 * j + 4 by omega), h]; omega
    · rw [if_neg (by omega), if_neg (by omega), if_neg (by omega), if_neg (by omega), if_neg (by omega), if_pos (by omega), if_neg (by omega), if_neg (by omega), getD_out (show bs.length ≤ 8 * j + 5 by omega), h]; omega
    · rw [if_neg (by omega), if_neg (by omega), if_neg (by omega), if_neg (by omega), if_neg (by omega), if_neg (by omega), if_pos (by omega), if_neg (by omega), getD_out (show bs.length ≤ 8 * j + 6 by omega), h]; omega
    · rw [if_neg (by omega), if_neg (by omega), if_neg (by omega), if_neg (by omega), if_neg (by omega), if_neg (by omega), if_neg (by omega), if_pos (by omega), getD_out (show bs.length ≤ 8 * j + 7 by omega), h]; omega
  · rw [if_neg hj]
    rw [if_neg (by omega), if_neg (by omega), if_neg (by omega), if_neg (by omega), if_neg (by omega), if_neg (by omega), if_neg (by omega), if_neg (by omega)]

/-- The bits behind the end of some bits are none. -/
theorem byteAt_mod (bs : List Nat) : byteAt bs (bs.length / 8) % 2 ^ (8 - bs.length % 8) = 0 := by
  unfold byteAt
  have h8 : bs.length % 8 < 8 := Nat.mod_lt _ (by omega)
  have out : ∀ i, bs.length % 8 ≤ i → bs.getD (8 * (bs.length / 8) + i) 0 = 0 := fun i hi => getD_out (by omega)
  have : bs.length % 8 = 0 ∨ bs.length % 8 = 1 ∨ bs.length % 8 = 2 ∨ bs.length % 8 = 3 ∨ bs.length % 8 = 4 ∨ bs.length % 8 = 5 ∨ bs.length % 8 = 6 ∨ bs.length % 8 = 7 := by omega
  have o7 := out 7 (by omega)
  rcases this with h | h | h | h | h | h | h | h <;> rw [h] at out ⊢ <;> rw [o7]
  · rw [show 8 * (bs.length / 8) = 8 * (bs.length / 8) + 0 from rfl, out 0 (by omega), out 1 (by omega), out 2 (by omega), out 3 (by omega), out 4 (by omega), out 5 (by omega), out 6 (by omega)]
  · rw [out 1 (by omega), out 2 (by omega), out 3 (by omega), out 4 (by omega), out 5 (by omega), out 6 (by omega)]; omega
  · rw [out 2 (by omega), out 3 (by omega), out 4 (by omega), out 5 (by omega), out 6 (by omega)]; omega
  · rw [out 3 (by omega), out 4 (by omega), out 5 (by omega), out 6 (by omega)]; omega
  · rw [out 4 (by omega), out 5 (by omega), out 6 (by omega)]; omega
  · rw [out 5 (by omega), out 6 (by omega)]; omega
  · rw [out 6 (by omega)]; omega
  · omega

/-- A bit of a byte. -/
theorem byteAt_bit {bs : List Nat} (h : AreBits bs) (i : Nat) : byteAt bs (i / 8) / 2 ^ (7 - i % 8) % 2 = bs.getD i 0 := by
  unfold byteAt
  have h0 := h.getD (8 * (i / 8)); have h1 := h.getD (8 * (i / 8) + 1); have h2 := h.getD (8 * (i / 8) + 2); have h3 := h.getD (8 * (i / 8) + 3)
  have h4 := h.getD (8 * (i / 8) + 4); have h5 := h.getD (8 * (i / 8) + 5); have h6 := h.getD (8 * (i / 8) + 6); have h7 := h.getD (8 * (i / 8) + 7)
  have h8 : i % 8 < 8 := Nat.mod_lt _ (by omega)
  have e : bs.getD i 0 = bs.getD (8 * (i / 8) + i % 8) 0 := by rw [Nat.div_add_mod]
  rw [e]
  have : i % 8 = 0 ∨ i % 8 = 1 ∨ i % 8 = 2 ∨ i % 8 = 3 ∨ i % 8 = 4 ∨ i % 8 = 5 ∨ i % 8 = 6 ∨ i % 8 = 7 := by omega
  rcases this with h | h | h | h | h | h | h | h <;> rw [h] <;> (try simp only [Nat.add_zero]) <;> omega

theorem bytesOf_get {bs : List Nat} {m j : Nat} (h : j < m) : (bytesOf bs m)[j]? = some (byteAt bs j) := by
  simp [bytesOf, h]
theorem bytesOf_length (bs : List Nat) (m : Nat) : (bytesOf bs m).length = m := by simp [bytesOf]
theorem pack_length (bs : List Nat) : (pack bs).length = (bs.length + 7) / 8 := bytesOf_length _ _

theorem byteAt_out {bs : List Nat} {j : Nat} (h : bs.length ≤ 8 * j) : byteAt bs j = 0 := by
  unfold byteAt
  rw [getD_out h, getD_out (show bs.length ≤ 8 * j + 1 by omega), getD_out (show bs.length ≤ 8 * j + 2 by omega), getD_out (show bs.length ≤ 8 * j + 3 by omega), getD_out (show bs.length ≤ 8 * j + 4 by omega), getD_out (show bs.length ≤ 8 * j + 5 by omega), getD_out (show bs.length ≤ 8 * j + 6 by omega), getD_out (show bs.length ≤ 8 * j + 7 by omega)]

theorem pack_getD (bs : List Nat) (j : Nat) : (pack bs).getD j 0 = byteAt bs j := by
  rw [List.getD_eq_getElem?_getD]
  by_cases h : j < (bs.length + 7) / 8
  · rw [pack, bytesOf_get h]; rfl
  · rw [List.getElem?_eq_none (by rw [pack_length]; omega), byteAt_out (by omega)]; rfl

theorem bitAt_pack {bs : List Nat} (h : AreBits bs) (i : Nat) : bitAt (pack bs) i = bs.getD i 0 := by
  rw [bitAt, pack_getD, byteAt_bit h]

/-- A whole byte is begun. -/
theorem pack_push0 {bs : List Nat} {b : Nat} (h : bs.length % 8 = 0) : pack (bs ++ [b]) = pack bs ++ [b * 128] := by
  apply List.ext_getElem?
  intro j
  have hl : ((bs ++ [b]).length + 7) / 8 = (bs.length + 7) / 8 + 1 := by simp; omega
  by_cases hj : j < (bs.length + 7) / 8
  · rw [List.getElem?_append_left (by rw [pack_length]; exact hj), pack, pack, hl, bytesOf_get (by omega), bytesOf_get hj, byteAt_push, if_neg (by omega)]
  · by_cases hj2 : j = (bs.length + 7) / 8
    · subst hj2
      rw [pack, hl, bytesOf_get (by omega), byteAt_push, if_pos (by omega), h, byteAt_out (by omega)]
      rw [List.getElem?_append_right (by rw [pack_length]; omega), pack_length]; simp
    · rw [List.getElem?_eq_none (by rw [pack_length, hl]; omega), List.getElem?_eq_none (by rw [List.length_append, pack_length]; simp; omega)]

/-- A byte goes on. -/
theorem pack_push1 {bs : List Nat} {b : Nat} (h : bs.length % 8 ≠ 0) : pack (bs ++ [b]) = (pack bs).set (bs.length / 8) (byteAt bs (bs.length / 8) + b * 2 ^ (7 - bs.length % 8)) := by
  apply List.ext_getElem?
  intro j
  have hl : ((bs ++ [b]).length + 7) / 8 = (bs.length + 7) / 8 := by simp; omega
  rw [List.getElem?_set, pack_length]
  by_cases hj : j < (bs.length + 7) / 8
  · rw [pack, hl, bytesOf_get hj, byteAt_push]
    by_cases he : j = bs.length / 8
    · subst he; rw [if_pos rfl, if_pos rfl, if_pos hj]
    · rw [if_neg he, if_neg (Ne.symm he), pack, bytesOf_get hj]
  · rw [List.getElem?_eq_none (by rw [pack_length, hl]; omega), if_neg (by omega), List.getElem?_eq_none (by rw [pack_length]; omega)]

/-- Where the zero bytes at the end begin. -/
def Trim (xs : List Nat) (m : Nat) : Prop := m ≤ xs.length ∧ (∀ j, m ≤ j → xs.getD j 0 = 0) ∧ (m = 0 ∨ xs.getD (m - 1) 0 ≠ 0)
theorem Trim.unique {xs : List Nat} {m n : Nat} (h : Trim xs m) (k : Trim xs n) : m = n := by
  obtain ⟨_, a2, a3⟩ := h
  obtain ⟨_, b2, b3⟩ := k
  rcases Nat.lt_trichotomy m n with hl | hl | hl
  · rcases b3 with b3 | b3
    · omega
    · exact absurd (a2 (n - 1) (by omega)) b3
  · exact hl
  · rcases a3 with a3 | a3
    · omega
    · exact absurd (b2 (m - 1) (by omega)) a3

/-- The bytes without the zeros answer the same bits. -/
theorem bitAt_trim {xs : List Nat} {m : Nat} (h : Trim xs m) (i : Nat) : bitAt (xs.take m) i = bitAt xs i := by
  unfold bitAt
  congr 2
  simp only [List.getD_eq_getElem?_getD, List.getElem?_take]
  by_cases hi : i / 8 < m
  · rw [if_pos hi]
  · rw [if_neg hi]
    have := h.2.1 (i / 8) (by omega)
    rw [List.getD_eq_getElem?_getD] at this
    rw [this]; rfl

/-- The end of the last byte that is not zero, of the first i bits. -/
def endAt (bs : List Nat) : Nat → Nat
  | 0 => 0
  | i + 1 => if bs.getD i 0 = 1 then i / 8 + 1 else endAt bs i

theorem endAt_le (bs : List Nat) : ∀ i, endAt bs i ≤ (i + 7) / 8
  | 0 => by simp [endAt]
  | i + 1 => by
    have := endAt_le bs i
    unfold endAt
    split <;> omega

theorem endAt_zero {bs : List Nat} (h : AreBits bs) : ∀ i k, k < i → 8 * endAt bs i ≤ k → bs.getD k 0 = 0
  | 0, k, hk, _ => by omega
  | i + 1, k, hk, he => by
    unfold endAt at he
    split at he
    · omega
    · rename_i hb
      by_cases hki : k = i
      · subst hki; have := h.getD k; omega
      · exact endAt_zero h i k (by omega) he

theorem endAt_last {bs : List Nat} : ∀ i, endAt bs i = 0 ∨ ∃ k, k < i ∧ bs.getD k 0 = 1 ∧ k / 8 = endAt bs i - 1
  | 0 => .inl rfl
  | i + 1 => by
    unfold endAt
    split
    · rename_i hb
      exact .inr ⟨i, by omega, hb, by omega⟩
    · rcases endAt_last i with h | ⟨k, h1, h2, h3⟩
      · exact .inl h
      · exact .inr ⟨k, by omega, h2, h3⟩

theorem byteAt_zero {bs : List Nat} {j : Nat} (h : ∀ i, i < 8 → bs.getD (8 * j + i) 0 = 0) : byteAt bs j = 0 := by
  unfold byteAt
  rw [show 8 * j = 8 * j + 0 from rfl, h 0 (by omega), h 1 (by omega), h 2 (by omega), h 3 (by omega), h 4 (by omega), h 5 (by omega), h 6 (by omega), h 7 (by omega)]

theorem trim_end {bs : List Nat} (h : AreBits bs) : Trim (pack bs) (endAt bs bs.length) := by
  refine ⟨by rw [pack_length]; exact endAt_le _ _, fun j hj => ?_, ?_⟩
  · rw [pack_getD]
    refine byteAt_zero fun i hi => ?_
    by_cases hk : 8 * j + i < bs.length
    · exact endAt_zero h bs.length _ hk (by omega)
    · exact getD_out (by omega)
  · rcases endAt_last (bs := bs) bs.length with h0 | ⟨k, h1, h2, h3⟩
    · exact .inl h0
    · right
      rw [pack_getD]
      intro hz
      have := byteAt_bit h k
      rw [h3, hz] at this
      rw [h2] at this
      simp at this

/-- What a writer gives back. -/
def segOf (bs : List Nat) : List Nat := (pack bs).take (endAt bs bs.length)

theorem segOf_bit {bs : List Nat} (h : AreBits bs) (i : Nat) : bitAt (segOf bs) i = bs.getD i 0 := by
  rw [segOf, bitAt_trim (trim_end h), bitAt_pack h]

theorem pack_lt {bs : List Nat} (h : AreBits bs) : ∀ x ∈ pack bs, x < 256 := by
  intro x hx
  simp only [pack, bytesOf, List.mem_map] at hx
  obtain ⟨j, _, rfl⟩ := hx
  exact byteAt_lt h j
end Go.Proofs.Ytlflfkdnpalhlaa
