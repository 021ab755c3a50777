/-
  Rows of numbers; the number of bit planes; new blocks; the program's and the reference's.
  Rows of symbols, compared; the symbols of all passes.
  Lists of passes, compared and made.
  Symbols: the program's and the reference's come to the same.
  Symbols, on: the whole calls.
  Symbols: the reference's loops.
  Symbols: the reference's.
-/
import Derived.Test.YtlflfkdnpalhlaaRen5
import Derived.Test.YtlflfkdnpalhlaaSimX
namespace Go.Proofs.Ytlflfkdnpalhlaa
open Go Go.Sim
set_option linter.unusedSimpArgs false
set_option linter.unusedVariables false

theorem Sl_of_cells {h h' : Heap} {esz n : Nat} {s : Value} {cs : List Value} (hs : Sl h esz s n cs) (hk : ∀ id b, sid s = some id → blk? h id = some b → ∃ b', blk? h' id = some b' ∧ b'.cells = b.cells) : Sl h' esz s n cs := by
  obtain ⟨hl, hs⟩ := hs
  refine ⟨hl, ?_⟩
  rcases hs with hs | ⟨id, off, rfl, h0 | ⟨b, hb, hle, hc⟩⟩
  · exact .inl hs
  · exact .inr ⟨id, off, rfl, .inl h0⟩
  · obtain ⟨b', h1, h2⟩ := hk id b rfl hb
    exact .inr ⟨id, off, rfl, .inr ⟨b', h1, by rw [h2]; exact hle, by rw [h2]; exact hc⟩⟩

def i64s (xs : List Int) : List Value := xs.map fun v => .int .i64 v
/-- A row of integers. -/
structure Ints (h : Heap) (s : Value) (xs : List Int) : Prop where
  sl : Sl h 1 s xs.length (i64s xs)
  sb : below h.length s = true
  bl : ∀ id b, sid s = some id → blk? h id = some b → ∀ n, belowL n b.cells = true
  rng : ∀ v ∈ xs, -9223372036854775808 ≤ v ∧ v < 9223372036854775808

theorem Ints.frz {h : Heap} {s : Value} {xs : List Int} (hi : Ints h s xs) : Ints (frz h) s xs := by
  refine ⟨Sl_of_cells hi.sl fun id b hid hb => ⟨_, blk_frz hb (hi.bl id b hid hb _), rfl⟩, by rw [len_frz]; exact hi.sb, fun id b hid hb => ?_, hi.rng⟩
  obtain ⟨b0, h0, rfl, _⟩ := frz_some hb
  exact hi.bl id b0 hid h0
theorem below_sid {h h' : Heap} {s : Value} (hl : h.length ≤ h'.length) {a : Option Addr} {n c : Nat} (hs : s = .slice a n c) (hb : below h.length s = true) : below h'.length s = true := by
  subst hs
  cases a with
  | none => simp
  | some a => simp at hb ⊢; omega
theorem Ints.keep {h h' : Heap} {s : Value} {xs : List Int} (hi : Ints h s xs) (hl : h.length ≤ h'.length) (hk : ∀ id, id < h.length → sid s = some id → blk? h' id = blk? h id) : Ints h' s xs := by
  obtain ⟨a, c, hs⟩ := hi.sl.shape
  have hlt : ∀ id, sid s = some id → id < h.length := by
    intro id hid
    have := hi.sb
    rw [hs] at this hid
    cases a with
    | none => simp [sid] at hid
    | some a => simp [sid] at hid; simp at this; omega
  refine ⟨hi.sl.of_sid fun id b hid hb => by rw [hk id (blk?_lt hb) hid]; exact hb, below_sid hl hs hi.sb, fun id b hid hb => ?_, hi.rng⟩
  rw [hk id (hlt id hid) hid] at hb
  exact hi.bl id b hid hb
theorem Ints.get {h : Heap} {s : Value} {xs : List Int} (hi : Ints h s xs) {i : Nat} (hil : i < xs.length) :
    ∃ id off b, s = .slice (some ⟨id, off, none⟩) xs.length 1 ∧ blk? h id = some b ∧ b.cells[off + i]? = some (.int .i64 xs[i]) := by
  obtain ⟨id, off, b, hs, hb, hc⟩ := hi.sl.get hil
  refine ⟨id, off, b, hs, hb, ?_⟩
  have := hc 0 (by omega)
  simp only [Nat.mul_one, Nat.add_zero] at this
  rw [this]
  simp [i64s, hil]

/-! The number of binary digits. -/
def blen (n : Nat) : Nat := if n = 0 then 0 else n.log2 + 1
theorem blen_le {n k : Nat} : blen n ≤ k ↔ n < 2 ^ k := by
  unfold blen
  by_cases h : n = 0
  · subst h; simp [Nat.two_pow_pos]
  · rw [if_neg h]
    exact Nat.log2_lt h
theorem lt_blen {n k : Nat} : k < blen n ↔ 2 ^ k ≤ n := by
  have := @blen_le n k
  omega
theorem blen_half {n : Nat} (h : n ≠ 0) : blen n = blen (n / 2) + 1 := by
  apply Nat.le_antisymm
  · rw [blen_le]
    have := (@blen_le (n / 2) (blen (n / 2))).1 (Nat.le_refl _)
    rw [Nat.pow_succ]; omega
  · have h1 : blen (n / 2) < blen n := by
      rw [lt_blen]
      by_cases h0 : n / 2 = 0
      · rw [h0]
        show 2 ^ 0 ≤ n
        omega
      · have := (@lt_blen (n / 2) (blen (n / 2) - 1)).1 (by unfold blen; rw [if_neg h0]; omega)
        have h2 : blen (n / 2) = blen (n / 2) - 1 + 1 := by unfold blen; rw [if_neg h0]; omega
        rw [h2, Nat.pow_succ]; omega
    exact h1
theorem blen_or (a b : Nat) : blen (a ||| b) = max (blen a) (blen b) := by
  apply Nat.le_antisymm
  · rw [blen_le]
    apply Nat.or_lt_two_pow
    · exact blen_le.1 (Nat.le_max_left _ _)
    · exact blen_le.1 (Nat.le_max_right _ _)
  · apply Nat.max_le.2
    constructor
    · rw [blen_le]
      exact Nat.lt_of_le_of_lt Nat.left_le_or (blen_le.1 (Nat.le_refl _))
    · rw [blen_le]
      exact Nat.lt_of_le_of_lt Nat.right_le_or (blen_le.1 (Nat.le_refl _))
/-- The number of bit planes. -/
def planesOf (xs : List Int) : Nat := xs.foldl (fun n v => max n (blen v.natAbs)) 0
theorem planes_fold (xs : List Int) : ∀ n, xs.foldl (fun n v => max n (blen v.natAbs)) n = max n (planesOf xs) := by
  induction xs with
  | nil => intro n; simp [planesOf]
  | cons v xs ih =>
    intro n
    show List.foldl _ n (v :: xs) = max n (List.foldl _ 0 (v :: xs))
    rw [List.foldl_cons, List.foldl_cons, ih, ih (max 0 _)]
    omega
theorem planes_le {xs : List Int} {n : Nat} : planesOf xs ≤ n ↔ ∀ v ∈ xs, v.natAbs < 2 ^ n := by
  induction xs with
  | nil => simp [planesOf]
  | cons v xs ih =>
    have : planesOf (v :: xs) = max (blen v.natAbs) (planesOf xs) := by
      rw [planesOf, List.foldl_cons, planes_fold]; omega
    rw [this, Nat.max_le, blen_le, ih]; simp

section
variable {h : Heap} {R : Value → Heap → Prop}

theorem cnt_loop {k : List RItem} {v0 v2 : Value} (m : Nat)
    (hk : ∀ t1 t3 t4 t5 t7 t8 t9 t10 t11 t12 t13 t14 t15 t16 t17 t18 t19 t20 t21 t22 t23 t24 : Value, Ok tab R42 k #[v0, t1, v2, t3, t4, t5, .int .i64 m, t7, t8, t9, t10, t11, t12, t13, t14, t15, t16, t17, t18, t19, t20, t21, t22, t23, t24] h R) :
    ∀ (n a c : Nat) (t1 t4 t5 t7 t8 t9 t10 t11 t12 t13 t14 t15 t16 t17 t18 t19 t20 t21 t22 t23 t24 : Value), n = a → c + blen a = m → m ≤ 64 → a < 18446744073709551616 →
      Ok tab R42 (.inLoop L42_1 :: .inBlock 2 :: k) #[v0, t1, v2, .int .u64 a, t4, t5, .int .i64 c, t7, t8, t9, t10, t11, t12, t13, t14, t15, t16, t17, t18, t19, t20, t21, t22, t23, t24] h R := by
  intro n
  induction n using Nat.strongRecOn with
  | _ n ih =>
    intro a c t1 t4 t5 t7 t8 t9 t10 t11 t12 t13 t14 t15 t16 t17 t18 t19 t20 t21 t22 t23 t24 hn hc hm ha
    rw [ok_round, l42_1, L42_1a, L42_1b]
    by_cases h0 : a = 0
    · subst h0
      simp [blen] at hc
      subst hc
      simp
      exact hk _ _ _ _ _ _ _ _ _ _ _ _ _ _ _ _ _ _ _ _ _ _
    · have hlt : (0 : Int) < a := by omega
      have hb := blen_half h0
      have hsh : shrI .u64 (a : Int) 1 = ((a / 2 : Nat) : Int) := by
        have := shrN (i := .u64) (a := a) (b := 1) (by decide)
        simpa using this
      have hw : IntKind.i64.wrap ((c : Int) + 1) = ((c + 1 : Nat) : Int) := wrapN (n := c + 1) (by omega)
      have ih' := ih (a / 2) (by omega) (a / 2) (c + 1)
      generalize hq : ((c + 1 : Nat) : Int) = q at *
      generalize hq2 : ((a / 2 : Nat) : Int) = q2 at *
      simp [show 0 < a by omega, hsh, hw]
      exact ih' _ _ _ _ _ _ _ _ _ _ _ _ _ _ _ _ _ _ _ _ _ rfl (by omega) hm (by omega)

theorem or_loop {k : List RItem} {s v0 v2 : Value} {xs : List Int} (hi : Ints h s xs)
    (hk : ∀ (a : Nat) (t1 t4 t5 t6 t7 t8 t9 t10 t11 t12 t13 t14 t15 t16 t17 t18 t19 t20 t21 t22 t23 t24 : Value), blen a = planesOf xs → a < 18446744073709551616 → Ok tab R42 k #[v0, t1, v2, .int .u64 a, t4, t5, t6, t7, t8, t9, t10, t11, t12, t13, t14, t15, t16, t17, t18, t19, t20, t21, t22, t23, t24] h R) :
    ∀ (n i a : Nat) (t1 t4 t5 t6 t10 t11 t12 t13 t14 t15 t16 t17 t18 t19 t20 t21 t22 t23 t24 : Value), n = xs.length - i → i ≤ xs.length → blen a = planesOf (xs.take i) → a < 18446744073709551616 → xs.length < 9000000000 →
      Ok tab R42 (.inLoop L42_0 :: .inBlock 0 :: k) #[v0, t1, v2, .int .u64 a, t4, t5, t6, s, .int .i64 xs.length, .int .i64 i, t10, t11, t12, t13, t14, t15, t16, t17, t18, t19, t20, t21, t22, t23, t24] h R := by
  intro n
  induction n with
  | zero =>
    intro i a t1 t4 t5 t6 t10 t11 t12 t13 t14 t15 t16 t17 t18 t19 t20 t21 t22 t23 t24 hn hi' hb ha hl
    have hlt : ¬ ((i : Int) < xs.length) := by omega
    rw [ok_round, l42_0, L42_0a, L42_0b]
    simp [hlt]
    exact hk a _ _ _ _ _ _ _ _ _ _ _ _ _ _ _ _ _ _ _ _ _ _ (by rw [hb, List.take_of_length_le (by omega)]) ha
  | succ n ih =>
    intro i a t1 t4 t5 t6 t10 t11 t12 t13 t14 t15 t16 t17 t18 t19 t20 t21 t22 t23 t24 hn hi' hb ha hl
    have hlt : ((i : Int) < xs.length) := by omega
    have hil : i < xs.length := by omega
    have hw : IntKind.i64.wrap ((i : Int) + 1) = ((i + 1 : Nat) : Int) := wrapN (n := i + 1) (by omega)
    obtain ⟨id, off, b, hs, hbk, hc⟩ := hi.get hil
    obtain ⟨r1, r2⟩ := hi.rng xs[i] (List.getElem_mem hil)
    have hm := fun R => magnitude_c (h := h) (R := R) r1 r2
    have ho : orI .u64 (a : Int) (xs[i].natAbs : Int) = ((a ||| xs[i].natAbs : Nat) : Int) := u64_or_nat a xs[i].natAbs ha (by omega)
    have hlt64 : a ||| xs[i].natAbs < 2 ^ 64 := Nat.or_lt_two_pow ha (by omega)
    have hb' : blen (a ||| xs[i].natAbs) = planesOf (xs.take (i + 1)) := by
      rw [blen_or, hb, List.take_succ_eq_append_getElem hil, planesOf, planesOf, List.foldl_append]; rfl
    have ih' := ih (i + 1) (a ||| xs[i].natAbs)
    rw [ok_round, l42_0, L42_0a, L42_0b]
    generalize hq : ((i + 1 : Nat) : Int) = q at *
    generalize hq2 : ((a ||| xs[i].natAbs : Nat) : Int) = q2 at *
    simp [hlt, hs, hbk, hc, hm, ho, hw]
    rw [← hs]
    exact ih' _ _ _ _ _ _ _ _ _ _ _ _ _ _ _ _ _ _ _ (by omega) (by omega) hb' hlt64 hl

theorem planes_64 {h : Heap} {s : Value} {xs : List Int} (hi : Ints h s xs) : planesOf xs ≤ 64 := by
  rw [planes_le]
  intro v hv
  have := hi.rng v hv
  omega

theorem planes_c {s : Value} {xs : List Int} (hi : Ints h s xs) (hl : xs.length < 9000000000) : Ret tab 42 [s] h R = R (.int .i64 (planesOf xs)) h := by
  obtain ⟨a, cc, hs⟩ := hi.sl.shape
  have key : Ret tab 42 [s] h fun v h' => v = .int .i64 (planesOf xs) ∧ h' = h := by
    rw [enter42, B42]
    refine ⟨by simp [hi.sb], ?_⟩
    simp [hs]
    rw [← hs]
    refine or_loop hi.frz ?_ _ 0 0 _ _ _ _ _ _ _ _ _ _ _ _ _ _ _ _ _ _ _ rfl (by omega) (by simp [planesOf, blen]) (by omega) hl
    intro a t1 t4 t5 t6 t7 t8 t9 t10 t11 t12 t13 t14 t15 t16 t17 t18 t19 t20 t21 t22 t23 t24 hb ha
    simp
    refine cnt_loop (planesOf xs) ?_ a a 0 _ _ _ _ _ _ _ _ _ _ _ _ _ _ _ _ _ _ _ _ _ rfl (by omega) (planes_64 hi) ha
    intro t1 t3 t4 t5 t7 t8 t9 t10 t11 t12 t13 t14 t15 t16 t17 t18 t19 t20 t21 t22 t23 t24
    simp [fin42]
  obtain ⟨v, h', e, rfl, rfl⟩ := ret_ex key
  exact e R

theorem in_loop {k : List RItem} {v0 v2 v6 v7 v8 : Value} {v : Int} (r1 : -9223372036854775808 ≤ v) (r2 : v < 9223372036854775808) (m : Nat)
    (hk : ∀ t1 t4 t5 t9 t10 t11 t12 t13 t14 t15 t16 t17 t18 t19 t20 t21 t22 t23 t24 t25 : Value, Ok tab R43 k #[v0, t1, v2, .int .i64 m, t4, t5, v6, v7, v8, t9, t10, t11, t12, t13, t14, t15, t16, t17, t18, t19, t20, t21, t22, t23, t24, t25] h R) :
    ∀ (n c : Nat) (t1 t4 t9 t10 t11 t12 t13 t14 t15 t16 t17 t18 t19 t20 t21 t22 t23 t24 t25 : Value), c + n = m → m = max c (blen v.natAbs) → m ≤ 64 →
      Ok tab R43 (.inLoop L43_0 :: .inBlock 2 :: k) #[v0, t1, v2, .int .i64 c, t4, .int .i64 v, v6, v7, v8, t9, t10, t11, t12, t13, t14, t15, t16, t17, t18, t19, t20, t21, t22, t23, t24, t25] h R := by
  intro n
  have hm := fun R => abs_r (h := h) (R := R) r1 r2
  induction n with
  | zero =>
    intro c t1 t4 t9 t10 t11 t12 t13 t14 t15 t16 t17 t18 t19 t20 t21 t22 t23 t24 t25 hc hmx hm64
    have hcm : c = m := by omega
    subst hcm
    rw [ok_round, l43_0, L43_0a, L43_0b]
    by_cases h64 : c < 64
    · have h64' : (c : Int) < 64 := by omega
      have hwu : IntKind.u64.wrap (c : Int) = (c : Int) := wrapU (by omega)
      have hc0 : ¬ (c : Int) < 0 := by omega
      have hsh : shrI .u64 (v.natAbs : Int) (c : Int) = ((v.natAbs / 2 ^ c : Nat) : Int) := shrN (show c ≤ 64 by omega)
      have hz : v.natAbs / 2 ^ c = 0 := Nat.div_eq_of_lt (blen_le.1 (by omega))
      rw [hz] at hsh
      simp [k_guard, h64', hm, hwu, hc0, hsh]
      exact hk _ _ _ _ _ _ _ _ _ _ _ _ _ _ _ _ _ _ _ _
    · have h64' : ¬ (c : Int) < 64 := by omega
      simp [k_guard, k_guardU, h64']
      exact hk _ _ _ _ _ _ _ _ _ _ _ _ _ _ _ _ _ _ _ _
  | succ n ih =>
    intro c t1 t4 t9 t10 t11 t12 t13 t14 t15 t16 t17 t18 t19 t20 t21 t22 t23 t24 t25 hc hmx hm64
    have h64' : (c : Int) < 64 := by omega
    have hwu : IntKind.u64.wrap (c : Int) = (c : Int) := wrapU (by omega)
    have hc0 : ¬ (c : Int) < 0 := by omega
    have hsh : shrI .u64 (v.natAbs : Int) (c : Int) = ((v.natAbs / 2 ^ c : Nat) : Int) := shrN (show c ≤ 64 by omega)
    have hpos : (0 : Int) < ((v.natAbs / 2 ^ c : Nat) : Int) := by
      have := (lt_blen (n := v.natAbs) (k := c)).1 (by omega)
      have := Nat.div_pos this (Nat.two_pow_pos c)
      omega
    have hw : IntKind.i64.wrap ((c : Int) + 1) = ((c + 1 : Nat) : Int) := wrapN (n := c + 1) (by omega)
    have ih' := ih (c + 1)
    rw [ok_round, l43_0, L43_0a, L43_0b]
    generalize hq : ((c + 1 : Nat) : Int) = q at *
    generalize hq2 : ((v.natAbs / 2 ^ c : Nat) : Int) = q2 at *
    simp [k_guard, h64', hm, hwu, hc0, hsh, hpos, hw]
    exact ih' _ _ _ _ _ _ _ _ _ _ _ _ _ _ _ _ _ _ _ (by omega) (by omega) hm64

theorem max_loop {k : List RItem} {s v0 v2 : Value} {xs : List Int} (hi : Ints h s xs)
    (hk : ∀ t1 t4 t5 t6 t7 t8 t9 t10 t11 t12 t13 t14 t15 t16 t17 t18 t19 t20 t21 t22 t23 t24 t25 : Value, Ok tab R43 k #[v0, t1, v2, .int .i64 (planesOf xs), t4, t5, t6, t7, t8, t9, t10, t11, t12, t13, t14, t15, t16, t17, t18, t19, t20, t21, t22, t23, t24, t25] h R) :
    ∀ (n i : Nat) (t1 t4 t5 t9 t10 t11 t12 t13 t14 t15 t16 t17 t18 t19 t20 t21 t22 t23 t24 t25 : Value), n = xs.length - i → i ≤ xs.length → xs.length < 9000000000 →
      Ok tab R43 (.inLoop L43_1 :: .inBlock 0 :: k) #[v0, t1, v2, .int .i64 (planesOf (xs.take i)), t4, t5, s, .int .i64 xs.length, .int .i64 i, t9, t10, t11, t12, t13, t14, t15, t16, t17, t18, t19, t20, t21, t22, t23, t24, t25] h R := by
  intro n
  have h64 := planes_64 hi
  induction n with
  | zero =>
    intro i t1 t4 t5 t9 t10 t11 t12 t13 t14 t15 t16 t17 t18 t19 t20 t21 t22 t23 t24 t25 hn hi' hl
    have hlt : ¬ ((i : Int) < xs.length) := by omega
    rw [ok_round, l43_1, L43_1a, L43_1b, List.take_of_length_le (by omega)]
    simp [hlt]
    exact hk _ _ _ _ _ _ _ _ _ _ _ _ _ _ _ _ _ _ _ _ _ _ _
  | succ n ih =>
    intro i t1 t4 t5 t9 t10 t11 t12 t13 t14 t15 t16 t17 t18 t19 t20 t21 t22 t23 t24 t25 hn hi' hl
    have hlt : ((i : Int) < xs.length) := by omega
    have hil : i < xs.length := by omega
    have hw : IntKind.i64.wrap ((i : Int) + 1) = ((i + 1 : Nat) : Int) := wrapN (n := i + 1) (by omega)
    obtain ⟨id, off, b, hs, hbk, hc⟩ := hi.get hil
    obtain ⟨r1, r2⟩ := hi.rng xs[i] (List.getElem_mem hil)
    have hp : planesOf (xs.take (i + 1)) = max (planesOf (xs.take i)) (blen xs[i].natAbs) := by
      rw [List.take_succ_eq_append_getElem hil, planesOf, planesOf, List.foldl_append]; rfl
    have hp64 : planesOf (xs.take (i + 1)) ≤ 64 := by
      rw [planes_le] at h64 ⊢
      exact fun v hv => h64 v (List.mem_of_mem_take hv)
    have ih' := ih (i + 1)
    rw [ok_round, l43_1, L43_1a, L43_1b]
    generalize hq : ((i + 1 : Nat) : Int) = q at *
    simp [hlt, hs, hbk, hc]
    rw [← hs]
    refine in_loop r1 r2 (planesOf (xs.take (i + 1))) ?_ (planesOf (xs.take (i + 1)) - planesOf (xs.take i)) (planesOf (xs.take i)) _ _ _ _ _ _ _ _ _ _ _ _ _ _ _ _ _ _ _ (by omega) hp hp64
    intro t1 t4 t5 t9 t10 t11 t12 t13 t14 t15 t16 t17 t18 t19 t20 t21 t22 t23 t24 t25
    simp [hw]
    exact ih' _ _ _ _ _ _ _ _ _ _ _ _ _ _ _ _ _ _ _ _ (by omega) (by omega) hl

theorem planes_r {s : Value} {xs : List Int} (hi : Ints h s xs) (hl : xs.length < 9000000000) : Ret tab 43 [s] h R = R (.int .i64 (planesOf xs)) h := by
  obtain ⟨a, cc, hs⟩ := hi.sl.shape
  have key : Ret tab 43 [s] h fun v h' => v = .int .i64 (planesOf xs) ∧ h' = h := by
    rw [enter43, B43]
    refine ⟨by simp [hi.sb], ?_⟩
    simp [hs]
    rw [← hs]
    refine max_loop hi.frz ?_ _ 0 _ _ _ _ _ _ _ _ _ _ _ _ _ _ _ _ _ _ _ _ rfl (by omega) hl
    intro t1 t4 t5 t6 t7 t8 t9 t10 t11 t12 t13 t14 t15 t16 t17 t18 t19 t20 t21 t22 t23 t24 t25
    simp [fin43]
  obtain ⟨v, h', e, rfl, rfl⟩ := ret_ex key
  exact e R

theorem fewValues_r {s : Value} {xs : List Int} (hi : Ints h s xs) (hl : xs.length < 9000000000) {n : Int} : Ret tab 50 [s, .int .i64 n] h R = R (.bool (decide ((planesOf xs : Int) ≤ n))) h := by
  rw [enter50, B50]
  simp [hi.sb, planes_r hi.frz hl, fin50]
end

/-! New blocks. -/
def blank (n : Nat) : List Cell := List.replicate n .zero
theorem repL_blank : ∀ n, repL [.int .i64 0, .bool false, .bool false, .bool false] n = encC (blank n)
  | 0 => rfl
  | n + 1 => by rw [repL, repL_blank n, blank, blank, List.replicate_succ, encC]; rfl
def newBS (w h : Nat) : BS := ⟨w, h, blank (w * h)⟩
theorem newBS_good {w h : Nat} (w1 : 1 ≤ w) (w2 : w ≤ 64) (h1 : 1 ≤ h) (h2 : h ≤ 64) : (newBS w h).Good := by
  refine ⟨⟨w1, w2, h1, h2, by simp [newBS, blank]⟩, fun x y => ?_⟩
  have : (newBS w h).get x y = .zero := by
    unfold BS.get
    split
    · simp only [newBS, blank, List.getD_eq_getElem?_getD, List.getElem?_replicate]
      split <;> rfl
    · rfl
  rw [this]; simp [Cell.zero]
def sized (w h : Int) : Bool := decide (1 ≤ w ∧ w ≤ 64 ∧ 1 ≤ h ∧ h ≤ 64)

section
variable {h : Heap} {R : Value → Heap → Prop}
theorem sized_ci {w hh : Int} : Ret tab 84 [.int .i64 w, .int .i64 hh] h R = R (.bool (sized w hh)) h := by
  rw [enter84, B84]
  by_cases a1 : 1 ≤ w
  · by_cases a2 : w ≤ 64
    · by_cases a3 : 1 ≤ hh
      · by_cases a4 : hh ≤ 64 <;> simp [k_guard, a1, a2, a3, a4, fin84, sized]
      · simp [k_guard, a1, a2, a3, fin84, sized]
    · simp [k_guard, a1, a2, fin84, sized]
  · simp [k_guard, a1, fin84, sized]
theorem sized_ri {w hh : Int} : Ret tab 85 [.int .i64 w, .int .i64 hh] h R = R (.bool (sized w hh)) h := by
  rw [enter85, B85]
  by_cases a1 : 1 ≤ w
  · by_cases a2 : w ≤ 64
    · by_cases a3 : 1 ≤ hh
      · by_cases a4 : hh ≤ 64 <;> simp [k_guard, a1, a2, a3, a4, fin85, sized]
      · simp [k_guard, a1, a2, a3, fin85, sized]
    · simp [k_guard, a1, a2, fin85, sized]
  · simp [k_guard, a1, fin85, sized]

/-- What New leaves. -/
def newHeap (h : Heap) (w hh : Nat) : Heap := h ++ [some ⟨false, encC (blank (w * hh))⟩, some ⟨false, [.int .i64 w, .int .i64 hh, .slice (some ⟨h.length, 0, none⟩) (w * hh) 4]⟩]
theorem newHeap_cb (h : Heap) {w hh : Nat} (w1 : 1 ≤ w) (w2 : w ≤ 64) (h1 : 1 ≤ hh) (h2 : hh ≤ 64) : CB (newHeap h w hh) false (h.length + 1) h.length (newBS w hh) :=
  ⟨by unfold newHeap; rw [app_add]; rfl, by unfold newHeap; rw [app_len]; rfl, (newBS_good w1 w2 h1 h2).ok⟩
theorem newHeap_low (h : Heap) (w hh : Nat) : ∀ id, id < h.length → blk? (newHeap h w hh) id = blk? h id := fun id hid => app_lt hid
theorem newHeap_len (h : Heap) (w hh : Nat) : (newHeap h w hh).length = h.length + 2 := by simp [newHeap]

theorem new_c {w hh : Nat} (w1 : 1 ≤ w) (w2 : w ≤ 64) (h1 : 1 ≤ hh) (h2 : hh ≤ 64) : Ret tab 51 [.int .i64 w, .int .i64 hh] h R = R (.tuple #[ptr (h.length + 1), .int .i64 0]) (newHeap h w hh) := by
  have hm : w * hh ≤ 64 * 64 := Nat.mul_le_mul w2 h2
  have hs := fun R => sized_c (h := h) (R := R) w1 w2 h1 h2
  have hw : IntKind.i64.wrap ((w : Int) * hh) = ((w * hh : Nat) : Int) := by rw [← Int.natCast_mul]; exact wrapN (by omega)
  have hr : ((w * hh : Nat) : Int) ≤ (roomCells : Int) := by unfold roomCells; omega
  rw [enter51, B51]
  simp [-Int.natCast_mul, hs, hw, hr, repL_blank, fin51, newHeap]
theorem new_r {w hh : Nat} (w1 : 1 ≤ w) (w2 : w ≤ 64) (h1 : 1 ≤ hh) (h2 : hh ≤ 64) : Ret tab 52 [.int .i64 w, .int .i64 hh] h R = R (.tuple #[ptr (h.length + 1), .int .i64 0]) (newHeap h w hh) := by
  have hm : w * hh ≤ 64 * 64 := Nat.mul_le_mul w2 h2
  have hs := fun R => Go.Proofs.Ytlflfkdnpalhlaa.sized_r (h := h) (R := R) w1 w2 h1 h2
  have hw : IntKind.i64.wrap ((w : Int) * hh) = ((w * hh : Nat) : Int) := by rw [← Int.natCast_mul]; exact wrapN (by omega)
  have hr : ((w * hh : Nat) : Int) ≤ (roomCells : Int) := by unfold roomCells; omega
  rw [enter52, B52]
  simp [-Int.natCast_mul, hs, hw, hr, repL_blank, fin52, newHeap]
theorem new_bad {w hh : Int} (hs : sized w hh = false) : Ret tab 51 [.int .i64 w, .int .i64 hh] h R = R (.tuple #[.pointer none, .int .i64 2]) h := by
  rw [enter51, B51]
  simp [sized_ci, hs, fin51]
end
end Go.Proofs.Ytlflfkdnpalhlaa
namespace Go.Proofs.Ytlflfkdnpalhlaa
open Go Go.Sim
set_option linter.unusedSimpArgs false
set_option linter.unusedVariables false

/-- A row of symbols. -/
structure Syms (h : Heap) (s : Value) (l : List (Int × Nat)) : Prop where
  sl : Sl h 2 s l.length (encS l)
  sb : below h.length s = true
  bl : ∀ id b, sid s = some id → blk? h id = some b → ∀ n, belowL n b.cells = true
theorem encS_below (n : Nat) : ∀ l, belowL n (encS l) = true
  | [] => by simp [encS]
  | p :: l => by simp [encS, encS_below n l]
theorem syms_own {h : Heap} {s : Value} {l : List (Int × Nat)} (ho : OwnS h 2 s l.length (encS l)) : Syms h s l := by
  refine ⟨ho.sl, own_below ho (Nat.le_refl _), fun id b hid hb n => ?_⟩
  rcases ho.2 with ⟨rfl, _⟩ | ⟨id', rfl, hb'⟩
  · simp [sid] at hid
  · simp [sid] at hid; subst hid
    rw [hb'] at hb; injection hb with hb; subst hb
    exact encS_below n l
theorem Syms.frz {h : Heap} {s : Value} {l : List (Int × Nat)} (hi : Syms h s l) : Syms (frz h) s l := by
  refine ⟨Sl_of_cells hi.sl fun id b hid hb => ⟨_, blk_frz hb (hi.bl id b hid hb _), rfl⟩, by rw [len_frz]; exact hi.sb, fun id b hid hb => ?_⟩
  obtain ⟨b0, h0, rfl, _⟩ := frz_some hb
  exact hi.bl id b0 hid h0
theorem encS_get : ∀ (l : List (Int × Nat)) (i : Nat) (h : i < l.length), (encS l)[i * 2]? = some (.int .i64 l[i].1) ∧ (encS l)[i * 2 + 1]? = some (.int .i64 l[i].2)
  | [], i, h => by simp at h
  | p :: l, 0, _ => by simp [encS]
  | p :: l, i + 1, h => by
    obtain ⟨a, b⟩ := encS_get l i (by simpa using h)
    rw [encS, show (i + 1) * 2 + 1 = i * 2 + 1 + 1 + 1 by omega, show (i + 1) * 2 = i * 2 + 1 + 1 by omega]
    simpa using ⟨a, b⟩
theorem Syms.get {h : Heap} {s : Value} {l : List (Int × Nat)} (hf : Syms h s l) {i : Nat} (hi : i < l.length) :
    ∃ id off b, s = .slice (some ⟨id, off, none⟩) l.length 2 ∧ blk? h id = some b ∧ (b.cells.drop (off + i * 2)).take 2 = [.int .i64 l[i].1, .int .i64 l[i].2] ∧ off + i * 2 + 2 ≤ b.cells.length := by
  obtain ⟨id, off, b, rfl, hb, hc⟩ := hf.sl.get hi
  obtain ⟨g0, g1⟩ := encS_get l i hi
  have c0 := hc 0 (by omega)
  have c1 := hc 1 (by omega)
  rw [Nat.add_zero, Nat.add_zero, g0] at c0
  rw [g1] at c1
  obtain ⟨ht, hle⟩ := two c0 c1
  exact ⟨id, off, b, rfl, hb, ht, hle⟩
theorem eq_pair {i j : IntKind} {a b c d : Int} : eqV (.fields [(0, .int), (1, .int)]) (.agg #[.int i a, .int j b]) (.agg #[.int i c, .int j d]) = some (a == c && b == d) := by
  cases h1 : (a == c) <;> cases h2 : (b == d) <;> simp [eqV, eqFields, h1, h2]

section
variable {h : Heap} {R : Value → Heap → Prop}

theorem same_loop {s t v4 : Value} {a b : List (Int × Nat)} (ha : Syms h s a) (hb : Syms h t b) (hlen : a.length = b.length) (hl : a.length < 9000000000) {k : List RItem}
    (hk : ∀ t2 t3 t5 t6 t7 t8 t9 t10 t11 t12 t13 t14 t15 t16 t17 t18 t19 t20 t21 t22 t23 t24 t25 : Value, Ok tab R37 k #[s, t, t2, t3, v4, t5, t6, t7, t8, t9, t10, t11, t12, t13, t14, t15, t16, t17, t18, t19, t20, t21, t22, t23, t24, t25] h R = R (.bool true) h) :
    ∀ (n i : Nat) (t2 t3 t5 t6 t7 t8 t9 t10 t11 t14 t15 t16 t17 t18 t19 t20 t21 t22 t23 t24 t25 : Value), n = a.length - i → i ≤ a.length →
      Ok tab R37 (.inLoop L37_0 :: .inBlock 0 :: k) #[s, t, t2, t3, v4, t5, t6, t7, t8, t9, t10, t11, .int .i64 a.length, .int .i64 i, t14, t15, t16, t17, t18, t19, t20, t21, t22, t23, t24, t25] h R = R (.bool (decide (a.drop i = b.drop i))) h := by
  intro n
  induction n with
  | zero =>
    intro i t2 t3 t5 t6 t7 t8 t9 t10 t11 t14 t15 t16 t17 t18 t19 t20 t21 t22 t23 t24 t25 hn hi
    have hlt : ¬ ((i : Int) < a.length) := by omega
    rw [ok_round, l37_0, L37_0a, L37_0b]
    simp [hlt, hk]
    rw [List.drop_of_length_le (by omega), List.drop_of_length_le (by omega)]; simp
  | succ n ih =>
    intro i t2 t3 t5 t6 t7 t8 t9 t10 t11 t14 t15 t16 t17 t18 t19 t20 t21 t22 t23 t24 t25 hn hi
    have hlt : ((i : Int) < a.length) := by omega
    have hia : i < a.length := by omega
    have hib : i < b.length := by omega
    have hw : IntKind.i64.wrap ((i : Int) + 1) = ((i + 1 : Nat) : Int) := wrapN (n := i + 1) (by omega)
    obtain ⟨id1, off1, b1, hs, hb1, ht1, hle1⟩ := ha.get hia
    obtain ⟨id2, off2, b2, ht, hb2, ht2, hle2⟩ := hb.get hib
    have hltb : ((i : Int) < b.length) := by omega
    have ih' := fun t2 t3 t5 t6 t7 t8 t9 t10 t11 t14 t15 t16 t17 t18 t19 t20 t21 t22 t23 t24 t25 => ih (i + 1) t2 t3 t5 t6 t7 t8 t9 t10 t11 t14 t15 t16 t17 t18 t19 t20 t21 t22 t23 t24 t25 (by omega) (by omega)
    have hda : a.drop i = a[i] :: a.drop (i + 1) := List.drop_eq_getElem_cons hia
    have hdb : b.drop i = b[i] :: b.drop (i + 1) := List.drop_eq_getElem_cons hib
    rw [hda, hdb]
    rw [ok_round, l37_0, L37_0a, L37_0b]
    subst hs; subst ht
    generalize a[i] = p at *
    generalize b[i] = q at *
    obtain ⟨p1, p2⟩ := p
    obtain ⟨q1, q2⟩ := q
    simp only at ht1 ht2
    generalize hq : ((i + 1 : Nat) : Int) = w at *
    by_cases hpq : p1 = q1 ∧ p2 = q2
    · obtain ⟨rfl, rfl⟩ := hpq
      simp [hlt, hltb, hb1, ht1, hle1, hb2, ht2, hle2, eq_pair, hw]
      rw [ih']
    · have h2 : (p1 == q1 && (p2 : Int) == (q2 : Int)) = false := by
        simp only [Bool.and_eq_false_iff, beq_eq_false_iff_ne]
        by_cases h1 : p1 = q1
        · right; intro h; exact hpq ⟨h1, by omega⟩
        · left; exact h1
      have h3 : ¬ ((p1, p2) :: a.drop (i + 1) = (q1, q2) :: b.drop (i + 1)) := by
        intro h; injection h with h _; injection h with h1 h2; exact hpq ⟨h1, h2⟩
      rw [decide_eq_false h3]
      simp [hlt, hltb, hb1, ht1, hle1, hb2, ht2, hle2, eq_pair, h2, fin37]

theorem sameSyms_r {s t : Value} {a b : List (Int × Nat)} (ha : Syms h s a) (hb : Syms h t b) (hl : a.length < 9000000000) : Ret tab 37 [s, t] h R = R (.bool (decide (a = b))) h := by
  obtain ⟨a1, c1, hs⟩ := ha.sl.shape
  obtain ⟨a2, c2, ht⟩ := hb.sl.shape
  rw [enter37, B37]
  by_cases hlen : a.length = b.length
  · have hc := same_loop ha.frz hb.frz hlen hl (v4 := .bool false) (k := [.code ((RCode.region [⟨some 4, .mov (.const (.bool true)), none⟩] []).seq .ret)]) (R := fun v _ => below h.length v = true ∧ R v h)
      (fun t2 t3 t5 t6 t7 t8 t9 t10 t11 t12 t13 t14 t15 t16 t17 t18 t19 t20 t21 t22 t23 t24 t25 => by simp [fin37])
    have hb1 := ha.sb
    have hb2 := hb.sb
    have hle : ((a.length : Int) != (b.length : Int)) = false := by simp; omega
    have hc' := fun t2 t3 t5 t6 t7 t8 t9 t10 t11 t14 t15 t16 t17 t18 t19 t20 t21 t22 t23 t24 t25 => hc a.length 0 t2 t3 t5 t6 t7 t8 t9 t10 t11 t14 t15 t16 t17 t18 t19 t20 t21 t22 t23 t24 t25 (by omega) (by omega)
    simp only [List.drop_zero] at hc'
    rw [hs, ht] at *
    simp [-bl_slice, hb1, hb2, hle]
    simp at hc'
    rw [hc']
  · have hle : ((a.length : Int) != (b.length : Int)) = true := by simp; omega
    have hne : decide (a = b) = false := decide_eq_false fun e => hlen (by rw [e])
    have hb1 := ha.sb
    have hb2 := hb.sb
    rw [hne]
    rw [hs, ht] at *
    simp [-bl_slice, hb1, hb2, hle, fin37]
end
end Go.Proofs.Ytlflfkdnpalhlaa
namespace Go.Proofs.Ytlflfkdnpalhlaa
open Go Go.Sim
set_option linter.unusedSimpArgs false
set_option linter.unusedVariables false

/-- A row of rows of symbols. -/
structure Pss (h : Heap) (s : Value) (vs : List Value) (ls : List (List (Int × Nat))) : Prop where
  sl : Sl h 1 s vs.length vs
  sb : below h.length s = true
  bl : ∀ id b, sid s = some id → blk? h id = some b → belowL h.length b.cells = true
  len : vs.length = ls.length
  each : ∀ i (h1 : i < vs.length) (h2 : i < ls.length), Syms h vs[i] ls[i]
theorem Pss.frz {h : Heap} {s : Value} {vs : List Value} {ls : List (List (Int × Nat))} (hp : Pss h s vs ls) : Pss (frz h) s vs ls := by
  refine ⟨Sl_of_cells hp.sl fun id b hid hb => ⟨_, blk_frz hb (hp.bl id b hid hb), rfl⟩, by rw [len_frz]; exact hp.sb, fun id b hid hb => ?_, hp.len, fun i h1 h2 => (hp.each i h1 h2).frz⟩
  obtain ⟨b0, h0, rfl, hbl, _⟩ := frz_some hb
  rw [len_frz]; exact hbl
theorem Pss.get {h : Heap} {s : Value} {vs : List Value} {ls : List (List (Int × Nat))} (hp : Pss h s vs ls) {i : Nat} (hi : i < vs.length) :
    ∃ id off b, s = .slice (some ⟨id, off, none⟩) vs.length 1 ∧ blk? h id = some b ∧ b.cells[off + i]? = some vs[i] := by
  obtain ⟨id, off, b, hs, hb, hc⟩ := hp.sl.get hi
  refine ⟨id, off, b, hs, hb, ?_⟩
  have := hc 0 (by omega)
  simp only [Nat.mul_one, Nat.add_zero] at this
  rw [this, List.getElem?_eq_getElem hi]

section
variable {h : Heap} {R : Value → Heap → Prop}

theorem passes_loop {s t v4 : Value} {us vs : List Value} {a b : List (List (Int × Nat))} (ha : Pss h s us a) (hb : Pss h t vs b) (hlen : a.length = b.length) (hl : a.length < 9000000000) (hsm : ∀ l ∈ a, l.length < 9000000000) {k : List RItem}
    (hk : ∀ t2 t3 t5 t6 t7 t8 t9 t10 t11 t12 t13 t14 t15 t16 t17 t18 t19 t20 t21 t22 t23 t24 t25 t26 : Value, Ok tab R41 k #[s, t, t2, t3, v4, t5, t6, t7, t8, t9, t10, t11, t12, t13, t14, t15, t16, t17, t18, t19, t20, t21, t22, t23, t24, t25, t26] h R = R (.bool true) h) :
    ∀ (n i : Nat) (t2 t3 t5 t6 t7 t8 t9 t10 t11 t14 t15 t16 t17 t18 t19 t20 t21 t22 t23 t24 t25 t26 : Value), n = a.length - i → i ≤ a.length →
      Ok tab R41 (.inLoop L41_0 :: .inBlock 0 :: k) #[s, t, t2, t3, v4, t5, t6, t7, t8, t9, t10, t11, .int .i64 a.length, .int .i64 i, t14, t15, t16, t17, t18, t19, t20, t21, t22, t23, t24, t25, t26] h R = R (.bool (decide (a.drop i = b.drop i))) h := by
  intro n
  induction n with
  | zero =>
    intro i t2 t3 t5 t6 t7 t8 t9 t10 t11 t14 t15 t16 t17 t18 t19 t20 t21 t22 t23 t24 t25 t26 hn hi
    have hlt : ¬ ((i : Int) < a.length) := by omega
    rw [ok_round, l41_0, L41_0a, L41_0b]
    simp [hlt, hk]
    rw [List.drop_of_length_le (by omega), List.drop_of_length_le (by omega)]; simp
  | succ n ih =>
    intro i t2 t3 t5 t6 t7 t8 t9 t10 t11 t14 t15 t16 t17 t18 t19 t20 t21 t22 t23 t24 t25 t26 hn hi
    have hlt : ((i : Int) < a.length) := by omega
    have hia : i < a.length := by omega
    have hib : i < b.length := by omega
    have hua : i < us.length := by rw [ha.len]; exact hia
    have hvb : i < vs.length := by rw [hb.len]; exact hib
    have hw : IntKind.i64.wrap ((i : Int) + 1) = ((i + 1 : Nat) : Int) := wrapN (n := i + 1) (by omega)
    obtain ⟨id1, off1, b1, hs, hb1, hc1⟩ := ha.get hua
    obtain ⟨id2, off2, b2, ht, hb2, hc2⟩ := hb.get hvb
    have hltu : ((i : Int) < us.length) := by omega
    have hltv : ((i : Int) < vs.length) := by omega
    have ih' := fun t2 t3 t5 t6 t7 t8 t9 t10 t11 t14 t15 t16 t17 t18 t19 t20 t21 t22 t23 t24 t25 t26 => ih (i + 1) t2 t3 t5 t6 t7 t8 t9 t10 t11 t14 t15 t16 t17 t18 t19 t20 t21 t22 t23 t24 t25 t26 (by omega) (by omega)
    have hss := fun R => sameSyms_r (R := R) (ha.each i hua hia) (hb.each i hvb hib) (hsm _ (List.getElem_mem hia))
    have hda : a.drop i = a[i] :: a.drop (i + 1) := List.drop_eq_getElem_cons hia
    have hdb : b.drop i = b[i] :: b.drop (i + 1) := List.drop_eq_getElem_cons hib
    rw [hda, hdb]
    rw [ok_round, l41_0, L41_0a, L41_0b]
    subst hs; subst ht
    generalize a[i] = p at *
    generalize b[i] = q at *
    generalize us[i] = u at *
    generalize vs[i] = v at *
    generalize hq : ((i + 1 : Nat) : Int) = w at *
    by_cases hpq : p = q
    · subst hpq
      simp [hltu, hltv, hlt, hb1, hc1, hb2, hc2, hss, hw]
      rw [ih']
    · have h3 : ¬ (p :: a.drop (i + 1) = q :: b.drop (i + 1)) := by
        intro h; injection h with h _; exact hpq h
      rw [decide_eq_false h3]
      simp [hltu, hltv, hlt, hb1, hc1, hb2, hc2, hss, hpq, fin41]

theorem samePasses_r {s t : Value} {us vs : List Value} {a b : List (List (Int × Nat))} (ha : Pss h s us a) (hb : Pss h t vs b) (hl : a.length < 9000000000) (hsm : ∀ l ∈ a, l.length < 9000000000) :
    Ret tab 41 [s, t] h R = R (.bool (decide (a = b))) h := by
  obtain ⟨a1, c1, hs⟩ := ha.sl.shape
  obtain ⟨a2, c2, ht⟩ := hb.sl.shape
  have h1 := ha.len
  have h2 := hb.len
  rw [enter41, B41]
  by_cases hlen : a.length = b.length
  · have hc := passes_loop ha.frz hb.frz hlen hl hsm (v4 := .bool false) (k := [.code ((RCode.region [⟨some 4, .mov (.const (.bool true)), none⟩] []).seq .ret)]) (R := fun v _ => below h.length v = true ∧ R v h)
      (fun t2 t3 t5 t6 t7 t8 t9 t10 t11 t12 t13 t14 t15 t16 t17 t18 t19 t20 t21 t22 t23 t24 t25 t26 => by simp [fin41])
    have hb1 := ha.sb
    have hb2 := hb.sb
    have hle : ((us.length : Int) != (vs.length : Int)) = false := by simp; omega
    have hc' := fun t2 t3 t5 t6 t7 t8 t9 t10 t11 t14 t15 t16 t17 t18 t19 t20 t21 t22 t23 t24 t25 t26 => hc a.length 0 t2 t3 t5 t6 t7 t8 t9 t10 t11 t14 t15 t16 t17 t18 t19 t20 t21 t22 t23 t24 t25 t26 (by omega) (by omega)
    simp only [List.drop_zero] at hc'
    rw [← h1] at hc'
    rw [hs, ht] at *
    simp [-bl_slice, hb1, hb2, hle]
    simp at hc'
    rw [hc']
  · have hle : ((us.length : Int) != (vs.length : Int)) = true := by simp; omega
    have hne : decide (a = b) = false := decide_eq_false fun e => hlen (by rw [e])
    have hb1 := ha.sb
    have hb2 := hb.sb
    rw [hne]
    rw [hs, ht] at *
    simp [-bl_slice, hb1, hb2, hle, fin41]
end

/-! A list of passes in the making. -/
structure SL (B : Nat) (h0 h : Heap) (p c : Nat) (b : BS) (s : Value) (vs : List Value) (ls : List (List (Int × Nat))) : Prop where
  cb : CB h false p c b
  good : b.Good
  bp : B ≤ p ∧ B ≤ c
  own : OwnS h 1 s vs.length vs
  len : vs.length = ls.length
  each : ∀ (i : Nat) (v : Value) (l : List (Int × Nat)), vs[i]? = some v → ls[i]? = some l → OwnS h 2 v l.length (encS l) ∧ ∀ id, sid v = some id → B ≤ id ∧ id ≠ c ∧ id ≠ p ∧ sid s ≠ some id
  far : ∀ id, sid s = some id → B ≤ id ∧ id ≠ c ∧ id ≠ p
  low : ∀ id, id < B → blk? h id = blk? h0 id
  lenB : B ≤ h.length

theorem SL.start {B : Nat} {h0 h : Heap} {p c : Nat} {b : BS} (cb : CB h false p c b) (good : b.Good) (bp : B ≤ p ∧ B ≤ c) (low : ∀ id, id < B → blk? h id = blk? h0 id) (lenB : B ≤ h.length) : SL B h0 h p c b (.slice none 0 0) [] [] :=
  ⟨cb, good, bp, OwnS.nil _ _, rfl, fun i v l hv => by simp at hv, fun id hid => by simp [sid] at hid, low, lenB⟩

theorem SL.step {B : Nat} {h0 h h1 : Heap} {p c : Nat} {b : BS} {s sv : Value} {vs : List Value} {ls : List (List (Int × Nat))} {σ : ES} (w : SL B h0 h p c b s vs ls) (hr : RunRes h h1 p c sv σ) (hl : vs.length < 100000) :
    ∃ s' H, appendV (h1 ++ [some ⟨false, [sv]⟩]) 1 24 s (.slice (some ⟨h1.length, 0, none⟩) 1 1) = some (s', H) ∧ SL B h0 H p c σ.b s' (vs ++ [sv]) (ls ++ [σ.out]) := by
  have hlt := fun id (hid : sid s = some id) => w.own.lt hid
  have own1 : OwnS h1 1 s vs.length vs := w.own.of_blk fun id hid hb => by rw [hr.same id (blk?_lt hb) (w.far id hid).2.1]; exact hb
  have hsl : Sl (h1 ++ [some ⟨false, [sv]⟩]) 1 (.slice (some ⟨h1.length, 0, none⟩) 1 1) 1 [sv] := ⟨by simp, .inr ⟨h1.length, 0, rfl, .inr ⟨_, blk?_push_eq, by simp, by simp⟩⟩⟩
  have own2 : OwnS (h1 ++ [some ⟨false, [sv]⟩]) 1 s vs.length vs := own1.of_blk fun id _ hb => blk?_push hb
  obtain ⟨H, ha, hK, hHl, hHs⟩ := own_append (bytes := 24) own2 hsl (by unfold roomCells; omega) (by omega) (by omega)
  simp only [List.length_append, List.length_singleton] at ha hK hHl hHs
  have hk : ∀ id, id < h1.length → sid s ≠ some id → blk? H id = blk? h1 id := fun id hid hne => by rw [hHs id (by omega) hne, blk?_push_lt hid]
  have hlen := hr.len
  have hlB := w.lenB
  have hpc := w.bp
  refine ⟨_, H, ha, ⟨⟨?_, ?_, hr.good.ok⟩, hr.good, w.bp, ⟨by simp, .inr ⟨h1.length + 1, by simp, hK⟩⟩, by simp [w.len], fun i v l hv hl' => ?_, fun id hid => ?_, fun id hid => ?_, by omega⟩⟩
  · rw [hk p (blk?_lt hr.cb.blkp) (fun e => (w.far p e).2.2 rfl)]; exact hr.cb.blkp
  · rw [hk c (blk?_lt hr.cb.blkc) (fun e => (w.far c e).2.1 rfl)]; exact hr.cb.blkc
  · by_cases hi : i < vs.length
    · rw [List.getElem?_append_left hi] at hv
      rw [List.getElem?_append_left (by rw [← w.len]; exact hi)] at hl'
      obtain ⟨o, f⟩ := w.each i v l hv hl'
      refine ⟨o.of_blk fun id hid hb => ?_, fun id hid => ?_⟩
      · obtain ⟨f1, f2, f3, f4⟩ := f id hid
        rw [hk id (Nat.lt_of_lt_of_le (blk?_lt hb) hlen) f4, hr.same id (blk?_lt hb) f2]; exact hb
      · obtain ⟨f1, f2, f3, f4⟩ := f id hid
        refine ⟨f1, f2, f3, ?_⟩
        have := o.lt hid
        simp [sid]; omega
    · have hi' : i = vs.length := by
        have := (List.getElem?_eq_some_iff.1 hv).1
        simp at this; omega
      subst hi'
      rw [List.getElem?_append_right (Nat.le_refl _)] at hv
      rw [w.len, List.getElem?_append_right (Nat.le_refl _)] at hl'
      simp at hv hl'
      subst hv; subst hl'
      have hsv := hr.fresh
      refine ⟨hr.own.of_blk fun id hid hb => ?_, fun id hid => ?_⟩
      · rw [hk id (blk?_lt hb) (fun e => by have := hlt id e; have := hsv id hid; omega)]; exact hb
      · have h2 := hsv id hid
        have h3 := hr.own.lt hid
        have := blk?_lt w.cb.blkp
        have := blk?_lt w.cb.blkc
        refine ⟨by omega, by omega, by omega, ?_⟩
        simp [sid]; omega
  · simp [sid] at hid
    have := blk?_lt hr.cb.blkp
    have := blk?_lt hr.cb.blkc
    exact ⟨by omega, by omega, by omega⟩
  · have := w.low id hid
    rw [hk id (by omega) (fun e => by have := (w.far id e).1; omega), hr.same id (by omega) (by omega)]; exact this

theorem SL.pss {B : Nat} {h0 h : Heap} {p c : Nat} {b : BS} {s : Value} {vs : List Value} {ls : List (List (Int × Nat))} (w : SL B h0 h p c b s vs ls) : Pss h s vs ls := by
  refine ⟨w.own.sl, own_below w.own (Nat.le_refl _), fun id bk hid hb => ?_, w.len, fun i h1 h2 => ?_⟩
  · rcases w.own.2 with ⟨rfl, _⟩ | ⟨id', rfl, hb'⟩
    · simp [sid] at hid
    · simp [sid] at hid; subst hid
      rw [hb'] at hb; injection hb with hb; subst hb
      rw [belowL_iff]
      intro v hv
      obtain ⟨i, hi, rfl⟩ := List.getElem_of_mem hv
      exact own_below (w.each i vs[i] (ls[i]'(by rw [← w.len]; exact hi)) (List.getElem?_eq_getElem hi) (List.getElem?_eq_getElem _)).1 (Nat.le_refl _)
  · exact syms_own (w.each i vs[i] ls[i] (List.getElem?_eq_getElem h1) (List.getElem?_eq_getElem h2)).1

/-- What is below does not matter. -/
theorem Pss.keep {h h' : Heap} {s : Value} {vs : List Value} {ls : List (List (Int × Nat))} (hp : Pss h s vs ls) (hl : h.length ≤ h'.length) (hk : ∀ id, id < h.length → blk? h' id = blk? h id) : Pss h' s vs ls := by
  obtain ⟨a, cc, hs⟩ := hp.sl.shape
  have hlt : ∀ id, sid s = some id → id < h.length := by
    intro id hid
    have := hp.sb
    rw [hs] at this hid
    cases a with
    | none => simp [sid] at hid
    | some a => simp [sid] at hid; simp at this; omega
  have hsy : ∀ {v : Value} {l : List (Int × Nat)}, Syms h v l → Syms h' v l := by
    intro v l y
    obtain ⟨a', c', hv⟩ := y.sl.shape
    refine ⟨y.sl.of_sid fun id b _ hb => by rw [hk id (blk?_lt hb)]; exact hb, below_sid hl hv y.sb, fun id b hid hb => ?_⟩
    have hlt' : id < h.length := by
      have := y.sb
      rw [hv] at this hid
      cases a' with
      | none => simp [sid] at hid
      | some a' => simp [sid] at hid; simp at this; omega
    rw [hk id hlt'] at hb
    exact y.bl id b hid hb
  refine ⟨hp.sl.of_sid fun id b _ hb => by rw [hk id (blk?_lt hb)]; exact hb, below_sid hl hs hp.sb, fun id b hid hb => ?_, hp.len, fun i h1 h2 => hsy (hp.each i h1 h2)⟩
  rw [hk id (hlt id hid)] at hb
  exact belowL_mono hl _ (hp.bl id b hid hb)
end Go.Proofs.Ytlflfkdnpalhlaa
namespace Go.Proofs.Ytlflfkdnpalhlaa
open Go Go.Sim
set_option linter.unusedSimpArgs false
set_option linter.unusedVariables false

def cellOf (v : Int) : Cell := ⟨v, false, false, false⟩
/-- A block into which the first i values have been put. -/
def fillTo (w h : Nat) (xs : List Int) (i : Nat) : BS := ⟨w, h, (xs.take i).map cellOf ++ blank (w * h - i)⟩
def setV (v : Int) (c : Cell) : Cell := { c with v := v }
theorem fillTo_zero (w h : Nat) (xs : List Int) : fillTo w h xs 0 = newBS w h := by simp [fillTo, newBS]
theorem idx_divmod {w h i : Nat} (hw : 0 < w) (cs : List Cell) : BS.idx ⟨w, h, cs⟩ ((i % w : Nat) : Int) ((i / w : Nat) : Int) = i := by
  unfold BS.idx
  have : ((i / w : Nat) : Int) * (w : Int) + ((i % w : Nat) : Int) = ((i / w * w + i % w : Nat) : Int) := by simp
  simp only
  rw [this, Int.toNat_natCast, Nat.mul_comm]
  exact Nat.div_add_mod i w
theorem inb_divmod {w h i : Nat} (hw : 0 < w) (hi : i < w * h) (cs : List Cell) : BS.inb ⟨w, h, cs⟩ ((i % w : Nat) : Int) ((i / w : Nat) : Int) := by
  have h1 := Nat.mod_lt i hw
  have h2 : i / w < h := by rw [Nat.div_lt_iff_lt_mul hw]; rw [Nat.mul_comm]; exact hi
  exact ⟨Int.natCast_nonneg _, Int.ofNat_lt.2 h1, Int.natCast_nonneg _, Int.ofNat_lt.2 h2⟩
theorem fillTo_step {w h : Nat} {xs : List Int} {i : Nat} (hw : 0 < w) (hi : i < xs.length) (hl : xs.length = w * h) :
    (fillTo w h xs i).upd ((i % w : Nat) : Int) ((i / w : Nat) : Int) (setV xs[i]) = fillTo w h xs (i + 1) := by
  have hlen : ((xs.take i).map cellOf).length = i := by simp; omega
  have hidx := idx_divmod (h := h) (i := i) hw ((xs.take i).map cellOf ++ blank (w * h - i))
  have hinb := inb_divmod (i := i) (h := h) hw (by omega) ((xs.take i).map cellOf ++ blank (w * h - i))
  have hget : (fillTo w h xs i).get ((i % w : Nat) : Int) ((i / w : Nat) : Int) = .zero := by
    unfold BS.get fillTo
    rw [if_pos hinb, hidx]
    simp only [List.getD_eq_getElem?_getD]
    rw [List.getElem?_append_right (by omega), hlen]
    simp only [blank, List.getElem?_replicate]
    split <;> rfl
  unfold BS.upd
  rw [hget]
  unfold fillTo at *
  rw [hidx]
  congr 1
  rw [List.set_append_right _ _ (by omega), hlen, Nat.sub_self, List.take_succ_eq_append_getElem hi, List.map_append]
  rw [show w * h - i = (w * h - (i + 1)) + 1 by omega]
  simp [blank, List.replicate_succ, setV, cellOf, Cell.zero]
theorem fillTo_good {w h : Nat} {xs : List Int} (hn : (newBS w h).Good) (hl : xs.length = w * h) : ∀ i, i ≤ xs.length → (∀ v ∈ xs.take i, -1152921504606846976 < v ∧ v < 1152921504606846976) → (fillTo w h xs i).Good := by
  intro i hi hr
  refine ⟨⟨hn.ok.w1, hn.ok.w2, hn.ok.h1, hn.ok.h2, by simp [fillTo, blank]; omega⟩, fun x y => ?_⟩
  unfold BS.get
  split
  · simp only [fillTo, List.getD_eq_getElem?_getD]
    generalize BS.idx _ x y = j
    by_cases hj : j < i
    · rw [List.getElem?_append_left (by simp; omega)]
      have : j < (xs.take i).length := by simp; omega
      rw [List.getElem?_map, List.getElem?_eq_getElem this]
      exact hr _ (List.getElem_mem this)
    · rw [List.getElem?_append_right (by simp; omega)]
      simp only [blank, List.getElem?_replicate]
      split <;> simp [Cell.zero]
  · simp [Cell.zero]

/-- The passes from k on, n of them. -/
def passesOf (m : MD) (planes o : Nat) : Nat → Nat → BS → List (List (Int × Nat))
  | 0, _, _ => []
  | n + 1, k, b => (runSt m b k planes o).out :: passesOf m planes o n (k + 1) (runSt m b k planes o).b
theorem passesOf_len (m : MD) (planes o : Nat) : ∀ n k b, (passesOf m planes o n k b).length = n
  | 0, _, _ => rfl
  | n + 1, k, b => by rw [passesOf, List.length_cons, passesOf_len m planes o n]

def inR (v : Int) : Prop := -1152921504606846976 < v ∧ v < 1152921504606846976
instance (v : Int) : Decidable (inR v) := by unfold inR; exact inferInstance
/-- What Symbols answers: the error, the passes. -/
def symRes (xs : List Int) (w h o : Int) (m : MD) : Int × List (List (Int × Nat)) :=
  if sized w h = false then (2, [])
  else if (xs.length : Int) ≠ w * h then (4, [])
  else if o < 0 ∨ 3 < o then (3, [])
  else if ∀ v ∈ xs, inR v then (0, passesOf m (planesOf xs) o.toNat (3 * planesOf xs - 2) 0 (fillTo w.toNat h.toNat xs xs.length))
  else (2, [])

theorem inR_planes {xs : List Int} : (∀ v ∈ xs, inR v) ↔ planesOf xs ≤ 60 := by
  rw [planes_le]
  constructor
  · intro h v hv; have := h v hv; unfold inR at this; omega
  · intro h v hv; have := h v hv; unfold inR; omega

/-- What Symbols leaves. -/
structure SymOut (h h' : Heap) (s : Value) (r : Int × List (List (Int × Nat))) : Prop where
  pss : ∃ vs, Pss h' s vs r.2
  low : ∀ id, id < h.length → blk? h' id = blk? h id
  len : h.length ≤ h'.length
theorem SymOut.nil {h h' : Heap} (low : ∀ id, id < h.length → blk? h' id = blk? h id) (len : h.length ≤ h'.length) (e : Int) : SymOut h h' (.slice none 0 0) (e, []) :=
  ⟨⟨[], (OwnS.nil _ _).sl, by simp, fun id b hid => by simp [sid] at hid, rfl, fun i h1 => by simp at h1⟩, low, len⟩

section
variable {h : Heap} {R : Value → Heap → Prop} {k : List RItem}

theorem pass_loop_c {B : Nat} {h0 : Heap} {b0 : BS} {p c M : Nat} {m : MD} {planes o : Nat} {v10 v11 : Value} (hM : blk? h0 M = some ⟨false, [.bool m.byp, .bool m.res, .bool m.rst, .bool m.cz, .bool m.sy]⟩) (hMB : M < B) (hp1 : planes ≤ 60) (ho : o ≤ 3)
    (hk : ∀ (h' : Heap) (s : Value) (vs : List Value) (b : BS) (ls : List (List (Int × Nat))) (t0 t1 t2 t3 t4 t5 t6 t7 t8 t9 t12 t13 t14 t15 t16 t18 t19 t20 t21 t22 t23 t24 t25 t26 t27 t28 t29 t30 t31 t32 t33 t34 t35 t36 t37 t38 t39 t40 t41 t42 t43 t44 t45 t46 t47 t48 t49 t50 t51 t52 t53 t54 t55 t56 t57 t58 t59 t60 t61 t62 t63 t64 t65 t66 t67 t68 t69 t70 t71 t72 t73 t74 t75 t76 t77 t78 t79 t80 t81 t82 t83 t84 t85 t86 t87 t88 t89 t90 : Value), SL B h0 h' p c b s vs ls → ls = passesOf m planes o (3 * planes - 2) 0 b0 → Ok tab R39 k #[t0, t1, t2, t3, t4, t5, t6, t7, t8, t9, v10, v11, t12, t13, t14, t15, t16, s, t18, t19, t20, t21, t22, t23, t24, t25, t26, t27, t28, t29, t30, t31, t32, t33, t34, t35, t36, t37, t38, t39, t40, t41, t42, t43, t44, t45, t46, t47, t48, t49, t50, t51, t52, t53, t54, t55, t56, t57, t58, t59, t60, t61, t62, t63, t64, t65, t66, t67, t68, t69, t70, t71, t72, t73, t74, t75, t76, t77, t78, t79, t80, t81, t82, t83, t84, t85, t86, t87, t88, t89, t90] h' R) :
    ∀ (n i : Nat) (h : Heap) (b : BS) (s : Value) (vs : List Value) (ls : List (List (Int × Nat))) (t0 t1 t2 t4 t5 t6 t7 t8 t13 t14 t15 t18 t19 t20 t21 t22 t23 t24 t25 t26 t27 t28 t29 t30 t31 t32 t33 t34 t35 t36 t37 t38 t39 t40 t41 t42 t43 t44 t45 t46 t47 t48 t49 t50 t51 t52 t53 t54 t55 t56 t57 t58 t59 t60 t61 t62 t63 t64 t65 t66 t67 t68 t71 t72 t73 t74 t75 t76 t77 t78 t79 t80 t81 t82 t83 t84 t85 t86 t87 t88 t89 t90 : Value), i + n = 3 * planes - 2 → ls.length = i → ls ++ passesOf m planes o n i b = passesOf m planes o (3 * planes - 2) 0 b0 → SL B h0 h p c b s vs ls →
      Ok tab R39 (.inLoop L39_1 :: .inBlock 2 :: k) #[t0, t1, t2, .int .i64 o, t4, t5, t6, t7, t8, ptr M, v10, v11, ptr p, t13, t14, t15, .int .i64 planes, s, t18, t19, t20, t21, t22, t23, t24, t25, t26, t27, t28, t29, t30, t31, t32, t33, t34, t35, t36, t37, t38, t39, t40, t41, t42, t43, t44, t45, t46, t47, t48, t49, t50, t51, t52, t53, t54, t55, t56, t57, t58, t59, t60, t61, t62, t63, t64, t65, t66, t67, t68, .int .i64 (3 * planes - 2 : Nat), .int .i64 i, t71, t72, t73, t74, t75, t76, t77, t78, t79, t80, t81, t82, t83, t84, t85, t86, t87, t88, t89, t90] h R := by
  intro n
  induction n with
  | zero =>
    intro i h b s vs ls t0 t1 t2 t4 t5 t6 t7 t8 t13 t14 t15 t18 t19 t20 t21 t22 t23 t24 t25 t26 t27 t28 t29 t30 t31 t32 t33 t34 t35 t36 t37 t38 t39 t40 t41 t42 t43 t44 t45 t46 t47 t48 t49 t50 t51 t52 t53 t54 t55 t56 t57 t58 t59 t60 t61 t62 t63 t64 t65 t66 t67 t68 t71 t72 t73 t74 t75 t76 t77 t78 t79 t80 t81 t82 t83 t84 t85 t86 t87 t88 t89 t90 hi hls hpa w
    have hlt : ¬ ((i : Int) < ((3 * planes - 2 : Nat) : Int)) := by omega
    generalize ((3 * planes - 2 : Nat) : Int) = np at *
    rw [ok_round, l39_1, L39_1a, L39_1b]
    simp [hlt]
    exact hk h s vs b ls _ _ _ _ _ _ _ _ _ _ _ _ _ _ _ _ _ _ _ _ _ _ _ _ _ _ _ _ _ _ _ _ _ _ _ _ _ _ _ _ _ _ _ _ _ _ _ _ _ _ _ _ _ _ _ _ _ _ _ _ _ _ _ _ _ _ _ _ _ _ _ _ _ _ _ _ _ _ _ _ _ _ _ _ _ _ _ _ w (by simpa [passesOf] using hpa)
  | succ n ih =>
    intro i h b s vs ls t0 t1 t2 t4 t5 t6 t7 t8 t13 t14 t15 t18 t19 t20 t21 t22 t23 t24 t25 t26 t27 t28 t29 t30 t31 t32 t33 t34 t35 t36 t37 t38 t39 t40 t41 t42 t43 t44 t45 t46 t47 t48 t49 t50 t51 t52 t53 t54 t55 t56 t57 t58 t59 t60 t61 t62 t63 t64 t65 t66 t67 t68 t71 t72 t73 t74 t75 t76 t77 t78 t79 t80 t81 t82 t83 t84 t85 t86 t87 t88 t89 t90 hi hls hpa w
    have hlt : (i : Int) < ((3 * planes - 2 : Nat) : Int) := by omega
    have hw : IntKind.i64.wrap ((i : Int) + 1) = ((i + 1 : Nat) : Int) := wrapN (n := i + 1) (by omega)
    have hM1 : blk? h M = some ⟨false, [.bool m.byp, .bool m.res, .bool m.rst, .bool m.cz, .bool m.sy]⟩ := by rw [w.low M hMB]; exact hM
    obtain ⟨sv, h1, e1, r1⟩ := run_c w.cb w.good.rng i planes o m
    have herr : runErr i planes o = 0 := by unfold runErr; rw [if_neg (by omega), if_neg (by omega)]
    have hro : runOut m b i planes o = runSt m b i planes o := by unfold runOut; rw [if_pos herr]; simp
    rw [herr] at e1
    rw [hro] at r1
    obtain ⟨s', H, ha, w'⟩ := w.step r1 (by rw [w.len]; omega)
    simp only [MD.val] at e1
    have ih' := ih (i + 1)
    generalize hq : ((i + 1 : Nat) : Int) = q at *
    generalize hnp : ((3 * planes - 2 : Nat) : Int) = np at *
    have e9 := w'
    rw [ok_round, l39_1, L39_1a, L39_1b]
    cases sv with
    | slice a sl cp =>
      simp [hlt, hM1, e1, repL, ha, hw]
      exact ih' H _ s' _ _ _ _ _ _ _ _ _ _ _ _ _ _ _ _ _ _ _ _ _ _ _ _ _ _ _ _ _ _ _ _ _ _ _ _ _ _ _ _ _ _ _ _ _ _ _ _ _ _ _ _ _ _ _ _ _ _ _ _ _ _ _ _ _ _ _ _ _ _ _ _ _ _ _ _ _ _ _ _ _ _ _ _ (by omega) (by simp; omega) (by rw [← hpa, passesOf]; simp) w'
    | _ => exact absurd r1.own.sl.shape (by simp)

theorem fill_loop_c {B : Nat} {h0 : Heap} {s : Value} {xs : List Int} {w hh : Nat} {p c : Nat} {v2 v3 v9 v10 v11 v13 : Value} (hi : Ints h0 s xs) (hsB : ∀ id, sid s = some id → id < B) (w1 : 1 ≤ w) (w2 : w ≤ 64) (h1 : 1 ≤ hh) (h2 : hh ≤ 64) (hl : xs.length = w * hh)
    (hbad : ∀ h', (∀ id, id < B → blk? h' id = blk? h0 id) → B ≤ h'.length → ¬ (∀ v ∈ xs, inR v) → R (.tuple #[.slice none 0 0, .int .i64 2]) h')
    (hk : ∀ (h' : Heap) (t1 t4 t5 t6 t7 t8 t14 t15 t16 t17 t18 t19 t20 t21 t22 t23 t24 t25 t26 t27 t28 t29 t30 t31 t32 t33 t34 t35 t36 t37 t38 t39 t40 t41 t42 t43 t44 t45 t46 t47 t48 t49 t50 t51 t52 t53 t54 t55 t56 t57 t58 t59 t60 t61 t62 t63 t64 t65 t66 t67 t68 t69 t70 t71 t72 t73 t74 t75 t76 t77 t78 t79 t80 t81 t82 t83 t84 t85 t86 t87 t88 t89 t90 : Value), (∀ v ∈ xs, inR v) → CB h' false p c (fillTo w hh xs xs.length) → (∀ id, id < B → blk? h' id = blk? h0 id) → B ≤ h'.length →
      Ok tab R39 k #[s, t1, v2, v3, t4, t5, t6, t7, t8, v9, v10, v11, ptr p, v13, t14, t15, t16, t17, t18, t19, t20, t21, t22, t23, t24, t25, t26, t27, t28, t29, t30, t31, t32, t33, t34, t35, t36, t37, t38, t39, t40, t41, t42, t43, t44, t45, t46, t47, t48, t49, t50, t51, t52, t53, t54, t55, t56, t57, t58, t59, t60, t61, t62, t63, t64, t65, t66, t67, t68, t69, t70, t71, t72, t73, t74, t75, t76, t77, t78, t79, t80, t81, t82, t83, t84, t85, t86, t87, t88, t89, t90] h' R) :
    ∀ (n i : Nat) (h : Heap) (t4 t5 t6 t7 t8 t14 t15 t16 t17 t18 t19 t20 t21 t22 t23 t24 t25 t26 t27 t28 t29 t30 t31 t32 t33 t34 t35 t36 t37 t38 t39 t40 t44 t45 t46 t47 t48 t49 t50 t51 t52 t53 t54 t55 t56 t57 t58 t59 t60 t61 t62 t63 t64 t65 t66 t67 t68 t69 t70 t71 t72 t73 t74 t75 t76 t77 t78 t79 t80 t81 t82 t83 t84 t85 t86 t87 t88 t89 t90 : Value), n = xs.length - i → i ≤ xs.length → (∀ v ∈ xs.take i, inR v) → CB h false p c (fillTo w hh xs i) → B ≤ p ∧ B ≤ c → (∀ id, id < B → blk? h id = blk? h0 id) → B ≤ h.length →
      Ok tab R39 (.inLoop L39_0 :: .inBlock 0 :: k) #[s, .int .i64 w, v2, v3, t4, t5, t6, t7, t8, v9, v10, v11, ptr p, v13, t14, t15, t16, t17, t18, t19, t20, t21, t22, t23, t24, t25, t26, t27, t28, t29, t30, t31, t32, t33, t34, t35, t36, t37, t38, t39, t40, s, .int .i64 xs.length, .int .i64 i, t44, t45, t46, t47, t48, t49, t50, t51, t52, t53, t54, t55, t56, t57, t58, t59, t60, t61, t62, t63, t64, t65, t66, t67, t68, t69, t70, t71, t72, t73, t74, t75, t76, t77, t78, t79, t80, t81, t82, t83, t84, t85, t86, t87, t88, t89, t90] h R := by
  intro n
  have hm : w * hh ≤ 64 * 64 := Nat.mul_le_mul w2 h2
  induction n with
  | zero =>
    intro i h t4 t5 t6 t7 t8 t14 t15 t16 t17 t18 t19 t20 t21 t22 t23 t24 t25 t26 t27 t28 t29 t30 t31 t32 t33 t34 t35 t36 t37 t38 t39 t40 t44 t45 t46 t47 t48 t49 t50 t51 t52 t53 t54 t55 t56 t57 t58 t59 t60 t61 t62 t63 t64 t65 t66 t67 t68 t69 t70 t71 t72 t73 t74 t75 t76 t77 t78 t79 t80 t81 t82 t83 t84 t85 t86 t87 t88 t89 t90 hn hi' hr hcb hB low len
    have hlt : ¬ ((i : Int) < xs.length) := by omega
    have : i = xs.length := by omega
    subst this
    rw [ok_round, l39_0, L39_0a, L39_0b]
    simp [hlt]
    exact hk h _ _ _ _ _ _ _ _ _ _ _ _ _ _ _ _ _ _ _ _ _ _ _ _ _ _ _ _ _ _ _ _ _ _ _ _ _ _ _ _ _ _ _ _ _ _ _ _ _ _ _ _ _ _ _ _ _ _ _ _ _ _ _ _ _ _ _ _ _ _ _ _ _ _ _ _ _ _ _ _ _ _ _ (by rw [List.take_of_length_le (Nat.le_refl _)] at hr; exact hr) hcb low len
  | succ n ih =>
    intro i h t4 t5 t6 t7 t8 t14 t15 t16 t17 t18 t19 t20 t21 t22 t23 t24 t25 t26 t27 t28 t29 t30 t31 t32 t33 t34 t35 t36 t37 t38 t39 t40 t44 t45 t46 t47 t48 t49 t50 t51 t52 t53 t54 t55 t56 t57 t58 t59 t60 t61 t62 t63 t64 t65 t66 t67 t68 t69 t70 t71 t72 t73 t74 t75 t76 t77 t78 t79 t80 t81 t82 t83 t84 t85 t86 t87 t88 t89 t90 hn hi' hr hcb hB low len
    have hlt : ((i : Int) < xs.length) := by omega
    have hil : i < xs.length := by omega
    have hw : IntKind.i64.wrap ((i : Int) + 1) = ((i + 1 : Nat) : Int) := wrapN (n := i + 1) (by omega)
    obtain ⟨id, off, b, hs, hbk, hc⟩ := hi.get hil
    have hbk' : blk? h id = some b := by rw [low id (hsB id (by rw [hs]; rfl))]; exact hbk
    have hmod : (i : Int).tmod (w : Int) = ((i % w : Nat) : Int) := rfl
    have hdiv : (i : Int).tdiv (w : Int) = ((i / w : Nat) : Int) := rfl
    have hdw : IntKind.i64.wrap ((i / w : Nat) : Int) = ((i / w : Nat) : Int) := wrapN (by have := Nat.div_le_self i w; omega)
    have hw0 : ¬ w = 0 := by omega
    have hinb := inb_divmod (i := i) (h := hh) (w := w) (by omega) (by omega) (fillTo w hh xs i).cs
    have ih' := ih (i + 1)
    have hmem := List.getElem_mem hil
    have hstep := fillTo_step (i := i) (w := w) (by omega) hil hl
    have htk : ∀ v ∈ xs.take (i + 1), inR xs[i] → inR v := by
      intro v hv hx
      rw [List.take_succ_eq_append_getElem hil] at hv
      rw [List.mem_append, List.mem_singleton] at hv
      rcases hv with hv | hv
      · exact hr v hv
      · rw [hv]; exact hx
    rw [ok_round, l39_0, L39_0a, L39_0b]
    by_cases hin : inR xs[i]
    · have hst := fun R => set_c (R := R) (v := xs[i]) hcb (x := ((i % w : Nat) : Int)) (y := ((i / w : Nat) : Int)) hinb hin
      have hmm : (fun z : Cell => ({ z with v := xs[i] } : Cell)) = setV xs[i] := rfl
      rw [hmm, hstep] at hst
      have hgood := fillTo_good (newBS_good w1 w2 h1 h2) hl (i + 1) (by omega) (fun v hv => htk v hv hin)
      have hcb' := hcb.set (b' := fillTo w hh xs (i + 1)) rfl rfl hgood.ok
      have n1 : ¬ xs[i] ≤ -1152921504606846976 := by unfold inR at hin; omega
      have n2 : ¬ 1152921504606846976 ≤ xs[i] := by unfold inR at hin; omega
      generalize hq : ((i + 1 : Nat) : Int) = q at *
      generalize hq2 : ((i % w : Nat) : Int) = q2 at *
      generalize hq3 : ((i / w : Nat) : Int) = q3 at *
      simp [k_guard, hlt, hs, hbk', hc, n1, n2, hmod, hdiv, hdw, hw0, hst, hw]
      rw [← hs]
      refine ih' _ _ _ _ _ _ _ _ _ _ _ _ _ _ _ _ _ _ _ _ _ _ _ _ _ _ _ _ _ _ _ _ _ _ _ _ _ _ _ _ _ _ _ _ _ _ _ _ _ _ _ _ _ _ _ _ _ _ _ _ _ _ _ _ _ _ _ _ _ _ _ _ _ _ _ _ _ _ _ _ (by omega) (by omega) (fun v hv => htk v hv hin) hcb' hB (fun id hid => ?_) (by simp; omega)
      rw [blk?_set_ne (by omega)]; exact low id hid
    · have hfin := hbad h low len (fun hall => hin (hall _ hmem))
      by_cases n1 : xs[i] ≤ -1152921504606846976
      · simp [k_guard, k_guardU, hlt, hs, hbk', hc, n1, fin39]
        exact hfin
      · have n2 : 1152921504606846976 ≤ xs[i] := by unfold inR at hin; omega
        simp [k_guard, hlt, hs, hbk', hc, n1, n2, fin39]
        exact hfin
end
end Go.Proofs.Ytlflfkdnpalhlaa
namespace Go.Proofs.Ytlflfkdnpalhlaa
open Go Go.Sim
set_option linter.unusedSimpArgs false
set_option linter.unusedVariables false

section
variable {h : Heap} {R : Value → Heap → Prop} {k : List RItem}

theorem symbols_c {s : Value} {xs : List Int} (hi : Ints h s xs) (hl : xs.length < 9000000000) (w hh o : Int) (m : MD) :
    ∃ sv h', (∀ R, Ret tab 39 [s, .int .i64 w, .int .i64 hh, .int .i64 o, m.val] h R = R (.tuple #[sv, .int .i64 (symRes xs w hh o m).1]) h') ∧ SymOut h h' sv (symRes xs w hh o m) := by
  have key : Ret tab 39 [s, .int .i64 w, .int .i64 hh, .int .i64 o, m.val] h fun v h' => ∃ sv, v = .tuple #[sv, .int .i64 (symRes xs w hh o m).1] ∧ SymOut h h' sv (symRes xs w hh o m) := by
    obtain ⟨a, cc, hs⟩ := hi.sl.shape
    rw [enter39, show B39 = .seq (nthC 0 B39) (.seq (nthC 1 B39) (.seq (nthC 2 B39) (.seq (nthC 3 B39) (.seq (nthC 4 B39) (.seq (nthC 5 B39) (tlC 6 B39)))))) from rfl]
    generalize hT : tlC 6 B39 = tl
    simp only [nthC, tlC, fstC, B39]
    have hkp : ∀ x : Option Blk, ∀ id, id < h.length → blk? (h ++ [x]) id = blk? h id := fun x id hid => blk?_push_lt hid
    cases hsz : sized w hh
    · have hr : symRes xs w hh o m = (2, []) := by unfold symRes; rw [if_pos hsz]
      rw [hr]
      simp [MD.val, new_bad hsz, fin39]
      exact SymOut.nil (hkp _) (by simp) _
    have hsz' := hsz
    simp only [sized, decide_eq_true_eq] at hsz'
    obtain ⟨w, rfl⟩ := Int.eq_ofNat_of_zero_le (show 0 ≤ w by omega)
    obtain ⟨hh, rfl⟩ := Int.eq_ofNat_of_zero_le (show 0 ≤ hh by omega)
    have w1 : 1 ≤ w := by omega
    have w2 : w ≤ 64 := by omega
    have h1 : 1 ≤ hh := by omega
    have h2 : hh ≤ 64 := by omega
    have hm : w * hh ≤ 64 * 64 := Nat.mul_le_mul w2 h2
    have hmw : IntKind.i64.wrap ((w : Int) * (hh : Int)) = ((w * hh : Nat) : Int) := by rw [← Int.natCast_mul]; exact wrapN (by omega)
    -- the heap with the box and the block
    have hnew := fun H R => new_c (h := H) (R := R) w1 w2 h1 h2
    have hls : ∀ H : Heap, (newHeap H w hh).length = H.length + 2 := fun H => newHeap_len H w hh
    have hlow : ∀ x : Option Blk, ∀ id, id < h.length → blk? (newHeap (h ++ [x]) w hh) id = blk? h id := fun x id hid => by
      rw [newHeap_low _ _ _ id (by simp; omega)]; exact hkp x id hid
    by_cases hln : xs.length = w * hh
    case neg =>
      have hr : symRes xs w hh o m = (4, []) := by
        unfold symRes; rw [if_neg (by rw [hsz]; simp), if_pos (by rw [← Int.natCast_mul]; omega)]
      have hne : ((xs.length : Int) != ((w * hh : Nat) : Int)) = true := by simp only [bne_iff_ne, ne_eq]; omega
      rw [hr]
      simp [-Int.natCast_mul, MD.val, hnew, hs, hmw, hne, fin39]
      exact SymOut.nil (hlow _) (by rw [hls]; simp; omega) _
    have hne : ((xs.length : Int) != ((w * hh : Nat) : Int)) = false := by rw [hln]; simp
    have hsq : (xs.length : Int) = (w : Int) * (hh : Int) := by rw [hln, Int.natCast_mul]
    by_cases ho1 : o < 0
    · have hr : symRes xs w hh o m = (3, []) := by
        unfold symRes; rw [if_neg (by rw [hsz]; simp), if_neg (by rw [hsq]; simp), if_pos (.inl ho1)]
      rw [hr]
      simp [-Int.natCast_mul, k_guard, k_guardU, MD.val, hnew, hs, hmw, hne, ho1, fin39]
      exact SymOut.nil (hlow _) (by rw [hls]; simp; omega) _
    by_cases ho2 : 3 < o
    · have hr : symRes xs w hh o m = (3, []) := by
        unfold symRes; rw [if_neg (by rw [hsz]; simp), if_neg (by rw [hsq]; simp), if_pos (.inr ho2)]
      rw [hr]
      simp [-Int.natCast_mul, k_guard, k_guardU, MD.val, hnew, hs, hmw, hne, ho1, ho2, fin39]
      exact SymOut.nil (hlow _) (by rw [hls]; simp; omega) _
    obtain ⟨o, rfl⟩ := Int.eq_ofNat_of_zero_le (show 0 ≤ o by omega)
    have hbadr : ¬ (∀ v ∈ xs, inR v) → symRes xs w hh o m = (2, []) := fun hb => by
      unfold symRes; rw [if_neg (by rw [hsz]; simp), if_neg (by rw [hsq]; simp), if_neg (by omega), if_neg hb]
    have hokr : (∀ v ∈ xs, inR v) → symRes xs w hh o m = (0, passesOf m (planesOf xs) o (3 * planesOf xs - 2) 0 (fillTo w hh xs xs.length)) := fun hb => by
      unfold symRes; rw [if_neg (by rw [hsz]; simp), if_neg (by rw [hsq]; simp), if_neg (by omega), if_pos hb]; rfl
    simp [-Int.natCast_mul, k_guard, k_guardU, MD.val, hnew, hs, hmw, hne, ho1, ho2]
    rw [← hs]
    generalize hH0 : h ++ [some (⟨false, [.bool m.byp, .bool m.res, .bool m.rst, .bool m.cz, .bool m.sy]⟩ : Blk)] = H0
    have hH0l : H0.length = h.length + 1 := by rw [← hH0]; simp
    have hM : blk? H0 h.length = some ⟨false, [.bool m.byp, .bool m.res, .bool m.rst, .bool m.cz, .bool m.sy]⟩ := by rw [← hH0]; exact blk?_push_eq
    have hk0 : ∀ id, id < h.length → blk? H0 id = blk? h id := fun id hid => by rw [← hH0]; exact hkp _ id hid
    have hi0 : Ints H0 s xs := hi.keep (by omega) (fun id hid _ => hk0 id hid)
    have hsB : ∀ id, sid s = some id → id < H0.length := by
      intro id hid
      have := hi0.sb
      rw [hs] at this hid
      cases a with
      | none => simp [sid] at hid
      | some a => simp [sid] at hid; simp at this; omega
    have hcb := newHeap_cb H0 w1 w2 h1 h2
    rw [← fillTo_zero w hh xs, hH0l] at hcb
    refine fill_loop_c hi0 hsB w1 w2 h1 h2 hln ?_ ?_ _ 0 _ _ _ _ _ _ _ _ _ _ _ _ _ _ _ _ _ _ _ _ _ _ _ _ _ _ _ _ _ _ _ _ _ _ _ _ _ _ _ _ _ _ _ _ _ _ _ _ _ _ _ _ _ _ _ _ _ _ _ _ _ _ _ _ _ _ _ _ _ _ _ _ _ _ _ _ _ _ _ _ rfl (by omega) (by simp) hcb ⟨by omega, by omega⟩ (newHeap_low H0 w hh) (by rw [hls]; omega)
    · intro h' low len hb
      rw [hbadr hb]
      exact ⟨_, rfl, SymOut.nil (fun id hid => by rw [low id (by omega), hk0 id hid]) (by omega) _⟩
    · intro h2' t1 t4 t5 t6 t7 t8 t14 t15 t16 t17 t18 t19 t20 t21 t22 t23 t24 t25 t26 t27 t28 t29 t30 t31 t32 t33 t34 t35 t36 t37 t38 t39 t40 t41 t42 t43 t44 t45 t46 t47 t48 t49 t50 t51 t52 t53 t54 t55 t56 t57 t58 t59 t60 t61 t62 t63 t64 t65 t66 t67 t68 t69 t70 t71 t72 t73 t74 t75 t76 t77 t78 t79 t80 t81 t82 t83 t84 t85 t86 t87 t88 t89 t90 hb hcb2 low2 len2
      rw [hokr hb]
      have hp60 := inR_planes.1 hb
      have hi2 : Ints h2' s xs := hi0.keep (by omega) (fun id hid _ => low2 id hid)
      have hpl := fun R => planes_c (R := R) hi2 hl
      have hmx : (if 2 < 3 * (planesOf xs : Int) then (3 * (planesOf xs : Int) - 2) else 0) = ((3 * planesOf xs - 2 : Nat) : Int) := by split <;> omega
      have hw3 : IntKind.i64.wrap (3 * (planesOf xs : Int)) = 3 * (planesOf xs : Int) := wrapI (by omega) (by omega)
      have hw4 : IntKind.i64.wrap (3 * (planesOf xs : Int) - 2) = 3 * (planesOf xs : Int) - 2 := wrapI (by omega) (by omega)
      rw [← hT]
      simp only [tlC, B39]
      generalize hmg : ((3 * planesOf xs - 2 : Nat) : Int) = mg at *
      simp [hpl, hw3, hw4, fold1, foldO, max2V]
      rw [hmx, ← hmg]
      have hgood := fillTo_good (newBS_good w1 w2 h1 h2) hln xs.length (Nat.le_refl _) (by rw [List.take_of_length_le (Nat.le_refl _)]; exact hb)
      have w0 := SL.start (B := H0.length) (h0 := H0) hcb2 hgood ⟨by omega, by omega⟩ low2 len2
      refine pass_loop_c (b0 := fillTo w hh xs xs.length) hM (by omega) hp60 (by omega) ?_ (3 * planesOf xs - 2) 0 _ _ _ _ _ _ _ _ _ _ _ _ _ _ _ _ _ _ _ _ _ _ _ _ _ _ _ _ _ _ _ _ _ _ _ _ _ _ _ _ _ _ _ _ _ _ _ _ _ _ _ _ _ _ _ _ _ _ _ _ _ _ _ _ _ _ _ _ _ _ _ _ _ _ _ _ _ _ _ _ _ _ _ _ _ _ _ (by omega) rfl rfl w0
      intro h' s' vs b' ls t0 t1 t2 t3 t4 t5 t6 t7 t8 t9 t12 t13 t14 t15 t16 t18 t19 t20 t21 t22 t23 t24 t25 t26 t27 t28 t29 t30 t31 t32 t33 t34 t35 t36 t37 t38 t39 t40 t41 t42 t43 t44 t45 t46 t47 t48 t49 t50 t51 t52 t53 t54 t55 t56 t57 t58 t59 t60 t61 t62 t63 t64 t65 t66 t67 t68 t69 t70 t71 t72 t73 t74 t75 t76 t77 t78 t79 t80 t81 t82 t83 t84 t85 t86 t87 t88 t89 t90 w hls
      simp [fin39]
      refine ⟨⟨vs, ?_⟩, fun id hid => by rw [w.low id (by omega), hk0 id hid], by have := w.lenB; omega⟩
      rw [← hls]; exact w.pss
  obtain ⟨v, h', e, sv, rfl, rs⟩ := ret_ex key
  exact ⟨sv, h', e, rs⟩
end
end Go.Proofs.Ytlflfkdnpalhlaa
namespace Go.Proofs.Ytlflfkdnpalhlaa
open Go Go.Sim
set_option linter.unusedSimpArgs false
set_option linter.unusedVariables false

section
variable {h : Heap} {R : Value → Heap → Prop} {k : List RItem}

theorem pass_loop_r {B : Nat} {h0 : Heap} {b0 : BS} {p c M : Nat} {m : MD} {planes o : Nat} {v10 v11 : Value} (hM : blk? h0 M = some ⟨false, [.bool m.byp, .bool m.res, .bool m.rst, .bool m.cz, .bool m.sy]⟩) (hMB : M < B) (hp1 : planes ≤ 60) (ho : o ≤ 3)
    (hk : ∀ (h' : Heap) (s : Value) (vs : List Value) (b : BS) (ls : List (List (Int × Nat))) (t0 t1 t2 t3 t4 t5 t6 t7 t8 t9 t12 t13 t14 t15 t16 t18 t19 t20 t21 t22 t23 t24 t25 t26 t27 t28 t29 t30 t31 t32 t33 t34 t35 t36 t37 t38 t39 t40 t41 t42 t43 t44 t45 t46 t47 t48 t49 t50 t51 t52 t53 t54 t55 t56 t57 t58 t59 t60 t61 t62 t63 t64 t65 t66 t67 t68 t69 t70 t71 t72 t73 t74 t75 t76 t77 t78 t79 t80 t81 t82 t83 t84 t85 t86 t87 t88 t89 t90 t91 : Value), SL B h0 h' p c b s vs ls → ls = passesOf m planes o (3 * planes - 2) 0 b0 → Ok tab R40 k #[t0, t1, t2, t3, t4, t5, t6, t7, t8, t9, v10, v11, t12, t13, t14, t15, t16, s, t18, t19, t20, t21, t22, t23, t24, t25, t26, t27, t28, t29, t30, t31, t32, t33, t34, t35, t36, t37, t38, t39, t40, t41, t42, t43, t44, t45, t46, t47, t48, t49, t50, t51, t52, t53, t54, t55, t56, t57, t58, t59, t60, t61, t62, t63, t64, t65, t66, t67, t68, t69, t70, t71, t72, t73, t74, t75, t76, t77, t78, t79, t80, t81, t82, t83, t84, t85, t86, t87, t88, t89, t90, t91] h' R) :
    ∀ (n i : Nat) (h : Heap) (b : BS) (s : Value) (vs : List Value) (ls : List (List (Int × Nat))) (t0 t1 t2 t4 t5 t6 t7 t8 t14 t15 t16 t19 t20 t21 t22 t23 t24 t25 t26 t27 t28 t29 t30 t31 t32 t33 t34 t35 t36 t37 t38 t39 t40 t41 t42 t43 t44 t45 t46 t47 t48 t49 t50 t51 t52 t53 t54 t55 t56 t57 t58 t59 t60 t61 t62 t63 t64 t65 t66 t67 t68 t69 t70 t71 t72 t73 t74 t75 t76 t77 t78 t79 t80 t81 t82 t83 t84 t85 t86 t87 t88 t89 t90 t91 : Value), i + n = 3 * planes - 2 → ls.length = i → ls ++ passesOf m planes o n i b = passesOf m planes o (3 * planes - 2) 0 b0 → SL B h0 h p c b s vs ls →
      Ok tab R40 (.inLoop L40_1 :: .inBlock 2 :: k) #[t0, t1, t2, .int .i64 o, t4, t5, t6, t7, t8, ptr M, v10, v11, .int .i64 planes, ptr p, t14, t15, t16, s, .int .i64 i, t19, t20, t21, t22, t23, t24, t25, t26, t27, t28, t29, t30, t31, t32, t33, t34, t35, t36, t37, t38, t39, t40, t41, t42, t43, t44, t45, t46, t47, t48, t49, t50, t51, t52, t53, t54, t55, t56, t57, t58, t59, t60, t61, t62, t63, t64, t65, t66, t67, t68, t69, t70, t71, t72, t73, t74, t75, t76, t77, t78, t79, t80, t81, t82, t83, t84, t85, t86, t87, t88, t89, t90, t91] h R := by
  intro n
  induction n with
  | zero =>
    intro i h b s vs ls t0 t1 t2 t4 t5 t6 t7 t8 t14 t15 t16 t19 t20 t21 t22 t23 t24 t25 t26 t27 t28 t29 t30 t31 t32 t33 t34 t35 t36 t37 t38 t39 t40 t41 t42 t43 t44 t45 t46 t47 t48 t49 t50 t51 t52 t53 t54 t55 t56 t57 t58 t59 t60 t61 t62 t63 t64 t65 t66 t67 t68 t69 t70 t71 t72 t73 t74 t75 t76 t77 t78 t79 t80 t81 t82 t83 t84 t85 t86 t87 t88 t89 t90 t91 hi hls hpa w
    have hlt : ¬ ((i : Int) < 3 * (planes : Int) - 2) := by omega
    have hw3 : IntKind.i64.wrap (3 * (planes : Int)) = 3 * (planes : Int) := wrapI (by omega) (by omega)
    have hw4 : IntKind.i64.wrap (3 * (planes : Int) - 2) = 3 * (planes : Int) - 2 := wrapI (by omega) (by omega)
    rw [ok_round, l40_1, L40_1a, L40_1b]
    simp [hw3, hw4, hlt]
    exact hk h s vs b ls _ _ _ _ _ _ _ _ _ _ _ _ _ _ _ _ _ _ _ _ _ _ _ _ _ _ _ _ _ _ _ _ _ _ _ _ _ _ _ _ _ _ _ _ _ _ _ _ _ _ _ _ _ _ _ _ _ _ _ _ _ _ _ _ _ _ _ _ _ _ _ _ _ _ _ _ _ _ _ _ _ _ _ _ _ _ _ _ _ w (by simpa [passesOf] using hpa)
  | succ n ih =>
    intro i h b s vs ls t0 t1 t2 t4 t5 t6 t7 t8 t14 t15 t16 t19 t20 t21 t22 t23 t24 t25 t26 t27 t28 t29 t30 t31 t32 t33 t34 t35 t36 t37 t38 t39 t40 t41 t42 t43 t44 t45 t46 t47 t48 t49 t50 t51 t52 t53 t54 t55 t56 t57 t58 t59 t60 t61 t62 t63 t64 t65 t66 t67 t68 t69 t70 t71 t72 t73 t74 t75 t76 t77 t78 t79 t80 t81 t82 t83 t84 t85 t86 t87 t88 t89 t90 t91 hi hls hpa w
    have hlt : (i : Int) < 3 * (planes : Int) - 2 := by omega
    have hw3 : IntKind.i64.wrap (3 * (planes : Int)) = 3 * (planes : Int) := wrapI (by omega) (by omega)
    have hw4 : IntKind.i64.wrap (3 * (planes : Int) - 2) = 3 * (planes : Int) - 2 := wrapI (by omega) (by omega)
    have hw : IntKind.i64.wrap ((i : Int) + 1) = ((i + 1 : Nat) : Int) := wrapN (n := i + 1) (by omega)
    have hM1 : blk? h M = some ⟨false, [.bool m.byp, .bool m.res, .bool m.rst, .bool m.cz, .bool m.sy]⟩ := by rw [w.low M hMB]; exact hM
    obtain ⟨sv, h1, e1, r1⟩ := run_r w.cb w.good.rng i planes o m
    have herr : runErr i planes o = 0 := by unfold runErr; rw [if_neg (by omega), if_neg (by omega)]
    have hro : runOut m b i planes o = runSt m b i planes o := by unfold runOut; rw [if_pos herr]; simp
    rw [herr] at e1
    rw [hro] at r1
    obtain ⟨s', H, ha, w'⟩ := w.step r1 (by rw [w.len]; omega)
    simp only [MD.val] at e1
    have ih' := ih (i + 1)
    generalize hq : ((i + 1 : Nat) : Int) = q at *
    have e9 := w'
    rw [ok_round, l40_1, L40_1a, L40_1b]
    cases sv with
    | slice a sl cp =>
      simp [hw3, hw4, hlt, hM1, e1, repL, ha, hw]
      exact ih' H _ s' _ _ _ _ _ _ _ _ _ _ _ _ _ _ _ _ _ _ _ _ _ _ _ _ _ _ _ _ _ _ _ _ _ _ _ _ _ _ _ _ _ _ _ _ _ _ _ _ _ _ _ _ _ _ _ _ _ _ _ _ _ _ _ _ _ _ _ _ _ _ _ _ _ _ _ _ _ _ _ _ _ _ _ _ _ _ (by omega) (by simp; omega) (by rw [← hpa, passesOf]; simp) w'
    | _ => exact absurd r1.own.sl.shape (by simp)

theorem fill_loop_r {B : Nat} {h0 : Heap} {s : Value} {xs : List Int} {w hh : Nat} {p c : Nat} {v3 v9 v10 v11 v13 : Value} (hi : Ints h0 s xs) (hsB : ∀ id, sid s = some id → id < B) (w1 : 1 ≤ w) (w2 : w ≤ 64) (h1 : 1 ≤ hh) (h2 : hh ≤ 64) (hl : xs.length = w * hh)
    (hall : ∀ v ∈ xs, inR v)
    (hk : ∀ (h' : Heap) (t0 t1 t2 t4 t5 t6 t7 t8 t14 t15 t16 t17 t18 t19 t20 t21 t22 t23 t24 t25 t26 t27 t28 t29 t30 t31 t32 t33 t34 t35 t36 t37 t38 t39 t40 t41 t42 t43 t44 t45 t46 t47 t48 t49 t50 t51 t52 t53 t54 t55 t56 t57 t58 t59 t60 t61 t62 t63 t64 t65 t66 t67 t68 t69 t70 t71 t72 t73 t74 t75 t76 t77 t78 t79 t80 t81 t82 t83 t84 t85 t86 t87 t88 t89 t90 t91 : Value), (∀ v ∈ xs, inR v) → CB h' false p c (fillTo w hh xs xs.length) → (∀ id, id < B → blk? h' id = blk? h0 id) → B ≤ h'.length →
      Ok tab R40 k #[t0, t1, t2, v3, t4, t5, t6, t7, t8, v9, v10, v11, v13, ptr p, t14, t15, t16, t17, t18, t19, t20, t21, t22, t23, t24, t25, t26, t27, t28, t29, t30, t31, t32, t33, t34, t35, t36, t37, t38, t39, t40, t41, t42, t43, t44, t45, t46, t47, t48, t49, t50, t51, t52, t53, t54, t55, t56, t57, t58, t59, t60, t61, t62, t63, t64, t65, t66, t67, t68, t69, t70, t71, t72, t73, t74, t75, t76, t77, t78, t79, t80, t81, t82, t83, t84, t85, t86, t87, t88, t89, t90, t91] h' R) :
    ∀ (n i : Nat) (h : Heap) (t0 t2 t4 t5 t6 t7 t8 t14 t15 t16 t17 t18 t19 t20 t21 t22 t23 t24 t25 t26 t27 t28 t29 t30 t31 t32 t33 t34 t35 t36 t37 t38 t39 t40 t41 t42 t43 t44 t45 t46 t47 t48 t49 t50 t51 t52 t53 t57 t58 t59 t60 t61 t62 t63 t64 t65 t66 t67 t68 t69 t70 t71 t72 t73 t74 t75 t76 t77 t78 t79 t80 t81 t82 t83 t84 t85 t86 t87 t88 t89 t90 t91 : Value), n = xs.length - i → i ≤ xs.length → (∀ v ∈ xs.take i, inR v) → CB h false p c (fillTo w hh xs i) → B ≤ p ∧ B ≤ c → (∀ id, id < B → blk? h id = blk? h0 id) → B ≤ h.length →
      Ok tab R40 (.inLoop L40_0 :: .inBlock 0 :: k) #[t0, .int .i64 w, t2, v3, t4, t5, t6, t7, t8, v9, v10, v11, v13, ptr p, t14, t15, t16, t17, t18, t19, t20, t21, t22, t23, t24, t25, t26, t27, t28, t29, t30, t31, t32, t33, t34, t35, t36, t37, t38, t39, t40, t41, t42, t43, t44, t45, t46, t47, t48, t49, t50, t51, t52, t53, s, .int .i64 xs.length, .int .i64 i, t57, t58, t59, t60, t61, t62, t63, t64, t65, t66, t67, t68, t69, t70, t71, t72, t73, t74, t75, t76, t77, t78, t79, t80, t81, t82, t83, t84, t85, t86, t87, t88, t89, t90, t91] h R := by
  intro n
  have hm : w * hh ≤ 64 * 64 := Nat.mul_le_mul w2 h2
  induction n with
  | zero =>
    intro i h t0 t2 t4 t5 t6 t7 t8 t14 t15 t16 t17 t18 t19 t20 t21 t22 t23 t24 t25 t26 t27 t28 t29 t30 t31 t32 t33 t34 t35 t36 t37 t38 t39 t40 t41 t42 t43 t44 t45 t46 t47 t48 t49 t50 t51 t52 t53 t57 t58 t59 t60 t61 t62 t63 t64 t65 t66 t67 t68 t69 t70 t71 t72 t73 t74 t75 t76 t77 t78 t79 t80 t81 t82 t83 t84 t85 t86 t87 t88 t89 t90 t91 hn hi' hr hcb hB low len
    have hlt : ¬ ((i : Int) < xs.length) := by omega
    have : i = xs.length := by omega
    subst this
    rw [ok_round, l40_0, L40_0a, L40_0b]
    simp [hlt]
    exact hk h _ _ _ _ _ _ _ _ _ _ _ _ _ _ _ _ _ _ _ _ _ _ _ _ _ _ _ _ _ _ _ _ _ _ _ _ _ _ _ _ _ _ _ _ _ _ _ _ _ _ _ _ _ _ _ _ _ _ _ _ _ _ _ _ _ _ _ _ _ _ _ _ _ _ _ _ _ _ _ _ _ _ _ _ _ _ (by rw [List.take_of_length_le (Nat.le_refl _)] at hr; exact hr) hcb low len
  | succ n ih =>
    intro i h t0 t2 t4 t5 t6 t7 t8 t14 t15 t16 t17 t18 t19 t20 t21 t22 t23 t24 t25 t26 t27 t28 t29 t30 t31 t32 t33 t34 t35 t36 t37 t38 t39 t40 t41 t42 t43 t44 t45 t46 t47 t48 t49 t50 t51 t52 t53 t57 t58 t59 t60 t61 t62 t63 t64 t65 t66 t67 t68 t69 t70 t71 t72 t73 t74 t75 t76 t77 t78 t79 t80 t81 t82 t83 t84 t85 t86 t87 t88 t89 t90 t91 hn hi' hr hcb hB low len
    have hlt : ((i : Int) < xs.length) := by omega
    have hil : i < xs.length := by omega
    have hw : IntKind.i64.wrap ((i : Int) + 1) = ((i + 1 : Nat) : Int) := wrapN (n := i + 1) (by omega)
    obtain ⟨id, off, b, hs, hbk, hc⟩ := hi.get hil
    have hbk' : blk? h id = some b := by rw [low id (hsB id (by rw [hs]; rfl))]; exact hbk
    have hmod : (i : Int).tmod (w : Int) = ((i % w : Nat) : Int) := rfl
    have hdiv : (i : Int).tdiv (w : Int) = ((i / w : Nat) : Int) := rfl
    have hdw : IntKind.i64.wrap ((i / w : Nat) : Int) = ((i / w : Nat) : Int) := wrapN (by have := Nat.div_le_self i w; omega)
    have hw0 : ¬ w = 0 := by omega
    have hinb := inb_divmod (i := i) (h := hh) (w := w) (by omega) (by omega) (fillTo w hh xs i).cs
    have ih' := ih (i + 1)
    have hmem := List.getElem_mem hil
    have hstep := fillTo_step (i := i) (w := w) (by omega) hil hl
    have htk : ∀ v ∈ xs.take (i + 1), inR xs[i] → inR v := by
      intro v hv hx
      rw [List.take_succ_eq_append_getElem hil] at hv
      rw [List.mem_append, List.mem_singleton] at hv
      rcases hv with hv | hv
      · exact hr v hv
      · rw [hv]; exact hx
    rw [ok_round, l40_0, L40_0a, L40_0b]
    have hin : inR xs[i] := hall _ hmem
    have hst := fun R => set_r (R := R) (v := xs[i]) hcb (x := ((i % w : Nat) : Int)) (y := ((i / w : Nat) : Int)) hinb hin
    have hmm : (fun z : Cell => ({ z with v := xs[i] } : Cell)) = setV xs[i] := rfl
    rw [hmm, hstep] at hst
    have hgood := fillTo_good (newBS_good w1 w2 h1 h2) hl (i + 1) (by omega) (fun v hv => htk v hv hin)
    have hcb' := hcb.set (b' := fillTo w hh xs (i + 1)) rfl rfl hgood.ok
    generalize hq : ((i + 1 : Nat) : Int) = q at *
    generalize hq2 : ((i % w : Nat) : Int) = q2 at *
    generalize hq3 : ((i / w : Nat) : Int) = q3 at *
    simp [hlt, hs, hbk', hc, hmod, hdiv, hdw, hw0, hst, hw]
    rw [← hs]
    refine ih' _ _ _ _ _ _ _ _ _ _ _ _ _ _ _ _ _ _ _ _ _ _ _ _ _ _ _ _ _ _ _ _ _ _ _ _ _ _ _ _ _ _ _ _ _ _ _ _ _ _ _ _ _ _ _ _ _ _ _ _ _ _ _ _ _ _ _ _ _ _ _ _ _ _ _ _ _ _ _ _ _ _ _ (by omega) (by omega) (fun v hv => htk v hv hin) hcb' hB (fun id hid => ?_) (by simp; omega)
    rw [blk?_set_ne (by omega)]; exact low id hid
end
end Go.Proofs.Ytlflfkdnpalhlaa
namespace Go.Proofs.Ytlflfkdnpalhlaa
open Go Go.Sim
set_option linter.unusedSimpArgs false
set_option linter.unusedVariables false

section
variable {h : Heap}

theorem symbols_r {s : Value} {xs : List Int} (hi : Ints h s xs) (hl : xs.length < 9000000000) (w hh o : Int) (m : MD) :
    ∃ sv h', (∀ R, Ret tab 40 [s, .int .i64 w, .int .i64 hh, .int .i64 o, m.val] h R = R (.tuple #[sv, .int .i64 (symRes xs w hh o m).1]) h') ∧ SymOut h h' sv (symRes xs w hh o m) := by
  have key : Ret tab 40 [s, .int .i64 w, .int .i64 hh, .int .i64 o, m.val] h fun v h' => ∃ sv, v = .tuple #[sv, .int .i64 (symRes xs w hh o m).1] ∧ SymOut h h' sv (symRes xs w hh o m) := by
    obtain ⟨a, cc, hs⟩ := hi.sl.shape
    have hbox := hi.keep (h' := h ++ [some ⟨false, [.bool m.byp, .bool m.res, .bool m.rst, .bool m.cz, .bool m.sy]⟩]) (by simp) (fun id hid _ => blk?_push_lt hid)
    have hpl := fun R => planes_r (R := R) hbox hl
    rw [enter40, show B40 = .seq (nthC 0 B40) (.seq (nthC 1 B40) (.seq (nthC 2 B40) (.seq (nthC 3 B40) (.seq (nthC 4 B40) (.seq (nthC 5 B40) (.seq (nthC 6 B40) (.seq (nthC 7 B40) (tlC 8 B40)))))))) from rfl]
    generalize hT : tlC 8 B40 = tl
    simp only [nthC, tlC, fstC, B40]
    have hkp : ∀ x : Option Blk, ∀ id, id < h.length → blk? (h ++ [x]) id = blk? h id := fun x id hid => blk?_push_lt hid
    cases hsz : sized w hh
    · have hr : symRes xs w hh o m = (2, []) := by unfold symRes; rw [if_pos hsz]
      rw [hr]
      simp only [sized, decide_eq_false_iff_not] at hsz
      by_cases c1 : w < 1
      · simp [k_guard, k_guardU, MD.val, c1, fin40]
        exact SymOut.nil (hkp _) (by simp) _
      by_cases c2 : 64 < w
      · simp [k_guard, k_guardU, MD.val, c1, c2, fin40]
        exact SymOut.nil (hkp _) (by simp) _
      by_cases c3 : hh < 1
      · simp [k_guard, k_guardU, MD.val, c1, c2, c3, fin40]
        exact SymOut.nil (hkp _) (by simp) _
      have c4 : 64 < hh := by omega
      simp [k_guard, k_guardU, MD.val, c1, c2, c3, c4, fin40]
      exact SymOut.nil (hkp _) (by simp) _
    have hsz' := hsz
    simp only [sized, decide_eq_true_eq] at hsz'
    obtain ⟨w, rfl⟩ := Int.eq_ofNat_of_zero_le (show 0 ≤ w by omega)
    obtain ⟨hh, rfl⟩ := Int.eq_ofNat_of_zero_le (show 0 ≤ hh by omega)
    have w1 : 1 ≤ w := by omega
    have w2 : w ≤ 64 := by omega
    have h1 : 1 ≤ hh := by omega
    have h2 : hh ≤ 64 := by omega
    have c1 : ¬ (w : Int) < 1 := by omega
    have c2 : ¬ (64 : Int) < w := by omega
    have c3 : ¬ (hh : Int) < 1 := by omega
    have c4 : ¬ (64 : Int) < hh := by omega
    have c1' : ¬ w = 0 := by omega
    have c3' : ¬ hh = 0 := by omega
    have hm : w * hh ≤ 64 * 64 := Nat.mul_le_mul w2 h2
    have hmw : IntKind.i64.wrap ((w : Int) * (hh : Int)) = ((w * hh : Nat) : Int) := by rw [← Int.natCast_mul]; exact wrapN (by omega)
    have hnew := fun H R => new_r (h := H) (R := R) w1 w2 h1 h2
    have hls : ∀ H : Heap, (newHeap H w hh).length = H.length + 2 := fun H => newHeap_len H w hh
    by_cases hln : xs.length = w * hh
    case neg =>
      have hr : symRes xs w hh o m = (4, []) := by
        unfold symRes; rw [if_neg (by rw [hsz]; simp), if_pos (by rw [← Int.natCast_mul]; omega)]
      have hne : ((xs.length : Int) != ((w * hh : Nat) : Int)) = true := by simp only [bne_iff_ne, ne_eq]; omega
      rw [hr]
      simp [-Int.natCast_mul, k_guard, MD.val, c1, c2, c3, c4, c1', c3', hs, hmw, hne, fin40]
      exact SymOut.nil (hkp _) (by simp) _
    have hne : ((xs.length : Int) != ((w * hh : Nat) : Int)) = false := by rw [hln]; simp
    have hsq : (xs.length : Int) = (w : Int) * (hh : Int) := by rw [hln, Int.natCast_mul]
    by_cases ho : 0 ≤ o ∧ o ≤ 3
    case neg =>
      have hr : symRes xs w hh o m = (3, []) := by
        unfold symRes; rw [if_neg (by rw [hsz]; simp), if_neg (by rw [hsq]; simp), if_pos (by omega)]
      have hd : decide (0 ≤ o ∧ o ≤ 3) = false := by simp only [decide_eq_false_iff_not]; exact ho
      rw [hr]
      simp [-Bool.decide_and, -Int.natCast_mul, k_guard, MD.val, c1, c2, c3, c4, c1', c3', hs, hmw, hne, validOrient_r, hd, fin40]
      exact SymOut.nil (hkp _) (by simp) _
    have hd : decide (0 ≤ o ∧ o ≤ 3) = true := decide_eq_true ho
    obtain ⟨o, rfl⟩ := Int.eq_ofNat_of_zero_le (show 0 ≤ o by omega)
    have ho3 : (o : Int) ≤ 3 := by omega
    by_cases hb : ∀ v ∈ xs, inR v
    case neg =>
      have hr : symRes xs w hh o m = (2, []) := by
        unfold symRes; rw [if_neg (by rw [hsz]; simp), if_neg (by rw [hsq]; simp), if_neg (by omega), if_neg hb]
      have hgt : 60 < planesOf xs := by
        apply Nat.lt_of_not_le
        intro hle; exact hb (inR_planes.2 hle)
      have hgt' : (60 : Int) < planesOf xs := by omega
      rw [hr]
      rw [hs] at hpl
      simp [-Bool.decide_and, -Int.natCast_mul, k_guard, MD.val, c1, c2, c3, c4, c1', c3', hs, hmw, hne, validOrient_r, hd, ho3, hpl, hgt, hgt', fin40]
      exact SymOut.nil (hkp _) (by simp) _
    have hp60 := inR_planes.1 hb
    have hgt : ¬ 60 < planesOf xs := by omega
    have hgt' : ¬ (60 : Int) < planesOf xs := by omega
    have hr : symRes xs w hh o m = (0, passesOf m (planesOf xs) o (3 * planesOf xs - 2) 0 (fillTo w hh xs xs.length)) := by
      unfold symRes; rw [if_neg (by rw [hsz]; simp), if_neg (by rw [hsq]; simp), if_neg (by omega), if_pos hb]; rfl
    rw [hr]
    rw [hs] at hpl
    simp [-Bool.decide_and, -Int.natCast_mul, k_guard, MD.val, c1, c2, c3, c4, c1', c3', hs, hmw, hne, validOrient_r, hd, ho3, hpl, hgt, hgt', hnew]
    rw [← hs]
    generalize hH0 : h ++ [some (⟨false, [.bool m.byp, .bool m.res, .bool m.rst, .bool m.cz, .bool m.sy]⟩ : Blk)] = H0 at *
    have hH0l : H0.length = h.length + 1 := by rw [← hH0]; simp
    have hM : blk? H0 h.length = some ⟨false, [.bool m.byp, .bool m.res, .bool m.rst, .bool m.cz, .bool m.sy]⟩ := by rw [← hH0]; exact blk?_push_eq
    have hk0 : ∀ id, id < h.length → blk? H0 id = blk? h id := fun id hid => by rw [← hH0]; exact hkp _ id hid
    have hi0 : Ints H0 s xs := hi.keep (by omega) (fun id hid _ => hk0 id hid)
    have hsB : ∀ id, sid s = some id → id < H0.length := by
      intro id hid
      have := hi0.sb
      rw [hs] at this hid
      cases a with
      | none => simp [sid] at hid
      | some a => simp [sid] at hid; simp at this; omega
    have hcb := newHeap_cb H0 w1 w2 h1 h2
    rw [← fillTo_zero w hh xs, hH0l] at hcb
    refine fill_loop_r hi0 hsB w1 w2 h1 h2 hln hb ?_ _ 0 _ _ _ _ _ _ _ _ _ _ _ _ _ _ _ _ _ _ _ _ _ _ _ _ _ _ _ _ _ _ _ _ _ _ _ _ _ _ _ _ _ _ _ _ _ _ _ _ _ _ _ _ _ _ _ _ _ _ _ _ _ _ _ _ _ _ _ _ _ _ _ _ _ _ _ _ _ _ _ _ _ _ _ rfl (by omega) (by simp) hcb ⟨by omega, by omega⟩ (newHeap_low H0 w hh) (by rw [hls]; omega)
    intro h2' t0 t1 t2 t4 t5 t6 t7 t8 t14 t15 t16 t17 t18 t19 t20 t21 t22 t23 t24 t25 t26 t27 t28 t29 t30 t31 t32 t33 t34 t35 t36 t37 t38 t39 t40 t41 t42 t43 t44 t45 t46 t47 t48 t49 t50 t51 t52 t53 t54 t55 t56 t57 t58 t59 t60 t61 t62 t63 t64 t65 t66 t67 t68 t69 t70 t71 t72 t73 t74 t75 t76 t77 t78 t79 t80 t81 t82 t83 t84 t85 t86 t87 t88 t89 t90 t91 hb hcb2 low2 len2
    rw [← hT]
    simp only [tlC, B40]
    simp
    have hgood := fillTo_good (newBS_good w1 w2 h1 h2) hln xs.length (Nat.le_refl _) (by rw [List.take_of_length_le (Nat.le_refl _)]; exact hb)
    have w0 := SL.start (B := H0.length) (h0 := H0) hcb2 hgood ⟨by omega, by omega⟩ low2 len2
    refine pass_loop_r (b0 := fillTo w hh xs xs.length) hM (by omega) hp60 (by omega) ?_ (3 * planesOf xs - 2) 0 _ _ _ _ _ _ _ _ _ _ _ _ _ _ _ _ _ _ _ _ _ _ _ _ _ _ _ _ _ _ _ _ _ _ _ _ _ _ _ _ _ _ _ _ _ _ _ _ _ _ _ _ _ _ _ _ _ _ _ _ _ _ _ _ _ _ _ _ _ _ _ _ _ _ _ _ _ _ _ _ _ _ _ _ _ _ _ _ _ (by omega) rfl rfl w0
    intro h' s' vs b' ls t0 t1 t2 t3 t4 t5 t6 t7 t8 t9 t12 t13 t14 t15 t16 t18 t19 t20 t21 t22 t23 t24 t25 t26 t27 t28 t29 t30 t31 t32 t33 t34 t35 t36 t37 t38 t39 t40 t41 t42 t43 t44 t45 t46 t47 t48 t49 t50 t51 t52 t53 t54 t55 t56 t57 t58 t59 t60 t61 t62 t63 t64 t65 t66 t67 t68 t69 t70 t71 t72 t73 t74 t75 t76 t77 t78 t79 t80 t81 t82 t83 t84 t85 t86 t87 t88 t89 t90 t91 w hls
    simp [fin40]
    refine ⟨⟨vs, ?_⟩, fun id hid => by rw [w.low id (by omega), hk0 id hid], by have := w.lenB; omega⟩
    rw [← hls]; exact w.pss
  obtain ⟨v, h', e, sv, rfl, rs⟩ := ret_ex key
  exact ⟨sv, h', e, rs⟩
end
end Go.Proofs.Ytlflfkdnpalhlaa
