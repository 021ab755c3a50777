/-
  Rows of numbers; the number of bit planes; new blocks; the program's and the reference's.
  Rows of symbols, compared; the symbols of all passes.
  Lists of passes, compared and made.
  Symbols: the program's and the reference's come to the same.
  The reference's numbers of passes.
  Symbols, on: the whole calls.
-/
import Derived.Test.YtjpjohchdfoeaaaEnc8
import Derived.Test.YtjpjohchdfoeaaaSimX
namespace Go.Proofs.Ytjpjohchdfoeaaa
open Go Go.Sim
set_option linter.unusedSimpArgs false
set_option linter.unusedVariables false

theorem own_below {h : Heap} {esz n : Nat} {s : Value} {cs : List Value} (ho : OwnS h esz s n cs) {N : Nat} (hl : h.length ≤ N) : below N s = true := by
  rcases ho.2 with ⟨rfl, _⟩ | ⟨id, rfl, hb⟩
  · simp
  · have := blk?_lt hb; simp; omega
section
variable {h : Heap} {R : Value → Heap → Prop}
theorem abs_r {v : Int} (h1 : -9223372036854775808 ≤ v) (h2 : v < 9223372036854775808) : Ret tab 99 [.int .i64 v] h R = R (.int .u64 (v.natAbs : Nat)) h := by
  rw [enter99, B99]
  by_cases hv : v < 0
  · have := natAbs_wrap hv h1
    rw [Int.zero_sub] at this
    simp [hv, this, fin99]
  · simp [hv, natAbs_wrap0 hv h2, fin99]
end
theorem Sl_of_cells {h h' : Heap} {esz n : Nat} {s : Value} {cs : List Value} (hs : Sl h esz s n cs) (hk : ∀ id b, sid s = some id → blk? h id = some b → ∃ b', blk? h' id = some b' ∧ b'.cells = b.cells) : Sl h' esz s n cs := by
  obtain ⟨hl, hs⟩ := hs
  refine ⟨hl, ?_⟩
  rcases hs with hs | ⟨id, off, rfl, h0 | ⟨b, hb, hle, hc⟩⟩
  · exact .inl hs
  · exact .inr ⟨id, off, rfl, .inl h0⟩
  · obtain ⟨b', h1, h2⟩ := hk id b rfl hb
    exact .inr ⟨id, off, rfl, .inr ⟨b', h1, by rw [h2]; exact hle, by rw [h2]; exact hc⟩⟩

def i64s (xs : List Int) : List Value := xs.map fun v => .int .i64 v
/-- A row of integers. -/
structure Ints (h : Heap) (s : Value) (xs : List Int) : Prop where
  sl : Sl h 1 s xs.length (i64s xs)
  sb : below h.length s = true
  bl : ∀ id b, sid s = some id → blk? h id = some b → ∀ n, belowL n b.cells = true
  rng : ∀ v ∈ xs, -9223372036854775808 ≤ v ∧ v < 9223372036854775808

theorem Ints.frz {h : Heap} {s : Value} {xs : List Int} (hi : Ints h s xs) : Ints (frz h) s xs := by
  refine ⟨Sl_of_cells hi.sl fun id b hid hb => ⟨_, blk_frz hb (hi.bl id b hid hb _), rfl⟩, by rw [len_frz]; exact hi.sb, fun id b hid hb => ?_, hi.rng⟩
  obtain ⟨b0, h0, rfl, _⟩ := frz_some hb
  exact hi.bl id b0 hid h0
theorem below_sid {h h' : Heap} {s : Value} (hl : h.length ≤ h'.length) {a : Option Addr} {n c : Nat} (hs : s = .slice a n c) (hb : below h.length s = true) : below h'.length s = true := by
  subst hs
  cases a with
  | none => simp
  | some a => simp at hb ⊢; omega
theorem Ints.keep {h h' : Heap} {s : Value} {xs : List Int} (hi : Ints h s xs) (hl : h.length ≤ h'.length) (hk : ∀ id, id < h.length → sid s = some id → blk? h' id = blk? h id) : Ints h' s xs := by
  obtain ⟨a, c, hs⟩ := hi.sl.shape
  have hlt : ∀ id, sid s = some id → id < h.length := by
    intro id hid
    have := hi.sb
    rw [hs] at this hid
    cases a with
    | none => simp [sid] at hid
    | some a => simp [sid] at hid; simp at this; omega
  refine ⟨hi.sl.of_sid fun id b hid hb => by rw [hk id (blk?_lt hb) hid]; exact hb, below_sid hl hs hi.sb, fun id b hid hb => ?_, hi.rng⟩
  rw [hk id (hlt id hid) hid] at hb
  exact hi.bl id b hid hb
theorem Ints.get {h : Heap} {s : Value} {xs : List Int} (hi : Ints h s xs) {i : Nat} (hil : i < xs.length) :
    ∃ id off b, s = .slice (some ⟨id, off, none⟩) xs.length 1 ∧ blk? h id = some b ∧ b.cells[off + i]? = some (.int .i64 xs[i]) := by
  obtain ⟨id, off, b, hs, hb, hc⟩ := hi.sl.get hil
  refine ⟨id, off, b, hs, hb, ?_⟩
  have := hc 0 (by omega)
  simp only [Nat.mul_one, Nat.add_zero] at this
  rw [this]
  simp [i64s, hil]

/-! The number of binary digits. -/
section
variable {h : Heap} {R : Value → Heap → Prop}

theorem cnt_loop {k : List RItem} {v0 v2 : Value} (m : Nat)
    (hk : ∀ t1 t3 t4 t5 t7 t8 t9 t10 t11 t12 t13 t14 t15 t16 t17 t18 t19 t20 t21 t22 t23 t24 : Value, Ok tab R36 k #[v0, t1, v2, t3, t4, t5, .int .i64 m, t7, t8, t9, t10, t11, t12, t13, t14, t15, t16, t17, t18, t19, t20, t21, t22, t23, t24] h R) :
    ∀ (n a c : Nat) (t1 t4 t5 t7 t8 t9 t10 t11 t12 t13 t14 t15 t16 t17 t18 t19 t20 t21 t22 t23 t24 : Value), n = a → c + blen a = m → m ≤ 64 → a < 18446744073709551616 →
      Ok tab R36 (.inLoop L36_1 :: .inBlock 2 :: k) #[v0, t1, v2, .int .u64 a, t4, t5, .int .i64 c, t7, t8, t9, t10, t11, t12, t13, t14, t15, t16, t17, t18, t19, t20, t21, t22, t23, t24] h R := by
  intro n
  induction n using Nat.strongRecOn with
  | _ n ih =>
    intro a c t1 t4 t5 t7 t8 t9 t10 t11 t12 t13 t14 t15 t16 t17 t18 t19 t20 t21 t22 t23 t24 hn hc hm ha
    rw [ok_round, l36_1, L36_1a, L36_1b]
    by_cases h0 : a = 0
    · subst h0
      simp [blen] at hc
      subst hc
      simp
      exact hk _ _ _ _ _ _ _ _ _ _ _ _ _ _ _ _ _ _ _ _ _ _
    · have hlt : (0 : Int) < a := by omega
      have hb := blen_half h0
      have hsh : shrI .u64 (a : Int) 1 = ((a / 2 : Nat) : Int) := by
        have := shrN (i := .u64) (a := a) (b := 1) (by decide)
        simpa using this
      have hw : IntKind.i64.wrap ((c : Int) + 1) = ((c + 1 : Nat) : Int) := wrapN (n := c + 1) (by omega)
      have ih' := ih (a / 2) (by omega) (a / 2) (c + 1)
      generalize hq : ((c + 1 : Nat) : Int) = q at *
      generalize hq2 : ((a / 2 : Nat) : Int) = q2 at *
      simp [show 0 < a by omega, hsh, hw]
      exact ih' _ _ _ _ _ _ _ _ _ _ _ _ _ _ _ _ _ _ _ _ _ rfl (by omega) hm (by omega)

theorem or_loop {k : List RItem} {s v0 v2 : Value} {xs : List Int} (hi : Ints h s xs)
    (hk : ∀ (a : Nat) (t1 t4 t5 t6 t7 t8 t9 t10 t11 t12 t13 t14 t15 t16 t17 t18 t19 t20 t21 t22 t23 t24 : Value), blen a = planesOf xs → a < 18446744073709551616 → Ok tab R36 k #[v0, t1, v2, .int .u64 a, t4, t5, t6, t7, t8, t9, t10, t11, t12, t13, t14, t15, t16, t17, t18, t19, t20, t21, t22, t23, t24] h R) :
    ∀ (n i a : Nat) (t1 t4 t5 t6 t10 t11 t12 t13 t14 t15 t16 t17 t18 t19 t20 t21 t22 t23 t24 : Value), n = xs.length - i → i ≤ xs.length → blen a = planesOf (xs.take i) → a < 18446744073709551616 → xs.length < 9000000000 →
      Ok tab R36 (.inLoop L36_0 :: .inBlock 0 :: k) #[v0, t1, v2, .int .u64 a, t4, t5, t6, s, .int .i64 xs.length, .int .i64 i, t10, t11, t12, t13, t14, t15, t16, t17, t18, t19, t20, t21, t22, t23, t24] h R := by
  intro n
  induction n with
  | zero =>
    intro i a t1 t4 t5 t6 t10 t11 t12 t13 t14 t15 t16 t17 t18 t19 t20 t21 t22 t23 t24 hn hi' hb ha hl
    have hlt : ¬ ((i : Int) < xs.length) := by omega
    rw [ok_round, l36_0, L36_0a, L36_0b]
    simp [hlt]
    exact hk a _ _ _ _ _ _ _ _ _ _ _ _ _ _ _ _ _ _ _ _ _ _ (by rw [hb, List.take_of_length_le (by omega)]) ha
  | succ n ih =>
    intro i a t1 t4 t5 t6 t10 t11 t12 t13 t14 t15 t16 t17 t18 t19 t20 t21 t22 t23 t24 hn hi' hb ha hl
    have hlt : ((i : Int) < xs.length) := by omega
    have hil : i < xs.length := by omega
    have hw : IntKind.i64.wrap ((i : Int) + 1) = ((i + 1 : Nat) : Int) := wrapN (n := i + 1) (by omega)
    obtain ⟨id, off, b, hs, hbk, hc⟩ := hi.get hil
    obtain ⟨r1, r2⟩ := hi.rng xs[i] (List.getElem_mem hil)
    have hm := fun R => magnitude_c (h := h) (R := R) r1 r2
    have ho : orI .u64 (a : Int) (xs[i].natAbs : Int) = ((a ||| xs[i].natAbs : Nat) : Int) := u64_or_nat a xs[i].natAbs ha (by omega)
    have hlt64 : a ||| xs[i].natAbs < 2 ^ 64 := Nat.or_lt_two_pow ha (by omega)
    have hb' : blen (a ||| xs[i].natAbs) = planesOf (xs.take (i + 1)) := by
      rw [blen_or, hb, List.take_succ_eq_append_getElem hil, planesOf, planesOf, List.foldl_append]; rfl
    have ih' := ih (i + 1) (a ||| xs[i].natAbs)
    rw [ok_round, l36_0, L36_0a, L36_0b]
    generalize hq : ((i + 1 : Nat) : Int) = q at *
    generalize hq2 : ((a ||| xs[i].natAbs : Nat) : Int) = q2 at *
    simp [hlt, hs, hbk, hc, hm, ho, hw]
    rw [← hs]
    exact ih' _ _ _ _ _ _ _ _ _ _ _ _ _ _ _ _ _ _ _ (by omega) (by omega) hb' hlt64 hl

theorem planes_64 {h : Heap} {s : Value} {xs : List Int} (hi : Ints h s xs) : planesOf xs ≤ 64 := by
  rw [planes_le]
  intro v hv
  have := hi.rng v hv
  omega

theorem planes_c {s : Value} {xs : List Int} (hi : Ints h s xs) (hl : xs.length < 9000000000) : Ret tab 36 [s] h R = R (.int .i64 (planesOf xs)) h := by
  obtain ⟨a, cc, hs⟩ := hi.sl.shape
  have key : Ret tab 36 [s] h fun v h' => v = .int .i64 (planesOf xs) ∧ h' = h := by
    rw [enter36, B36]
    refine ⟨by simp [hi.sb], ?_⟩
    simp [hs]
    rw [← hs]
    refine or_loop hi.frz ?_ _ 0 0 _ _ _ _ _ _ _ _ _ _ _ _ _ _ _ _ _ _ _ rfl (by omega) (by simp [planesOf, blen]) (by omega) hl
    intro a t1 t4 t5 t6 t7 t8 t9 t10 t11 t12 t13 t14 t15 t16 t17 t18 t19 t20 t21 t22 t23 t24 hb ha
    simp
    refine cnt_loop (planesOf xs) ?_ a a 0 _ _ _ _ _ _ _ _ _ _ _ _ _ _ _ _ _ _ _ _ _ rfl (by omega) (planes_64 hi) ha
    intro t1 t3 t4 t5 t7 t8 t9 t10 t11 t12 t13 t14 t15 t16 t17 t18 t19 t20 t21 t22 t23 t24
    simp [fin36]
  obtain ⟨v, h', e, rfl, rfl⟩ := ret_ex key
  exact e R

theorem in_loop {k : List RItem} {v0 v2 v6 v7 v8 : Value} {v : Int} (r1 : -9223372036854775808 ≤ v) (r2 : v < 9223372036854775808) (m : Nat)
    (hk : ∀ t1 t4 t5 t9 t10 t11 t12 t13 t14 t15 t16 t17 t18 t19 t20 t21 t22 t23 t24 t25 : Value, Ok tab R37 k #[v0, t1, v2, .int .i64 m, t4, t5, v6, v7, v8, t9, t10, t11, t12, t13, t14, t15, t16, t17, t18, t19, t20, t21, t22, t23, t24, t25] h R) :
    ∀ (n c : Nat) (t1 t4 t9 t10 t11 t12 t13 t14 t15 t16 t17 t18 t19 t20 t21 t22 t23 t24 t25 : Value), c + n = m → m = max c (blen v.natAbs) → m ≤ 64 →
      Ok tab R37 (.inLoop L37_0 :: .inBlock 2 :: k) #[v0, t1, v2, .int .i64 c, t4, .int .i64 v, v6, v7, v8, t9, t10, t11, t12, t13, t14, t15, t16, t17, t18, t19, t20, t21, t22, t23, t24, t25] h R := by
  intro n
  have hm := fun R => abs_r (h := h) (R := R) r1 r2
  induction n with
  | zero =>
    intro c t1 t4 t9 t10 t11 t12 t13 t14 t15 t16 t17 t18 t19 t20 t21 t22 t23 t24 t25 hc hmx hm64
    have hcm : c = m := by omega
    subst hcm
    rw [ok_round, l37_0, L37_0a, L37_0b]
    by_cases h64 : c < 64
    · have h64' : (c : Int) < 64 := by omega
      have hwu : IntKind.u64.wrap (c : Int) = (c : Int) := wrapU (by omega)
      have hc0 : ¬ (c : Int) < 0 := by omega
      have hsh : shrI .u64 (v.natAbs : Int) (c : Int) = ((v.natAbs / 2 ^ c : Nat) : Int) := shrN (show c ≤ 64 by omega)
      have hz : v.natAbs / 2 ^ c = 0 := Nat.div_eq_of_lt (blen_le.1 (by omega))
      rw [hz] at hsh
      simp [k_guard, h64', hm, hwu, hc0, hsh]
      exact hk _ _ _ _ _ _ _ _ _ _ _ _ _ _ _ _ _ _ _ _
    · have h64' : ¬ (c : Int) < 64 := by omega
      simp [k_guard, k_guardU, h64']
      exact hk _ _ _ _ _ _ _ _ _ _ _ _ _ _ _ _ _ _ _ _
  | succ n ih =>
    intro c t1 t4 t9 t10 t11 t12 t13 t14 t15 t16 t17 t18 t19 t20 t21 t22 t23 t24 t25 hc hmx hm64
    have h64' : (c : Int) < 64 := by omega
    have hwu : IntKind.u64.wrap (c : Int) = (c : Int) := wrapU (by omega)
    have hc0 : ¬ (c : Int) < 0 := by omega
    have hsh : shrI .u64 (v.natAbs : Int) (c : Int) = ((v.natAbs / 2 ^ c : Nat) : Int) := shrN (show c ≤ 64 by omega)
    have hpos : (0 : Int) < ((v.natAbs / 2 ^ c : Nat) : Int) := by
      have := (lt_blen (n := v.natAbs) (k := c)).1 (by omega)
      have := Nat.div_pos this (Nat.two_pow_pos c)
      omega
    have hw : IntKind.i64.wrap ((c : Int) + 1) = ((c + 1 : Nat) : Int) := wrapN (n := c + 1) (by omega)
    have ih' := ih (c + 1)
    rw [ok_round, l37_0, L37_0a, L37_0b]
    generalize hq : ((c + 1 : Nat) : Int) = q at *
    generalize hq2 : ((v.natAbs / 2 ^ c : Nat) : Int) = q2 at *
    simp [k_guard, h64', hm, hwu, hc0, hsh, hpos, hw]
    exact ih' _ _ _ _ _ _ _ _ _ _ _ _ _ _ _ _ _ _ _ (by omega) (by omega) hm64

theorem max_loop {k : List RItem} {s v0 v2 : Value} {xs : List Int} (hi : Ints h s xs)
    (hk : ∀ t1 t4 t5 t6 t7 t8 t9 t10 t11 t12 t13 t14 t15 t16 t17 t18 t19 t20 t21 t22 t23 t24 t25 : Value, Ok tab R37 k #[v0, t1, v2, .int .i64 (planesOf xs), t4, t5, t6, t7, t8, t9, t10, t11, t12, t13, t14, t15, t16, t17, t18, t19, t20, t21, t22, t23, t24, t25] h R) :
    ∀ (n i : Nat) (t1 t4 t5 t9 t10 t11 t12 t13 t14 t15 t16 t17 t18 t19 t20 t21 t22 t23 t24 t25 : Value), n = xs.length - i → i ≤ xs.length → xs.length < 9000000000 →
      Ok tab R37 (.inLoop L37_1 :: .inBlock 0 :: k) #[v0, t1, v2, .int .i64 (planesOf (xs.take i)), t4, t5, s, .int .i64 xs.length, .int .i64 i, t9, t10, t11, t12, t13, t14, t15, t16, t17, t18, t19, t20, t21, t22, t23, t24, t25] h R := by
  intro n
  have h64 := planes_64 hi
  induction n with
  | zero =>
    intro i t1 t4 t5 t9 t10 t11 t12 t13 t14 t15 t16 t17 t18 t19 t20 t21 t22 t23 t24 t25 hn hi' hl
    have hlt : ¬ ((i : Int) < xs.length) := by omega
    rw [ok_round, l37_1, L37_1a, L37_1b, List.take_of_length_le (by omega)]
    simp [hlt]
    exact hk _ _ _ _ _ _ _ _ _ _ _ _ _ _ _ _ _ _ _ _ _ _ _
  | succ n ih =>
    intro i t1 t4 t5 t9 t10 t11 t12 t13 t14 t15 t16 t17 t18 t19 t20 t21 t22 t23 t24 t25 hn hi' hl
    have hlt : ((i : Int) < xs.length) := by omega
    have hil : i < xs.length := by omega
    have hw : IntKind.i64.wrap ((i : Int) + 1) = ((i + 1 : Nat) : Int) := wrapN (n := i + 1) (by omega)
    obtain ⟨id, off, b, hs, hbk, hc⟩ := hi.get hil
    obtain ⟨r1, r2⟩ := hi.rng xs[i] (List.getElem_mem hil)
    have hp : planesOf (xs.take (i + 1)) = max (planesOf (xs.take i)) (blen xs[i].natAbs) := by
      rw [List.take_succ_eq_append_getElem hil, planesOf, planesOf, List.foldl_append]; rfl
    have hp64 : planesOf (xs.take (i + 1)) ≤ 64 := by
      rw [planes_le] at h64 ⊢
      exact fun v hv => h64 v (List.mem_of_mem_take hv)
    have ih' := ih (i + 1)
    rw [ok_round, l37_1, L37_1a, L37_1b]
    generalize hq : ((i + 1 : Nat) : Int) = q at *
    simp [hlt, hs, hbk, hc]
    rw [← hs]
    refine in_loop r1 r2 (planesOf (xs.take (i + 1))) ?_ (planesOf (xs.take (i + 1)) - planesOf (xs.take i)) (planesOf (xs.take i)) _ _ _ _ _ _ _ _ _ _ _ _ _ _ _ _ _ _ _ (by omega) hp hp64
    intro t1 t4 t5 t9 t10 t11 t12 t13 t14 t15 t16 t17 t18 t19 t20 t21 t22 t23 t24 t25
    simp [hw]
    exact ih' _ _ _ _ _ _ _ _ _ _ _ _ _ _ _ _ _ _ _ _ (by omega) (by omega) hl

theorem planes_r {s : Value} {xs : List Int} (hi : Ints h s xs) (hl : xs.length < 9000000000) : Ret tab 37 [s] h R = R (.int .i64 (planesOf xs)) h := by
  obtain ⟨a, cc, hs⟩ := hi.sl.shape
  have key : Ret tab 37 [s] h fun v h' => v = .int .i64 (planesOf xs) ∧ h' = h := by
    rw [enter37, B37]
    refine ⟨by simp [hi.sb], ?_⟩
    simp [hs]
    rw [← hs]
    refine max_loop hi.frz ?_ _ 0 _ _ _ _ _ _ _ _ _ _ _ _ _ _ _ _ _ _ _ _ rfl (by omega) hl
    intro t1 t4 t5 t6 t7 t8 t9 t10 t11 t12 t13 t14 t15 t16 t17 t18 t19 t20 t21 t22 t23 t24 t25
    simp [fin37]
  obtain ⟨v, h', e, rfl, rfl⟩ := ret_ex key
  exact e R

theorem fewValues_r {s : Value} {xs : List Int} (hi : Ints h s xs) (hl : xs.length < 9000000000) {n : Int} : Ret tab 63 [s, .int .i64 n] h R = R (.bool (decide ((planesOf xs : Int) ≤ n))) h := by
  rw [enter63, B63]
  simp [hi.sb, planes_r hi.frz hl, fin63]
end

/-! New blocks. -/
theorem repL_blank : ∀ n, repL [.int .i64 0, .bool false, .bool false, .bool false] n = encC (blank n)
  | 0 => rfl
  | n + 1 => by rw [repL, repL_blank n, blank, blank, List.replicate_succ, encC]; rfl
section
variable {h : Heap} {R : Value → Heap → Prop}
theorem sized_ci {w hh : Int} : Ret tab 96 [.int .i64 w, .int .i64 hh] h R = R (.bool (sized w hh)) h := by
  rw [enter96, B96]
  by_cases a1 : 1 ≤ w
  · by_cases a2 : w ≤ 64
    · by_cases a3 : 1 ≤ hh
      · by_cases a4 : hh ≤ 64 <;> simp [k_guard, a1, a2, a3, a4, fin96, sized]
      · simp [k_guard, a1, a2, a3, fin96, sized]
    · simp [k_guard, a1, a2, fin96, sized]
  · simp [k_guard, a1, fin96, sized]
theorem sized_ri {w hh : Int} : Ret tab 115 [.int .i64 w, .int .i64 hh] h R = R (.bool (sized w hh)) h := by
  rw [enter115, B115]
  by_cases a1 : 1 ≤ w
  · by_cases a2 : w ≤ 64
    · by_cases a3 : 1 ≤ hh
      · by_cases a4 : hh ≤ 64 <;> simp [k_guard, a1, a2, a3, a4, fin115, sized]
      · simp [k_guard, a1, a2, a3, fin115, sized]
    · simp [k_guard, a1, a2, fin115, sized]
  · simp [k_guard, a1, fin115, sized]

/-- What New leaves. -/
def newHeap (h : Heap) (w hh : Nat) : Heap := h ++ [some ⟨false, encC (blank (w * hh))⟩, some ⟨false, [.int .i64 w, .int .i64 hh, .slice (some ⟨h.length, 0, none⟩) (w * hh) 4]⟩]
theorem newHeap_cb (h : Heap) {w hh : Nat} (w1 : 1 ≤ w) (w2 : w ≤ 64) (h1 : 1 ≤ hh) (h2 : hh ≤ 64) : CB (newHeap h w hh) false (h.length + 1) h.length (newBS w hh) :=
  ⟨by unfold newHeap; rw [app_add]; rfl, by unfold newHeap; rw [app_len]; rfl, (newBS_good w1 w2 h1 h2).ok⟩
theorem newHeap_low (h : Heap) (w hh : Nat) : ∀ id, id < h.length → blk? (newHeap h w hh) id = blk? h id := fun id hid => app_lt hid
theorem newHeap_len (h : Heap) (w hh : Nat) : (newHeap h w hh).length = h.length + 2 := by simp [newHeap]

theorem new_c {w hh : Nat} (w1 : 1 ≤ w) (w2 : w ≤ 64) (h1 : 1 ≤ hh) (h2 : hh ≤ 64) : Ret tab 33 [.int .i64 w, .int .i64 hh] h R = R (.tuple #[ptr (h.length + 1), .int .i64 0]) (newHeap h w hh) := by
  have hm : w * hh ≤ 64 * 64 := Nat.mul_le_mul w2 h2
  have hs := fun R => sized_c (h := h) (R := R) w1 w2 h1 h2
  have hw : IntKind.i64.wrap ((w : Int) * hh) = ((w * hh : Nat) : Int) := by rw [← Int.natCast_mul]; exact wrapN (by omega)
  have hr : ((w * hh : Nat) : Int) ≤ (roomCells : Int) := by unfold roomCells; omega
  rw [enter33, B33]
  simp [-Int.natCast_mul, hs, hw, hr, repL_blank, fin33, newHeap]
theorem new_r {w hh : Nat} (w1 : 1 ≤ w) (w2 : w ≤ 64) (h1 : 1 ≤ hh) (h2 : hh ≤ 64) : Ret tab 64 [.int .i64 w, .int .i64 hh] h R = R (.tuple #[ptr (h.length + 1), .int .i64 0]) (newHeap h w hh) := by
  have hm : w * hh ≤ 64 * 64 := Nat.mul_le_mul w2 h2
  have hs := fun R => Go.Proofs.Ytjpjohchdfoeaaa.sized_r (h := h) (R := R) w1 w2 h1 h2
  have hw : IntKind.i64.wrap ((w : Int) * hh) = ((w * hh : Nat) : Int) := by rw [← Int.natCast_mul]; exact wrapN (by omega)
  have hr : ((w * hh : Nat) : Int) ≤ (roomCells : Int) := by unfold roomCells; omega
  rw [enter64, B64]
  simp [-Int.natCast_mul, hs, hw, hr, repL_blank, fin64, newHeap]
theorem new_bad {w hh : Int} (hs : sized w hh = false) : Ret tab 33 [.int .i64 w, .int .i64 hh] h R = R (.tuple #[.pointer none, .int .i64 2]) h := by
  rw [enter33, B33]
  simp [sized_ci, hs, fin33]
end
end Go.Proofs.Ytjpjohchdfoeaaa
namespace Go.Proofs.Ytjpjohchdfoeaaa
open Go Go.Sim
set_option linter.unusedSimpArgs false
set_option linter.unusedVariables false

/-- A row of symbols. -/
structure Syms (h : Heap) (s : Value) (l : List (Int × Nat)) : Prop where
  sl : Sl h 2 s l.length (encS l)
  sb : below h.length s = true
  bl : ∀ id b, sid s = some id → blk? h id = some b → ∀ n, belowL n b.cells = true
theorem encS_below (n : Nat) : ∀ l, belowL n (encS l) = true
  | [] => by simp [encS]
  | p :: l => by simp [encS, encS_below n l]
theorem syms_own {h : Heap} {s : Value} {l : List (Int × Nat)} (ho : OwnS h 2 s l.length (encS l)) : Syms h s l := by
  refine ⟨ho.sl, own_below ho (Nat.le_refl _), fun id b hid hb n => ?_⟩
  rcases ho.2 with ⟨rfl, _⟩ | ⟨id', rfl, hb'⟩
  · simp [sid] at hid
  · simp [sid] at hid; subst hid
    rw [hb'] at hb; injection hb with hb; subst hb
    exact encS_below n l
theorem Syms.frz {h : Heap} {s : Value} {l : List (Int × Nat)} (hi : Syms h s l) : Syms (frz h) s l := by
  refine ⟨Sl_of_cells hi.sl fun id b hid hb => ⟨_, blk_frz hb (hi.bl id b hid hb _), rfl⟩, by rw [len_frz]; exact hi.sb, fun id b hid hb => ?_⟩
  obtain ⟨b0, h0, rfl, _⟩ := frz_some hb
  exact hi.bl id b0 hid h0
theorem encS_get : ∀ (l : List (Int × Nat)) (i : Nat) (h : i < l.length), (encS l)[i * 2]? = some (.int .i64 l[i].1) ∧ (encS l)[i * 2 + 1]? = some (.int .i64 l[i].2)
  | [], i, h => by simp at h
  | p :: l, 0, _ => by simp [encS]
  | p :: l, i + 1, h => by
    obtain ⟨a, b⟩ := encS_get l i (by simpa using h)
    rw [encS, show (i + 1) * 2 + 1 = i * 2 + 1 + 1 + 1 by omega, show (i + 1) * 2 = i * 2 + 1 + 1 by omega]
    simpa using ⟨a, b⟩
theorem Syms.get {h : Heap} {s : Value} {l : List (Int × Nat)} (hf : Syms h s l) {i : Nat} (hi : i < l.length) :
    ∃ id off b, s = .slice (some ⟨id, off, none⟩) l.length 2 ∧ blk? h id = some b ∧ (b.cells.drop (off + i * 2)).take 2 = [.int .i64 l[i].1, .int .i64 l[i].2] ∧ off + i * 2 + 2 ≤ b.cells.length := by
  obtain ⟨id, off, b, rfl, hb, hc⟩ := hf.sl.get hi
  obtain ⟨g0, g1⟩ := encS_get l i hi
  have c0 := hc 0 (by omega)
  have c1 := hc 1 (by omega)
  rw [Nat.add_zero, Nat.add_zero, g0] at c0
  rw [g1] at c1
  obtain ⟨ht, hle⟩ := two c0 c1
  exact ⟨id, off, b, rfl, hb, ht, hle⟩
theorem eq_pair {i j : IntKind} {a b c d : Int} : eqV (.fields [(0, .int), (1, .int)]) (.agg #[.int i a, .int j b]) (.agg #[.int i c, .int j d]) = some (a == c && b == d) := by
  cases h1 : (a == c) <;> cases h2 : (b == d) <;> simp [eqV, eqFields, h1, h2]

section
variable {h : Heap} {R : Value → Heap → Prop}

end
end Go.Proofs.Ytjpjohchdfoeaaa
namespace Go.Proofs.Ytjpjohchdfoeaaa
open Go Go.Sim
set_option linter.unusedSimpArgs false
set_option linter.unusedVariables false

/-- A row of rows of symbols. -/
structure Pss (h : Heap) (s : Value) (vs : List Value) (ls : List (List (Int × Nat))) : Prop where
  sl : Sl h 1 s vs.length vs
  sb : below h.length s = true
  bl : ∀ id b, sid s = some id → blk? h id = some b → belowL h.length b.cells = true
  len : vs.length = ls.length
  each : ∀ i (h1 : i < vs.length) (h2 : i < ls.length), Syms h vs[i] ls[i]
theorem Pss.frz {h : Heap} {s : Value} {vs : List Value} {ls : List (List (Int × Nat))} (hp : Pss h s vs ls) : Pss (frz h) s vs ls := by
  refine ⟨Sl_of_cells hp.sl fun id b hid hb => ⟨_, blk_frz hb (hp.bl id b hid hb), rfl⟩, by rw [len_frz]; exact hp.sb, fun id b hid hb => ?_, hp.len, fun i h1 h2 => (hp.each i h1 h2).frz⟩
  obtain ⟨b0, h0, rfl, hbl, _⟩ := frz_some hb
  rw [len_frz]; exact hbl
theorem Pss.get {h : Heap} {s : Value} {vs : List Value} {ls : List (List (Int × Nat))} (hp : Pss h s vs ls) {i : Nat} (hi : i < vs.length) :
    ∃ id off b, s = .slice (some ⟨id, off, none⟩) vs.length 1 ∧ blk? h id = some b ∧ b.cells[off + i]? = some vs[i] := by
  obtain ⟨id, off, b, hs, hb, hc⟩ := hp.sl.get hi
  refine ⟨id, off, b, hs, hb, ?_⟩
  have := hc 0 (by omega)
  simp only [Nat.mul_one, Nat.add_zero] at this
  rw [this, List.getElem?_eq_getElem hi]

section
variable {h : Heap} {R : Value → Heap → Prop}

end

/-! A list of passes in the making. -/
structure SL (B : Nat) (h0 h : Heap) (p c : Nat) (b : BS) (s : Value) (vs : List Value) (ls : List (List (Int × Nat))) : Prop where
  cb : CB h false p c b
  good : b.Good
  bp : B ≤ p ∧ B ≤ c
  own : OwnS h 1 s vs.length vs
  len : vs.length = ls.length
  each : ∀ (i : Nat) (v : Value) (l : List (Int × Nat)), vs[i]? = some v → ls[i]? = some l → OwnS h 2 v l.length (encS l) ∧ ∀ id, sid v = some id → B ≤ id ∧ id ≠ c ∧ id ≠ p ∧ sid s ≠ some id
  far : ∀ id, sid s = some id → B ≤ id ∧ id ≠ c ∧ id ≠ p
  low : ∀ id, id < B → blk? h id = blk? h0 id
  lenB : B ≤ h.length

theorem SL.start {B : Nat} {h0 h : Heap} {p c : Nat} {b : BS} (cb : CB h false p c b) (good : b.Good) (bp : B ≤ p ∧ B ≤ c) (low : ∀ id, id < B → blk? h id = blk? h0 id) (lenB : B ≤ h.length) : SL B h0 h p c b (.slice none 0 0) [] [] :=
  ⟨cb, good, bp, OwnS.nil _ _, rfl, fun i v l hv => by simp at hv, fun id hid => by simp [sid] at hid, low, lenB⟩

theorem SL.step {B : Nat} {h0 h h1 : Heap} {p c : Nat} {b : BS} {s sv : Value} {vs : List Value} {ls : List (List (Int × Nat))} {σ : ES} (w : SL B h0 h p c b s vs ls) (hr : RunRes h h1 p c sv σ) (hl : vs.length < 100000) :
    ∃ s' H, appendV (h1 ++ [some ⟨false, [sv]⟩]) 1 24 s (.slice (some ⟨h1.length, 0, none⟩) 1 1) = some (s', H) ∧ SL B h0 H p c σ.b s' (vs ++ [sv]) (ls ++ [σ.out]) := by
  have hlt := fun id (hid : sid s = some id) => w.own.lt hid
  have own1 : OwnS h1 1 s vs.length vs := w.own.of_blk fun id hid hb => by rw [hr.same id (blk?_lt hb) (w.far id hid).2.1]; exact hb
  have hsl : Sl (h1 ++ [some ⟨false, [sv]⟩]) 1 (.slice (some ⟨h1.length, 0, none⟩) 1 1) 1 [sv] := ⟨by simp, .inr ⟨h1.length, 0, rfl, .inr ⟨_, blk?_push_eq, by simp, by simp⟩⟩⟩
  have own2 : OwnS (h1 ++ [some ⟨false, [sv]⟩]) 1 s vs.length vs := own1.of_blk fun id _ hb => blk?_push hb
  obtain ⟨H, ha, hK, hHl, hHs⟩ := own_append (bytes := 24) own2 hsl (by unfold roomCells; omega) (by omega) (by omega)
  simp only [List.length_append, List.length_singleton] at ha hK hHl hHs
  have hk : ∀ id, id < h1.length → sid s ≠ some id → blk? H id = blk? h1 id := fun id hid hne => by rw [hHs id (by omega) hne, blk?_push_lt hid]
  have hlen := hr.len
  have hlB := w.lenB
  have hpc := w.bp
  refine ⟨_, H, ha, ⟨⟨?_, ?_, hr.good.ok⟩, hr.good, w.bp, ⟨by simp, .inr ⟨h1.length + 1, by simp, hK⟩⟩, by simp [w.len], fun i v l hv hl' => ?_, fun id hid => ?_, fun id hid => ?_, by omega⟩⟩
  · rw [hk p (blk?_lt hr.cb.blkp) (fun e => (w.far p e).2.2 rfl)]; exact hr.cb.blkp
  · rw [hk c (blk?_lt hr.cb.blkc) (fun e => (w.far c e).2.1 rfl)]; exact hr.cb.blkc
  · by_cases hi : i < vs.length
    · rw [List.getElem?_append_left hi] at hv
      rw [List.getElem?_append_left (by rw [← w.len]; exact hi)] at hl'
      obtain ⟨o, f⟩ := w.each i v l hv hl'
      refine ⟨o.of_blk fun id hid hb => ?_, fun id hid => ?_⟩
      · obtain ⟨f1, f2, f3, f4⟩ := f id hid
        rw [hk id (Nat.lt_of_lt_of_le (blk?_lt hb) hlen) f4, hr.same id (blk?_lt hb) f2]; exact hb
      · obtain ⟨f1, f2, f3, f4⟩ := f id hid
        refine ⟨f1, f2, f3, ?_⟩
        have := o.lt hid
        simp [sid]; omega
    · have hi' : i = vs.length := by
        have := (List.getElem?_eq_some_iff.1 hv).1
        simp at this; omega
      subst hi'
      rw [List.getElem?_append_right (Nat.le_refl _)] at hv
      rw [w.len, List.getElem?_append_right (Nat.le_refl _)] at hl'
      simp at hv hl'
      subst hv; subst hl'
      have hsv := hr.fresh
      refine ⟨hr.own.of_blk fun id hid hb => ?_, fun id hid => ?_⟩
      · rw [hk id (blk?_lt hb) (fun e => by have := hlt id e; have := hsv id hid; omega)]; exact hb
      · have h2 := hsv id hid
        have h3 := hr.own.lt hid
        have := blk?_lt w.cb.blkp
        have := blk?_lt w.cb.blkc
        refine ⟨by omega, by omega, by omega, ?_⟩
        simp [sid]; omega
  · simp [sid] at hid
    have := blk?_lt hr.cb.blkp
    have := blk?_lt hr.cb.blkc
    exact ⟨by omega, by omega, by omega⟩
  · have := w.low id hid
    rw [hk id (by omega) (fun e => by have := (w.far id e).1; omega), hr.same id (by omega) (by omega)]; exact this

theorem SL.pss {B : Nat} {h0 h : Heap} {p c : Nat} {b : BS} {s : Value} {vs : List Value} {ls : List (List (Int × Nat))} (w : SL B h0 h p c b s vs ls) : Pss h s vs ls := by
  refine ⟨w.own.sl, own_below w.own (Nat.le_refl _), fun id bk hid hb => ?_, w.len, fun i h1 h2 => ?_⟩
  · rcases w.own.2 with ⟨rfl, _⟩ | ⟨id', rfl, hb'⟩
    · simp [sid] at hid
    · simp [sid] at hid; subst hid
      rw [hb'] at hb; injection hb with hb; subst hb
      rw [belowL_iff]
      intro v hv
      obtain ⟨i, hi, rfl⟩ := List.getElem_of_mem hv
      exact own_below (w.each i vs[i] (ls[i]'(by rw [← w.len]; exact hi)) (List.getElem?_eq_getElem hi) (List.getElem?_eq_getElem _)).1 (Nat.le_refl _)
  · exact syms_own (w.each i vs[i] ls[i] (List.getElem?_eq_getElem h1) (List.getElem?_eq_getElem h2)).1

/-- What is below does not matter. -/
theorem Pss.keep {h h' : Heap} {s : Value} {vs : List Value} {ls : List (List (Int × Nat))} (hp : Pss h s vs ls) (hl : h.length ≤ h'.length) (hk : ∀ id, id < h.length → blk? h' id = blk? h id) : Pss h' s vs ls := by
  obtain ⟨a, cc, hs⟩ := hp.sl.shape
  have hlt : ∀ id, sid s = some id → id < h.length := by
    intro id hid
    have := hp.sb
    rw [hs] at this hid
    cases a with
    | none => simp [sid] at hid
    | some a => simp [sid] at hid; simp at this; omega
  have hsy : ∀ {v : Value} {l : List (Int × Nat)}, Syms h v l → Syms h' v l := by
    intro v l y
    obtain ⟨a', c', hv⟩ := y.sl.shape
    refine ⟨y.sl.of_sid fun id b _ hb => by rw [hk id (blk?_lt hb)]; exact hb, below_sid hl hv y.sb, fun id b hid hb => ?_⟩
    have hlt' : id < h.length := by
      have := y.sb
      rw [hv] at this hid
      cases a' with
      | none => simp [sid] at hid
      | some a' => simp [sid] at hid; simp at this; omega
    rw [hk id hlt'] at hb
    exact y.bl id b hid hb
  refine ⟨hp.sl.of_sid fun id b _ hb => by rw [hk id (blk?_lt hb)]; exact hb, below_sid hl hs hp.sb, fun id b hid hb => ?_, hp.len, fun i h1 h2 => hsy (hp.each i h1 h2)⟩
  rw [hk id (hlt id hid)] at hb
  exact belowL_mono hl _ (hp.bl id b hid hb)
end Go.Proofs.Ytjpjohchdfoeaaa
namespace Go.Proofs.Ytjpjohchdfoeaaa
open Go Go.Sim
set_option linter.unusedSimpArgs false
set_option linter.unusedVariables false

/-- What Symbols leaves. -/
structure SymOut (h h' : Heap) (s : Value) (r : Int × List (List (Int × Nat))) : Prop where
  pss : ∃ vs, Pss h' s vs r.2
  low : ∀ id, id < h.length → blk? h' id = blk? h id
  len : h.length ≤ h'.length
theorem SymOut.nil {h h' : Heap} (low : ∀ id, id < h.length → blk? h' id = blk? h id) (len : h.length ≤ h'.length) (e : Int) : SymOut h h' (.slice none 0 0) (e, []) :=
  ⟨⟨[], (OwnS.nil _ _).sl, by simp, fun id b hid => by simp [sid] at hid, rfl, fun i h1 => by simp at h1⟩, low, len⟩

section
variable {h : Heap} {R : Value → Heap → Prop} {k : List RItem}

theorem pass_loop_c {B : Nat} {h0 : Heap} {b0 : BS} {p c M : Nat} {m : MD} {planes o : Nat} {v10 v11 : Value} (hM : blk? h0 M = some ⟨false, [.bool m.byp, .bool m.res, .bool m.rst, .bool m.cz, .bool m.sy]⟩) (hMB : M < B) (hp1 : planes ≤ 60) (ho : o ≤ 3)
    (hk : ∀ (h' : Heap) (s : Value) (vs : List Value) (b : BS) (ls : List (List (Int × Nat))) (t0 t1 t2 t3 t4 t5 t6 t7 t8 t9 t12 t13 t14 t15 t16 t18 t19 t20 t21 t22 t23 t24 t25 t26 t27 t28 t29 t30 t31 t32 t33 t34 t35 t36 t37 t38 t39 t40 t41 t42 t43 t44 t45 t46 t47 t48 t49 t50 t51 t52 t53 t54 t55 t56 t57 t58 t59 t60 t61 t62 t63 t64 t65 t66 t67 t68 t69 t70 t71 t72 t73 t74 t75 t76 t77 t78 t79 t80 t81 t82 t83 t84 t85 t86 t87 t88 t89 t90 : Value), SL B h0 h' p c b s vs ls → ls = passesOf m planes o (3 * planes - 2) 0 b0 → Ok tab R35 k #[t0, t1, t2, t3, t4, t5, t6, t7, t8, t9, v10, v11, t12, t13, t14, t15, t16, s, t18, t19, t20, t21, t22, t23, t24, t25, t26, t27, t28, t29, t30, t31, t32, t33, t34, t35, t36, t37, t38, t39, t40, t41, t42, t43, t44, t45, t46, t47, t48, t49, t50, t51, t52, t53, t54, t55, t56, t57, t58, t59, t60, t61, t62, t63, t64, t65, t66, t67, t68, t69, t70, t71, t72, t73, t74, t75, t76, t77, t78, t79, t80, t81, t82, t83, t84, t85, t86, t87, t88, t89, t90] h' R) :
    ∀ (n i : Nat) (h : Heap) (b : BS) (s : Value) (vs : List Value) (ls : List (List (Int × Nat))) (t0 t1 t2 t4 t5 t6 t7 t8 t13 t14 t15 t18 t19 t20 t21 t22 t23 t24 t25 t26 t27 t28 t29 t30 t31 t32 t33 t34 t35 t36 t37 t38 t39 t40 t41 t42 t43 t44 t45 t46 t47 t48 t49 t50 t51 t52 t53 t54 t55 t56 t57 t58 t59 t60 t61 t62 t63 t64 t65 t66 t67 t68 t71 t72 t73 t74 t75 t76 t77 t78 t79 t80 t81 t82 t83 t84 t85 t86 t87 t88 t89 t90 : Value), i + n = 3 * planes - 2 → ls.length = i → ls ++ passesOf m planes o n i b = passesOf m planes o (3 * planes - 2) 0 b0 → SL B h0 h p c b s vs ls →
      Ok tab R35 (.inLoop L35_1 :: .inBlock 2 :: k) #[t0, t1, t2, .int .i64 o, t4, t5, t6, t7, t8, ptr M, v10, v11, ptr p, t13, t14, t15, .int .i64 planes, s, t18, t19, t20, t21, t22, t23, t24, t25, t26, t27, t28, t29, t30, t31, t32, t33, t34, t35, t36, t37, t38, t39, t40, t41, t42, t43, t44, t45, t46, t47, t48, t49, t50, t51, t52, t53, t54, t55, t56, t57, t58, t59, t60, t61, t62, t63, t64, t65, t66, t67, t68, .int .i64 (3 * planes - 2 : Nat), .int .i64 i, t71, t72, t73, t74, t75, t76, t77, t78, t79, t80, t81, t82, t83, t84, t85, t86, t87, t88, t89, t90] h R := by
  intro n
  induction n with
  | zero =>
    intro i h b s vs ls t0 t1 t2 t4 t5 t6 t7 t8 t13 t14 t15 t18 t19 t20 t21 t22 t23 t24 t25 t26 t27 t28 t29 t30 t31 t32 t33 t34 t35 t36 t37 t38 t39 t40 t41 t42 t43 t44 t45 t46 t47 t48 t49 t50 t51 t52 t53 t54 t55 t56 t57 t58 t59 t60 t61 t62 t63 t64 t65 t66 t67 t68 t71 t72 t73 t74 t75 t76 t77 t78 t79 t80 t81 t82 t83 t84 t85 t86 t87 t88 t89 t90 hi hls hpa w
    have hlt : ¬ ((i : Int) < ((3 * planes - 2 : Nat) : Int)) := by omega
    generalize ((3 * planes - 2 : Nat) : Int) = np at *
    rw [ok_round, l35_1, L35_1a, L35_1b]
    simp [hlt]
    exact hk h s vs b ls _ _ _ _ _ _ _ _ _ _ _ _ _ _ _ _ _ _ _ _ _ _ _ _ _ _ _ _ _ _ _ _ _ _ _ _ _ _ _ _ _ _ _ _ _ _ _ _ _ _ _ _ _ _ _ _ _ _ _ _ _ _ _ _ _ _ _ _ _ _ _ _ _ _ _ _ _ _ _ _ _ _ _ _ _ _ _ _ w (by simpa [passesOf] using hpa)
  | succ n ih =>
    intro i h b s vs ls t0 t1 t2 t4 t5 t6 t7 t8 t13 t14 t15 t18 t19 t20 t21 t22 t23 t24 t25 t26 t27 t28 t29 t30 t31 t32 t33 t34 t35 t36 t37 t38 t39 t40 t41 t42 t43 t44 t45 t46 t47 t48 t49 t50 t51 t52 t53 t54 t55 t56 t57 t58 t59 t60 t61 t62 t63 t64 t65 t66 t67 t68 t71 t72 t73 t74 t75 t76 t77 t78 t79 t80 t81 t82 t83 t84 t85 t86 t87 t88 t89 t90 hi hls hpa w
    have hlt : (i : Int) < ((3 * planes - 2 : Nat) : Int) := by omega
    have hw : IntKind.i64.wrap ((i : Int) + 1) = ((i + 1 : Nat) : Int) := wrapN (n := i + 1) (by omega)
    have hM1 : blk? h M = some ⟨false, [.bool m.byp, .bool m.res, .bool m.rst, .bool m.cz, .bool m.sy]⟩ := by rw [w.low M hMB]; exact hM
    obtain ⟨sv, h1, e1, r1⟩ := run_c w.cb w.good.rng i planes o m
    have herr : runErr i planes o = 0 := by unfold runErr; rw [if_neg (by omega), if_neg (by omega)]
    have hro : runOut m b i planes o = runSt m b i planes o := by unfold runOut; rw [if_pos herr]; simp
    rw [herr] at e1
    rw [hro] at r1
    obtain ⟨s', H, ha, w'⟩ := w.step r1 (by rw [w.len]; omega)
    simp only [MD.val] at e1
    have ih' := ih (i + 1)
    generalize hq : ((i + 1 : Nat) : Int) = q at *
    generalize hnp : ((3 * planes - 2 : Nat) : Int) = np at *
    have e9 := w'
    rw [ok_round, l35_1, L35_1a, L35_1b]
    cases sv with
    | slice a sl cp =>
      simp [hlt, hM1, e1, repL, ha, hw]
      exact ih' H _ s' _ _ _ _ _ _ _ _ _ _ _ _ _ _ _ _ _ _ _ _ _ _ _ _ _ _ _ _ _ _ _ _ _ _ _ _ _ _ _ _ _ _ _ _ _ _ _ _ _ _ _ _ _ _ _ _ _ _ _ _ _ _ _ _ _ _ _ _ _ _ _ _ _ _ _ _ _ _ _ _ _ _ _ _ (by omega) (by simp; omega) (by rw [← hpa, passesOf]; simp) w'
    | _ => exact absurd r1.own.sl.shape (by simp)

theorem fill_loop_c {B : Nat} {h0 : Heap} {s : Value} {xs : List Int} {w hh : Nat} {p c : Nat} {v2 v3 v9 v10 v11 v13 : Value} (hi : Ints h0 s xs) (hsB : ∀ id, sid s = some id → id < B) (w1 : 1 ≤ w) (w2 : w ≤ 64) (h1 : 1 ≤ hh) (h2 : hh ≤ 64) (hl : xs.length = w * hh)
    (hbad : ∀ h', (∀ id, id < B → blk? h' id = blk? h0 id) → B ≤ h'.length → ¬ (∀ v ∈ xs, inR v) → R (.tuple #[.slice none 0 0, .int .i64 2]) h')
    (hk : ∀ (h' : Heap) (t1 t4 t5 t6 t7 t8 t14 t15 t16 t17 t18 t19 t20 t21 t22 t23 t24 t25 t26 t27 t28 t29 t30 t31 t32 t33 t34 t35 t36 t37 t38 t39 t40 t41 t42 t43 t44 t45 t46 t47 t48 t49 t50 t51 t52 t53 t54 t55 t56 t57 t58 t59 t60 t61 t62 t63 t64 t65 t66 t67 t68 t69 t70 t71 t72 t73 t74 t75 t76 t77 t78 t79 t80 t81 t82 t83 t84 t85 t86 t87 t88 t89 t90 : Value), (∀ v ∈ xs, inR v) → CB h' false p c (fillTo w hh xs xs.length) → (∀ id, id < B → blk? h' id = blk? h0 id) → B ≤ h'.length →
      Ok tab R35 k #[s, t1, v2, v3, t4, t5, t6, t7, t8, v9, v10, v11, ptr p, v13, t14, t15, t16, t17, t18, t19, t20, t21, t22, t23, t24, t25, t26, t27, t28, t29, t30, t31, t32, t33, t34, t35, t36, t37, t38, t39, t40, t41, t42, t43, t44, t45, t46, t47, t48, t49, t50, t51, t52, t53, t54, t55, t56, t57, t58, t59, t60, t61, t62, t63, t64, t65, t66, t67, t68, t69, t70, t71, t72, t73, t74, t75, t76, t77, t78, t79, t80, t81, t82, t83, t84, t85, t86, t87, t88, t89, t90] h' R) :
    ∀ (n i : Nat) (h : Heap) (t4 t5 t6 t7 t8 t14 t15 t16 t17 t18 t19 t20 t21 t22 t23 t24 t25 t26 t27 t28 t29 t30 t31 t32 t33 t34 t35 t36 t37 t38 t39 t40 t44 t45 t46 t47 t48 t49 t50 t51 t52 t53 t54 t55 t56 t57 t58 t59 t60 t61 t62 t63 t64 t65 t66 t67 t68 t69 t70 t71 t72 t73 t74 t75 t76 t77 t78 t79 t80 t81 t82 t83 t84 t85 t86 t87 t88 t89 t90 : Value), n = xs.length - i → i ≤ xs.length → (∀ v ∈ xs.take i, inR v) → CB h false p c (fillTo w hh xs i) → B ≤ p ∧ B ≤ c → (∀ id, id < B → blk? h id = blk? h0 id) → B ≤ h.length →
      Ok tab R35 (.inLoop L35_0 :: .inBlock 0 :: k) #[s, .int .i64 w, v2, v3, t4, t5, t6, t7, t8, v9, v10, v11, ptr p, v13, t14, t15, t16, t17, t18, t19, t20, t21, t22, t23, t24, t25, t26, t27, t28, t29, t30, t31, t32, t33, t34, t35, t36, t37, t38, t39, t40, s, .int .i64 xs.length, .int .i64 i, t44, t45, t46, t47, t48, t49, t50, t51, t52, t53, t54, t55, t56, t57, t58, t59, t60, t61, t62, t63, t64, t65, t66, t67, t68, t69, t70, t71, t72, t73, t74, t75, t76, t77, t78, t79, t80, t81, t82, t83, t84, t85, t86, t87, t88, t89, t90] h R := by
  intro n
  have hm : w * hh ≤ 64 * 64 := Nat.mul_le_mul w2 h2
  induction n with
  | zero =>
    intro i h t4 t5 t6 t7 t8 t14 t15 t16 t17 t18 t19 t20 t21 t22 t23 t24 t25 t26 t27 t28 t29 t30 t31 t32 t33 t34 t35 t36 t37 t38 t39 t40 t44 t45 t46 t47 t48 t49 t50 t51 t52 t53 t54 t55 t56 t57 t58 t59 t60 t61 t62 t63 t64 t65 t66 t67 t68 t69 t70 t71 t72 t73 t74 t75 t76 t77 t78 t79 t80 t81 t82 t83 t84 t85 t86 t87 t88 t89 t90 hn hi' hr hcb hB low len
    have hlt : ¬ ((i : Int) < xs.length) := by omega
    have : i = xs.length := by omega
    subst this
    rw [ok_round, l35_0, L35_0a, L35_0b]
    simp [hlt]
    exact hk h _ _ _ _ _ _ _ _ _ _ _ _ _ _ _ _ _ _ _ _ _ _ _ _ _ _ _ _ _ _ _ _ _ _ _ _ _ _ _ _ _ _ _ _ _ _ _ _ _ _ _ _ _ _ _ _ _ _ _ _ _ _ _ _ _ _ _ _ _ _ _ _ _ _ _ _ _ _ _ _ _ _ _ (by rw [List.take_of_length_le (Nat.le_refl _)] at hr; exact hr) hcb low len
  | succ n ih =>
    intro i h t4 t5 t6 t7 t8 t14 t15 t16 t17 t18 t19 t20 t21 t22 t23 t24 t25 t26 t27 t28 t29 t30 t31 t32 t33 t34 t35 t36 t37 t38 t39 t40 t44 t45 t46 t47 t48 t49 t50 t51 t52 t53 t54 t55 t56 t57 t58 t59 t60 t61 t62 t63 t64 t65 t66 t67 t68 t69 t70 t71 t72 t73 t74 t75 t76 t77 t78 t79 t80 t81 t82 t83 t84 t85 t86 t87 t88 t89 t90 hn hi' hr hcb hB low len
    have hlt : ((i : Int) < xs.length) := by omega
    have hil : i < xs.length := by omega
    have hw : IntKind.i64.wrap ((i : Int) + 1) = ((i + 1 : Nat) : Int) := wrapN (n := i + 1) (by omega)
    obtain ⟨id, off, b, hs, hbk, hc⟩ := hi.get hil
    have hbk' : blk? h id = some b := by rw [low id (hsB id (by rw [hs]; rfl))]; exact hbk
    have hmod : (i : Int).tmod (w : Int) = ((i % w : Nat) : Int) := rfl
    have hdiv : (i : Int).tdiv (w : Int) = ((i / w : Nat) : Int) := rfl
    have hdw : IntKind.i64.wrap ((i / w : Nat) : Int) = ((i / w : Nat) : Int) := wrapN (by have := Nat.div_le_self i w; omega)
    have hw0 : ¬ w = 0 := by omega
    have hinb := inb_divmod (i := i) (h := hh) (w := w) (by omega) (by omega) (fillTo w hh xs i).cs
    have ih' := ih (i + 1)
    have hmem := List.getElem_mem hil
    have hstep := fillTo_step (i := i) (w := w) (by omega) hil hl
    have htk : ∀ v ∈ xs.take (i + 1), inR xs[i] → inR v := by
      intro v hv hx
      rw [List.take_succ_eq_append_getElem hil] at hv
      rw [List.mem_append, List.mem_singleton] at hv
      rcases hv with hv | hv
      · exact hr v hv
      · rw [hv]; exact hx
    rw [ok_round, l35_0, L35_0a, L35_0b]
    by_cases hin : inR xs[i]
    · have hst := fun R => set_c (R := R) (v := xs[i]) hcb (x := ((i % w : Nat) : Int)) (y := ((i / w : Nat) : Int)) hinb hin
      have hmm : (fun z : Cell => ({ z with v := xs[i] } : Cell)) = setV xs[i] := rfl
      rw [hmm, hstep] at hst
      have hgood := fillTo_good (newBS_good w1 w2 h1 h2) hl (i + 1) (by omega) (fun v hv => htk v hv hin)
      have hcb' := hcb.set (b' := fillTo w hh xs (i + 1)) rfl rfl hgood.ok
      have n1 : ¬ xs[i] ≤ -1152921504606846976 := by unfold inR at hin; omega
      have n2 : ¬ 1152921504606846976 ≤ xs[i] := by unfold inR at hin; omega
      generalize hq : ((i + 1 : Nat) : Int) = q at *
      generalize hq2 : ((i % w : Nat) : Int) = q2 at *
      generalize hq3 : ((i / w : Nat) : Int) = q3 at *
      simp [k_guard, hlt, hs, hbk', hc, n1, n2, hmod, hdiv, hdw, hw0, hst, hw]
      rw [← hs]
      refine ih' _ _ _ _ _ _ _ _ _ _ _ _ _ _ _ _ _ _ _ _ _ _ _ _ _ _ _ _ _ _ _ _ _ _ _ _ _ _ _ _ _ _ _ _ _ _ _ _ _ _ _ _ _ _ _ _ _ _ _ _ _ _ _ _ _ _ _ _ _ _ _ _ _ _ _ _ _ _ _ _ (by omega) (by omega) (fun v hv => htk v hv hin) hcb' hB (fun id hid => ?_) (by simp; omega)
      rw [blk?_set_ne (by omega)]; exact low id hid
    · have hfin := hbad h low len (fun hall => hin (hall _ hmem))
      by_cases n1 : xs[i] ≤ -1152921504606846976
      · simp [k_guard, k_guardU, hlt, hs, hbk', hc, n1, fin35]
        exact hfin
      · have n2 : 1152921504606846976 ≤ xs[i] := by unfold inR at hin; omega
        simp [k_guard, hlt, hs, hbk', hc, n1, n2, fin35]
        exact hfin
end
end Go.Proofs.Ytjpjohchdfoeaaa
namespace Go.Proofs.Ytjpjohchdfoeaaa
open Go Go.Sim
set_option linter.unusedSimpArgs false
set_option linter.unusedVariables false

section
variable {h : Heap} {R : Value → Heap → Prop}
theorem validOrient_r {o : Int} : Ret tab 34 [.int .i64 o] h R = R (.bool (decide (0 ≤ o ∧ o ≤ 3))) h := by
  rw [enter34, B34]
  by_cases h0 : 0 ≤ o
  · by_cases h3 : o ≤ 3
    · simp [k_guard, h0, h3, fin34]
    · simp [k_guard, h0, h3, fin34]
  · simp [k_guard, h0, fin34]
theorem floorDiv3_r {n : Nat} (hn : n < 100000) : Ret tab 100 [.int .i64 n, .int .i64 3] h R = R (.int .i64 (n / 3 : Nat)) h := by
  have e2 : (n : Int).tdiv 3 = ((n / 3 : Nat) : Int) := rfl
  have e3 : (n : Int).tmod 3 = ((n % 3 : Nat) : Int) := rfl
  have e4 : IntKind.i64.wrap ((n / 3 : Nat) : Int) = ((n / 3 : Nat) : Int) := wrapN (by omega)
  have e5 : ¬ (((n % 3 : Nat) : Int) < 0) := by omega
  rw [enter100, B100]
  simp [-Int.natCast_ediv, -Int.natCast_emod, e2, e3, e4, e5, fin100]
theorem pass_r {n : Nat} (hn : n < 100000) : Ret tab 38 [.int .i64 n] h R = R (.tuple #[.int .i64 (planeOf n), .int .i64 (kindOf n)]) h := by
  have h1 : ¬ ((n : Int) < 0) := by omega
  rw [enter38, B38]
  by_cases h0 : n = 0
  · subst h0; simp [fin38, planeOf, kindOf]
  · have hn0 : ((n : Int) == 0) = false := by simp [h0]
    have e1 : IntKind.i64.wrap ((n : Int) - 1) = ((n - 1 : Nat) : Int) := by rw [wrapI (by omega) (by omega)]; omega
    have e3 : ((n - 1 : Nat) : Int).tmod 3 = (((n - 1) % 3 : Nat) : Int) := rfl
    have hf := fun R => floorDiv3_r (h := frz h) (R := R) (n := n - 1) (by omega)
    have e5 : IntKind.i64.wrap (1 + (((n - 1) / 3 : Nat) : Int)) = (((n - 1) / 3 + 1 : Nat) : Int) := by rw [wrapI (by omega) (by omega)]; omega
    have hp : planeOf n = (n - 1) / 3 + 1 := by unfold planeOf; rw [if_neg h0]
    have hk : kindOf n = (n - 1) % 3 := by unfold kindOf; rw [if_neg h0]
    rw [hp, hk]
    generalize hm : n - 1 = m at *
    generalize hd : m / 3 = d at *
    generalize hr : m % 3 = r at *
    simp [-Int.natCast_add, h1, hn0, e1, e3, hf, e5, fin38]
theorem raw_r {n : Nat} (hn : n < 100000) (m : MD) : Ret tab 81 [.int .i64 n, m.val] h R = R (.bool (rawOf m n)) h := by
  have hK : ∀ y : Blk, blk? (frz h ++ [some y]) h.length = some y := fun y => by
    have := blk?_push_eq (h := frz h) (x := some y)
    rwa [len_frz] at this
  have hp := fun h R => pass_r (h := h) (R := R) hn
  have hk : kindOf n = 0 ∨ kindOf n = 1 ∨ kindOf n = 2 := by unfold kindOf; split <;> omega
  rw [enter81, B81]
  obtain ⟨b1, b2, b3, b4, b5⟩ := m
  by_cases h4 : 4 ≤ planeOf n
  · have h4' : (4 : Int) ≤ (planeOf n : Int) := by omega
    rcases hk with hk | hk | hk <;> cases b1 <;> simp [k_guard, k_guardU, MD.val, hp, hk, hK, h4, h4', fin81, rawOf]
  · have h4' : ¬ (4 : Int) ≤ (planeOf n : Int) := by omega
    rcases hk with hk | hk | hk <;> cases b1 <;> simp [k_guard, k_guardU, MD.val, hp, hk, hK, h4, h4', fin81, rawOf]
end
end Go.Proofs.Ytjpjohchdfoeaaa
namespace Go.Proofs.Ytjpjohchdfoeaaa
open Go Go.Sim
set_option linter.unusedSimpArgs false
set_option linter.unusedVariables false

section
variable {h : Heap} {R : Value → Heap → Prop} {k : List RItem}

theorem symbols_c {s : Value} {xs : List Int} (hi : Ints h s xs) (hl : xs.length < 9000000000) (w hh o : Int) (m : MD) :
    ∃ sv h', (∀ R, Ret tab 35 [s, .int .i64 w, .int .i64 hh, .int .i64 o, m.val] h R = R (.tuple #[sv, .int .i64 (symRes xs w hh o m).1]) h') ∧ SymOut h h' sv (symRes xs w hh o m) := by
  have key : Ret tab 35 [s, .int .i64 w, .int .i64 hh, .int .i64 o, m.val] h fun v h' => ∃ sv, v = .tuple #[sv, .int .i64 (symRes xs w hh o m).1] ∧ SymOut h h' sv (symRes xs w hh o m) := by
    obtain ⟨a, cc, hs⟩ := hi.sl.shape
    rw [enter35, show B35 = .seq (nthC 0 B35) (.seq (nthC 1 B35) (.seq (nthC 2 B35) (.seq (nthC 3 B35) (.seq (nthC 4 B35) (.seq (nthC 5 B35) (tlC 6 B35)))))) from rfl]
    generalize hT : tlC 6 B35 = tl
    simp only [nthC, tlC, fstC, B35]
    have hkp : ∀ x : Option Blk, ∀ id, id < h.length → blk? (h ++ [x]) id = blk? h id := fun x id hid => blk?_push_lt hid
    cases hsz : sized w hh
    · have hr : symRes xs w hh o m = (2, []) := by unfold symRes; rw [if_pos hsz]
      rw [hr]
      simp [MD.val, new_bad hsz, fin35]
      exact SymOut.nil (hkp _) (by simp) _
    have hsz' := hsz
    simp only [sized, decide_eq_true_eq] at hsz'
    obtain ⟨w, rfl⟩ := Int.eq_ofNat_of_zero_le (show 0 ≤ w by omega)
    obtain ⟨hh, rfl⟩ := Int.eq_ofNat_of_zero_le (show 0 ≤ hh by omega)
    have w1 : 1 ≤ w := by omega
    have w2 : w ≤ 64 := by omega
    have h1 : 1 ≤ hh := by omega
    have h2 : hh ≤ 64 := by omega
    have hm : w * hh ≤ 64 * 64 := Nat.mul_le_mul w2 h2
    have hmw : IntKind.i64.wrap ((w : Int) * (hh : Int)) = ((w * hh : Nat) : Int) := by rw [← Int.natCast_mul]; exact wrapN (by omega)
    -- the heap with the box and the block
    have hnew := fun H R => new_c (h := H) (R := R) w1 w2 h1 h2
    have hls : ∀ H : Heap, (newHeap H w hh).length = H.length + 2 := fun H => newHeap_len H w hh
    have hlow : ∀ x : Option Blk, ∀ id, id < h.length → blk? (newHeap (h ++ [x]) w hh) id = blk? h id := fun x id hid => by
      rw [newHeap_low _ _ _ id (by simp; omega)]; exact hkp x id hid
    by_cases hln : xs.length = w * hh
    case neg =>
      have hr : symRes xs w hh o m = (4, []) := by
        unfold symRes; rw [if_neg (by rw [hsz]; simp), if_pos (by rw [← Int.natCast_mul]; omega)]
      have hne : ((xs.length : Int) != ((w * hh : Nat) : Int)) = true := by simp only [bne_iff_ne, ne_eq]; omega
      rw [hr]
      simp [-Int.natCast_mul, MD.val, hnew, hs, hmw, hne, fin35]
      exact SymOut.nil (hlow _) (by rw [hls]; simp; omega) _
    have hne : ((xs.length : Int) != ((w * hh : Nat) : Int)) = false := by rw [hln]; simp
    have hsq : (xs.length : Int) = (w : Int) * (hh : Int) := by rw [hln, Int.natCast_mul]
    by_cases ho1 : o < 0
    · have hr : symRes xs w hh o m = (3, []) := by
        unfold symRes; rw [if_neg (by rw [hsz]; simp), if_neg (by rw [hsq]; simp), if_pos (.inl ho1)]
      rw [hr]
      simp [-Int.natCast_mul, k_guard, k_guardU, MD.val, hnew, hs, hmw, hne, ho1, fin35]
      exact SymOut.nil (hlow _) (by rw [hls]; simp; omega) _
    by_cases ho2 : 3 < o
    · have hr : symRes xs w hh o m = (3, []) := by
        unfold symRes; rw [if_neg (by rw [hsz]; simp), if_neg (by rw [hsq]; simp), if_pos (.inr ho2)]
      rw [hr]
      simp [-Int.natCast_mul, k_guard, k_guardU, MD.val, hnew, hs, hmw, hne, ho1, ho2, fin35]
      exact SymOut.nil (hlow _) (by rw [hls]; simp; omega) _
    obtain ⟨o, rfl⟩ := Int.eq_ofNat_of_zero_le (show 0 ≤ o by omega)
    have hbadr : ¬ (∀ v ∈ xs, inR v) → symRes xs w hh o m = (2, []) := fun hb => by
      unfold symRes; rw [if_neg (by rw [hsz]; simp), if_neg (by rw [hsq]; simp), if_neg (by omega), if_neg hb]
    have hokr : (∀ v ∈ xs, inR v) → symRes xs w hh o m = (0, passesOf m (planesOf xs) o (3 * planesOf xs - 2) 0 (fillTo w hh xs xs.length)) := fun hb => by
      unfold symRes; rw [if_neg (by rw [hsz]; simp), if_neg (by rw [hsq]; simp), if_neg (by omega), if_pos hb]; rfl
    simp [-Int.natCast_mul, k_guard, k_guardU, MD.val, hnew, hs, hmw, hne, ho1, ho2]
    rw [← hs]
    generalize hH0 : h ++ [some (⟨false, [.bool m.byp, .bool m.res, .bool m.rst, .bool m.cz, .bool m.sy]⟩ : Blk)] = H0
    have hH0l : H0.length = h.length + 1 := by rw [← hH0]; simp
    have hM : blk? H0 h.length = some ⟨false, [.bool m.byp, .bool m.res, .bool m.rst, .bool m.cz, .bool m.sy]⟩ := by rw [← hH0]; exact blk?_push_eq
    have hk0 : ∀ id, id < h.length → blk? H0 id = blk? h id := fun id hid => by rw [← hH0]; exact hkp _ id hid
    have hi0 : Ints H0 s xs := hi.keep (by omega) (fun id hid _ => hk0 id hid)
    have hsB : ∀ id, sid s = some id → id < H0.length := by
      intro id hid
      have := hi0.sb
      rw [hs] at this hid
      cases a with
      | none => simp [sid] at hid
      | some a => simp [sid] at hid; simp at this; omega
    have hcb := newHeap_cb H0 w1 w2 h1 h2
    rw [← fillTo_zero w hh xs, hH0l] at hcb
    refine fill_loop_c hi0 hsB w1 w2 h1 h2 hln ?_ ?_ _ 0 _ _ _ _ _ _ _ _ _ _ _ _ _ _ _ _ _ _ _ _ _ _ _ _ _ _ _ _ _ _ _ _ _ _ _ _ _ _ _ _ _ _ _ _ _ _ _ _ _ _ _ _ _ _ _ _ _ _ _ _ _ _ _ _ _ _ _ _ _ _ _ _ _ _ _ _ _ _ _ _ rfl (by omega) (by simp) hcb ⟨by omega, by omega⟩ (newHeap_low H0 w hh) (by rw [hls]; omega)
    · intro h' low len hb
      rw [hbadr hb]
      exact ⟨_, rfl, SymOut.nil (fun id hid => by rw [low id (by omega), hk0 id hid]) (by omega) _⟩
    · intro h2' t1 t4 t5 t6 t7 t8 t14 t15 t16 t17 t18 t19 t20 t21 t22 t23 t24 t25 t26 t27 t28 t29 t30 t31 t32 t33 t34 t35 t36 t37 t38 t39 t40 t41 t42 t43 t44 t45 t46 t47 t48 t49 t50 t51 t52 t53 t54 t55 t56 t57 t58 t59 t60 t61 t62 t63 t64 t65 t66 t67 t68 t69 t70 t71 t72 t73 t74 t75 t76 t77 t78 t79 t80 t81 t82 t83 t84 t85 t86 t87 t88 t89 t90 hb hcb2 low2 len2
      rw [hokr hb]
      have hp60 := inR_planes.1 hb
      have hi2 : Ints h2' s xs := hi0.keep (by omega) (fun id hid _ => low2 id hid)
      have hpl := fun R => planes_c (R := R) hi2 hl
      have hmx : (if 2 < 3 * (planesOf xs : Int) then (3 * (planesOf xs : Int) - 2) else 0) = ((3 * planesOf xs - 2 : Nat) : Int) := by split <;> omega
      have hw3 : IntKind.i64.wrap (3 * (planesOf xs : Int)) = 3 * (planesOf xs : Int) := wrapI (by omega) (by omega)
      have hw4 : IntKind.i64.wrap (3 * (planesOf xs : Int) - 2) = 3 * (planesOf xs : Int) - 2 := wrapI (by omega) (by omega)
      rw [← hT]
      simp only [tlC, B35]
      generalize hmg : ((3 * planesOf xs - 2 : Nat) : Int) = mg at *
      simp [hpl, hw3, hw4, fold1, foldO, max2V]
      rw [hmx, ← hmg]
      have hgood := fillTo_good (newBS_good w1 w2 h1 h2) hln xs.length (Nat.le_refl _) (by rw [List.take_of_length_le (Nat.le_refl _)]; exact hb)
      have w0 := SL.start (B := H0.length) (h0 := H0) hcb2 hgood ⟨by omega, by omega⟩ low2 len2
      refine pass_loop_c (b0 := fillTo w hh xs xs.length) hM (by omega) hp60 (by omega) ?_ (3 * planesOf xs - 2) 0 _ _ _ _ _ _ _ _ _ _ _ _ _ _ _ _ _ _ _ _ _ _ _ _ _ _ _ _ _ _ _ _ _ _ _ _ _ _ _ _ _ _ _ _ _ _ _ _ _ _ _ _ _ _ _ _ _ _ _ _ _ _ _ _ _ _ _ _ _ _ _ _ _ _ _ _ _ _ _ _ _ _ _ _ _ _ _ (by omega) rfl rfl w0
      intro h' s' vs b' ls t0 t1 t2 t3 t4 t5 t6 t7 t8 t9 t12 t13 t14 t15 t16 t18 t19 t20 t21 t22 t23 t24 t25 t26 t27 t28 t29 t30 t31 t32 t33 t34 t35 t36 t37 t38 t39 t40 t41 t42 t43 t44 t45 t46 t47 t48 t49 t50 t51 t52 t53 t54 t55 t56 t57 t58 t59 t60 t61 t62 t63 t64 t65 t66 t67 t68 t69 t70 t71 t72 t73 t74 t75 t76 t77 t78 t79 t80 t81 t82 t83 t84 t85 t86 t87 t88 t89 t90 w hls
      simp [fin35]
      refine ⟨⟨vs, ?_⟩, fun id hid => by rw [w.low id (by omega), hk0 id hid], by have := w.lenB; omega⟩
      rw [← hls]; exact w.pss
  obtain ⟨v, h', e, sv, rfl, rs⟩ := ret_ex key
  exact ⟨sv, h', e, rs⟩
end
end Go.Proofs.Ytjpjohchdfoeaaa
