/-
  Rows of numbers; the number of bit planes; new blocks; the program's and the reference's.
  The reference's numbers of passes.
  The decoder's passes, plain: what they ask for, as trees.
  The cleanup pass of the decoder's reference, plain: the same as the program's.
  The passes of a block, decoded: the plain law.
-/
import Derived.Test.YtjpjohchdfoeaaaEnc8
import Derived.Test.YtjpjohchdfoeaaaMdp
namespace Go.Proofs.Ytjpjohchdfoeaaa
open Go Go.Sim
set_option linter.unusedSimpArgs false
set_option linter.unusedVariables false
theorem own_below {h : Heap} {esz n : Nat} {s : Value} {cs : List Value} (ho : OwnS h esz s n cs) {N : Nat} (hl : h.length ≤ N) : below N s = true := by
  rcases ho.2 with ⟨rfl, _⟩ | ⟨id, rfl, hb⟩
  · simp
  · have := blk?_lt hb; simp; omega
section
variable {h : Heap} {R : Value → Heap → Prop}
theorem abs_r {v : Int} (h1 : -9223372036854775808 ≤ v) (h2 : v < 9223372036854775808) : Ret tab 99 [.int .i64 v] h R = R (.int .u64 (v.natAbs : Nat)) h := by
  rw [enter99, B99]
  by_cases hv : v < 0
  · have := natAbs_wrap hv h1
    rw [Int.zero_sub] at this
    simp [hv, this, fin99]
  · simp [hv, natAbs_wrap0 hv h2, fin99]
end
theorem Sl_of_cells {h h' : Heap} {esz n : Nat} {s : Value} {cs : List Value} (hs : Sl h esz s n cs) (hk : ∀ id b, sid s = some id → blk? h id = some b → ∃ b', blk? h' id = some b' ∧ b'.cells = b.cells) : Sl h' esz s n cs := by
  obtain ⟨hl, hs⟩ := hs
  refine ⟨hl, ?_⟩
  rcases hs with hs | ⟨id, off, rfl, h0 | ⟨b, hb, hle, hc⟩⟩
  · exact .inl hs
  · exact .inr ⟨id, off, rfl, .inl h0⟩
  · obtain ⟨b', h1, h2⟩ := hk id b rfl hb
    exact .inr ⟨id, off, rfl, .inr ⟨b', h1, by rw [h2]; exact hle, by rw [h2]; exact hc⟩⟩

def i64s (xs : List Int) : List Value := xs.map fun v => .int .i64 v
/-- A row of integers. -/
structure Ints (h : Heap) (s : Value) (xs : List Int) : Prop where
  sl : Sl h 1 s xs.length (i64s xs)
  sb : below h.length s = true
  bl : ∀ id b, sid s = some id → blk? h id = some b → ∀ n, belowL n b.cells = true
  rng : ∀ v ∈ xs, -9223372036854775808 ≤ v ∧ v < 9223372036854775808

theorem Ints.frz {h : Heap} {s : Value} {xs : List Int} (hi : Ints h s xs) : Ints (frz h) s xs := by
  refine ⟨Sl_of_cells hi.sl fun id b hid hb => ⟨_, blk_frz hb (hi.bl id b hid hb _), rfl⟩, by rw [len_frz]; exact hi.sb, fun id b hid hb => ?_, hi.rng⟩
  obtain ⟨b0, h0, rfl, _⟩ := frz_some hb
  exact hi.bl id b0 hid h0
theorem below_sid {h h' : Heap} {s : Value} (hl : h.length ≤ h'.length) {a : Option Addr} {n c : Nat} (hs : s = .slice a n c) (hb : below h.length s = true) : below h'.length s = true := by
  subst hs
  cases a with
  | none => simp
  | some a => simp at hb ⊢; omega
theorem Ints.keep {h h' : Heap} {s : Value} {xs : List Int} (hi : Ints h s xs) (hl : h.length ≤ h'.length) (hk : ∀ id, id < h.length → sid s = some id → blk? h' id = blk? h id) : Ints h' s xs := by
  obtain ⟨a, c, hs⟩ := hi.sl.shape
  have hlt : ∀ id, sid s = some id → id < h.length := by
    intro id hid
    have := hi.sb
    rw [hs] at this hid
    cases a with
    | none => simp [sid] at hid
    | some a => simp [sid] at hid; simp at this; omega
  refine ⟨hi.sl.of_sid fun id b hid hb => by rw [hk id (blk?_lt hb) hid]; exact hb, below_sid hl hs hi.sb, fun id b hid hb => ?_, hi.rng⟩
  rw [hk id (hlt id hid) hid] at hb
  exact hi.bl id b hid hb
theorem Ints.get {h : Heap} {s : Value} {xs : List Int} (hi : Ints h s xs) {i : Nat} (hil : i < xs.length) :
    ∃ id off b, s = .slice (some ⟨id, off, none⟩) xs.length 1 ∧ blk? h id = some b ∧ b.cells[off + i]? = some (.int .i64 xs[i]) := by
  obtain ⟨id, off, b, hs, hb, hc⟩ := hi.sl.get hil
  refine ⟨id, off, b, hs, hb, ?_⟩
  have := hc 0 (by omega)
  simp only [Nat.mul_one, Nat.add_zero] at this
  rw [this]
  simp [i64s, hil]

/-! The number of binary digits. -/
section
variable {h : Heap} {R : Value → Heap → Prop}

theorem cnt_loop {k : List RItem} {v0 v2 : Value} (m : Nat)
    (hk : ∀ K1 K3 K4 K5 K7 K8 K9 Ka Kb Kc Kd Ke Kf Kg Kh Ki Kj Kk Kl Km Kn Ko : Value, Ok tab R36 k #[v0,K1,v2,K3,K4,K5,.int .i64 m,K7,K8,K9,Ka,Kb,Kc,Kd,Ke,Kf,Kg,Kh,Ki,Kj,Kk,Kl,Km,Kn,Ko] h R) :
    ∀ (n a c : Nat) (K1 K4 K5 K7 K8 K9 Ka Kb Kc Kd Ke Kf Kg Kh Ki Kj Kk Kl Km Kn Ko : Value), n = a → c + blen a = m → m ≤ 64 → a < 18446744073709551616 →
      Ok tab R36 (.inLoop L36_1 :: .inBlock 2 :: k) #[v0,K1,v2,.int .u64 a,K4,K5,.int .i64 c,K7,K8,K9,Ka,Kb,Kc,Kd,Ke,Kf,Kg,Kh,Ki,Kj,Kk,Kl,Km,Kn,Ko] h R := by
  intro n
  induction n using Nat.strongRecOn with
  | _ n ih =>
    intro a c K1 K4 K5 K7 K8 K9 Ka Kb Kc Kd Ke Kf Kg Kh Ki Kj Kk Kl Km Kn Ko hn hc hm ha
    rw [ok_round, l36_1, L36_1a, L36_1b]
    by_cases h0 : a = 0
    · subst h0
      simp [blen] at hc
      subst hc
      simp
      exact hk _ _ _ _ _ _ _ _ _ _ _ _ _ _ _ _ _ _ _ _ _ _
    · have hlt : (0 : Int) < a := by omega
      have hb := blen_half h0
      have hsh : shrI .u64 (a : Int) 1 = ((a / 2 : Nat) : Int) := by
        have := shrN (i := .u64) (a := a) (b := 1) (by decide)
        simpa using this
      have hw : IntKind.i64.wrap ((c : Int) + 1) = ((c + 1 : Nat) : Int) := wrapN (n := c + 1) (by omega)
      have ih' := ih (a / 2) (by omega) (a / 2) (c + 1)
      generalize hq : ((c + 1 : Nat) : Int) = q at *
      generalize hq2 : ((a / 2 : Nat) : Int) = q2 at *
      simp [show 0 < a by omega, hsh, hw]
      exact ih' _ _ _ _ _ _ _ _ _ _ _ _ _ _ _ _ _ _ _ _ _ rfl (by omega) hm (by omega)

theorem or_loop {k : List RItem} {s v0 v2 : Value} {xs : List Int} (hi : Ints h s xs)
    (hk : ∀ (a : Nat) (K1 K4 K5 K6 K7 K8 K9 Ka Kb Kc Kd Ke Kf Kg Kh Ki Kj Kk Kl Km Kn Ko : Value), blen a = planesOf xs → a < 18446744073709551616 → Ok tab R36 k #[v0,K1,v2,.int .u64 a,K4,K5,K6,K7,K8,K9,Ka,Kb,Kc,Kd,Ke,Kf,Kg,Kh,Ki,Kj,Kk,Kl,Km,Kn,Ko] h R) :
    ∀ (n i a : Nat) (K1 K4 K5 K6 Ka Kb Kc Kd Ke Kf Kg Kh Ki Kj Kk Kl Km Kn Ko : Value), n = xs.length - i → i ≤ xs.length → blen a = planesOf (xs.take i) → a < 18446744073709551616 → xs.length < 9000000000 →
      Ok tab R36 (.inLoop L36_0 :: .inBlock 0 :: k) #[v0,K1,v2,.int .u64 a,K4,K5,K6,s,.int .i64 xs.length,.int .i64 i,Ka,Kb,Kc,Kd,Ke,Kf,Kg,Kh,Ki,Kj,Kk,Kl,Km,Kn,Ko] h R := by
  intro n
  induction n with
  | zero =>
    intro i a K1 K4 K5 K6 Ka Kb Kc Kd Ke Kf Kg Kh Ki Kj Kk Kl Km Kn Ko hn hi' hb ha hl
    have hlt : ¬ ((i : Int) < xs.length) := by omega
    rw [ok_round, l36_0, L36_0a, L36_0b]
    simp [hlt]
    exact hk a _ _ _ _ _ _ _ _ _ _ _ _ _ _ _ _ _ _ _ _ _ _ (by rw [hb, List.take_of_length_le (by omega)]) ha
  | succ n ih =>
    intro i a K1 K4 K5 K6 Ka Kb Kc Kd Ke Kf Kg Kh Ki Kj Kk Kl Km Kn Ko hn hi' hb ha hl
    have hlt : ((i : Int) < xs.length) := by omega
    have hil : i < xs.length := by omega
    have hw : IntKind.i64.wrap ((i : Int) + 1) = ((i + 1 : Nat) : Int) := wrapN (n := i + 1) (by omega)
    obtain ⟨id, off, b, hs, hbk, hc⟩ := hi.get hil
    obtain ⟨r1, r2⟩ := hi.rng xs[i] (List.getElem_mem hil)
    have hm := fun R => magnitude_c (h := h) (R := R) r1 r2
    have ho : orI .u64 (a : Int) (xs[i].natAbs : Int) = ((a ||| xs[i].natAbs : Nat) : Int) := u64_or_nat a xs[i].natAbs ha (by omega)
    have hlt64 : a ||| xs[i].natAbs < 2 ^ 64 := Nat.or_lt_two_pow ha (by omega)
    have hb' : blen (a ||| xs[i].natAbs) = planesOf (xs.take (i + 1)) := by
      rw [blen_or, hb, List.take_succ_eq_append_getElem hil, planesOf, planesOf, List.foldl_append]; rfl
    have ih' := ih (i + 1) (a ||| xs[i].natAbs)
    rw [ok_round, l36_0, L36_0a, L36_0b]
    generalize hq : ((i + 1 : Nat) : Int) = q at *
    generalize hq2 : ((a ||| xs[i].natAbs : Nat) : Int) = q2 at *
    simp [hlt, hs, hbk, hc, hm, ho, hw]
    rw [← hs]
    exact ih' _ _ _ _ _ _ _ _ _ _ _ _ _ _ _ _ _ _ _ (by omega) (by omega) hb' hlt64 hl

theorem planes_64 {h : Heap} {s : Value} {xs : List Int} (hi : Ints h s xs) : planesOf xs ≤ 64 := by
  rw [planes_le]
  intro v hv
  have := hi.rng v hv
  omega

theorem planes_c {s : Value} {xs : List Int} (hi : Ints h s xs) (hl : xs.length < 9000000000) : Ret tab 36 [s] h R = R (.int .i64 (planesOf xs)) h := by
  obtain ⟨a, cc, hs⟩ := hi.sl.shape
  have key : Ret tab 36 [s] h fun v h' => v = .int .i64 (planesOf xs) ∧ h' = h := by
    rw [enter36, B36]
    refine ⟨by simp [hi.sb], ?_⟩
    simp [hs]
    rw [← hs]
    refine or_loop hi.frz ?_ _ 0 0 _ _ _ _ _ _ _ _ _ _ _ _ _ _ _ _ _ _ _ rfl (by omega) (by simp [planesOf, blen]) (by omega) hl
    intro a K1 K4 K5 K6 K7 K8 K9 Ka Kb Kc Kd Ke Kf Kg Kh Ki Kj Kk Kl Km Kn Ko hb ha
    simp
    refine cnt_loop (planesOf xs) ?_ a a 0 _ _ _ _ _ _ _ _ _ _ _ _ _ _ _ _ _ _ _ _ _ rfl (by omega) (planes_64 hi) ha
    intro K1 K3 K4 K5 K7 K8 K9 Ka Kb Kc Kd Ke Kf Kg Kh Ki Kj Kk Kl Km Kn Ko
    simp [fin36]
  obtain ⟨v, h', e, rfl, rfl⟩ := ret_ex key
  exact e R

theorem in_loop {k : List RItem} {v0 v2 v6 v7 v8 : Value} {v : Int} (r1 : -9223372036854775808 ≤ v) (r2 : v < 9223372036854775808) (m : Nat)
    (hk : ∀ K1 K4 K5 K9 Ka Kb Kc Kd Ke Kf Kg Kh Ki Kj Kk Kl Km Kn Ko Kp : Value, Ok tab R37 k #[v0,K1,v2,.int .i64 m,K4,K5,v6,v7,v8,K9,Ka,Kb,Kc,Kd,Ke,Kf,Kg,Kh,Ki,Kj,Kk,Kl,Km,Kn,Ko,Kp] h R) :
    ∀ (n c : Nat) (K1 K4 K9 Ka Kb Kc Kd Ke Kf Kg Kh Ki Kj Kk Kl Km Kn Ko Kp : Value), c + n = m → m = max c (blen v.natAbs) → m ≤ 64 →
      Ok tab R37 (.inLoop L37_0 :: .inBlock 2 :: k) #[v0,K1,v2,.int .i64 c,K4,.int .i64 v,v6,v7,v8,K9,Ka,Kb,Kc,Kd,Ke,Kf,Kg,Kh,Ki,Kj,Kk,Kl,Km,Kn,Ko,Kp] h R := by
  intro n
  have hm := fun R => abs_r (h := h) (R := R) r1 r2
  induction n with
  | zero =>
    intro c K1 K4 K9 Ka Kb Kc Kd Ke Kf Kg Kh Ki Kj Kk Kl Km Kn Ko Kp hc hmx hm64
    have hcm : c = m := by omega
    subst hcm
    rw [ok_round, l37_0, L37_0a, L37_0b]
    by_cases h64 : c < 64
    · have h64' : (c : Int) < 64 := by omega
      have hwu : IntKind.u64.wrap (c : Int) = (c : Int) := wrapU (by omega)
      have hc0 : ¬ (c : Int) < 0 := by omega
      have hsh : shrI .u64 (v.natAbs : Int) (c : Int) = ((v.natAbs / 2 ^ c : Nat) : Int) := shrN (show c ≤ 64 by omega)
      have hz : v.natAbs / 2 ^ c = 0 := Nat.div_eq_of_lt (blen_le.1 (by omega))
      rw [hz] at hsh
      simp [k_guard, h64', hm, hwu, hc0, hsh]
      exact hk _ _ _ _ _ _ _ _ _ _ _ _ _ _ _ _ _ _ _ _
    · have h64' : ¬ (c : Int) < 64 := by omega
      simp [k_guard, k_guardU, h64']
      exact hk _ _ _ _ _ _ _ _ _ _ _ _ _ _ _ _ _ _ _ _
  | succ n ih =>
    intro c K1 K4 K9 Ka Kb Kc Kd Ke Kf Kg Kh Ki Kj Kk Kl Km Kn Ko Kp hc hmx hm64
    have h64' : (c : Int) < 64 := by omega
    have hwu : IntKind.u64.wrap (c : Int) = (c : Int) := wrapU (by omega)
    have hc0 : ¬ (c : Int) < 0 := by omega
    have hsh : shrI .u64 (v.natAbs : Int) (c : Int) = ((v.natAbs / 2 ^ c : Nat) : Int) := shrN (show c ≤ 64 by omega)
    have hpos : (0 : Int) < ((v.natAbs / 2 ^ c : Nat) : Int) := by
      have := (lt_blen (n := v.natAbs) (k := c)).1 (by omega)
      have := Nat.div_pos this (Nat.two_pow_pos c)
      omega
    have hw : IntKind.i64.wrap ((c : Int) + 1) = ((c + 1 : Nat) : Int) := wrapN (n := c + 1) (by omega)
    have ih' := ih (c + 1)
    rw [ok_round, l37_0, L37_0a, L37_0b]
    generalize hq : ((c + 1 : Nat) : Int) = q at *
    generalize hq2 : ((v.natAbs / 2 ^ c : Nat) : Int) = q2 at *
    simp [k_guard, h64', hm, hwu, hc0, hsh, hpos, hw]
    exact ih' _ _ _ _ _ _ _ _ _ _ _ _ _ _ _ _ _ _ _ (by omega) (by omega) hm64

theorem max_loop {k : List RItem} {s v0 v2 : Value} {xs : List Int} (hi : Ints h s xs)
    (hk : ∀ K1 K4 K5 K6 K7 K8 K9 Ka Kb Kc Kd Ke Kf Kg Kh Ki Kj Kk Kl Km Kn Ko Kp : Value, Ok tab R37 k #[v0,K1,v2,.int .i64 (planesOf xs),K4,K5,K6,K7,K8,K9,Ka,Kb,Kc,Kd,Ke,Kf,Kg,Kh,Ki,Kj,Kk,Kl,Km,Kn,Ko,Kp] h R) :
    ∀ (n i : Nat) (K1 K4 K5 K9 Ka Kb Kc Kd Ke Kf Kg Kh Ki Kj Kk Kl Km Kn Ko Kp : Value), n = xs.length - i → i ≤ xs.length → xs.length < 9000000000 →
      Ok tab R37 (.inLoop L37_1 :: .inBlock 0 :: k) #[v0,K1,v2,.int .i64 (planesOf (xs.take i)),K4,K5,s,.int .i64 xs.length,.int .i64 i,K9,Ka,Kb,Kc,Kd,Ke,Kf,Kg,Kh,Ki,Kj,Kk,Kl,Km,Kn,Ko,Kp] h R := by
  intro n
  have h64 := planes_64 hi
  induction n with
  | zero =>
    intro i K1 K4 K5 K9 Ka Kb Kc Kd Ke Kf Kg Kh Ki Kj Kk Kl Km Kn Ko Kp hn hi' hl
    have hlt : ¬ ((i : Int) < xs.length) := by omega
    rw [ok_round, l37_1, L37_1a, L37_1b, List.take_of_length_le (by omega)]
    simp [hlt]
    exact hk _ _ _ _ _ _ _ _ _ _ _ _ _ _ _ _ _ _ _ _ _ _ _
  | succ n ih =>
    intro i K1 K4 K5 K9 Ka Kb Kc Kd Ke Kf Kg Kh Ki Kj Kk Kl Km Kn Ko Kp hn hi' hl
    have hlt : ((i : Int) < xs.length) := by omega
    have hil : i < xs.length := by omega
    have hw : IntKind.i64.wrap ((i : Int) + 1) = ((i + 1 : Nat) : Int) := wrapN (n := i + 1) (by omega)
    obtain ⟨id, off, b, hs, hbk, hc⟩ := hi.get hil
    obtain ⟨r1, r2⟩ := hi.rng xs[i] (List.getElem_mem hil)
    have hp : planesOf (xs.take (i + 1)) = max (planesOf (xs.take i)) (blen xs[i].natAbs) := by
      rw [List.take_succ_eq_append_getElem hil, planesOf, planesOf, List.foldl_append]; rfl
    have hp64 : planesOf (xs.take (i + 1)) ≤ 64 := by
      rw [planes_le] at h64 ⊢
      exact fun v hv => h64 v (List.mem_of_mem_take hv)
    have ih' := ih (i + 1)
    rw [ok_round, l37_1, L37_1a, L37_1b]
    generalize hq : ((i + 1 : Nat) : Int) = q at *
    simp [hlt, hs, hbk, hc]
    rw [← hs]
    refine in_loop r1 r2 (planesOf (xs.take (i + 1))) ?_ (planesOf (xs.take (i + 1)) - planesOf (xs.take i)) (planesOf (xs.take i)) _ _ _ _ _ _ _ _ _ _ _ _ _ _ _ _ _ _ _ (by omega) hp hp64
    intro K1 K4 K5 K9 Ka Kb Kc Kd Ke Kf Kg Kh Ki Kj Kk Kl Km Kn Ko Kp
    simp [hw]
    exact ih' _ _ _ _ _ _ _ _ _ _ _ _ _ _ _ _ _ _ _ _ (by omega) (by omega) hl

theorem planes_r {s : Value} {xs : List Int} (hi : Ints h s xs) (hl : xs.length < 9000000000) : Ret tab 37 [s] h R = R (.int .i64 (planesOf xs)) h := by
  obtain ⟨a, cc, hs⟩ := hi.sl.shape
  have key : Ret tab 37 [s] h fun v h' => v = .int .i64 (planesOf xs) ∧ h' = h := by
    rw [enter37, B37]
    refine ⟨by simp [hi.sb], ?_⟩
    simp [hs]
    rw [← hs]
    refine max_loop hi.frz ?_ _ 0 _ _ _ _ _ _ _ _ _ _ _ _ _ _ _ _ _ _ _ _ rfl (by omega) hl
    intro K1 K4 K5 K6 K7 K8 K9 Ka Kb Kc Kd Ke Kf Kg Kh Ki Kj Kk Kl Km Kn Ko Kp
    simp [fin37]
  obtain ⟨v, h', e, rfl, rfl⟩ := ret_ex key
  exact e R

theorem fewValues_r {s : Value} {xs : List Int} (hi : Ints h s xs) (hl : xs.length < 9000000000) {n : Int} : Ret tab 63 [s, .int .i64 n] h R = R (.bool (decide ((planesOf xs : Int) ≤ n))) h := by
  rw [enter63, B63]
  simp [hi.sb, planes_r hi.frz hl, fin63]
end

/-! New blocks. -/
theorem repL_blank : ∀ n, repL [.int .i64 0, .bool false, .bool false, .bool false] n = encC (blank n)
  | 0 => rfl
  | n + 1 => by rw [repL, repL_blank n, blank, blank, List.replicate_succ, encC]; rfl
section
variable {h : Heap} {R : Value → Heap → Prop}
theorem sized_ci {w hh : Int} : Ret tab 96 [.int .i64 w, .int .i64 hh] h R = R (.bool (sized w hh)) h := by
  rw [enter96, B96]
  by_cases a1 : 1 ≤ w
  · by_cases a2 : w ≤ 64
    · by_cases a3 : 1 ≤ hh
      · by_cases a4 : hh ≤ 64 <;> simp [k_guard, a1, a2, a3, a4, fin96, sized]
      · simp [k_guard, a1, a2, a3, fin96, sized]
    · simp [k_guard, a1, a2, fin96, sized]
  · simp [k_guard, a1, fin96, sized]
theorem sized_ri {w hh : Int} : Ret tab 115 [.int .i64 w, .int .i64 hh] h R = R (.bool (sized w hh)) h := by
  rw [enter115, B115]
  by_cases a1 : 1 ≤ w
  · by_cases a2 : w ≤ 64
    · by_cases a3 : 1 ≤ hh
      · by_cases a4 : hh ≤ 64 <;> simp [k_guard, a1, a2, a3, a4, fin115, sized]
      · simp [k_guard, a1, a2, a3, fin115, sized]
    · simp [k_guard, a1, a2, fin115, sized]
  · simp [k_guard, a1, fin115, sized]

/-- What New leaves. -/
def newHeap (h : Heap) (w hh : Nat) : Heap := h ++ [some ⟨false, encC (blank (w * hh))⟩, some ⟨false, [.int .i64 w, .int .i64 hh, .slice (some ⟨h.length, 0, none⟩) (w * hh) 4]⟩]
theorem newHeap_cb (h : Heap) {w hh : Nat} (w1 : 1 ≤ w) (w2 : w ≤ 64) (h1 : 1 ≤ hh) (h2 : hh ≤ 64) : CB (newHeap h w hh) false (h.length + 1) h.length (newBS w hh) :=
  ⟨by unfold newHeap; rw [app_add]; rfl, by unfold newHeap; rw [app_len]; rfl, (newBS_good w1 w2 h1 h2).ok⟩
theorem newHeap_low (h : Heap) (w hh : Nat) : ∀ id, id < h.length → blk? (newHeap h w hh) id = blk? h id := fun id hid => app_lt hid
theorem newHeap_len (h : Heap) (w hh : Nat) : (newHeap h w hh).length = h.length + 2 := by simp [newHeap]

theorem new_c {w hh : Nat} (w1 : 1 ≤ w) (w2 : w ≤ 64) (h1 : 1 ≤ hh) (h2 : hh ≤ 64) : Ret tab 33 [.int .i64 w, .int .i64 hh] h R = R (.tuple #[ptr (h.length + 1), .int .i64 0]) (newHeap h w hh) := by
  have hm : w * hh ≤ 64 * 64 := Nat.mul_le_mul w2 h2
  have hs := fun R => sized_c (h := h) (R := R) w1 w2 h1 h2
  have hw : IntKind.i64.wrap ((w : Int) * hh) = ((w * hh : Nat) : Int) := by rw [← Int.natCast_mul]; exact wrapN (by omega)
  have hr : ((w * hh : Nat) : Int) ≤ (roomCells : Int) := by unfold roomCells; omega
  rw [enter33, B33]
  simp [-Int.natCast_mul, hs, hw, hr, repL_blank, fin33, newHeap]
theorem new_r {w hh : Nat} (w1 : 1 ≤ w) (w2 : w ≤ 64) (h1 : 1 ≤ hh) (h2 : hh ≤ 64) : Ret tab 64 [.int .i64 w, .int .i64 hh] h R = R (.tuple #[ptr (h.length + 1), .int .i64 0]) (newHeap h w hh) := by
  have hm : w * hh ≤ 64 * 64 := Nat.mul_le_mul w2 h2
  have hs := fun R => Go.Proofs.Ytjpjohchdfoeaaa.sized_r (h := h) (R := R) w1 w2 h1 h2
  have hw : IntKind.i64.wrap ((w : Int) * hh) = ((w * hh : Nat) : Int) := by rw [← Int.natCast_mul]; exact wrapN (by omega)
  have hr : ((w * hh : Nat) : Int) ≤ (roomCells : Int) := by unfold roomCells; omega
  rw [enter64, B64]
  simp [-Int.natCast_mul, hs, hw, hr, repL_blank, fin64, newHeap]
theorem new_bad {w hh : Int} (hs : sized w hh = false) : Ret tab 33 [.int .i64 w, .int .i64 hh] h R = R (.tuple #[.pointer none, .int .i64 2]) h := by
  rw [enter33, B33]
  simp [sized_ci, hs, fin33]
end
section
variable {h : Heap} {R : Value → Heap → Prop}
theorem validOrient_r {o : Int} : Ret tab 34 [.int .i64 o] h R = R (.bool (decide (0 ≤ o ∧ o ≤ 3))) h := by
  rw [enter34, B34]
  by_cases h0 : 0 ≤ o
  · by_cases h3 : o ≤ 3
    · simp [k_guard, h0, h3, fin34]
    · simp [k_guard, h0, h3, fin34]
  · simp [k_guard, h0, fin34]
theorem floorDiv3_r {n : Nat} (hn : n < 100000) : Ret tab 100 [.int .i64 n, .int .i64 3] h R = R (.int .i64 (n / 3 : Nat)) h := by
  have e2 : (n : Int).tdiv 3 = ((n / 3 : Nat) : Int) := rfl
  have e3 : (n : Int).tmod 3 = ((n % 3 : Nat) : Int) := rfl
  have e4 : IntKind.i64.wrap ((n / 3 : Nat) : Int) = ((n / 3 : Nat) : Int) := wrapN (by omega)
  have e5 : ¬ (((n % 3 : Nat) : Int) < 0) := by omega
  rw [enter100, B100]
  simp [-Int.natCast_ediv, -Int.natCast_emod, e2, e3, e4, e5, fin100]
theorem pass_r {n : Nat} (hn : n < 100000) : Ret tab 38 [.int .i64 n] h R = R (.tuple #[.int .i64 (planeOf n), .int .i64 (kindOf n)]) h := by
  have h1 : ¬ ((n : Int) < 0) := by omega
  rw [enter38, B38]
  by_cases h0 : n = 0
  · subst h0; simp [fin38, planeOf, kindOf]
  · have hn0 : ((n : Int) == 0) = false := by simp [h0]
    have e1 : IntKind.i64.wrap ((n : Int) - 1) = ((n - 1 : Nat) : Int) := by rw [wrapI (by omega) (by omega)]; omega
    have e3 : ((n - 1 : Nat) : Int).tmod 3 = (((n - 1) % 3 : Nat) : Int) := rfl
    have hf := fun R => floorDiv3_r (h := frz h) (R := R) (n := n - 1) (by omega)
    have e5 : IntKind.i64.wrap (1 + (((n - 1) / 3 : Nat) : Int)) = (((n - 1) / 3 + 1 : Nat) : Int) := by rw [wrapI (by omega) (by omega)]; omega
    have hp : planeOf n = (n - 1) / 3 + 1 := by unfold planeOf; rw [if_neg h0]
    have hk : kindOf n = (n - 1) % 3 := by unfold kindOf; rw [if_neg h0]
    rw [hp, hk]
    generalize hm : n - 1 = m at *
    generalize hd : m / 3 = d at *
    generalize hr : m % 3 = r at *
    simp [-Int.natCast_add, h1, hn0, e1, e3, hf, e5, fin38]
theorem raw_r {n : Nat} (hn : n < 100000) (m : MD) : Ret tab 81 [.int .i64 n, m.val] h R = R (.bool (rawOf m n)) h := by
  have hK : ∀ y : Blk, blk? (frz h ++ [some y]) h.length = some y := fun y => by
    have := blk?_push_eq (h := frz h) (x := some y)
    rwa [len_frz] at this
  have hp := fun h R => pass_r (h := h) (R := R) hn
  have hk : kindOf n = 0 ∨ kindOf n = 1 ∨ kindOf n = 2 := by unfold kindOf; split <;> omega
  rw [enter81, B81]
  obtain ⟨b1, b2, b3, b4, b5⟩ := m
  by_cases h4 : 4 ≤ planeOf n
  · have h4' : (4 : Int) ≤ (planeOf n : Int) := by omega
    rcases hk with hk | hk | hk <;> cases b1 <;> simp [k_guard, k_guardU, MD.val, hp, hk, hK, h4, h4', fin81, rawOf]
  · have h4' : ¬ (4 : Int) ≤ (planeOf n : Int) := by omega
    rcases hk with hk | hk | hk <;> cases b1 <;> simp [k_guard, k_guardU, MD.val, hp, hk, hK, h4, h4', fin81, rawOf]
end
/-- A computation that asks for bits. -/
inductive Tr (α : Type) where
  | ret (a : α)
  | ask (c : Int) (k : Bool → Tr α)
def Tr.bind {α β : Type} : Tr α → (α → Tr β) → Tr β
  | .ret a, f => f a
  | .ask c k, f => .ask c fun b => (k b).bind f
def Tr.run {α S : Type} (A : S → Int → Bool × S) : Tr α → S → α × S
  | .ret a, s => (a, s)
  | .ask c k, s => (k (A s c).1).run A (A s c).2
theorem Tr.run_ret {α S : Type} (A : S → Int → Bool × S) (a : α) (s : S) : (Tr.ret a).run A s = (a, s) := rfl
theorem Tr.run_ask {α S : Type} (A : S → Int → Bool × S) (c : Int) (k : Bool → Tr α) (s : S) : (Tr.ask c k).run A s = (k (A s c).1).run A (A s c).2 := rfl
theorem Tr.run_bind {α β S : Type} (A : S → Int → Bool × S) (f : α → Tr β) : ∀ (t : Tr α) (s : S), (t.bind f).run A s = (f (t.run A s).1).run A (t.run A s).2
  | .ret a, s => rfl
  | .ask c k, s => by rw [Tr.bind, Tr.run_ask, Tr.run_ask]; exact Tr.run_bind A f (k (A s c).1) (A s c).2
/-- All ends meet Q, after n questions at most. -/
def Tr.Lv {α : Type} (Q : α → Prop) : Tr α → Nat → Prop
  | .ret a, _ => Q a
  | .ask _ _, 0 => False
  | .ask _ k, n + 1 => ∀ b, (k b).Lv Q n
theorem Tr.Lv.mono {α : Type} {Q Q' : α → Prop} (hq : ∀ a, Q a → Q' a) : ∀ {t : Tr α} {n m : Nat}, t.Lv Q n → n ≤ m → t.Lv Q' m
  | .ret a, n, m, h, _ => by unfold Tr.Lv at h ⊢; exact hq a h
  | .ask c k, 0, m, h, _ => by simp [Tr.Lv] at h
  | .ask c k, n + 1, 0, h, hm => by omega
  | .ask c k, n + 1, m + 1, h, hm => by
    unfold Tr.Lv at h ⊢
    exact fun b => Tr.Lv.mono hq (h b) (by omega)
theorem Tr.Lv.bind {α β : Type} {Q : α → Prop} {Q' : β → Prop} {f : α → Tr β} {m : Nat} (hf : ∀ a, Q a → (f a).Lv Q' m) : ∀ {t : Tr α} {n : Nat}, t.Lv Q n → (t.bind f).Lv Q' (n + m)
  | .ret a, n, h => by
    unfold Tr.Lv at h
    exact (hf a h).mono (fun _ h => h) (by omega)
  | .ask c k, 0, h => by simp [Tr.Lv] at h
  | .ask c k, n + 1, h => by
    unfold Tr.Lv at h
    rw [Tr.bind, show n + 1 + m = (n + m) + 1 by omega, Tr.Lv]
    exact fun b => Tr.Lv.bind hf (h b)
theorem Tr.Lv.out {α S : Type} {Q : α → Prop} {A : S → Int → Bool × S} {size : S → Nat} (ha : ∀ s c, size (A s c).2 ≤ size s + 1) : ∀ {t : Tr α} {n : Nat} (s : S), t.Lv Q n → Q (t.run A s).1 ∧ size (t.run A s).2 ≤ size s + n
  | .ret a, n, s, h => by
    unfold Tr.Lv at h
    exact ⟨h, by simp [Tr.run_ret]⟩
  | .ask c k, 0, s, h => by simp [Tr.Lv] at h
  | .ask c k, n + 1, s, h => by
    unfold Tr.Lv at h
    have := Tr.Lv.out ha (A s c).2 (h (A s c).1)
    have h2 := ha s c
    rw [Tr.run_ask]
    exact ⟨this.1, by omega⟩

def PP.cx (P : PP) (c : Int) : Int := if P.rw = true then -1 else c
def putV (v : Int) (c : Cell) : Cell := { c with v := v }
def pw (s : Nat) : Int := ((2 ^ s : Nat) : Int)
def dflip (P : PP) (b : BS) (x y : Int) : Bool := !P.rw && signFlip (sgH b x y) (sgV b x y P.cz) == 1
def dval (P : PP) (b : BS) (x y : Int) (bit : Bool) : Int := if (bit != dflip P b x y) = true then -pw P.s else pw P.s
def dset (P : PP) (b : BS) (x y : Int) (bit : Bool) : BS := (b.upd x y (putV (dval P b x y bit))).upd x y mark
def dsign (P : PP) (b : BS) (x y : Int) : Tr BS := .ask (P.cx (signCtx (sgH b x y) (sgV b x y P.cz))) fun bit => .ret (dset P b x y bit)
def dcode (P : PP) (b : BS) (x y : Int) : Tr BS := .ask (P.cx (ctxOf P b x y)) fun bit => if bit = true then dsign P b x y else .ret b
def dsig1 (P : PP) (b : BS) (x y : Int) : Tr BS :=
  if (b.get x y).s = false ∧ near b x y P.cz = true then (dcode P b x y).bind fun b => .ret (b.upd x y (touch true)) else .ret b
def growV (s : Nat) (v : Int) : Int := v + if v < 0 then -pw s else pw s
def grow (s : Nat) (b : BS) (x y : Int) : BS :=
  if -1152921504606846976 < growV s (b.get x y).v ∧ growV s (b.get x y).v < 1152921504606846976 then b.upd x y (putV (growV s (b.get x y).v)) else b
def growB (s : Nat) (b : BS) (x y : Int) (bit : Bool) : BS := if bit = true then grow s b x y else b
def dref1 (P : PP) (b : BS) (x y : Int) : Tr BS :=
  if (b.get x y).s = false ∨ (b.get x y).t = true then .ret b
  else .ask (P.cx (refCtx (!(b.get x y).r) (near b x y P.cz))) fun bit => .ret (((growB P.s b x y bit).upd x y refine').upd x y (touch true))
def dcln1 (P : PP) (b : BS) (x y : Int) : Tr BS := if (b.get x y).s = false ∧ (b.get x y).t = false then dcode P b x y else .ret b
def drows (P : PP) (b : BS) (x y : Int) : Nat → Tr BS
  | 0 => .ret b
  | n + 1 => (dcln1 P b x y).bind fun b => drows P b x (y + 1) n
def two2 (a b : Bool) : Nat := 2 * a.toNat + b.toNat
/-- The run length of a column: the block, the row behind it. -/
def drun (P : PP) (b : BS) (x top : Int) : Tr (BS × Int) :=
  .ask (P.cx 17) fun r => if r = true then .ask (P.cx 18) fun k1 => .ask (P.cx 18) fun k0 => (dsign P b x (top + two2 k1 k0)).bind fun b => .ret (b, top + two2 k1 k0 + 1) else .ret (b, top + 4)
def dcol (P : PP) (b : BS) (x top : Int) : Tr BS :=
  if quiet b x top P.cz = true then (drun P b x top).bind fun r => drows P r.1 x r.2 (min (top + 4) r.1.h - r.2).toNat
  else drows P b x top (min (top + 4) b.h - top).toNat
def dcols (P : PP) (b : BS) (x top : Int) : Nat → Tr BS
  | 0 => .ret b
  | n + 1 => (dcol P b x top).bind fun b => dcols P b (x + 1) top n
def dstripes (P : PP) (b : BS) (top : Int) : Nat → Tr BS
  | 0 => .ret b
  | n + 1 => (dcols P b 0 top b.w).bind fun b => dstripes P b (top + 4) n
def dsigs (P : PP) (b : BS) : List (Int × Int) → Tr BS
  | [] => .ret b
  | p :: l => (dsig1 P b p.1 p.2).bind fun b => dsigs P b l
def drefs (P : PP) (b : BS) : List (Int × Int) → Tr BS
  | [] => .ret b
  | p :: l => (dref1 P b p.1 p.2).bind fun b => drefs P b l
def BS.clr (b : BS) (l : List (Int × Int)) : BS := l.foldl (fun b p => b.upd p.1 p.2 (touch false)) b
/-- The check symbols. -/
def dchk (P : PP) (r : Bool) : List Bool → Tr Bool
  | [] => .ret r
  | x :: l => .ask (P.cx 18) fun bit => dchk P (r && bit == x) l
def dcheck (P : PP) (on : Bool) : Tr Bool := if on = true then dchk P true [true, false, true, false] else .ret true
def dclean (P : PP) (b : BS) (on : Bool) : Tr (BS × Bool) :=
  (dstripes P b 0 (stripesOf b.h)).bind fun b => (dcheck P on).bind fun r => .ret (b.clr (scan b.w b.h), r)

/-- What a part of a pass leaves of a block. -/
structure BS.Le (b b' : BS) : Prop where
  w : b'.w = b.w
  h : b'.h = b.h
  good : b'.Good
theorem BS.Le.refl {b : BS} (hg : b.Good) : b.Le b := ⟨rfl, rfl, hg⟩
theorem BS.Le.trans {a b c : BS} (h : a.Le b) (k : b.Le c) : a.Le c := ⟨k.w.trans h.w, k.h.trans h.h, k.good⟩
theorem BS.Le.inb {b b' : BS} (h : b.Le b') {x y : Int} (hi : b.inb x y) : b'.inb x y := by
  obtain ⟨a, b, c, d⟩ := hi
  exact ⟨a, by rw [h.w]; exact b, c, by rw [h.h]; exact d⟩
theorem BS.Le.all {b b' : BS} {l : List (Int × Int)} (h : b.Le b') (k : AllIn b l) : AllIn b' l := fun p hp => h.inb (k p hp)
theorem pw_pos (s : Nat) : 0 < pw s := by unfold pw; have := Nat.two_pow_pos s; omega
theorem pw_le {s : Nat} (h : s ≤ 59) : pw s ≤ 576460752303423488 := by
  unfold pw
  have := Nat.pow_le_pow_right (n := 2) (by omega) h
  omega
theorem good_putV {b : BS} (hg : b.Good) {x y : Int} (hi : b.inb x y) {v : Int} (hv : -1152921504606846976 < v ∧ v < 1152921504606846976) : b.Le (b.upd x y (putV v)) := by
  refine ⟨rfl, rfl, hg.ok.upd x y _, fun x' y' => ?_⟩
  rw [BS.get_upd hg.ok hi]
  split
  · exact hv
  · exact hg.rng x' y'
theorem good_map {b : BS} (hg : b.Good) {x y : Int} (hi : b.inb x y) {f : Cell → Cell} (hf : keepsV f) : b.Le (b.upd x y f) := ⟨rfl, rfl, hg.upd hi hf⟩
theorem dval_rng {P : PP} (hp : P.Ok) (b : BS) (x y : Int) (bit : Bool) : -1152921504606846976 < dval P b x y bit ∧ dval P b x y bit < 1152921504606846976 := by
  have h1 := pw_pos P.s
  have h2 := pw_le hp.s1
  unfold dval; split <;> omega
theorem le_dset {P : PP} (hp : P.Ok) {b : BS} (hg : b.Good) {x y : Int} (hi : b.inb x y) (bit : Bool) : b.Le (dset P b x y bit) := by
  have h1 := good_putV hg hi (dval_rng hp b x y bit)
  exact h1.trans (good_map h1.good (h1.inb hi) kv_mark)
theorem le_growB {s : Nat} {b : BS} (hg : b.Good) {x y : Int} (hi : b.inb x y) (bit : Bool) : b.Le (growB s b x y bit) := by
  unfold growB grow
  split
  · split
    · rename_i h; exact good_putV hg hi h
    · exact BS.Le.refl hg
  · exact BS.Le.refl hg

section
variable {P : PP} (hp : P.Ok)
include hp
theorem lv_dsign {b : BS} (hg : b.Good) {x y : Int} (hi : b.inb x y) : (dsign P b x y).Lv b.Le 1 := fun bit => le_dset hp hg hi bit
theorem lv_dcode {b : BS} (hg : b.Good) {x y : Int} (hi : b.inb x y) : (dcode P b x y).Lv b.Le 2 := fun bit => by
  show Tr.Lv b.Le (if bit = true then dsign P b x y else .ret b) 1
  split
  · exact lv_dsign hp hg hi
  · exact BS.Le.refl hg
theorem lv_dsig1 {b : BS} (hg : b.Good) {x y : Int} (hi : b.inb x y) : (dsig1 P b x y).Lv b.Le 2 := by
  unfold dsig1
  split
  · exact Tr.Lv.bind (m := 0) (fun a ha => ha.trans (good_map ha.good (ha.inb hi) (kv_touch true))) (lv_dcode hp hg hi)
  · exact BS.Le.refl hg
omit hp in
theorem lv_dref1 {b : BS} (hg : b.Good) {x y : Int} (hi : b.inb x y) : (dref1 P b x y).Lv b.Le 2 := by
  unfold dref1
  split
  · exact BS.Le.refl hg
  · intro bit
    have h1 := le_growB (s := P.s) hg hi bit
    have h2 := h1.trans (good_map h1.good (h1.inb hi) kv_refine)
    exact h2.trans (good_map h2.good (h2.inb hi) (kv_touch true))
theorem lv_dcln1 {b : BS} (hg : b.Good) {x y : Int} (hi : b.inb x y) : (dcln1 P b x y).Lv b.Le 2 := by
  unfold dcln1
  split
  · exact lv_dcode hp hg hi
  · exact BS.Le.refl hg
theorem lv_drows {x : Int} : ∀ {n : Nat} {b : BS} {y : Int}, b.Good → 0 ≤ x → x < b.w → 0 ≤ y → y + n ≤ b.h → (drows P b x y n).Lv b.Le (2 * n)
  | 0, b, y, hg, _, _, _, _ => BS.Le.refl hg
  | n + 1, b, y, hg, h1, h2, h3, h4 => by
    rw [drows, show 2 * (n + 1) = 2 + 2 * n by omega]
    refine Tr.Lv.bind (fun a ha => ?_) (lv_dcln1 hp hg (x := x) (y := y) ⟨h1, h2, h3, by omega⟩)
    exact (lv_drows (n := n) (y := y + 1) ha.good h1 (by rw [ha.w]; exact h2) (by omega) (by rw [ha.h]; omega)).mono (fun _ h => ha.trans h) (by omega)
omit hp in
theorem two2_le (a b : Bool) : two2 a b ≤ 3 := by cases a <;> cases b <;> decide
/-- What the run length of a column leaves. -/
def RunLe (b : BS) (top : Int) (r : BS × Int) : Prop := b.Le r.1 ∧ top < r.2 ∧ r.2 ≤ top + 4
theorem lv_drun {b : BS} (hg : b.Good) {x top : Int} (hi : b.inb x top) (h4 : top + 4 ≤ b.h) : (drun P b x top).Lv (RunLe b top) 4 := by
  obtain ⟨a1, a2, a3, a4⟩ := hi
  intro r
  show Tr.Lv _ (if r = true then _ else _) 3
  split
  · intro k1 k0
    have := two2_le k1 k0
    have hi : b.inb x (top + two2 k1 k0) := ⟨a1, a2, by omega, by omega⟩
    refine Tr.Lv.bind (n := 1) (m := 0) (fun a ha => ?_) (lv_dsign hp hg hi)
    exact (⟨ha, by simp only; omega, by simp only; omega⟩ : RunLe b top (a, top + two2 k1 k0 + 1))
  · exact (⟨BS.Le.refl hg, by simp only; omega, by simp only; omega⟩ : RunLe b top (b, top + 4))
theorem lv_dcol {b : BS} (hg : b.Good) {x top : Int} (hi : b.inb x top) : (dcol P b x top).Lv b.Le 12 := by
  have hi' := hi
  obtain ⟨h1, h2, h3, h4⟩ := hi
  unfold dcol
  split
  · rename_i hq
    simp only [quiet, Bool.and_eq_true, decide_eq_true_eq] at hq
    refine Tr.Lv.bind (n := 4) (m := 8) (fun r hr => ?_) (lv_drun hp hg hi' hq.1)
    obtain ⟨r1, r2, r3⟩ := hr
    exact (lv_drows hp r1.good h1 (by rw [r1.w]; exact h2) (by omega) (by rw [r1.h]; omega)).mono (fun _ h => r1.trans h) (by omega)
  · exact (lv_drows hp hg h1 h2 h3 (by omega)).mono (fun _ h => h) (by omega)
theorem lv_dcols {top : Int} : ∀ {n : Nat} {b : BS} {x : Int}, b.Good → 0 ≤ x → x + n ≤ b.w → 0 ≤ top → top < b.h → (dcols P b x top n).Lv b.Le (12 * n)
  | 0, b, x, hg, _, _, _, _ => BS.Le.refl hg
  | n + 1, b, x, hg, h1, h2, h3, h4 => by
    rw [dcols, show 12 * (n + 1) = 12 + 12 * n by omega]
    refine Tr.Lv.bind (fun a ha => ?_) (lv_dcol hp hg (x := x) (top := top) ⟨h1, by omega, h3, h4⟩)
    exact (lv_dcols (n := n) (x := x + 1) ha.good (by omega) (by rw [ha.w]; omega) h3 (by rw [ha.h]; exact h4)).mono (fun _ h => ha.trans h) (by omega)
theorem lv_dstripes : ∀ {n : Nat} {b : BS} {top : Int}, b.Good → 0 ≤ top → top + 4 * n ≤ b.h + 3 → (dstripes P b top n).Lv b.Le (12 * b.w * n)
  | 0, b, top, hg, _, _ => BS.Le.refl hg
  | n + 1, b, top, hg, h1, h2 => by
    rw [dstripes, show 12 * b.w * (n + 1) = 12 * b.w + 12 * b.w * n by rw [Nat.mul_add]; omega]
    refine Tr.Lv.bind (fun a ha => ?_) (lv_dcols hp (n := b.w) hg (x := 0) (top := top) (by omega) (by omega) h1 (by omega))
    have := lv_dstripes (n := n) (top := top + 4) ha.good (by omega) (by rw [ha.h]; omega)
    rw [ha.w] at this
    exact this.mono (fun _ h => ha.trans h) (by omega)
theorem lv_dsigs : ∀ {l : List (Int × Int)} {b : BS}, b.Good → AllIn b l → (dsigs P b l).Lv b.Le (2 * l.length)
  | [], b, hg, _ => BS.Le.refl hg
  | p :: l, b, hg, ha => by
    rw [dsigs, List.length_cons, show 2 * (l.length + 1) = 2 + 2 * l.length by omega]
    refine Tr.Lv.bind (fun a hl => ?_) (lv_dsig1 hp hg (ha p (by simp)))
    exact (lv_dsigs hl.good (hl.all fun q hq => ha q (by simp [hq]))).mono (fun _ h => hl.trans h) (by omega)
omit hp in
theorem lv_drefs : ∀ {l : List (Int × Int)} {b : BS}, b.Good → AllIn b l → (drefs P b l).Lv b.Le (2 * l.length)
  | [], b, hg, _ => BS.Le.refl hg
  | p :: l, b, hg, ha => by
    rw [drefs, List.length_cons, show 2 * (l.length + 1) = 2 + 2 * l.length by omega]
    refine Tr.Lv.bind (fun a hl => ?_) (lv_dref1 hg (ha p (by simp)))
    exact (lv_drefs hl.good (hl.all fun q hq => ha q (by simp [hq]))).mono (fun _ h => hl.trans h) (by omega)
omit hp in
theorem lv_dchk : ∀ {l : List Bool} {r : Bool}, (dchk P r l).Lv (fun _ => True) l.length
  | [], r => trivial
  | x :: l, r => fun bit => lv_dchk
omit hp in
theorem lv_dcheck (on : Bool) : (dcheck P on).Lv (fun _ => True) 4 := by
  unfold dcheck
  split
  · exact lv_dchk
  · exact trivial
end
theorem le_clr : ∀ {l : List (Int × Int)} {b : BS}, b.Good → AllIn b l → b.Le (b.clr l)
  | [], b, hg, _ => BS.Le.refl hg
  | p :: l, b, hg, ha => by
    have h1 := good_map hg (ha p (by simp)) (kv_touch false)
    exact h1.trans (le_clr (l := l) h1.good (h1.all fun q hq => ha q (by simp [hq])))
theorem lv_dclean {P : PP} (hp : P.Ok) {b : BS} (hg : b.Good) (on : Bool) : (dclean P b on).Lv (fun r => b.Le r.1) 20000 := by
  unfold dclean
  have hw2 := hg.ok.w2
  have hh2 := hg.ok.h2
  have hm : 12 * b.w * stripesOf b.h ≤ 12 * 64 * 16 := Nat.mul_le_mul (by omega) (by unfold stripesOf; omega)
  refine (Tr.Lv.bind (m := 4) (fun a ha => ?_) (lv_dstripes hp hg (top := 0) (by omega) (by unfold stripesOf; omega))).mono (fun _ h => h) (by omega)
  refine Tr.Lv.bind (m := 0) (fun r _ => ?_) (lv_dcheck on)
  exact ha.trans (le_clr ha.good (scanIn a))

/-- A computation that is answered by symbols: its result, and the symbols that are left. -/
def Tr.play {α : Type} : Tr α → List (Int × Int) → Option (α × List (Int × Int))
  | .ret a, l => some (a, l)
  | .ask _ _, [] => none
  | .ask c k, p :: l => if p.1 = c ∧ (p.2 = 0 ∨ p.2 = 1) then (k (p.2 == 1)).play l else none
theorem Tr.play_bind {α β : Type} (f : α → Tr β) : ∀ (t : Tr α) (l : List (Int × Int)), (t.bind f).play l = match t.play l with | some (a, l') => (f a).play l' | none => none
  | .ret a, l => rfl
  | .ask c k, [] => rfl
  | .ask c k, p :: l => by
    rw [Tr.bind, Tr.play, Tr.play]
    split
    · exact Tr.play_bind f (k (p.2 == 1)) l
    · rfl
theorem Tr.bind_assoc {α β γ : Type} (f : α → Tr β) (g : β → Tr γ) : ∀ t : Tr α, (t.bind f).bind g = t.bind fun a => (f a).bind g
  | .ret a => rfl
  | .ask c k => by
    simp only [Tr.bind]
    congr 1
    funext b
    exact Tr.bind_assoc f g (k b)
theorem Tr.bind_congr {α β : Type} {Q : α → Prop} {f g : α → Tr β} (hf : ∀ a, Q a → f a = g a) : ∀ {t : Tr α} {n : Nat}, t.Lv Q n → t.bind f = t.bind g
  | .ret a, n, h => by unfold Tr.Lv at h; exact hf a h
  | .ask c k, 0, h => by simp [Tr.Lv] at h
  | .ask c k, n + 1, h => by
    unfold Tr.Lv at h
    simp only [Tr.bind]
    congr 1
    funext b
    exact Tr.bind_congr hf (h b)
theorem Tr.ret_bind {α β : Type} (a : α) (f : α → Tr β) : (Tr.ret a).bind f = f a := rfl

def quietQ (b : BS) (x y : Int) (k : Bool) : Bool := decide (y % 4 = 0) && quiet b x y k
theorem quietQ_top {b : BS} {x y : Int} {k : Bool} (h : quietQ b x y k = true) : y + 4 ≤ b.h := by
  simp only [quietQ, quiet, Bool.and_eq_true, decide_eq_true_eq] at h; exact h.2.1
/-- A step of the reference's cleanup pass: the block, and how many points are to be passed by. -/
def dcstep (P : PP) (τ : BS × Nat) (p : Int × Int) : Tr (BS × Nat) :=
  match τ.2 with
  | s + 1 => .ret (τ.1, s)
  | 0 => if quietQ τ.1 p.1 p.2 P.cz = true then (drun P τ.1 p.1 p.2).bind fun r => .ret (r.1, (r.2 - p.2 - 1).toNat) else (dcln1 P τ.1 p.1 p.2).bind fun b => .ret (b, 0)
def dcsteps (P : PP) (τ : BS × Nat) : List (Int × Int) → Tr (BS × Nat)
  | [] => .ret τ
  | p :: l => (dcstep P τ p).bind fun τ => dcsteps P τ l
theorem dcsteps_append (P : PP) : ∀ (a b : List (Int × Int)) (τ : BS × Nat), dcsteps P τ (a ++ b) = (dcsteps P τ a).bind fun τ => dcsteps P τ b
  | [], b, τ => rfl
  | p :: a, b, τ => by
    rw [List.cons_append, dcsteps, dcsteps, Tr.bind_assoc]
    congr 1
    funext τ
    exact dcsteps_append P a b τ
theorem dcsteps_skip (P : PP) (b : BS) (x : Int) (n : Nat) : ∀ (k : Nat) (y : Int), dcsteps P (b, k) (colPts x y (k + n)) = dcsteps P (b, 0) (colPts x (y + k) n)
  | 0, y => by simp
  | k + 1, y => by
    rw [show k + 1 + n = (k + n) + 1 by omega, colPts]
    show dcsteps P (b, k) (colPts x (y + 1) (k + n)) = _
    rw [dcsteps_skip P b x n k (y + 1)]
    congr 2; omega
theorem dcsteps_rows (P : PP) (x : Int) : ∀ (n : Nat) (y : Int) (b : BS), (∀ j : Nat, j < n → (y + j) % 4 ≠ 0) → dcsteps P (b, 0) (colPts x y n) = (drows P b x y n).bind fun b => .ret (b, 0)
  | 0, y, b, _ => rfl
  | n + 1, y, b, h => by
    have h0 : y % 4 ≠ 0 := by have := h 0 (by omega); simpa using this
    have hq : quietQ b x y P.cz = false := by simp [quietQ, h0]
    have : dcstep P (b, 0) (x, y) = (dcln1 P b x y).bind fun b => .ret (b, 0) := by simp [dcstep, hq]
    rw [colPts, dcsteps, this, Tr.bind_assoc, drows, Tr.bind_assoc]
    congr 1
    funext b
    exact dcsteps_rows P x n (y + 1) _ (fun j hj => by have := h (j + 1) (by omega); rw [show y + 1 + (j : Int) = y + ((j + 1 : Nat) : Int) by omega]; exact this)
theorem dcsteps_col {P : PP} (hp : P.Ok) {b : BS} (hg : b.Good) {x top : Int} (hi : b.inb x top) (h4 : top % 4 = 0) :
    dcsteps P (b, 0) (colPts x top (min (top + 4) (b.h : Int) - top).toNat) = (dcol P b x top).bind fun b => .ret (b, 0) := by
  have hi0 := hi
  obtain ⟨i1, i2, i3, i4⟩ := hi
  cases hq : quiet b x top P.cz
  · have hcol : dcol P b x top = drows P b x top (min (top + 4) b.h - top).toNat := by unfold dcol; rw [if_neg (by simp [hq])]
    rw [hcol]
    obtain ⟨n, hn⟩ : ∃ n, (min (top + 4) (b.h : Int) - top).toNat = n + 1 := ⟨(min (top + 4) (b.h : Int) - top).toNat - 1, by omega⟩
    rw [hn, colPts, dcsteps, drows]
    have : dcstep P (b, 0) (x, top) = (dcln1 P b x top).bind fun b => .ret (b, 0) := by simp [dcstep, quietQ, hq]
    rw [this, Tr.bind_assoc, Tr.bind_assoc]
    congr 1
    funext b
    exact dcsteps_rows P x n (top + 1) _ (fun j hj => by omega)
  · have htop : top + 4 ≤ b.h := by
      simp only [quiet, Bool.and_eq_true, decide_eq_true_eq] at hq; exact hq.1
    have hcol : dcol P b x top = (drun P b x top).bind fun r => drows P r.1 x r.2 (min (top + 4) r.1.h - r.2).toNat := by unfold dcol; rw [if_pos hq]
    rw [hcol]
    rw [show (min (top + 4) (b.h : Int) - top).toNat = 3 + 1 by omega, colPts, dcsteps]
    have : dcstep P (b, 0) (x, top) = (drun P b x top).bind fun r => .ret (r.1, (r.2 - top - 1).toNat) := by simp [dcstep, quietQ, hq, h4]
    rw [this, Tr.bind_assoc, Tr.bind_assoc]
    refine Tr.bind_congr (fun r hr => ?_) (lv_drun hp hg hi0 htop)
    obtain ⟨τ, y⟩ := r
    obtain ⟨b1, b2, b3⟩ := hr
    simp only at b1 b2 b3 ⊢
    rw [Tr.ret_bind]
    have e3 : 3 = (y - top - 1).toNat + (top + 4 - y).toNat := by omega
    have := dcsteps_skip P τ x (top + 4 - y).toNat (y - top - 1).toNat (top + 1)
    rw [← e3] at this
    rw [this, show top + 1 + ((y - top - 1).toNat : Int) = y by omega, show (min (top + 4) (τ.h : Int) - y).toNat = (top + 4 - y).toNat by rw [b1.h]; omega]
    exact dcsteps_rows P x _ y τ (fun j hj => by omega)
theorem dcsteps_cols {P : PP} (hp : P.Ok) {w h : Nat} : ∀ (n : Nat) (b : BS) (x top : Int), b.Good → b.w = w → b.h = h → 0 ≤ x → x + n ≤ w → 0 ≤ top → top < h → top % 4 = 0 → dcsteps P (b, 0) (stripePts h x top n) = (dcols P b x top n).bind fun b => .ret (b, 0)
  | 0, b, x, top, _, _, _, _, _, _, _, _ => rfl
  | n + 1, b, x, top, hg, hw, hh, h1, h2, h3, h4, h5 => by
    have hi : b.inb x top := ⟨h1, by omega, h3, by omega⟩
    have hc := dcsteps_col hp hg hi h5
    rw [stripePts, dcsteps_append, ← hh, hc, hh, dcols, Tr.bind_assoc, Tr.bind_assoc]
    refine Tr.bind_congr (fun a ha => ?_) (lv_dcol hp hg hi)
    rw [Tr.ret_bind]
    exact dcsteps_cols hp n _ (x + 1) top ha.good (ha.w.trans hw) (ha.h.trans hh) (by omega) (by omega) h3 h4 h5
theorem dcsteps_scan {P : PP} (hp : P.Ok) {w h : Nat} : ∀ (n : Nat) (b : BS) (top : Int), b.Good → b.w = w → b.h = h → 0 ≤ top → top + 4 * n ≤ h + 3 → top % 4 = 0 → dcsteps P (b, 0) (scanPts w h top n) = (dstripes P b top n).bind fun b => .ret (b, 0)
  | 0, b, top, _, _, _, _, _, _ => rfl
  | n + 1, b, top, hg, hw, hh, h1, h2, h3 => by
    have hc := dcsteps_cols hp (w := w) (h := h) w b 0 top hg hw hh (by omega) (by omega) h1 (by omega) h3
    rw [scanPts, dcsteps_append, hc, dstripes, hw, Tr.bind_assoc, Tr.bind_assoc]
    refine Tr.bind_congr (fun a ha => ?_) (lv_dcols hp (n := w) hg (x := 0) (top := top) (by omega) (by omega) h1 (by omega))
    rw [Tr.ret_bind]
    exact dcsteps_scan hp n _ (top + 4) ha.good (ha.w.trans hw) (ha.h.trans hh) (by omega) (by omega) (by omega)
theorem dcsteps_all {P : PP} (hp : P.Ok) {b : BS} (hg : b.Good) : dcsteps P (b, 0) (scan b.w b.h) = (dstripes P b 0 (stripesOf b.h)).bind fun b => .ret (b, 0) :=
  dcsteps_scan hp _ b 0 hg rfl rfl (by omega) (by unfold stripesOf; omega) (by omega)
theorem lv_dcstep {P : PP} (hp : P.Ok) {τ : BS × Nat} (hg : τ.1.Good) {p : Int × Int} (hi : τ.1.inb p.1 p.2) : (dcstep P τ p).Lv (fun υ => τ.1.Le υ.1 ∧ υ.2 ≤ max τ.2 3) 4 := by
  obtain ⟨b, s⟩ := τ
  cases s with
  | succ s => exact (⟨BS.Le.refl hg, Nat.le_trans (Nat.le_succ s) (Nat.le_max_left _ _)⟩ : b.Le b ∧ s ≤ max (s + 1) 3)
  | zero =>
    simp only [dcstep]
    split
    · rename_i hq
      refine Tr.Lv.bind (n := 4) (m := 0) (fun r hr => ?_) (lv_drun hp hg hi (quietQ_top hq))
      obtain ⟨a, b', c⟩ := hr
      exact (⟨a, Nat.le_trans (by omega) (Nat.le_max_right _ _)⟩ : b.Le r.1 ∧ (r.2 - p.2 - 1).toNat ≤ max 0 3)
    · refine Tr.Lv.bind (n := 2) (m := 2) (fun a ha => ?_) (lv_dcln1 hp hg hi)
      exact (⟨ha, by simp⟩ : b.Le a ∧ 0 ≤ max 0 3)
open Go.Sim
open Go.RowKit
/-- What a pass of the decoder does. -/
def dRun (m : MD) (b : BS) (n planes o : Nat) : Tr (BS × Bool) :=
  if kindOf n = 0 then (dsigs (runPP m n planes o) b (scan b.w b.h)).bind fun b => .ret (b, true)
  else if kindOf n = 1 then (drefs (runPP m n planes o) b (scan b.w b.h)).bind fun b => .ret (b, true)
  else dclean (runPP m n planes o) b m.sy
theorem runPP_ok {m : MD} {n planes o : Nat} (hpl : planes ≤ 60) (h1 : 1 ≤ planes) (ho : o ≤ 3) : (runPP m n planes o).Ok := ⟨by simp only [runPP]; omega, ho⟩
theorem lv_dRun {m : MD} {b : BS} (hg : b.Good) {n planes o : Nat} (hp : (runPP m n planes o).Ok) : (dRun m b n planes o).Lv (fun r => b.Le r.1) 20000 := by
  have hl : (scan b.w b.h).length ≤ 4096 := by
    have hw := hg.ok.w2
    have hh := hg.ok.h2
    have := scanPts_len b.w b.h (stripesOf b.h) 0
    have h2 : 4 * b.w * stripesOf b.h ≤ 4 * 64 * 16 := Nat.mul_le_mul (by omega) (by unfold stripesOf; omega)
    unfold scan; omega
  unfold dRun
  split
  · exact (Tr.Lv.bind (m := 0) (Q' := fun r : BS × Bool => b.Le r.1) (fun a ha => ha) (lv_dsigs hp hg (scanIn b))).mono (fun _ h => h) (by omega)
  · split
    · exact (Tr.Lv.bind (m := 0) (Q' := fun r : BS × Bool => b.Le r.1) (fun a ha => ha) (lv_drefs hg (scanIn b))).mono (fun _ h => h) (by omega)
    · exact lv_dclean hp hg m.sy

/-! Sources that give out symbols. -/
/-- The symbols that are left, and whether something was wrong. -/
def askV (s : List (Int × Int) × Bool) (c : Int) : Bool × (List (Int × Int) × Bool) :=
  match s with
  | (l, true) => (false, (l, true))
  | ([], false) => (false, ([], true))
  | (p :: l, false) => if p.1 = c ∧ (p.2 = 0 ∨ p.2 = 1) then (p.2 == 1, (l, false)) else (false, (p :: l, true))
theorem askV_bad {α : Type} : ∀ (t : Tr α) (l : List (Int × Int)), (t.run askV (l, true)).2 = (l, true)
  | .ret a, l => rfl
  | .ask c k, l => askV_bad (k false) l
theorem askV_play {α : Type} : ∀ (t : Tr α) (l : List (Int × Int)), (∀ a l', t.play l = some (a, l') → t.run askV (l, false) = (a, (l', false))) ∧ (t.play l = none → (t.run askV (l, false)).2.2 = true)
  | .ret a, l => ⟨fun a' l' h => by simp only [Tr.play] at h; injection h with h; injection h with h1 h2; subst h1 h2; rfl, fun h => by simp [Tr.play] at h⟩
  | .ask c k, [] => ⟨fun a l' h => by simp [Tr.play] at h, fun _ => by
    show ((k false).run askV ([], true)).2.2 = true
    rw [askV_bad]⟩
  | .ask c k, p :: l => by
    rw [Tr.play, Tr.run_ask]
    by_cases hp : p.1 = c ∧ (p.2 = 0 ∨ p.2 = 1)
    · have e : askV (p :: l, false) c = (p.2 == 1, (l, false)) := by simp only [askV]; rw [if_pos hp]
      rw [if_pos hp, e]
      exact askV_play (k (p.2 == 1)) l
    · have e : askV (p :: l, false) c = (false, (p :: l, true)) := by simp only [askV]; rw [if_neg hp]
      rw [if_neg hp, e]
      refine ⟨fun a l' h => (by cases h), fun _ => ?_⟩
      show ((k false).run askV (p :: l, true)).2.2 = true
      rw [askV_bad]

/-- The bits that are given, 0 beyond them; what was asked for is noted. -/
def askB (bits : List Int) (s : List (Int × Int)) (c : Int) : Bool × List (Int × Int) := (bits.getD s.length 0 != 0, s ++ [(c, bits.getD s.length 0)])
/-- What was asked for is answered by the symbols. -/
def fits (ss : List (Int × Int)) (qs : List (Int × Int)) : Prop := ∀ i (h : i < qs.length), ∃ p, ss[i]? = some p ∧ p.1 = qs[i].1 ∧ (p.2 = 0 ∨ p.2 = 1)
instance (ss qs : List (Int × Int)) : Decidable (fits ss qs) := by
  unfold fits
  refine decidable_of_iff (∀ i : Fin qs.length, (match ss[i.1]? with | some p => decide (p.1 = qs[i.1].1 ∧ (p.2 = 0 ∨ p.2 = 1)) | none => false) = true) ⟨fun h i hi => ?_, fun h i => ?_⟩
  · have := h ⟨i, hi⟩
    simp only at this
    cases hs : ss[i]? with
    | none => rw [hs] at this; simp at this
    | some p => rw [hs] at this; exact ⟨p, rfl, by simpa using this⟩
  · obtain ⟨p, h1, h2⟩ := h i.1 i.2
    rw [h1]; simpa using h2
theorem askB_out {α : Type} (bits : List Int) : ∀ (t : Tr α) (s : List (Int × Int)), ∃ l, (t.run (askB bits) s).2 = s ++ l
  | .ret a, s => ⟨[], by simp [Tr.run_ret]⟩
  | .ask c k, s => by
    rw [Tr.run_ask]
    obtain ⟨l, h⟩ := askB_out bits (k (askB bits s c).1) (askB bits s c).2
    rw [h]
    exact ⟨(c, bits.getD s.length 0) :: l, by simp [askB]⟩
theorem askB_play {α : Type} (ss : List (Int × Int)) : ∀ (t : Tr α) (s : List (Int × Int)), s.length ≤ ss.length → fits ss s →
    (∀ a l', t.play (ss.drop s.length) = some (a, l') → ∃ s', t.run (askB (ss.map (·.2))) s = (a, s') ∧ fits ss s' ∧ s'.length ≤ ss.length ∧ l' = ss.drop s'.length) ∧
    (t.play (ss.drop s.length) = none → ¬ fits ss (t.run (askB (ss.map (·.2))) s).2)
  | .ret a, s, hl, hf => ⟨fun a' l' h => by simp only [Tr.play] at h; injection h with h; injection h with h1 h2; subst h1 h2; exact ⟨s, rfl, hf, hl, rfl⟩, fun h => by simp [Tr.play] at h⟩
  | .ask c k, s, hl, hf => by
    have key : ∀ b, (askB (ss.map (·.2)) s c) = (b != 0, s ++ [(c, b)]) → ¬ fits ss (s ++ [(c, b)]) → ¬ fits ss ((Tr.ask c k).run (askB (ss.map (·.2))) s).2 := by
      intro b e hn hf2
      rw [Tr.run_ask, e] at hf2
      obtain ⟨l, h⟩ := askB_out (ss.map (·.2)) (k (b != 0)) (s ++ [(c, b)])
      rw [h] at hf2
      refine hn fun i hi => ?_
      have := hf2 i (by simp only [List.length_append] at hi ⊢; omega)
      rwa [List.getElem_append_left hi] at this
    by_cases hlt : s.length < ss.length
    · rw [List.drop_eq_getElem_cons hlt, Tr.play]
      have e : askB (ss.map (·.2)) s c = (ss[s.length].2 != 0, s ++ [(c, ss[s.length].2)]) := by
        simp [askB, List.getD_eq_getElem?_getD, List.getElem?_map, List.getElem?_eq_getElem hlt]
      by_cases hp : ss[s.length].1 = c ∧ (ss[s.length].2 = 0 ∨ ss[s.length].2 = 1)
      · rw [if_pos hp, Tr.run_ask, e]
        have hb : (ss[s.length].2 != 0) = (ss[s.length].2 == 1) := by rcases hp.2 with h | h <;> rw [h] <;> rfl
        rw [hb]
        have hf2 : fits ss (s ++ [(c, ss[s.length].2)]) := by
          intro i hi
          by_cases h : i < s.length
          · rw [List.getElem_append_left h]; exact hf i h
          · simp at hi
            obtain rfl : i = s.length := by omega
            rw [List.getElem_append_right (Nat.le_refl _)]
            simp only [Nat.sub_self, List.getElem_cons_zero]
            exact ⟨_, List.getElem?_eq_getElem hlt, hp.1, hp.2⟩
        have := askB_play ss (k (ss[s.length].2 == 1)) (s ++ [(c, ss[s.length].2)]) (by simp; omega) hf2
        rw [List.length_append, List.length_singleton] at this
        exact this
      · rw [if_neg hp]
        refine ⟨fun a l' h => (by cases h), fun _ => key _ e ?_⟩
        intro hf2
        obtain ⟨p, h1, h2⟩ := hf2 s.length (by simp)
        rw [List.getElem?_eq_getElem hlt] at h1
        injection h1 with h1
        subst h1
        rw [List.getElem_append_right (Nat.le_refl _)] at h2
        simp only [Nat.sub_self, List.getElem_cons_zero] at h2
        exact hp h2
    · rw [List.drop_of_length_le (by omega), Tr.play]
      refine ⟨fun a l' h => (by cases h), fun _ => key 0 ?_ ?_⟩
      · simp [askB, List.getD_eq_getElem?_getD, List.getElem?_map, List.getElem?_eq_none (show ss.length ≤ s.length by omega)]
      · intro hf2
        obtain ⟨p, h1, _⟩ := hf2 s.length (by simp)
        rw [List.getElem?_eq_none (by omega)] at h1; cases h1

/-! All passes. -/
/-- The block behind the passes, and the error. -/
def vLoop (m : MD) (planes o : Nat) : Nat → BS → List (List (Int × Int)) → BS × Int
  | _, b, [] => (b, 0)
  | n, b, l :: ls =>
    match (dRun m b n planes o).play l with
    | none => (b, 8)
    | some (r, l') => if r.2 = false then (r.1, 16) else match l' with | [] => vLoop m planes o (n + 1) r.1 ls | _ :: _ => (r.1, 8)
def leftOf (planes : Int) (n : Nat) (t : Bool) : Int := if n = 0 then planes else planes - 1 - (planeOf (n - 1) : Int) + if (kindOf (n - 1) != 2 && !t) = true then 1 else 0
theorem leftOf_pos {planes : Int} {n : Nat} (hn : n ≠ 0) (t : Bool) : leftOf planes n t = planes - 1 - (planeOf (n - 1) : Int) + if (kindOf (n - 1) != 2 && !t) = true then 1 else 0 := by unfold leftOf; rw [if_neg hn]
def valErr (n : Nat) (planes w h o : Int) : Int := if ¬ sized w h ∨ planes < 0 ∨ 60 < planes then 2 else if max 0 (3 * planes - 2) < (n : Int) then 4 else if o < 0 ∨ 3 < o then 3 else 0
/-- What Values returns: the error, the values, the missing planes. -/
def valRes (ss : List (List (Int × Int))) (planes w h o : Int) (m : MD) : Int × List Int × List Int :=
  if valErr ss.length planes w h o ≠ 0 then (valErr ss.length planes w h o, [], [])
  else
    let r := vLoop m planes.toNat o.toNat 0 (newBS w.toNat h.toNat) ss
    if r.2 ≠ 0 then (r.2, [], []) else (0, r.1.cs.map (·.v), r.1.cs.map fun c => leftOf planes ss.length c.t)
end Go.Proofs.Ytjpjohchdfoeaaa
