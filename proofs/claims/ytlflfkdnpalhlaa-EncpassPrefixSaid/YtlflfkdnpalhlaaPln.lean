import Derived.Test.YtlflfkdnpalhlaaSha
import Derived.Test.YtlflfkdnpalhlaaPreP
/-! Planes of any number of values; the first passes of a list. -/
namespace Go.Proofs.Ytlflfkdnpalhlaa
open Go.Sim
open Go.RowKit
set_option linter.unusedVariables false
set_option linter.unusedSimpArgs false
section
variable {h : Heap} {R : Value → Heap → Prop}
theorem max_loop2 {k : List RItem} {s v0 v2 : Value} {xs : List Int} (hi : Ints h s xs)
    (hk : ∀ t1 t4 t5 t6 t7 t8 t9 t10 t11 t12 t13 t14 t15 t16 t17 t18 t19 t20 t21 t22 t23 t24 t25 : Value, Ok tab R43 k #[v0, t1, v2, .int .i64 (planesOf xs), t4, t5, t6, t7, t8, t9, t10, t11, t12, t13, t14, t15, t16, t17, t18, t19, t20, t21, t22, t23, t24, t25] h R) :
    ∀ (n i : Nat) (t1 t4 t5 t9 t10 t11 t12 t13 t14 t15 t16 t17 t18 t19 t20 t21 t22 t23 t24 t25 : Value), n = xs.length - i → i ≤ xs.length → xs.length < 9223372036854775808 →
      Ok tab R43 (.inLoop L43_1 :: .inBlock 0 :: k) #[v0, t1, v2, .int .i64 (planesOf (xs.take i)), t4, t5, s, .int .i64 xs.length, .int .i64 i, t9, t10, t11, t12, t13, t14, t15, t16, t17, t18, t19, t20, t21, t22, t23, t24, t25] h R := by
  intro n
  have h64 := planes_64 hi
  induction n with
  | zero =>
    intro i t1 t4 t5 t9 t10 t11 t12 t13 t14 t15 t16 t17 t18 t19 t20 t21 t22 t23 t24 t25 hn hi' hl
    have hlt : ¬ ((i : Int) < xs.length) := by omega
    rw [ok_round, l43_1, L43_1a, L43_1b, List.take_of_length_le (by omega)]
    simp [hlt]
    exact hk _ _ _ _ _ _ _ _ _ _ _ _ _ _ _ _ _ _ _ _ _ _ _
  | succ n ih =>
    intro i t1 t4 t5 t9 t10 t11 t12 t13 t14 t15 t16 t17 t18 t19 t20 t21 t22 t23 t24 t25 hn hi' hl
    have hlt : ((i : Int) < xs.length) := by omega
    have hil : i < xs.length := by omega
    have hw : IntKind.i64.wrap ((i : Int) + 1) = ((i + 1 : Nat) : Int) := wrapN (n := i + 1) (by omega)
    obtain ⟨id, off, b, hs, hbk, hc⟩ := hi.get hil
    obtain ⟨r1, r2⟩ := hi.rng xs[i] (List.getElem_mem hil)
    have hp : planesOf (xs.take (i + 1)) = max (planesOf (xs.take i)) (blen xs[i].natAbs) := by
      rw [List.take_succ_eq_append_getElem hil, planesOf, planesOf, List.foldl_append]; rfl
    have hp64 : planesOf (xs.take (i + 1)) ≤ 64 := by
      rw [planes_le] at h64 ⊢
      exact fun v hv => h64 v (List.mem_of_mem_take hv)
    have ih' := ih (i + 1)
    rw [ok_round, l43_1, L43_1a, L43_1b]
    generalize hq : ((i + 1 : Nat) : Int) = q at *
    simp [hlt, hs, hbk, hc]
    rw [← hs]
    refine in_loop r1 r2 (planesOf (xs.take (i + 1))) ?_ (planesOf (xs.take (i + 1)) - planesOf (xs.take i)) (planesOf (xs.take i)) _ _ _ _ _ _ _ _ _ _ _ _ _ _ _ _ _ _ _ (by omega) hp hp64
    intro t1 t4 t5 t9 t10 t11 t12 t13 t14 t15 t16 t17 t18 t19 t20 t21 t22 t23 t24 t25
    simp [hw]
    exact ih' _ _ _ _ _ _ _ _ _ _ _ _ _ _ _ _ _ _ _ _ (by omega) (by omega) hl

theorem planes_r2 {s : Value} {xs : List Int} (hi : Ints h s xs) (hl : xs.length < 9223372036854775808) : Ret tab 43 [s] h R = R (.int .i64 (planesOf xs)) h := by
  obtain ⟨a, cc, hs⟩ := hi.sl.shape
  have key : Ret tab 43 [s] h fun v h' => v = .int .i64 (planesOf xs) ∧ h' = h := by
    rw [enter43, B43]
    refine ⟨by simp [hi.sb], ?_⟩
    simp [hs]
    rw [← hs]
    refine max_loop2 hi.frz ?_ _ 0 _ _ _ _ _ _ _ _ _ _ _ _ _ _ _ _ _ _ _ _ rfl (by omega) hl
    intro t1 t4 t5 t6 t7 t8 t9 t10 t11 t12 t13 t14 t15 t16 t17 t18 t19 t20 t21 t22 t23 t24 t25
    simp [fin43]
  obtain ⟨v, h', e, rfl, rfl⟩ := ret_ex key
  exact e R


theorem Pss.take {h : Heap} {id off n c : Nat} {vs : List Value} {ls : List (List (Int × Nat))} (hp : Pss h (.slice (some ⟨id, off, none⟩) n c) vs ls) {j : Nat} (hj : j ≤ ls.length) : Pss h (.slice (some ⟨id, off, none⟩) j c) (vs.take j) (ls.take j) := by
  have hv := hp.len
  have hsb := hp.sb
  obtain ⟨hl, ⟨h1, _⟩ | ⟨id', off', h1, h2⟩⟩ := hp.sl
  · cases h1
  · simp only [Value.slice.injEq, Option.some.injEq, Addr.mk.injEq, and_true] at h1
    obtain ⟨⟨rfl, rfl⟩, rfl, rfl⟩ := h1
    have hjl : (vs.take j).length = j := by simp; omega
    refine ⟨⟨by simp, .inr ⟨id, off, by rw [hjl], ?_⟩⟩, by simpa using hsb, fun id' b hid hb => hp.bl id' b (by simpa [sid] using hid) hb, by simp; omega, fun i h1 h2 => ?_⟩
    · rw [hjl]
      rcases h2 with h2 | ⟨b, hb, hle, hc⟩
      · left; omega
      · right
        refine ⟨b, hb, by omega, ?_⟩
        rw [Nat.mul_one] at hc ⊢
        rw [← hc, List.take_take, Nat.min_eq_left (by omega)]
    · simp only [List.length_take] at h1 h2
      simp only [List.getElem_take]
      exact hp.each i (by omega) (by omega)
/-- A row of integers of one's own. -/
theorem ints_own {h : Heap} {s : Value} {xs : List Int} (ho : OwnS h 1 s xs.length (i64s xs)) (hr : ∀ v ∈ xs, -9223372036854775808 ≤ v ∧ v < 9223372036854775808) : Ints h s xs := by
  refine ⟨ho.sl, own_below ho (Nat.le_refl _), fun id b hid hb n => ?_, hr⟩
  rcases ho.2 with ⟨rfl, _⟩ | ⟨id', rfl, hb'⟩
  · simp [sid] at hid
  · simp [sid] at hid; subst hid
    rw [hb'] at hb; injection hb with hb; subst hb
    rw [belowL_iff]
    intro v hv
    simp only [i64s, List.mem_map] at hv
    obtain ⟨x, _, rfl⟩ := hv
    simp
theorem cutN_lt {k n : Nat} : cutN k n ≤ n := cutN_le k n
theorem cut_neg {k : Nat} (hk : k ≤ 62) {v : Int} (h1 : -1152921504606846976 < v) (h2 : v < 0) :
    IntKind.i64.wrap (-(shlI .i64 (shrI .i64 (-v) (k : Int)) (k : Int))) = cutv k v ∧ 0 ≤ IntKind.i64.wrap (-v) ∧ IntKind.i64.wrap (-v) = -v := by
  obtain ⟨n, hn⟩ := Int.eq_ofNat_of_zero_le (show 0 ≤ -v by omega)
  have hv : v.natAbs = n := by omega
  have hle := cutN_le k n
  have hw : IntKind.i64.wrap (-v) = -v := wrapI (by omega) (by omega)
  refine ⟨?_, by rw [hw]; omega, hw⟩
  rw [hn, shrN (by show k ≤ 64; omega)]
  unfold shlI
  rw [Int.toNat_natCast, Nat.min_eq_left (by show k ≤ 64; omega), show ((n / 2 ^ k : Nat) : Int) * 2 ^ k = ((cutN k n : Nat) : Int) by unfold cutN; simp]
  rw [show IntKind.i64.wrap ((cutN k n : Nat) : Int) = ((cutN k n : Nat) : Int) from wrapN (by omega)]
  rw [wrapI (by omega) (by omega)]
  unfold cutv
  rw [if_pos h2, hv]
theorem cut_pos {k : Nat} (hk : k ≤ 62) {v : Int} (h1 : 0 ≤ v) (h2 : v < 1152921504606846976) : shlI .i64 (shrI .i64 v (k : Int)) (k : Int) = cutv k v := by
  obtain ⟨n, hn⟩ := Int.eq_ofNat_of_zero_le h1
  have hv : v.natAbs = n := by omega
  have hle := cutN_le k n
  rw [hn, shrN (by show k ≤ 64; omega)]
  unfold shlI
  rw [Int.toNat_natCast, Nat.min_eq_left (by show k ≤ 64; omega), show ((n / 2 ^ k : Nat) : Int) * 2 ^ k = ((cutN k n : Nat) : Int) by unfold cutN; simp]
  rw [show IntKind.i64.wrap ((cutN k n : Nat) : Int) = ((cutN k n : Nat) : Int) from wrapN (by omega)]
  unfold cutv
  rw [if_neg (by omega), Int.natAbs_natCast]
end
end Go.Proofs.Ytlflfkdnpalhlaa
