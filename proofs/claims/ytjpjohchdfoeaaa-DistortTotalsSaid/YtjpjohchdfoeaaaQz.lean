/-
  Reconstruction and errors, plain: what the program and the reference both reckon.
  Quantization, followed: the program's functions and the reference's.
  Reconstruction and errors, followed.
  Reconstruction and errors of the reference, followed; errors of the program.
  The distortion of coefficients, followed.
  The weights of subbands, followed.
  The reference's quantization, followed; half the step, plain.
-/
import Derived.Test.YtjpjohchdfoeaaaSimZ
import Derived.Test.YtjpjohchdfoeaaaTab
namespace Go.Proofs.Ytjpjohchdfoeaaa
open Go Go.Sim
/-- A step and a dead zone that are valid. -/
def QOk (step dead : Int) : Prop := 1 ≤ step ∧ step ≤ 65536 ∧ 8 ≤ dead ∧ dead ≤ 32
instance (step dead : Int) : Decidable (QOk step dead) := by unfold QOk; exact inferInstance
def MOk (m step dead : Int) : Prop := QOk step dead ∧ 0 ≤ m ∧ m ≤ 60
instance (m step dead : Int) : Decidable (MOk m step dead) := by unfold MOk; exact inferInstance
def thr (step dead : Int) : Int := max 1 (step * dead / 16)
/-- Twice the middle of the interval of an index above 0. -/
def mid2 (n m step dead : Int) : Int := 2 * (thr step dead + (n - 1) * step) + (2 ^ m.toNat * step - 1)
def recP (n m step dead : Int) : Int := min (mid2 n m step dead / 2) 4294967296
def recon (v m step dead : Int) : Int :=
  if v = 0 ∨ ¬ MOk m step dead then 0 else if v < 0 then - recP (-v) m step dead else recP v m step dead
def errI (c v m step dead : Int) : Int := min (max (c - recon v m step dead) (recon v m step dead - c)) 32767

theorem mul_le_int {a b c d : Int} (h0 : 0 ≤ a) (h1 : a ≤ c) (h2 : 0 ≤ b) (h3 : b ≤ d) : 0 ≤ a * b ∧ a * b ≤ c * d :=
  ⟨Int.mul_nonneg h0 h2, Int.mul_le_mul h1 h3 h2 (by omega)⟩

theorem thr_rng {step dead : Int} (h : QOk step dead) : 1 ≤ thr step dead ∧ thr step dead ≤ 131072 ∧ 0 ≤ step * dead ∧ step * dead ≤ 2097152 := by
  obtain ⟨h1, h2, h3, h4⟩ := h
  obtain ⟨a, b⟩ := mul_le_int (a := step) (b := dead) (c := 65536) (d := 32) (by omega) h2 (by omega) h4
  unfold thr
  omega
theorem pow2_pos (n : Nat) : (1 : Int) ≤ 2 ^ n := by
  have : (0 : Int) < 2 ^ n := Int.pow_pos (by decide)
  omega
theorem recP_rng {n m step dead : Int} (h : QOk step dead) (hn : 1 ≤ n) : 0 ≤ recP n m step dead ∧ recP n m step dead ≤ 4294967296 := by
  obtain ⟨t1, t2, _, _⟩ := thr_rng h
  have hp := pow2_pos m.toNat
  have h1 : 0 ≤ (n - 1) * step := Int.mul_nonneg (by omega) (by have := h.1; omega)
  have h2 : 1 * step ≤ 2 ^ m.toNat * step := Int.mul_le_mul_of_nonneg_right hp (by have := h.1; omega)
  have h3 := h.1
  unfold recP mid2
  generalize (n - 1) * step = A at *
  generalize 2 ^ m.toNat * step = B at *
  omega
theorem recon_rng (v m step dead : Int) : -4294967296 ≤ recon v m step dead ∧ recon v m step dead ≤ 4294967296 := by
  unfold recon
  split
  · omega
  · rename_i h
    have hm : MOk m step dead := by
      apply Classical.byContradiction
      intro hc; exact h (.inr hc)
    split
    · have := recP_rng (n := -v) (m := m) hm.1 (by omega); omega
    · have := recP_rng (n := v) (m := m) hm.1 (by omega); omega
theorem errI_rng (c v m step dead : Int) : 0 ≤ errI c v m step dead ∧ errI c v m step dead ≤ 32767 := by
  unfold errI; omega
theorem err_sq (c v m step dead : Int) : 0 ≤ errI c v m step dead * errI c v m step dead ∧ errI c v m step dead * errI c v m step dead ≤ 1073676289 := by
  obtain ⟨a, b⟩ := errI_rng c v m step dead
  exact mul_le_int (c := 32767) (d := 32767) a b a b

/-- A product, cut off. -/
def capM (a b cap : Int) : Int := if b > 0 ∧ a > cap / b then cap else a * b
theorem capM_cases {a b cap : Int} (ha : 0 ≤ a) (hb : 1 ≤ b) (hc : 0 ≤ cap) : 0 ≤ a * b ∧ ((capM a b cap = a * b ∧ a * b ≤ cap) ∨ (capM a b cap = cap ∧ cap < a * b)) := by
  refine ⟨Int.mul_nonneg ha (by omega), ?_⟩
  unfold capM
  by_cases h : a > cap / b
  · rw [if_pos ⟨by omega, h⟩]
    right
    refine ⟨rfl, ?_⟩
    exact (Int.ediv_lt_iff_lt_mul (by omega)).1 h
  · rw [if_neg (by omega)]
    left
    refine ⟨rfl, ?_⟩
    exact (Int.le_ediv_iff_mul_le (by omega)).1 (by omega)

/-- The middle may be reckoned with products that are cut off. -/
theorem mid_cap {n m step dead A B cap : Int} (h : MOk m step dead) (hn : 1 ≤ n) (hcap : 1125899906842624 ≤ cap)
    (hA : (A = (n - 1) * step ∧ (n - 1) * step ≤ cap) ∨ (A = cap ∧ cap < (n - 1) * step)) (hB : (B = 2 ^ m.toNat * step ∧ 2 ^ m.toNat * step ≤ cap) ∨ (B = cap ∧ cap ≤ 2 ^ m.toNat * step)) :
    0 ≤ (2 * (thr step dead + A) + (B - 1)) / 2 ∧ min ((2 * (thr step dead + A) + (B - 1)) / 2) 4294967296 = recP n m step dead := by
  obtain ⟨t1, t2, _, _⟩ := thr_rng h.1
  have hp := pow2_pos m.toNat
  have h3 := h.1.1
  have h1 : 0 ≤ (n - 1) * step := Int.mul_nonneg (by omega) (by omega)
  have h2 : 1 * step ≤ 2 ^ m.toNat * step := Int.mul_le_mul_of_nonneg_right hp (by omega)
  unfold recP mid2
  generalize (n - 1) * step = A' at *
  generalize 2 ^ m.toNat * step = B' at *
  omega
set_option linter.unusedSimpArgs false
set_option linter.unusedVariables false
theorem min2_eq {k k' : IntKind} {x y : Int} : min2V (.int k x) (.int k' y) = some (.int k (min x y)) := by
  have e : (if y < x then y else x) = min x y := by split <;> omega
  rw [min2V, e]
theorem max2_eq {k k' : IntKind} {x y : Int} : max2V (.int k x) (.int k' y) = some (.int k (max x y)) := by
  have e : (if y > x then y else x) = max x y := by split <;> omega
  rw [max2V, e]

section
variable {h : Heap} {R : Value → Heap → Prop}
theorem qvalid_c {a b : Int} : Ret tab 113 [.int .i64 a, .int .i64 b] h R = R (.bool (decide (QOk a b))) h := by
  rw [enter113, B113]
  by_cases h1 : 1 ≤ a
  · by_cases h2 : a ≤ 65536
    · by_cases h3 : 8 ≤ b
      · by_cases h4 : b ≤ 32 <;> simp [k_guard, QOk, h1, h2, h3, h4, fin113]
      · simp [k_guard, QOk, h1, h2, h3, fin113]
    · simp [k_guard, QOk, h1, h2, fin113]
  · simp [k_guard, QOk, h1, fin113]
theorem qvalid_r {a b : Int} : Ret tab 60 [.int .i64 a, .int .i64 b] h R = R (.bool (decide (QOk a b))) h := by
  rw [enter60, B60]
  by_cases h1 : 1 ≤ a
  · by_cases h2 : a ≤ 65536
    · by_cases h3 : 8 ≤ b
      · by_cases h4 : b ≤ 32 <;> simp [k_guard, QOk, h1, h2, h3, h4, fin60]
      · simp [k_guard, QOk, h1, h2, h3, fin60]
    · simp [k_guard, QOk, h1, h2, fin60]
  · simp [k_guard, QOk, h1, fin60]
theorem qgood_c {m a b : Int} : Ret tab 150 [.int .i64 m, .int .i64 a, .int .i64 b] h R = R (.bool (decide (MOk m a b))) h := by
  rw [enter150, B150]
  by_cases h1 : QOk a b
  · by_cases h2 : 0 ≤ m
    · by_cases h3 : m ≤ 60 <;> simp [k_guard, qvalid_c, MOk, h1, h2, h3, fin150]
    · simp [k_guard, qvalid_c, MOk, h1, h2, fin150]
  · simp [k_guard, qvalid_c, MOk, h1, fin150]
theorem qgood_r {m a b : Int} : Ret tab 154 [.int .i64 m, .int .i64 a, .int .i64 b] h R = R (.bool (decide (MOk m a b))) h := by
  rw [enter154, B154]
  by_cases h1 : QOk a b
  · by_cases h2 : 0 ≤ m
    · by_cases h3 : m ≤ 60 <;> simp [k_guard, qvalid_r, MOk, h1, h2, h3, fin154]
    · simp [k_guard, qvalid_r, MOk, h1, h2, fin154]
  · simp [k_guard, qvalid_r, MOk, h1, fin154]
theorem limit_c {n lo hi : Int} : Ret tab 153 [.int .i64 n, .int .i64 lo, .int .i64 hi] h R = R (.int .i64 (min (max n lo) hi)) h := by
  rw [enter153, B153]
  simp [fold1, foldO, max2_eq, min2_eq, fin153]
theorem limit_r {n m : Int} (hm : -9223372036854775807 ≤ m) (hm2 : m ≤ 9223372036854775807) : Ret tab 114 [.int .i64 n, .int .i64 m] h R = R (.int .i64 (min (max n (-m)) m)) h := by
  have hw : IntKind.i64.wrap (-m) = -m := wrapI (by omega) (by omega)
  rw [enter114, B114]
  simp [hw, fold1, foldO, max2_eq, min2_eq, fin114]
theorem floorDiv_c {a b : Int} (hb : 1 ≤ b) (ha : -9223372036854775808 ≤ a) (ha2 : a < 9223372036854775808) : Ret tab 100 [.int .i64 a, .int .i64 b] h R = R (.int .i64 (a / b)) h := by
  rw [enter100, B100]
  have h1 : ¬ b < 1 := by omega
  have h0 : ¬ b = 0 := by omega
  have hle : -9223372036854775808 ≤ a.tdiv b ∧ a.tdiv b < 9223372036854775808 := by
    rcases Int.le_total 0 a with h | h
    · rw [Int.tdiv_eq_ediv_of_nonneg h]
      have := Int.ediv_le_self b h
      have := Int.ediv_nonneg h (show 0 ≤ b by omega)
      omega
    · have e : a.tdiv b = - ((-a) / b) := by
        rw [← Int.tdiv_eq_ediv_of_nonneg (by omega), Int.neg_tdiv]; omega
      have := Int.ediv_le_self b (show 0 ≤ -a by omega)
      have := Int.ediv_nonneg (show 0 ≤ -a by omega) (show 0 ≤ b by omega)
      omega
  have hw := wrapI hle.1 hle.2
  by_cases hm : a.tmod b < 0
  · have hq : a.tdiv b - 1 = a / b := by
      have e1 := Int.tmod_add_mul_tdiv a b
      have e2 := Int.emod_add_mul_ediv a b
      have b1 := Int.emod_nonneg a h0
      have b2 := Int.emod_lt_of_pos a (show 0 < b by omega)
      have b3 : -b < a.tmod b := by have := Int.lt_tmod_of_pos a (show 0 < b by omega); omega
      have e3 : b * (a / b - (a.tdiv b - 1)) = a.tmod b + b - a % b := by rw [Int.mul_sub, Int.mul_sub]; omega
      have l1 : -b < b * (a / b - (a.tdiv b - 1)) := by omega
      have l2 : b * (a / b - (a.tdiv b - 1)) < b := by omega
      rcases Int.lt_trichotomy (a / b - (a.tdiv b - 1)) 0 with h | h | h
      · have := Int.mul_le_mul_of_nonneg_left (show a / b - (a.tdiv b - 1) ≤ -1 by omega) (show 0 ≤ b by omega)
        omega
      · omega
      · have := Int.mul_le_mul_of_nonneg_left (show 1 ≤ a / b - (a.tdiv b - 1) by omega) (show 0 ≤ b by omega)
        omega
    have hlow : -9223372036854775808 ≤ a / b := by
      rcases Int.le_total 0 a with h | h
      · have := Int.ediv_nonneg h (show 0 ≤ b by omega); omega
      · exact Int.le_trans ha (Int.le_ediv_of_mul_le (by omega) (by
          have := Int.mul_nonneg (show 0 ≤ -a by omega) (show 0 ≤ b - 1 by omega)
          rw [Int.neg_mul, Int.mul_sub] at this
          omega))
    have hw2 : IntKind.i64.wrap (a.tdiv b - 1) = a / b := by rw [hq]; exact wrapI hlow (by omega)
    simp [h1, h0, hw, hm, hw2, fin100]
  · have hq : a.tdiv b = a / b := by
      have e1 := Int.tmod_add_mul_tdiv a b
      have e2 := Int.emod_add_mul_ediv a b
      have b1 := Int.emod_nonneg a h0
      have b2 := Int.emod_lt_of_pos a (show 0 < b by omega)
      have b3 : a.tmod b < b := Int.tmod_lt_of_pos a (by omega)
      have e3 : b * (a / b - a.tdiv b) = a.tmod b - a % b := by rw [Int.mul_sub]; omega
      have l1 : -b < b * (a / b - a.tdiv b) := by omega
      have l2 : b * (a / b - a.tdiv b) < b := by omega
      rcases Int.lt_trichotomy (a / b - a.tdiv b) 0 with h | h | h
      · have := Int.mul_le_mul_of_nonneg_left (show a / b - a.tdiv b ≤ -1 by omega) (show 0 ≤ b by omega)
        omega
      · omega
      · have := Int.mul_le_mul_of_nonneg_left (show 1 ≤ a / b - a.tdiv b by omega) (show 0 ≤ b by omega)
        omega
    have hm' : ¬ a.tmod b < 0 := hm
    rw [hq] at hw
    simp [h1, h0, hq, hw, hm, fin100]
end
section
variable {h : Heap} {R : Value → Heap → Prop}
theorem thr_c {a b : Int} (hq : QOk a b) : Ret tab 173 [.int .i64 a, .int .i64 b] h R = R (.int .i64 (thr a b)) h := by
  obtain ⟨_, _, m1, m2⟩ := thr_rng hq
  have hw : IntKind.i64.wrap (a * b) = a * b := wrapI (by omega) (by omega)
  have hd : (a * b).tdiv 16 = a * b / 16 := Int.tdiv_eq_ediv_of_nonneg m1
  have hw2 : IntKind.i64.wrap (a * b / 16) = a * b / 16 := wrapI (by omega) (by omega)
  rw [enter173, B173]
  simp [qvalid_c, hq, hw, hd, hw2, fold1, foldO, max2_eq, fin173, thr]
theorem thr_r {a b : Int} (hq : QOk a b) : Ret tab 62 [.int .i64 a, .int .i64 b] h R = R (.int .i64 (thr a b)) h := by
  obtain ⟨_, _, m1, m2⟩ := thr_rng hq
  have hw : IntKind.i64.wrap (a * b) = a * b := wrapI (by omega) (by omega)
  have hf := fun H R => floorDiv_c (h := H) (R := R) (a := a * b) (b := 16) (by omega) (by omega) (by omega)
  rw [enter62, B62]
  simp [qvalid_r, hq, hw, hf, fold1, foldO, max2_eq, fin62, thr]
theorem thr_r0 {a b : Int} (hq : ¬ QOk a b) : Ret tab 62 [.int .i64 a, .int .i64 b] h R = R (.int .i64 0) h := by
  rw [enter62, B62]
  simp [qvalid_r, hq, fin62]

theorem times_c {a b : Int} (ha : 0 ≤ a) (ha2 : a < 9223372036854775808) (hb : 1 ≤ b) (hb2 : b ≤ 65536) : Ret tab 174 [.int .i64 a, .int .i64 b] h R = R (.int .i64 (capM a b 1152921504606846976)) h := by
  have h0 : 0 < b := by omega
  have h0' : ¬ b = 0 := by omega
  have hd : (1152921504606846976 : Int).tdiv b = 1152921504606846976 / b := Int.tdiv_eq_ediv_of_nonneg (by omega)
  have hle := Int.ediv_le_self b (show (0 : Int) ≤ 1152921504606846976 by omega)
  have hge := Int.ediv_nonneg (show (0 : Int) ≤ 1152921504606846976 by omega) (show 0 ≤ b by omega)
  have hw : IntKind.i64.wrap (1152921504606846976 / b) = 1152921504606846976 / b := wrapI (by omega) (by omega)
  rw [enter174, B174]
  by_cases hc : a > 1152921504606846976 / b
  · have e : capM a b 1152921504606846976 = 1152921504606846976 := by unfold capM; rw [if_pos ⟨h0, hc⟩]
    have hc' : 1152921504606846976 / b < a := hc
    simp [k_guard, h0, h0', hd, hw, hc', e, fin174]
  · have e : capM a b 1152921504606846976 = a * b := by unfold capM; rw [if_neg (by omega)]
    have hc' : ¬ 1152921504606846976 / b < a := hc
    obtain ⟨m1, m2⟩ := capM_cases ha hb (show (0 : Int) ≤ 1152921504606846976 by omega)
    rw [e] at m2
    have m3 : a * b ≤ 1152921504606846976 := by omega
    have hw2 : IntKind.i64.wrap (a * b) = a * b := wrapI (by omega) (by omega)
    have hm : min (max (a * b) 0) 1152921504606846976 = a * b := by omega
    have hl := fun H R => limit_c (h := H) (R := R) (n := a * b) (lo := 0) (hi := 1152921504606846976)
    rw [hm] at hl
    simp [k_guard, h0, h0', hd, hw, hc', hw2, hl, e, fin174]
theorem times_r {a b : Int} (ha : 0 ≤ a) (ha2 : a < 9223372036854775808) (hb : 1 ≤ b) (hb2 : b ≤ 65536) : Ret tab 175 [.int .i64 a, .int .i64 b] h R = R (.int .i64 (capM a b 1125899906842624)) h := by
  have h0 : 0 < b := by omega
  have hf := fun H R => floorDiv_c (h := H) (R := R) (a := 1125899906842624) (b := b) hb (by omega) (by omega)
  rw [enter175, B175]
  by_cases hc : a > 1125899906842624 / b
  · have e : capM a b 1125899906842624 = 1125899906842624 := by unfold capM; rw [if_pos ⟨h0, hc⟩]
    have hc' : 1125899906842624 / b < a := hc
    simp [k_guard, h0, hf, hc', e, fin175]
  · have e : capM a b 1125899906842624 = a * b := by unfold capM; rw [if_neg (by omega)]
    have hc' : ¬ 1125899906842624 / b < a := hc
    obtain ⟨m1, m2⟩ := capM_cases ha hb (show (0 : Int) ≤ 1125899906842624 by omega)
    rw [e] at m2
    have hw2 : IntKind.i64.wrap (a * b) = a * b := wrapI (by omega) (by omega)
    simp [k_guard, h0, hf, hc', hw2, e, fin175]

theorem shl_pow {m : Int} (h0 : 0 ≤ m) (h1 : m ≤ 60) : shlI .i64 1 m = 2 ^ m.toNat ∧ (2 : Int) ^ m.toNat ≤ 1152921504606846976 := by
  obtain ⟨n, rfl⟩ := Int.eq_ofNat_of_zero_le h0
  have hn : n ≤ 60 := by omega
  have hp : (2 : Nat) ^ n ≤ 2 ^ 60 := Nat.pow_le_pow_right (by decide) hn
  have e : (2 : Int) ^ n = ((2 ^ n : Nat) : Int) := by simp
  have hb : min n 64 = n := by omega
  refine ⟨?_, by rw [Int.toNat_natCast, e]; omega⟩
  unfold shlI
  rw [Int.toNat_natCast, Int.one_mul, show min n IntKind.i64.bits = n from hb, e]
  generalize (2 : Nat) ^ n = q at *
  exact wrapI (by omega) (by omega)

theorem ends_c {v m a b : Int} (hq : MOk m a b) (hv : 1 ≤ v) (hv2 : v < 9223372036854775808) : Ret tab 151 [.int .i64 v, .int .i64 m, .int .i64 a, .int .i64 b] h R =
    R (.tuple #[.int .i64 (thr a b + capM (v - 1) a 1152921504606846976), .int .i64 (thr a b + capM (v - 1) a 1152921504606846976 + capM (2 ^ m.toNat) a 1152921504606846976 - 1)]) h := by
  obtain ⟨t1, t2, _, _⟩ := thr_rng hq.1
  obtain ⟨⟨q1, q2, q3, q4⟩, q5, q6⟩ := hq
  obtain ⟨s1, s2⟩ := shl_pow q5 q6
  have hp := pow2_pos m.toNat
  have hbits : ¬ m < 0 := by omega
  obtain ⟨a1, a2⟩ := capM_cases (show 0 ≤ v - 1 by omega) q1 (show (0 : Int) ≤ 1152921504606846976 by omega)
  obtain ⟨b1, b2⟩ := capM_cases (show (0 : Int) ≤ 2 ^ m.toNat by omega) q1 (show (0 : Int) ≤ 1152921504606846976 by omega)
  have ht := fun H R => thr_c (h := H) (R := R) (a := a) (b := b) ⟨q1, q2, q3, q4⟩
  have h1 := fun H R => times_c (h := H) (R := R) (a := 2 ^ m.toNat) (b := a) (by omega) (by omega) q1 q2
  have h2 := fun H R => times_c (h := H) (R := R) (a := v - 1) (b := a) (by omega) (by omega) q1 q2
  have hw0 : IntKind.i64.wrap (v - 1) = v - 1 := wrapI (by omega) (by omega)
  have hv0 : ¬ v = 0 := by omega
  have hv0' : (v == 0) = false := by simp [hv0]
  rw [enter151, B151]
  have A1 : 0 ≤ capM (v - 1) a 1152921504606846976 := by omega
  have A2 : capM (v - 1) a 1152921504606846976 ≤ 1152921504606846976 := by omega
  have B1 : 0 ≤ capM (2 ^ m.toNat) a 1152921504606846976 := by omega
  have B2 : capM (2 ^ m.toNat) a 1152921504606846976 ≤ 1152921504606846976 := by omega
  generalize hA : capM (v - 1) a 1152921504606846976 = A at *
  generalize hB : capM (2 ^ m.toNat) a 1152921504606846976 = B at *
  generalize thr a b = t at *
  have w1 : IntKind.i64.wrap (t + A) = t + A := wrapI (by omega) (by omega)
  have w2 : IntKind.i64.wrap (t + A + B) = t + A + B := wrapI (by omega) (by omega)
  have w3 : IntKind.i64.wrap (t + A + B - 1) = t + A + B - 1 := wrapI (by omega) (by omega)
  simp [hbits, ht, s1, h1, hv0, hv0', hw0, h2, w1, w2, w3, fin151]

theorem size_c {v : Int} (h1 : -9223372036854775808 ≤ v) (h2 : v < 9223372036854775808) : ∃ n, (∀ H R, Ret tab 152 [.int .i64 v] H R = R (.int .i64 n) H) ∧ ((v ≠ -9223372036854775808 ∧ n = max v (-v)) ∨ (v = -9223372036854775808 ∧ n = 9223372036854775807)) := by
  by_cases h : v = -9223372036854775808
  · refine ⟨9223372036854775807, fun H R => ?_, .inr ⟨h, rfl⟩⟩
    rw [enter152, B152]
    simp [h, fin152]
  · refine ⟨max v (-v), fun H R => ?_, .inl ⟨h, rfl⟩⟩
    have hw : IntKind.i64.wrap (-v) = -v := wrapI (by omega) (by omega)
    have h' : (v == -9223372036854775808) = false := by simp [h]
    rw [enter152, B152]
    simp [h, h', hw, fold1, foldO, max2_eq, fin152]

theorem recon_c {v m a b : Int} (hv1 : -9223372036854775808 ≤ v) (hv2 : v < 9223372036854775808) : Ret tab 111 [.int .i64 v, .int .i64 m, .int .i64 a, .int .i64 b] h R = R (.int .i64 (recon v m a b)) h := by
  rw [enter111, B111]
  have hg := fun H R => qgood_c (h := H) (R := R) (m := m) (a := a) (b := b)
  by_cases h0 : v = 0
  · have e : recon v m a b = 0 := by unfold recon; rw [if_pos (.inl h0)]
    rw [e]
    simp [k_guard, h0, fin111]
  have h0' : (v == 0) = false := by simp [h0]
  by_cases hm : MOk m a b
  rotate_left
  · have e : recon v m a b = 0 := by unfold recon; rw [if_pos (.inr hm)]
    rw [e]
    simp [k_guard, h0, h0', hg, hm, fin111]
  obtain ⟨n, hs, hn⟩ := size_c hv1 hv2
  have hn1 : 1 ≤ n := by omega
  have hn2 : n < 9223372036854775808 := by omega
  have he := fun H R => ends_c (h := H) (R := R) hm hn1 hn2
  obtain ⟨t1, t2, _, _⟩ := thr_rng hm.1
  have hp := pow2_pos m.toNat
  have ha1 := hm.1.1
  obtain ⟨a1, a2⟩ := capM_cases (show 0 ≤ n - 1 by omega) ha1 (show (0 : Int) ≤ 1152921504606846976 by omega)
  obtain ⟨b1, b2⟩ := capM_cases (show (0 : Int) ≤ 2 ^ m.toNat by omega) ha1 (show (0 : Int) ≤ 1152921504606846976 by omega)
  obtain ⟨c1, c2⟩ := mid_cap (n := n) (A := capM (n - 1) a 1152921504606846976) (B := capM (2 ^ m.toNat) a 1152921504606846976) (cap := 1152921504606846976) hm hn1 (by omega) a2 (by omega)
  have r := recP_rng (n := n) (m := m) hm.1 hn1
  have e : recon v m a b = if v < 0 then - recP n m a b else recP n m a b := by
    unfold recon
    rw [if_neg (by intro h; rcases h with h | h; exact h0 h; exact h hm)]
    rcases hn with ⟨_, rfl⟩ | ⟨rfl, rfl⟩
    · split
      · rw [show max v (-v) = -v by omega]
      · rw [show max v (-v) = v by omega]
    · rw [if_pos (by omega), if_pos (by omega)]
      have : recP (- -9223372036854775808) m a b = recP 9223372036854775807 m a b := by
        have u1 : (9223372036854775807 - 1 : Int) * 1 ≤ (9223372036854775807 - 1) * a := Int.mul_le_mul_of_nonneg_left ha1 (by omega)
        have u2 : (- -9223372036854775808 - 1 : Int) * 1 ≤ (- -9223372036854775808 - 1) * a := Int.mul_le_mul_of_nonneg_left ha1 (by omega)
        have u3 : 1 * a ≤ 2 ^ m.toNat * a := Int.mul_le_mul_of_nonneg_right hp (by omega)
        unfold recP mid2
        omega
      rw [this]
  rw [e]
  have A1 : 0 ≤ capM (n - 1) a 1152921504606846976 := by omega
  have A2 : capM (n - 1) a 1152921504606846976 ≤ 1152921504606846976 := by omega
  have B1 : 0 ≤ capM (2 ^ m.toNat) a 1152921504606846976 := by omega
  have B2 : capM (2 ^ m.toNat) a 1152921504606846976 ≤ 1152921504606846976 := by omega
  generalize capM (n - 1) a 1152921504606846976 = A at *
  generalize capM (2 ^ m.toNat) a 1152921504606846976 = B at *
  generalize thr a b = t at *
  generalize recP n m a b = r' at *
  have w1 : IntKind.i64.wrap (t + A + (t + A + B - 1)) = 2 * (t + A) + (B - 1) := by rw [wrapI (by omega) (by omega)]; omega
  have w2 : IntKind.i64.wrap ((2 * (t + A) + (B - 1)).tdiv 2) = (2 * (t + A) + (B - 1)) / 2 := by
    rw [Int.tdiv_eq_ediv_of_nonneg (by omega)]; exact wrapI (by omega) (by omega)
  have hl := fun H R => limit_c (h := H) (R := R) (n := (2 * (t + A) + (B - 1)) / 2) (lo := 0) (hi := 4294967296)
  rw [show min (max ((2 * (t + A) + (B - 1)) / 2) 0) 4294967296 = r' by omega] at hl
  have w3 : IntKind.i64.wrap (-r') = -r' := wrapI (by omega) (by omega)
  by_cases hneg : v < 0
  · simp [k_guard, h0, h0', hg, hm, hs, he, w1, w2, hl, w3, hneg, fin111]
  · simp [k_guard, h0, h0', hg, hm, hs, he, w1, w2, hl, w3, hneg, fin111]
end
def spn (step : Int) : Nat → Int
  | 0 => step
  | i + 1 => capM (spn step i) 2 1125899906842624
theorem spn_eq {step : Int} (h1 : 1 ≤ step) (h2 : step ≤ 65536) : ∀ i : Nat, 1 ≤ spn step i ∧ spn step i ≤ 1125899906842624 ∧
    ((spn step i = 2 ^ i * step ∧ 2 ^ i * step ≤ 1125899906842624) ∨ (spn step i = 1125899906842624 ∧ 1125899906842624 ≤ 2 ^ i * step))
  | 0 => by simp [spn]; omega
  | i + 1 => by
    obtain ⟨a, b, c⟩ := spn_eq h1 h2 i
    obtain ⟨_, d⟩ := capM_cases (show 0 ≤ spn step i by omega) (show (1 : Int) ≤ 2 by omega) (show (0 : Int) ≤ 1125899906842624 by omega)
    have e : (2 : Int) ^ (i + 1) * step = 2 * (2 ^ i * step) := by rw [Int.pow_succ, Int.mul_comm (2 ^ i) 2, Int.mul_assoc]
    rw [e, spn]
    generalize (2 : Int) ^ i * step = p at *
    omega

section
variable {h : Heap} {R : Value → Heap → Prop}
theorem span_loop {m : Nat} {step : Int} (h1 : 1 ≤ step) (h2 : step ≤ 65536) (hm : m ≤ 60) {k : List RItem}
    (hk : ∀ K2 K3 K4 K6 K7 K8 K9 Ka Kb Kc Kd Ke Kf : Value, Ok tab R176 k #[.int .i64 m,.int .i64 step,K2,K3,K4,.int .i64 (spn step m),K6,K7,K8,K9,Ka,Kb,Kc,Kd,Ke,Kf] h R = R (.int .i64 (spn step m)) h) :
    ∀ (n i : Nat) (K2 K3 K4 K7 K8 K9 Ka Kb Kc Kd Ke Kf : Value), n = m - i → i ≤ m →
      Ok tab R176 (.inLoop L176_0 :: .inBlock 0 :: k) #[.int .i64 m,.int .i64 step,K2,K3,K4,.int .i64 (spn step i),.int .i64 i,K7,K8,K9,Ka,Kb,Kc,Kd,Ke,Kf] h R = R (.int .i64 (spn step m)) h := by
  intro n
  induction n with
  | zero =>
    intro i K2 K3 K4 K7 K8 K9 Ka Kb Kc Kd Ke Kf hn hi
    have him : i = m := by omega
    subst him
    rw [ok_round, l176_0, L176_0a, L176_0b]
    simp [hk]
  | succ n ih =>
    intro i K2 K3 K4 K7 K8 K9 Ka Kb Kc Kd Ke Kf hn hi
    have hlt : ((i : Int) < m) := by omega
    have hw : IntKind.i64.wrap ((i : Int) + 1) = ((i + 1 : Nat) : Int) := wrapN (n := i + 1) (by omega)
    have ih' := fun K2 K3 K4 K7 K8 K9 Ka Kb Kc Kd Ke Kf => ih (i + 1) K2 K3 K4 K7 K8 K9 Ka Kb Kc Kd Ke Kf (by omega) (by omega)
    obtain ⟨a, b, _⟩ := spn_eq h1 h2 i
    have ht := fun H R => times_r (h := H) (R := R) (a := spn step i) (b := 2) (by omega) (by omega) (by omega) (by omega)
    rw [show capM (spn step i) 2 1125899906842624 = spn step (i + 1) from rfl] at ht
    rw [ok_round, l176_0, L176_0a, L176_0b]
    generalize ((i + 1 : Nat) : Int) = i1 at *
    generalize spn step (i + 1) = s1 at *
    simp [hlt, ht, hw, ih']
theorem span_r {m step : Int} (h1 : 1 ≤ step) (h2 : step ≤ 65536) (hm0 : 0 ≤ m) (hm : m ≤ 60) : Ret tab 176 [.int .i64 m, .int .i64 step] h R = R (.int .i64 (spn step m.toNat)) h := by
  obtain ⟨n, rfl⟩ := Int.eq_ofNat_of_zero_le hm0
  rw [enter176, B176]
  have hl := fun K2 K3 K4 K7 K8 K9 Ka Kb Kc Kd Ke Kf => span_loop (h := h) (R := R) (m := n) (step := step) h1 h2 (by omega) (k := [.code ((RCode.region [⟨some 15, .mov (.tmp 5), none⟩, ⟨some 4, .mov (.tmp 15), none⟩] []).seq .ret)])
    (fun K2 K3 K4 K6 K7 K8 K9 Ka Kb Kc Kd Ke Kf => by simp [fin176]) n 0 K2 K3 K4 K7 K8 K9 Ka Kb Kc Kd Ke Kf (by omega) (by omega)
  simp [spn] at hl ⊢
  rw [hl]
theorem ends_r {v m a b : Int} (hq : MOk m a b) (hv : 1 ≤ v) (hv2 : v ≤ 1125899906842624) : Ret tab 155 [.int .i64 v, .int .i64 m, .int .i64 a, .int .i64 b] h R =
    R (.tuple #[.int .i64 (thr a b + capM (v - 1) a 1125899906842624), .int .i64 (thr a b + capM (v - 1) a 1125899906842624 + spn a m.toNat - 1)]) h := by
  obtain ⟨t1, t2, _, _⟩ := thr_rng hq.1
  obtain ⟨⟨q1, q2, q3, q4⟩, q5, q6⟩ := hq
  obtain ⟨a1, a2⟩ := capM_cases (show 0 ≤ v - 1 by omega) q1 (show (0 : Int) ≤ 1125899906842624 by omega)
  obtain ⟨b1, b2, _⟩ := spn_eq q1 q2 m.toNat
  have ht := fun H R => thr_r (h := H) (R := R) (a := a) (b := b) ⟨q1, q2, q3, q4⟩
  have h1 := fun H R => span_r (h := H) (R := R) (m := m) (step := a) q1 q2 q5 q6
  have h2 := fun H R => times_r (h := H) (R := R) (a := v - 1) (b := a) (by omega) (by omega) q1 q2
  have hw0 : IntKind.i64.wrap (v - 1) = v - 1 := wrapI (by omega) (by omega)
  rw [enter155, B155]
  have A1 : 0 ≤ capM (v - 1) a 1125899906842624 := by omega
  have A2 : capM (v - 1) a 1125899906842624 ≤ 1125899906842624 := by omega
  generalize hA : capM (v - 1) a 1125899906842624 = A at *
  generalize hB : spn a m.toNat = B at *
  generalize thr a b = t at *
  have w1 : IntKind.i64.wrap (t + A) = t + A := wrapI (by omega) (by omega)
  have w2 : IntKind.i64.wrap (t + A + B) = t + A + B := wrapI (by omega) (by omega)
  have w3 : IntKind.i64.wrap (t + A + B - 1) = t + A + B - 1 := wrapI (by omega) (by omega)
  simp [ht, h1, hw0, h2, w1, w2, w3, fin155]

theorem recP_cap {v m a b : Int} (hm : MOk m a b) (hv : 1125899906842624 < v) : recP 1125899906842624 m a b = recP v m a b := by
  have ha1 := hm.1.1
  obtain ⟨t1, t2, _, _⟩ := thr_rng hm.1
  have hp := pow2_pos m.toNat
  have u1 : (1125899906842624 - 1 : Int) * 1 ≤ (1125899906842624 - 1) * a := Int.mul_le_mul_of_nonneg_left ha1 (by omega)
  have u2 : (v - 1) * 1 ≤ (v - 1) * a := Int.mul_le_mul_of_nonneg_left ha1 (by omega)
  have u3 : 1 * a ≤ 2 ^ m.toNat * a := Int.mul_le_mul_of_nonneg_right hp (by omega)
  unfold recP mid2
  generalize (v - 1) * a = x at *
  generalize 2 ^ m.toNat * a = y at *
  omega
theorem recon_r_pos {v m a b : Int} (hm : MOk m a b) (hv1 : 1 ≤ v) (hv2 : v < 9223372036854775808) : Ret tab 112 [.int .i64 v, .int .i64 m, .int .i64 a, .int .i64 b] h R = R (.int .i64 (recP v m a b)) h := by
  rw [enter112, B112]
  have hg := fun H R => qgood_r (h := H) (R := R) (m := m) (a := a) (b := b)
  have h0' : (v == 0) = false := by simp; omega
  have h0 : ¬ v = 0 := by omega
  have hl1 := fun H R => limit_r (h := H) (R := R) (n := v) (m := 1125899906842624) (by omega) (by omega)
  have e : recP (min v 1125899906842624) m a b = recP v m a b := by
    by_cases hc : 1125899906842624 < v
    · rw [show min v 1125899906842624 = 1125899906842624 by omega]; exact recP_cap hm hc
    · rw [show min v 1125899906842624 = v by omega]
  rw [← e]
  rw [show min (max v (-1125899906842624)) 1125899906842624 = min v 1125899906842624 by omega] at hl1
  have hn1 : 1 ≤ min v 1125899906842624 := by omega
  have hn2 : min v 1125899906842624 ≤ 1125899906842624 := by omega
  generalize min v 1125899906842624 = n at *
  have he := fun H R => ends_r (h := H) (R := R) hm hn1 hn2
  obtain ⟨t1, t2, _, _⟩ := thr_rng hm.1
  have ha1 := hm.1.1
  obtain ⟨a1, a2⟩ := capM_cases (show 0 ≤ n - 1 by omega) ha1 (show (0 : Int) ≤ 1125899906842624 by omega)
  obtain ⟨b1, b2, b3⟩ := spn_eq ha1 hm.1.2.1 m.toNat
  obtain ⟨c1, c2⟩ := mid_cap (n := n) (A := capM (n - 1) a 1125899906842624) (B := spn a m.toNat) (cap := 1125899906842624) hm hn1 (by omega) a2 b3
  have r := recP_rng (n := n) (m := m) hm.1 hn1
  have A1 : 0 ≤ capM (n - 1) a 1125899906842624 := by omega
  have A2 : capM (n - 1) a 1125899906842624 ≤ 1125899906842624 := by omega
  generalize capM (n - 1) a 1125899906842624 = A at *
  generalize spn a m.toNat = B at *
  generalize thr a b = t at *
  generalize recP n m a b = r' at *
  have w1 : IntKind.i64.wrap (t + A + (t + A + B - 1)) = 2 * (t + A) + (B - 1) := by rw [wrapI (by omega) (by omega)]; omega
  have hf := fun H R => floorDiv_c (h := H) (R := R) (a := 2 * (t + A) + (B - 1)) (b := 2) (by omega) (by omega) (by omega)
  have hl := fun H R => limit_r (h := H) (R := R) (n := (2 * (t + A) + (B - 1)) / 2) (m := 4294967296) (by omega) (by omega)
  rw [show min (max ((2 * (t + A) + (B - 1)) / 2) (-4294967296)) 4294967296 = r' by omega] at hl
  have hneg : ¬ n < 0 := by omega
  simp [k_guard, h0, h0', hg, hm, hl1, hneg, he, w1, hf, hl, fin112]
theorem recon_r {v m a b : Int} (hv1 : -9223372036854775808 ≤ v) (hv2 : v < 9223372036854775808) : Ret tab 112 [.int .i64 v, .int .i64 m, .int .i64 a, .int .i64 b] h R = R (.int .i64 (recon v m a b)) h := by
  have hg := fun H R => qgood_r (h := H) (R := R) (m := m) (a := a) (b := b)
  by_cases hm : MOk m a b
  rotate_left
  · have e : recon v m a b = 0 := by unfold recon; rw [if_pos (.inr hm)]
    rw [e, enter112, B112]
    simp [k_guard, hg, hm, fin112]
  by_cases h0 : v = 0
  · have e : recon v m a b = 0 := by unfold recon; rw [if_pos (.inl h0)]
    rw [e, enter112, B112]
    simp [k_guard, h0, hg, hm, fin112]
  by_cases hneg : v < 0
  rotate_left
  · have e : recon v m a b = recP v m a b := by unfold recon; rw [if_neg (by intro h; rcases h with h | h; exact h0 h; exact h hm), if_neg hneg]
    rw [e]
    exact recon_r_pos hm (by omega) hv2
  have e : recon v m a b = - recP (-v) m a b := by unfold recon; rw [if_neg (by intro h; rcases h with h | h; exact h0 h; exact h hm), if_pos hneg]
  have h0' : (v == 0) = false := by simp [h0]
  have hl1 := fun H R => limit_r (h := H) (R := R) (n := v) (m := 1125899906842624) (by omega) (by omega)
  have e2 : recP (- min (max v (-1125899906842624)) 1125899906842624) m a b = recP (-v) m a b := by
    by_cases hc : 1125899906842624 < -v
    · rw [show - min (max v (-1125899906842624)) 1125899906842624 = 1125899906842624 by omega]; exact recP_cap hm hc
    · rw [show - min (max v (-1125899906842624)) 1125899906842624 = -v by omega]
  rw [e, ← e2]
  have hn1 : min (max v (-1125899906842624)) 1125899906842624 < 0 := by omega
  have hn2 : -1125899906842624 ≤ min (max v (-1125899906842624)) 1125899906842624 := by omega
  generalize min (max v (-1125899906842624)) 1125899906842624 = n at *
  have hr := fun H R => recon_r_pos (h := H) (R := R) (v := -n) hm (by omega) (by omega)
  have hw : IntKind.i64.wrap (-n) = -n := wrapI (by omega) (by omega)
  have r := recP_rng (n := -n) (m := m) hm.1 (by omega)
  generalize recP (-n) m a b = r' at *
  have hw2 : IntKind.i64.wrap (-r') = -r' := wrapI (by omega) (by omega)
  rw [enter112, B112]
  simp [k_guard, h0, h0', hg, hm, hl1, hn1, hw, hr, hw2, fin112]

theorem error_c {c v m a b : Int} (hc1 : -9223372036854775808 ≤ c) (hc2 : c < 9223372036854775808) (hv1 : -9223372036854775808 ≤ v) (hv2 : v < 9223372036854775808) :
    Ret tab 56 [.int .i64 c, .int .i64 v, .int .i64 m, .int .i64 a, .int .i64 b] h R = R (.int .i64 (errI c v m a b)) h := by
  have hr := fun H R => recon_c (h := H) (R := R) (m := m) (a := a) (b := b) hv1 hv2
  obtain ⟨r1, r2⟩ := recon_rng v m a b
  rw [enter56, B56]
  unfold errI
  generalize recon v m a b = r at *
  have w1 : IntKind.i64.wrap (r + 32767) = r + 32767 := wrapI (by omega) (by omega)
  have w2 : IntKind.i64.wrap (r - 32767) = r - 32767 := wrapI (by omega) (by omega)
  by_cases h1 : r + 32767 < c
  · rw [show min (max (c - r) (r - c)) 32767 = 32767 by omega]
    simp [k_guard, hr, w1, w2, h1, fin56]
  · by_cases h2 : c < r - 32767
    · rw [show min (max (c - r) (r - c)) 32767 = 32767 by omega]
      simp [k_guard, hr, w1, w2, h1, h2, fin56]
    · rw [show min (max (c - r) (r - c)) 32767 = max (c - r) (r - c) by omega]
      have w3 : IntKind.i64.wrap (c - r) = c - r := wrapI (by omega) (by omega)
      have w4 : IntKind.i64.wrap (r - c) = r - c := wrapI (by omega) (by omega)
      simp [k_guard, hr, w1, w2, w3, w4, h1, h2, fold1, foldO, max2_eq, fin56]
theorem error_r {c v m a b : Int} (hc1 : -9223372036854775808 ≤ c) (hc2 : c < 9223372036854775808) (hv1 : -9223372036854775808 ≤ v) (hv2 : v < 9223372036854775808) :
    Ret tab 57 [.int .i64 c, .int .i64 v, .int .i64 m, .int .i64 a, .int .i64 b] h R = R (.int .i64 (errI c v m a b)) h := by
  have hr := fun H R => recon_r (h := H) (R := R) (m := m) (a := a) (b := b) hv1 hv2
  obtain ⟨r1, r2⟩ := recon_rng v m a b
  rw [enter57, B57]
  unfold errI
  generalize recon v m a b = r at *
  obtain ⟨d, hd⟩ : ∃ d, d = min (max c (-17179869184)) 17179869184 - r := ⟨_, rfl⟩
  have w1 : IntKind.i64.wrap (min (max c (-17179869184)) 17179869184 - r) = d := by rw [hd]; exact wrapI (by omega) (by omega)
  have w2 : IntKind.i64.wrap (-d) = -d := wrapI (by omega) (by omega)
  have e : min (max (c - r) (r - c)) 32767 = min (max d (-d)) 32767 := by omega
  rw [e]
  simp [hr, fold1, foldO, max2_eq, min2_eq, w1, w2, fin57]
end
/-- The sum of the first squares. -/
def tot (a b : Int) (cs vs ms : List Int) : Nat → Int
  | 0 => 0
  | n + 1 => tot a b cs vs ms n + errI (cs.getD n 0) (vs.getD n 0) (ms.getD n 0) a b * errI (cs.getD n 0) (vs.getD n 0) (ms.getD n 0) a b
theorem tot_rng (a b : Int) (cs vs ms : List Int) : ∀ n : Nat, 0 ≤ tot a b cs vs ms n ∧ tot a b cs vs ms n ≤ n * 1073676289
  | 0 => by simp [tot]
  | n + 1 => by
    obtain ⟨h1, h2⟩ := tot_rng a b cs vs ms n
    obtain ⟨e1, e2⟩ := err_sq (cs.getD n 0) (vs.getD n 0) (ms.getD n 0) a b
    rw [tot]
    omega
def mOk (m : Int) : Bool := decide (0 ≤ m) && decide (m ≤ 60)
def totRes (a b w : Int) (cs vs ms : List Int) : Int × Int :=
  if cs.length ≠ vs.length ∨ cs.length ≠ ms.length then (0, 4) else if 4096 < cs.length then (0, 5) else
  if ¬ QOk a b ∨ w < 0 ∨ 16 < w then (0, 2) else if ms.all mOk = true then (tot a b cs vs ms cs.length * w, 0) else (0, 2)

section
variable {h : Heap} {R : Value → Heap → Prop} {s t u : Value} {cs vs ms : List Int}
theorem total_loop_c (hc : Rk .i64 h s cs) (hv : Rk .i64 h t vs) (hm : Rk .i64 h u ms) (hl1 : cs.length = vs.length) (hl2 : cs.length = ms.length) (hl : cs.length ≤ 4096) {a b w : Int} {k : List RItem} {res : Prop}
    (hk : ∀ K6 K7 K8 K9 Ka Kb Kc Kd Kf Kg Kh Ki Kj Kk Kl Km Kn Ko Kp Kq Kr Ks Kt Ku Kv Kw Kx Ky Kz J0 J1 J2 J3 J4 J5 J6 J7 J8 J9 Ja Jb Jc Jd Je Jf Jg Jh Ji Jj Jk Jl Jm Jn Jo Jp Jq Jr Js Jt Ju Jv Jw Jx Jy Jz Y0 Y1 Y2 Y3 Y4 Y5 Y6 Y7 Y8 Y9 Ya Yb Yc : Value, Ok tab R58 k #[s,t,u,.int .i64 a,.int .i64 b,.int .i64 w,K6,K7,K8,K9,Ka,Kb,Kc,Kd,.int .i64 (tot a b cs vs ms cs.length),Kf,Kg,Kh,Ki,Kj,Kk,Kl,Km,Kn,Ko,Kp,Kq,Kr,Ks,Kt,Ku,Kv,Kw,Kx,Ky,Kz,J0,J1,J2,J3,J4,J5,J6,J7,J8,J9,Ja,Jb,Jc,Jd,Je,Jf,Jg,Jh,Ji,Jj,Jk,Jl,Jm,Jn,Jo,Jp,Jq,Jr,Js,Jt,Ju,Jv,Jw,Jx,Jy,Jz,Y0,Y1,Y2,Y3,Y4,Y5,Y6,Y7,Y8,Y9,Ya,Yb,Yc] h R = res) :
    ∀ (n i : Nat) (K6 K7 K8 K9 Ka Kb Kc Kd Kf Kg Kh Ki Kj Kk Kl Km Kn Ko Kp Kq Kr Ks Kt Ku Kv Kw Kx Ky Kz J0 J1 J2 J3 J4 J5 J6 J7 J8 Jb Jc Jd Je Jf Jg Jh Ji Jj Jk Jl Jm Jn Jo Jp Jq Jr Js Jt Ju Jv Jw Jx Jy Jz Y0 Y1 Y2 Y3 Y4 Y5 Y6 Y7 Y8 Y9 Ya Yb Yc : Value), n = cs.length - i → i ≤ cs.length →
      Ok tab R58 (.inLoop L58_0 :: .inBlock 0 :: k) #[s,t,u,.int .i64 a,.int .i64 b,.int .i64 w,K6,K7,K8,K9,Ka,Kb,Kc,Kd,.int .i64 (tot a b cs vs ms i),Kf,Kg,Kh,Ki,Kj,Kk,Kl,Km,Kn,Ko,Kp,Kq,Kr,Ks,Kt,Ku,Kv,Kw,Kx,Ky,Kz,J0,J1,J2,J3,J4,J5,J6,J7,J8,.int .i64 cs.length,.int .i64 i,Jb,Jc,Jd,Je,Jf,Jg,Jh,Ji,Jj,Jk,Jl,Jm,Jn,Jo,Jp,Jq,Jr,Js,Jt,Ju,Jv,Jw,Jx,Jy,Jz,Y0,Y1,Y2,Y3,Y4,Y5,Y6,Y7,Y8,Y9,Ya,Yb,Yc] h R =
        if (ms.drop i).all mOk = true then res else R (.tuple #[.int .i64 0, .int .i64 2]) h := by
  intro n
  induction n with
  | zero =>
    intro i K6 K7 K8 K9 Ka Kb Kc Kd Kf Kg Kh Ki Kj Kk Kl Km Kn Ko Kp Kq Kr Ks Kt Ku Kv Kw Kx Ky Kz J0 J1 J2 J3 J4 J5 J6 J7 J8 Jb Jc Jd Je Jf Jg Jh Ji Jj Jk Jl Jm Jn Jo Jp Jq Jr Js Jt Ju Jv Jw Jx Jy Jz Y0 Y1 Y2 Y3 Y4 Y5 Y6 Y7 Y8 Y9 Ya Yb Yc hn hi
    have him : i = cs.length := by omega
    subst him
    rw [ok_round, l58_0, L58_0a, L58_0b]
    rw [List.drop_of_length_le (by omega)]
    simp [hk]
  | succ n ih =>
    intro i K6 K7 K8 K9 Ka Kb Kc Kd Kf Kg Kh Ki Kj Kk Kl Km Kn Ko Kp Kq Kr Ks Kt Ku Kv Kw Kx Ky Kz J0 J1 J2 J3 J4 J5 J6 J7 J8 Jb Jc Jd Je Jf Jg Jh Ji Jj Jk Jl Jm Jn Jo Jp Jq Jr Js Jt Ju Jv Jw Jx Jy Jz Y0 Y1 Y2 Y3 Y4 Y5 Y6 Y7 Y8 Y9 Ya Yb Yc hn hi
    have hlt : ((i : Int) < cs.length) := by omega
    have h1 : i < cs.length := by omega
    have h2 : i < vs.length := by omega
    have h3 : i < ms.length := by omega
    have hw : IntKind.i64.wrap ((i : Int) + 1) = ((i + 1 : Nat) : Int) := wrapN (n := i + 1) (by omega)
    have ih' := fun K6 K7 K8 K9 Ka Kb Kc Kd Kf Kg Kh Ki Kj Kk Kl Km Kn Ko Kp Kq Kr Ks Kt Ku Kv Kw Kx Ky Kz J0 J1 J2 J3 J4 J5 J6 J7 J8 Jb Jc Jd Je Jf Jg Jh Ji Jj Jk Jl Jm Jn Jo Jp Jq Jr Js Jt Ju Jv Jw Jx Jy Jz Y0 Y1 Y2 Y3 Y4 Y5 Y6 Y7 Y8 Y9 Ya Yb Yc => ih (i + 1) K6 K7 K8 K9 Ka Kb Kc Kd Kf Kg Kh Ki Kj Kk Kl Km Kn Ko Kp Kq Kr Ks Kt Ku Kv Kw Kx Ky Kz J0 J1 J2 J3 J4 J5 J6 J7 J8 Jb Jc Jd Je Jf Jg Jh Ji Jj Jk Jl Jm Jn Jo Jp Jq Jr Js Jt Ju Jv Jw Jx Jy Jz Y0 Y1 Y2 Y3 Y4 Y5 Y6 Y7 Y8 Y9 Ya Yb Yc (by omega) (by omega)
    obtain ⟨id1, o1, b1, rfl, hb1, hc1⟩ := hc.get h1
    obtain ⟨id2, o2, b2, rfl, hb2, hc2⟩ := hv.get h2
    obtain ⟨id3, o3, b3, rfl, hb3, hc3⟩ := hm.get h3
    have l1 : ((i : Int) < vs.length) := by omega
    have l2 : ((i : Int) < ms.length) := by omega
    have g1 : cs.getD i 0 = cs[i] := by rw [List.getD_eq_getElem?_getD, List.getElem?_eq_getElem h1]; rfl
    have g2 : vs.getD i 0 = vs[i] := by rw [List.getD_eq_getElem?_getD, List.getElem?_eq_getElem h2]; rfl
    have g3 : ms.getD i 0 = ms[i] := by rw [List.getD_eq_getElem?_getD, List.getElem?_eq_getElem h3]; rfl
    obtain ⟨r1, r2⟩ := wf_i64 (hc.rng cs[i] (List.getElem_mem h1))
    obtain ⟨r3, r4⟩ := wf_i64 (hv.rng vs[i] (List.getElem_mem h2))
    have he := fun H R => error_c (h := H) (R := R) (m := ms[i]) (a := a) (b := b) r1 r2 r3 r4
    obtain ⟨t1, t2⟩ := tot_rng a b cs vs ms i
    obtain ⟨e1, e2⟩ := err_sq cs[i] vs[i] ms[i] a b
    have hT : tot a b cs vs ms (i + 1) = tot a b cs vs ms i + errI cs[i] vs[i] ms[i] a b * errI cs[i] vs[i] ms[i] a b := by rw [tot, g1, g2, g3]
    have hd : (ms.drop i).all mOk = (mOk ms[i] && (ms.drop (i + 1)).all mOk) := by rw [List.drop_eq_getElem_cons h3, List.all_cons]
    rw [hd]
    rw [hT] at ih'
    generalize (ms.drop (i + 1)).all mOk = rest at *
    generalize errI cs[i] vs[i] ms[i] a b = e at *
    generalize tot a b cs vs ms i = T at *
    have w1 : IntKind.i64.wrap (e * e) = e * e := wrapI (by omega) (by omega)
    have w2 : IntKind.i64.wrap (T + e * e) = T + e * e := wrapI (by omega) (by omega)
    generalize ((i + 1 : Nat) : Int) = i1 at *
    generalize cs[i] = c at *
    generalize vs[i] = v at *
    generalize ms[i] = m at *
    rw [ok_round, l58_0, L58_0a, L58_0b]
    by_cases m1 : m < 0
    · have hmo : mOk m = false := by simp [mOk]; omega
      simp [k_guard, hlt, l1, l2, h1, h2, h3, hb1, hb2, hb3, hc1, hc2, hc3, m1, hmo, fin58]
    · by_cases m2 : 60 < m
      · have hmo : mOk m = false := by simp [mOk]; omega
        simp [k_guard, hlt, l1, l2, h1, h2, h3, hb1, hb2, hb3, hc1, hc2, hc3, m1, m2, hmo, fin58]
      · have hmo : mOk m = true := by simp [mOk]; omega
        simp [k_guard, hlt, l1, l2, h1, h2, h3, hb1, hb2, hb3, hc1, hc2, hc3, m1, m2, hmo, he, w1, w2, hw, ih']
theorem total_c (hc : Rk .i64 h s cs) (hv : Rk .i64 h t vs) (hm : Rk .i64 h u ms) {a b w : Int} :
    Ret tab 58 [s, t, u, .int .i64 a, .int .i64 b, .int .i64 w] h R = R (.tuple #[.int .i64 (totRes a b w cs vs ms).1, .int .i64 (totRes a b w cs vs ms).2]) h := by
  rw [enter58, B58]
  obtain ⟨sa, sc, hs⟩ := hc.sl.shape
  obtain ⟨ta, tc, ht⟩ := hv.sl.shape
  obtain ⟨ua, uc, hu⟩ := hm.sl.shape
  unfold totRes
  by_cases hl1 : cs.length = vs.length
  rotate_left
  · have hl1' : ((cs.length : Int) != vs.length) = true := by simp; omega
    simp [k_guard, hs, ht, hu, hl1, hl1', fin58]
  have hl1' : ((cs.length : Int) != vs.length) = false := by simp; omega
  by_cases hl2 : cs.length = ms.length
  rotate_left
  · have hl2' : ((cs.length : Int) != ms.length) = true := by simp; omega
    rw [if_pos (.inr hl2)]
    simp [k_guard, hs, ht, hu, hl1', hl2', fin58]
  have hl2' : ((cs.length : Int) != ms.length) = false := by simp; omega
  rw [if_neg (by omega)]
  by_cases hl : 4096 < cs.length
  · have hl' : (4096 : Int) < cs.length := by omega
    rw [if_pos hl]
    simp [k_guard, hs, ht, hu, hl1', hl2', hl', fin58]
  have hl' : ¬ (4096 : Int) < cs.length := by omega
  rw [if_neg hl]
  have hq := fun H R => qvalid_c (h := H) (R := R) (a := a) (b := b)
  by_cases hqo : QOk a b
  rotate_left
  · rw [if_pos (.inl hqo)]
    simp [k_guard, hs, ht, hu, hl1', hl2', hl', hq, hqo, fin58]
  by_cases hw0 : w < 0
  · rw [if_pos (.inr (.inl hw0))]
    simp [k_guard, hs, ht, hu, hl1', hl2', hl', hq, hqo, hw0, fin58]
  by_cases hw1 : 16 < w
  · rw [if_pos (.inr (.inr hw1))]
    simp [k_guard, hs, ht, hu, hl1', hl2', hl', hq, hqo, hw0, hw1, fin58]
  rw [if_neg (by intro hx; rcases hx with hx | hx | hx; exact hx hqo; exact hw0 hx; exact hw1 hx)]
  obtain ⟨t1, t2⟩ := tot_rng a b cs vs ms cs.length
  obtain ⟨p1, p2⟩ := mul_le_int (a := tot a b cs vs ms cs.length) (b := w) (c := 4096 * 1073676289) (d := 16) t1 (by omega) (by omega) (by omega)
  have hwr : IntKind.i64.wrap (tot a b cs vs ms cs.length * w) = tot a b cs vs ms cs.length * w := wrapI (by omega) (by omega)
  have hL := fun K6 K7 K8 K9 Ka Kb Kc Kd Kf Kg Kh Ki Kj Kk Kl Km Kn Ko Kp Kq Kr Ks Kt Ku Kv Kw Kx Ky Kz J0 J1 J2 J3 J4 J5 J6 J7 J8 Jb Jc Jd Je Jf Jg Jh Ji Jj Jk Jl Jm Jn Jo Jp Jq Jr Js Jt Ju Jv Jw Jx Jy Jz Y0 Y1 Y2 Y3 Y4 Y5 Y6 Y7 Y8 Y9 Ya Yb Yc => total_loop_c (R := R) hc hv hm hl1 hl2 (by omega) (a := a) (b := b) (w := w) (res := R (.tuple #[.int .i64 (tot a b cs vs ms cs.length * w), .int .i64 0]) h)
    (k := [.code ((RCode.region [⟨some 82, .mov (.tmp 14), none⟩, ⟨some 83, .mov (.tmp 5), none⟩, ⟨some 84, .bin .mul (.tmp 82) (.tmp 83), none⟩, ⟨some 12, .mov (.tmp 84), none⟩, ⟨some 13, .mov (.const (.int .i64 0)), none⟩] []).seq .ret)])
    (fun K6 K7 K8 K9 Ka Kb Kc Kd Kf Kg Kh Ki Kj Kk Kl Km Kn Ko Kp Kq Kr Ks Kt Ku Kv Kw Kx Ky Kz J0 J1 J2 J3 J4 J5 J6 J7 J8 J9 Ja Jb Jc Jd Je Jf Jg Jh Ji Jj Jk Jl Jm Jn Jo Jp Jq Jr Js Jt Ju Jv Jw Jx Jy Jz Y0 Y1 Y2 Y3 Y4 Y5 Y6 Y7 Y8 Y9 Ya Yb Yc => by simp [hwr, fin58]) cs.length 0 K6 K7 K8 K9 Ka Kb Kc Kd Kf Kg Kh Ki Kj Kk Kl Km Kn Ko Kp Kq Kr Ks Kt Ku Kv Kw Kx Ky Kz J0 J1 J2 J3 J4 J5 J6 J7 J8 Jb Jc Jd Je Jf Jg Jh Ji Jj Jk Jl Jm Jn Jo Jp Jq Jr Js Jt Ju Jv Jw Jx Jy Jz Y0 Y1 Y2 Y3 Y4 Y5 Y6 Y7 Y8 Y9 Ya Yb Yc (by omega) (by omega)
  simp only [List.drop_zero] at hL
  have t0 : tot a b cs vs ms 0 = 0 := rfl
  rw [t0] at hL
  simp only [Int.cast_ofNat_Int] at hL
  rw [hs, ht, hu] at *
  generalize ms.all mOk = A at *
  cases A <;> simp [k_guard, hl1', hl2', hl', hq, hqo, hw0, hw1] <;> rw [hL] <;> simp
theorem total_loop_r (hc : Rk .i64 h s cs) (hv : Rk .i64 h t vs) (hm : Rk .i64 h u ms) (hl1 : cs.length = vs.length) (hl2 : cs.length = ms.length) (hl : cs.length ≤ 4096) {a b w : Int} {k : List RItem} {res : Prop} (hw0 : 0 ≤ w) (hw1 : w ≤ 16)
    (hk : ∀ K6 K7 K8 K9 Ka Kb Kc Kd Kf Kg Kh Ki Kj Kk Kl Km Kn Ko Kp Kq Kr Ks Kt Ku Kv Kw Kx Ky Kz J0 J1 J2 J3 J4 J5 J6 J7 J8 J9 Ja Jb Jc Jd Je Jf Jg Jh Ji Jj Jk Jl Jm Jn Jo Jp Jq Jr Js Jt Ju Jv Jw Jx Jy Jz Y0 Y1 Y2 Y3 Y4 Y5 Y6 Y7 Y8 Y9 Ya Yb Yc : Value, Ok tab R59 k #[s,t,u,.int .i64 a,.int .i64 b,.int .i64 w,K6,K7,K8,K9,Ka,Kb,Kc,Kd,.int .i64 (w * tot a b cs vs ms cs.length),Kf,Kg,Kh,Ki,Kj,Kk,Kl,Km,Kn,Ko,Kp,Kq,Kr,Ks,Kt,Ku,Kv,Kw,Kx,Ky,Kz,J0,J1,J2,J3,J4,J5,J6,J7,J8,J9,Ja,Jb,Jc,Jd,Je,Jf,Jg,Jh,Ji,Jj,Jk,Jl,Jm,Jn,Jo,Jp,Jq,Jr,Js,Jt,Ju,Jv,Jw,Jx,Jy,Jz,Y0,Y1,Y2,Y3,Y4,Y5,Y6,Y7,Y8,Y9,Ya,Yb,Yc] h R = res) :
    ∀ (n i : Nat) (K6 K7 K8 K9 Ka Kb Kc Kd Kg Kh Ki Kj Kk Kl Km Kn Ko Kp Kq Kr Ks Kt Ku Kv Kw Kx Ky Kz J0 J1 J2 J3 J4 J5 J6 J7 J8 J9 Ja Jb Jc Jd Je Jf Jg Jh Ji Jj Jk Jl Jm Jn Jo Jp Jq Jr Js Jt Ju Jv Jw Jx Jy Jz Y0 Y1 Y2 Y3 Y4 Y5 Y6 Y7 Y8 Y9 Ya Yb Yc : Value), n = cs.length - i → i ≤ cs.length →
      Ok tab R59 (.inLoop L59_0 :: .inBlock 0 :: k) #[s,t,u,.int .i64 a,.int .i64 b,.int .i64 w,K6,K7,K8,K9,Ka,Kb,Kc,Kd,.int .i64 (w * tot a b cs vs ms i),.int .i64 i,Kg,Kh,Ki,Kj,Kk,Kl,Km,Kn,Ko,Kp,Kq,Kr,Ks,Kt,Ku,Kv,Kw,Kx,Ky,Kz,J0,J1,J2,J3,J4,J5,J6,J7,J8,J9,Ja,Jb,Jc,Jd,Je,Jf,Jg,Jh,Ji,Jj,Jk,Jl,Jm,Jn,Jo,Jp,Jq,Jr,Js,Jt,Ju,Jv,Jw,Jx,Jy,Jz,Y0,Y1,Y2,Y3,Y4,Y5,Y6,Y7,Y8,Y9,Ya,Yb,Yc] h R =
        if (ms.drop i).all mOk = true then res else R (.tuple #[.int .i64 0, .int .i64 2]) h := by
  intro n
  induction n with
  | zero =>
    intro i K6 K7 K8 K9 Ka Kb Kc Kd Kg Kh Ki Kj Kk Kl Km Kn Ko Kp Kq Kr Ks Kt Ku Kv Kw Kx Ky Kz J0 J1 J2 J3 J4 J5 J6 J7 J8 J9 Ja Jb Jc Jd Je Jf Jg Jh Ji Jj Jk Jl Jm Jn Jo Jp Jq Jr Js Jt Ju Jv Jw Jx Jy Jz Y0 Y1 Y2 Y3 Y4 Y5 Y6 Y7 Y8 Y9 Ya Yb Yc hn hi
    have him : i = cs.length := by omega
    subst him
    rw [ok_round, l59_0, L59_0a, L59_0b]
    rw [List.drop_of_length_le (by omega)]
    obtain ⟨sa, sc, rfl⟩ := hc.sl.shape
    simp [hk]
  | succ n ih =>
    intro i K6 K7 K8 K9 Ka Kb Kc Kd Kg Kh Ki Kj Kk Kl Km Kn Ko Kp Kq Kr Ks Kt Ku Kv Kw Kx Ky Kz J0 J1 J2 J3 J4 J5 J6 J7 J8 J9 Ja Jb Jc Jd Je Jf Jg Jh Ji Jj Jk Jl Jm Jn Jo Jp Jq Jr Js Jt Ju Jv Jw Jx Jy Jz Y0 Y1 Y2 Y3 Y4 Y5 Y6 Y7 Y8 Y9 Ya Yb Yc hn hi
    have hlt : ((i : Int) < cs.length) := by omega
    have h1 : i < cs.length := by omega
    have h2 : i < vs.length := by omega
    have h3 : i < ms.length := by omega
    have hw : IntKind.i64.wrap ((i : Int) + 1) = ((i + 1 : Nat) : Int) := wrapN (n := i + 1) (by omega)
    have ih' := fun K6 K7 K8 K9 Ka Kb Kc Kd Kg Kh Ki Kj Kk Kl Km Kn Ko Kp Kq Kr Ks Kt Ku Kv Kw Kx Ky Kz J0 J1 J2 J3 J4 J5 J6 J7 J8 J9 Ja Jb Jc Jd Je Jf Jg Jh Ji Jj Jk Jl Jm Jn Jo Jp Jq Jr Js Jt Ju Jv Jw Jx Jy Jz Y0 Y1 Y2 Y3 Y4 Y5 Y6 Y7 Y8 Y9 Ya Yb Yc => ih (i + 1) K6 K7 K8 K9 Ka Kb Kc Kd Kg Kh Ki Kj Kk Kl Km Kn Ko Kp Kq Kr Ks Kt Ku Kv Kw Kx Ky Kz J0 J1 J2 J3 J4 J5 J6 J7 J8 J9 Ja Jb Jc Jd Je Jf Jg Jh Ji Jj Jk Jl Jm Jn Jo Jp Jq Jr Js Jt Ju Jv Jw Jx Jy Jz Y0 Y1 Y2 Y3 Y4 Y5 Y6 Y7 Y8 Y9 Ya Yb Yc (by omega) (by omega)
    obtain ⟨id1, o1, b1, rfl, hb1, hc1⟩ := hc.get h1
    obtain ⟨id2, o2, b2, rfl, hb2, hc2⟩ := hv.get h2
    obtain ⟨id3, o3, b3, rfl, hb3, hc3⟩ := hm.get h3
    have l1 : ((i : Int) < vs.length) := by omega
    have l2 : ((i : Int) < ms.length) := by omega
    have g1 : cs.getD i 0 = cs[i] := by rw [List.getD_eq_getElem?_getD, List.getElem?_eq_getElem h1]; rfl
    have g2 : vs.getD i 0 = vs[i] := by rw [List.getD_eq_getElem?_getD, List.getElem?_eq_getElem h2]; rfl
    have g3 : ms.getD i 0 = ms[i] := by rw [List.getD_eq_getElem?_getD, List.getElem?_eq_getElem h3]; rfl
    obtain ⟨r1, r2⟩ := wf_i64 (hc.rng cs[i] (List.getElem_mem h1))
    obtain ⟨r3, r4⟩ := wf_i64 (hv.rng vs[i] (List.getElem_mem h2))
    have he := fun H R => error_r (h := H) (R := R) (m := ms[i]) (a := a) (b := b) r1 r2 r3 r4
    obtain ⟨t1, t2⟩ := tot_rng a b cs vs ms i
    obtain ⟨e1, e2⟩ := err_sq cs[i] vs[i] ms[i] a b
    obtain ⟨e3, e4⟩ := errI_rng cs[i] vs[i] ms[i] a b
    have hT : tot a b cs vs ms (i + 1) = tot a b cs vs ms i + errI cs[i] vs[i] ms[i] a b * errI cs[i] vs[i] ms[i] a b := by rw [tot, g1, g2, g3]
    have hd : (ms.drop i).all mOk = (mOk ms[i] && (ms.drop (i + 1)).all mOk) := by rw [List.drop_eq_getElem_cons h3, List.all_cons]
    rw [hd]
    rw [hT] at ih'
    generalize (ms.drop (i + 1)).all mOk = rest at *
    generalize errI cs[i] vs[i] ms[i] a b = e at *
    generalize tot a b cs vs ms i = T at *
    obtain ⟨f1, f2⟩ := mul_le_int (a := w) (b := e) (c := 16) (d := 32767) hw0 hw1 e3 e4
    obtain ⟨f3, f4⟩ := mul_le_int (a := w) (b := e * e) (c := 16) (d := 1073676289) hw0 hw1 e1 e2
    obtain ⟨f5, f6⟩ := mul_le_int (a := w) (b := T) (c := 16) (d := 4096 * 1073676289) hw0 hw1 t1 (by omega)
    have w1 : IntKind.i64.wrap (w * e) = w * e := wrapI (by omega) (by omega)
    have w2 : IntKind.i64.wrap (w * e * e) = w * (e * e) := by rw [Int.mul_assoc]; exact wrapI (by omega) (by omega)
    have w3 : IntKind.i64.wrap (w * T + w * (e * e)) = w * (T + e * e) := by rw [Int.mul_add]; exact wrapI (by omega) (by omega)
    generalize ((i + 1 : Nat) : Int) = i1 at *
    generalize cs[i] = c at *
    generalize vs[i] = v at *
    generalize ms[i] = m at *
    rw [ok_round, l59_0, L59_0a, L59_0b]
    by_cases m1 : m < 0
    · have hmo : mOk m = false := by simp [mOk]; omega
      simp [k_guard, hlt, l1, l2, h1, h2, h3, hb1, hb2, hb3, hc1, hc2, hc3, m1, hmo, fin59]
    · by_cases m2 : 60 < m
      · have hmo : mOk m = false := by simp [mOk]; omega
        simp [k_guard, hlt, l1, l2, h1, h2, h3, hb1, hb2, hb3, hc1, hc2, hc3, m1, m2, hmo, fin59]
      · have hmo : mOk m = true := by simp [mOk]; omega
        simp [k_guard, hlt, l1, l2, h1, h2, h3, hb1, hb2, hb3, hc1, hc2, hc3, m1, m2, hmo, he, w1, w2, w3, hw, ih']
theorem total_r (hc : Rk .i64 h s cs) (hv : Rk .i64 h t vs) (hm : Rk .i64 h u ms) {a b w : Int} :
    Ret tab 59 [s, t, u, .int .i64 a, .int .i64 b, .int .i64 w] h R = R (.tuple #[.int .i64 (totRes a b w cs vs ms).1, .int .i64 (totRes a b w cs vs ms).2]) h := by
  rw [enter59, B59]
  obtain ⟨sa, sc, hs⟩ := hc.sl.shape
  obtain ⟨ta, tc, ht⟩ := hv.sl.shape
  obtain ⟨ua, uc, hu⟩ := hm.sl.shape
  unfold totRes
  by_cases hl1 : cs.length = vs.length
  rotate_left
  · have hl1' : ((cs.length : Int) != vs.length) = true := by simp; omega
    simp [k_guard, hs, ht, hu, hl1, hl1', fin59]
  have hl1' : ((cs.length : Int) != vs.length) = false := by simp; omega
  by_cases hl2 : cs.length = ms.length
  rotate_left
  · have hl2' : ((cs.length : Int) != ms.length) = true := by simp; omega
    rw [if_pos (.inr hl2)]
    simp [k_guard, hs, ht, hu, hl1', hl2', fin59]
  have hl2' : ((cs.length : Int) != ms.length) = false := by simp; omega
  rw [if_neg (by omega)]
  by_cases hl : 4096 < cs.length
  · have hl' : (4096 : Int) < cs.length := by omega
    rw [if_pos hl]
    simp [k_guard, hs, ht, hu, hl1', hl2', hl', fin59]
  have hl' : ¬ (4096 : Int) < cs.length := by omega
  rw [if_neg hl]
  have hq := fun H R => qvalid_r (h := H) (R := R) (a := a) (b := b)
  by_cases hqo : QOk a b
  rotate_left
  · rw [if_pos (.inl hqo)]
    simp [k_guard, hs, ht, hu, hl1', hl2', hl', hq, hqo, fin59]
  by_cases hw0 : w < 0
  · rw [if_pos (.inr (.inl hw0))]
    simp [k_guard, hs, ht, hu, hl1', hl2', hl', hq, hqo, hw0, fin59]
  by_cases hw1 : 16 < w
  · rw [if_pos (.inr (.inr hw1))]
    simp [k_guard, hs, ht, hu, hl1', hl2', hl', hq, hqo, hw0, hw1, fin59]
  rw [if_neg (by intro hx; rcases hx with hx | hx | hx; exact hx hqo; exact hw0 hx; exact hw1 hx)]
  obtain ⟨t1, t2⟩ := tot_rng a b cs vs ms cs.length
  obtain ⟨p1, p2⟩ := mul_le_int (a := tot a b cs vs ms cs.length) (b := w) (c := 4096 * 1073676289) (d := 16) t1 (by omega) (by omega) (by omega)
  have hwr : IntKind.i64.wrap (tot a b cs vs ms cs.length * w) = tot a b cs vs ms cs.length * w := wrapI (by omega) (by omega)
  have hL := fun K6 K7 K8 K9 Ka Kb Kc Kd Kg Kh Ki Kj Kk Kl Km Kn Ko Kp Kq Kr Ks Kt Ku Kv Kw Kx Ky Kz J0 J1 J2 J3 J4 J5 J6 J7 J8 J9 Ja Jb Jc Jd Je Jf Jg Jh Ji Jj Jk Jl Jm Jn Jo Jp Jq Jr Js Jt Ju Jv Jw Jx Jy Jz Y0 Y1 Y2 Y3 Y4 Y5 Y6 Y7 Y8 Y9 Ya Yb Yc => total_loop_r (R := R) hc hv hm hl1 hl2 (by omega) (by omega) (by omega) (a := a) (b := b) (w := w) (res := R (.tuple #[.int .i64 (tot a b cs vs ms cs.length * w), .int .i64 0]) h)
    (k := [.code ((RCode.region [⟨some 84, .mov (.tmp 14), none⟩, ⟨some 12, .mov (.tmp 84), none⟩, ⟨some 13, .mov (.const (.int .i64 0)), none⟩] []).seq .ret)])
    (fun K6 K7 K8 K9 Ka Kb Kc Kd Kf Kg Kh Ki Kj Kk Kl Km Kn Ko Kp Kq Kr Ks Kt Ku Kv Kw Kx Ky Kz J0 J1 J2 J3 J4 J5 J6 J7 J8 J9 Ja Jb Jc Jd Je Jf Jg Jh Ji Jj Jk Jl Jm Jn Jo Jp Jq Jr Js Jt Ju Jv Jw Jx Jy Jz Y0 Y1 Y2 Y3 Y4 Y5 Y6 Y7 Y8 Y9 Ya Yb Yc => by simp [Int.mul_comm w, fin59]) cs.length 0 K6 K7 K8 K9 Ka Kb Kc Kd Kg Kh Ki Kj Kk Kl Km Kn Ko Kp Kq Kr Ks Kt Ku Kv Kw Kx Ky Kz J0 J1 J2 J3 J4 J5 J6 J7 J8 J9 Ja Jb Jc Jd Je Jf Jg Jh Ji Jj Jk Jl Jm Jn Jo Jp Jq Jr Js Jt Ju Jv Jw Jx Jy Jz Y0 Y1 Y2 Y3 Y4 Y5 Y6 Y7 Y8 Y9 Ya Yb Yc (by omega) (by omega)
  simp only [List.drop_zero] at hL
  have t0 : tot a b cs vs ms 0 = 0 := rfl
  rw [t0, Int.mul_zero] at hL
  simp only [Int.cast_ofNat_Int] at hL
  rw [hs, ht, hu] at *
  generalize ms.all mOk = A at *
  cases A <;> simp [k_guard, hl1', hl2', hl', hq, hqo, hw0, hw1] <;> rw [hL] <;> simp
end
def wgt : Nat → Int
  | 0 => 1
  | n + 1 => min (4 * wgt n) 16
theorem wgt_rng : ∀ n : Nat, 1 ≤ wgt n ∧ wgt n ≤ 16
  | 0 => by simp [wgt]
  | n + 1 => by
    have := wgt_rng n
    rw [wgt]; omega
def LvOk (levels : Int) : Prop := 0 ≤ levels ∧ levels ≤ 5
instance (l : Int) : Decidable (LvOk l) := by unfold LvOk; exact inferInstance
def PlOk (levels index : Int) : Prop := 0 ≤ index ∧ LvOk levels ∧ index < 3 * levels + 1
instance (l i : Int) : Decidable (PlOk l i) := by unfold PlOk; exact inferInstance
def lvl (levels index : Int) : Int := if index = 0 then levels else levels - (index + 2) / 3 + 1
def weightI (levels index : Int) : Int := if PlOk levels index then wgt (lvl levels index - 1).toNat else 0
theorem lvl_rng {levels index : Int} (h : PlOk levels index) : 0 ≤ lvl levels index ∧ lvl levels index ≤ 5 := by
  obtain ⟨h1, ⟨h2, h3⟩, h4⟩ := h
  unfold lvl
  split <;> omega

section
variable {h : Heap} {R : Value → Heap → Prop}
theorem count_c {l : Int} : Ret tab 146 [.int .i64 l] h R = R (.int .i64 (if LvOk l then 3 * l + 1 else 0)) h := by
  rw [enter146, B146]
  have hv : ∀ H R, Ret tab 172 [.int .i64 l] H R = R (.bool (decide (LvOk l))) H := by
    intro H R
    rw [enter172, B172]
    by_cases h1 : 0 ≤ l
    · by_cases h2 : l ≤ 5 <;> simp [k_guard, h1, h2, LvOk, fin172]
    · simp [k_guard, h1, LvOk, fin172]
  by_cases hl : LvOk l
  · obtain ⟨h1, h2⟩ := hl
    have w1 : IntKind.i64.wrap (3 * l) = 3 * l := wrapI (by omega) (by omega)
    have w2 : IntKind.i64.wrap (3 * l + 1) = 3 * l + 1 := wrapI (by omega) (by omega)
    simp [hv, w1, w2, LvOk, h1, h2, fin146]
  · simp [hv, hl, fin146]
theorem count_r {l : Int} : Ret tab 147 [.int .i64 l] h R = R (.int .i64 (if LvOk l then 3 * l + 1 else 0)) h := by
  rw [enter147, B147]
  by_cases h1 : l < 0
  · have : ¬ LvOk l := by unfold LvOk; omega
    simp [k_guard, h1, this, fin147]
  · by_cases h2 : 5 < l
    · have : ¬ LvOk l := by unfold LvOk; omega
      simp [k_guard, h1, h2, this, fin147]
    · have : LvOk l := by unfold LvOk; omega
      have w1 : IntKind.i64.wrap (3 * l) = 3 * l := wrapI (by omega) (by omega)
      have w2 : IntKind.i64.wrap (3 * l + 1) = 3 * l + 1 := wrapI (by omega) (by omega)
      simp [k_guard, h1, h2, w1, w2, this, fin147]
theorem place_c {l i : Int} : ∃ a b : Int, (PlOk l i → a = lvl l i) ∧ ∀ R, Ret tab 107 [.int .i64 i, .int .i64 l] h R = R (.tuple #[.int .i64 a, .int .i64 b, .bool (decide (PlOk l i))]) h := by
  have hc := fun H R => count_c (h := H) (R := R) (l := l)
  by_cases hp : PlOk l i
  · obtain ⟨h1, h2, h3⟩ := hp
    have h2' := h2
    obtain ⟨h4, h5⟩ := h2'
    have n1 : ¬ i < 0 := by omega
    have n2 : ¬ 3 * l + 1 ≤ i := by omega
    have hpd : decide (PlOk l i) = true := decide_eq_true ⟨h1, h2, h3⟩
    rw [hpd]
    by_cases h0 : i = 0
    · subst h0
      refine ⟨l, 0, fun _ => by simp [lvl], fun R => ?_⟩
      rw [enter107, B107]
      simp [k_guard, hc, h2, n2, fin107]
    · have h0' : (i == 0) = false := by simp [h0]
      have w1 : IntKind.i64.wrap (i + 2) = i + 2 := wrapI (by omega) (by omega)
      have d1 : (i + 2).tdiv 3 = (i + 2) / 3 := Int.tdiv_eq_ediv_of_nonneg (by omega)
      have w2 : IntKind.i64.wrap ((i + 2) / 3) = (i + 2) / 3 := wrapI (by omega) (by omega)
      have w3 : IntKind.i64.wrap (l - (i + 2) / 3) = l - (i + 2) / 3 := wrapI (by omega) (by omega)
      have w4 : IntKind.i64.wrap (l - (i + 2) / 3 + 1) = l - (i + 2) / 3 + 1 := wrapI (by omega) (by omega)
      have w5 : IntKind.i64.wrap (3 * ((i + 2) / 3)) = 3 * ((i + 2) / 3) := wrapI (by omega) (by omega)
      have w6 : IntKind.i64.wrap (i - 3 * ((i + 2) / 3)) = i - 3 * ((i + 2) / 3) := wrapI (by omega) (by omega)
      have w7 : IntKind.i64.wrap (i - 3 * ((i + 2) / 3) + 3) = i - 3 * ((i + 2) / 3) + 3 := wrapI (by omega) (by omega)
      refine ⟨l - (i + 2) / 3 + 1, i - 3 * ((i + 2) / 3) + 3, fun _ => by simp [lvl, h0], fun R => ?_⟩
      rw [enter107, B107]
      simp [k_guard, hc, h2, n1, n2, h0, h0', w1, d1, w2, w3, w4, w5, w6, w7, fin107]
  · refine ⟨0, 0, fun h => absurd h hp, fun R => ?_⟩
    rw [decide_eq_false hp, enter107, B107]
    by_cases h1 : i < 0
    · simp [k_guard, h1, fin107]
    · have hle : (if LvOk l then 3 * l + 1 else 0) ≤ i := by
        split
        · rename_i hl
          apply Classical.byContradiction
          intro hx
          exact hp ⟨by omega, hl, by omega⟩
        · omega
      simp [k_guard, hc, h1, hle, fin107]
theorem place_r {l i : Int} : ∃ a b : Int, (PlOk l i → a = lvl l i) ∧ ∀ R, Ret tab 108 [.int .i64 i, .int .i64 l] h R = R (.tuple #[.int .i64 a, .int .i64 b, .bool (decide (PlOk l i))]) h := by
  have hc := fun H R => count_r (h := H) (R := R) (l := l)
  by_cases hp : PlOk l i
  · obtain ⟨h1, h2, h3⟩ := hp
    have h2' := h2
    obtain ⟨h4, h5⟩ := h2'
    have n1 : ¬ i < 0 := by omega
    have n2 : ¬ 3 * l + 1 ≤ i := by omega
    have hpd : decide (PlOk l i) = true := decide_eq_true ⟨h1, h2, h3⟩
    rw [hpd]
    by_cases h0 : i = 0
    · subst h0
      refine ⟨l, 0, fun _ => by simp [lvl], fun R => ?_⟩
      rw [enter108, B108]
      simp [k_guard, hc, h2, n2, fin108]
    · have h0' : (i == 0) = false := by simp [h0]
      have w1 : IntKind.i64.wrap (i + 2) = i + 2 := wrapI (by omega) (by omega)
      have d1 : (i + 2).tdiv 3 = (i + 2) / 3 := Int.tdiv_eq_ediv_of_nonneg (by omega)
      have w2 : IntKind.i64.wrap ((i + 2) / 3) = (i + 2) / 3 := wrapI (by omega) (by omega)
      have w3 : IntKind.i64.wrap (l - (i + 2) / 3) = l - (i + 2) / 3 := wrapI (by omega) (by omega)
      have w4 : IntKind.i64.wrap (l - (i + 2) / 3 + 1) = l - (i + 2) / 3 + 1 := wrapI (by omega) (by omega)
      have w5 : IntKind.i64.wrap (3 * ((i + 2) / 3)) = 3 * ((i + 2) / 3) := wrapI (by omega) (by omega)
      have w6 : IntKind.i64.wrap (i - 3 * ((i + 2) / 3)) = i - 3 * ((i + 2) / 3) := wrapI (by omega) (by omega)
      have w7 : IntKind.i64.wrap (i - 3 * ((i + 2) / 3) + 3) = i - 3 * ((i + 2) / 3) + 3 := wrapI (by omega) (by omega)
      refine ⟨l - (i + 2) / 3 + 1, i - 3 * ((i + 2) / 3) + 3, fun _ => by simp [lvl, h0], fun R => ?_⟩
      rw [enter108, B108]
      simp [k_guard, hc, h2, n1, n2, h0, h0', w1, d1, w2, w3, w4, w5, w6, w7, fin108]
  · refine ⟨0, 0, fun h => absurd h hp, fun R => ?_⟩
    rw [decide_eq_false hp, enter108, B108]
    by_cases h1 : i < 0
    · simp [k_guard, h1, fin108]
    · have hle : (if LvOk l then 3 * l + 1 else 0) ≤ i := by
        split
        · rename_i hl
          apply Classical.byContradiction
          intro hx
          exact hp ⟨by omega, hl, by omega⟩
        · omega
      simp [k_guard, hc, h1, hle, fin108]

theorem weight_loop_c {m : Nat} {x : Int} (hx : x = m ∨ (m = 0 ∧ x ≤ 0)) (hm : m ≤ 5) {k : List RItem} {res : Prop} {v0 v1 v5 : Value}
    (hk : ∀ K0 K1 K2 K3 K4 K5 K6 K7 K9 Ka Kb Kc Kd Ke Kf Kg Kh Ki Kj Kk Kl Km Kn Ko Kp Kq : Value, Ok tab R53 k #[K0,K1,K2,K3,K4,K5,K6,K7,.int .i64 (wgt m),K9,Ka,Kb,Kc,Kd,Ke,Kf,Kg,Kh,Ki,Kj,Kk,Kl,Km,Kn,Ko,Kp,Kq] h R = res) :
    ∀ (n i : Nat) (K0 K1 K2 K3 K4 K5 K6 K7 K9 Ka Kb Kc Kd Ke Kf Kg Kh Ki Kl Km Kn Ko Kp Kq : Value), n = m - i → i ≤ m →
      Ok tab R53 (.inLoop L53_0 :: .inBlock 0 :: k) #[K0,K1,K2,K3,K4,K5,K6,K7,.int .i64 (wgt i),K9,Ka,Kb,Kc,Kd,Ke,Kf,Kg,Kh,Ki,.int .i64 x,.int .i64 i,Kl,Km,Kn,Ko,Kp,Kq] h R = res := by
  intro n
  induction n with
  | zero =>
    intro i K0 K1 K2 K3 K4 K5 K6 K7 K9 Ka Kb Kc Kd Ke Kf Kg Kh Ki Kl Km Kn Ko Kp Kq hn hi
    have him : i = m := by omega
    subst him
    have hlt : ¬ ((i : Int) < x) := by omega
    rw [ok_round, l53_0, L53_0a, L53_0b]
    simp [hlt, hk]
  | succ n ih =>
    intro i K0 K1 K2 K3 K4 K5 K6 K7 K9 Ka Kb Kc Kd Ke Kf Kg Kh Ki Kl Km Kn Ko Kp Kq hn hi
    have hlt : ((i : Int) < x) := by omega
    have hw : IntKind.i64.wrap ((i : Int) + 1) = ((i + 1 : Nat) : Int) := wrapN (n := i + 1) (by omega)
    have ih' := fun K0 K1 K2 K3 K4 K5 K6 K7 K9 Ka Kb Kc Kd Ke Kf Kg Kh Ki Kl Km Kn Ko Kp Kq => ih (i + 1) K0 K1 K2 K3 K4 K5 K6 K7 K9 Ka Kb Kc Kd Ke Kf Kg Kh Ki Kl Km Kn Ko Kp Kq (by omega) (by omega)
    have hr := wgt_rng i
    have e : wgt (i + 1) = min (4 * wgt i) 16 := rfl
    rw [e] at ih'
    generalize wgt i = W at *
    have w1 : IntKind.i64.wrap (4 * W) = 4 * W := wrapI (by omega) (by omega)
    generalize ((i + 1 : Nat) : Int) = i1 at *
    rw [ok_round, l53_0, L53_0a, L53_0b]
    simp [hlt, fold1, foldO, min2_eq, w1, hw, ih']
theorem weight_c {l i : Int} : Ret tab 53 [.int .i64 l, .int .i64 i] h R = R (.int .i64 (weightI l i)) h := by
  obtain ⟨a, b, ha, hp⟩ := place_c (h := h) (l := l) (i := i)
  rw [enter53, B53]
  unfold weightI
  by_cases hP : PlOk l i
  · have hr := lvl_rng hP
    rw [ha hP] at hp
    rw [decide_eq_true hP] at hp
    rw [if_pos hP]
    generalize lvl l i = v at *
    have hw : IntKind.i64.wrap (v - 1) = v - 1 := wrapI (by omega) (by omega)
    have hL := fun K0 K1 K2 K3 K4 K5 K6 K7 K9 Ka Kb Kc Kd Ke Kf Kg Kh Ki Kl Km Kn Ko Kp Kq => weight_loop_c (h := h) (R := R) (m := (v - 1).toNat) (x := v - 1) (by omega) (by omega) (res := R (.int .i64 (wgt (v - 1).toNat)) h) (v0 := undef) (v1 := undef) (v5 := undef)
      (k := [.code ((RCode.region [⟨some 26, .mov (.tmp 8), none⟩, ⟨some 4, .mov (.tmp 26), none⟩] []).seq .ret)])
      (fun K0 K1 K2 K3 K4 K5 K6 K7 K9 Ka Kb Kc Kd Ke Kf Kg Kh Ki Kj Kk Kl Km Kn Ko Kp Kq => by simp [fin53]) (v - 1).toNat 0 K0 K1 K2 K3 K4 K5 K6 K7 K9 Ka Kb Kc Kd Ke Kf Kg Kh Ki Kl Km Kn Ko Kp Kq (by omega) (by omega)
    simp only [Int.cast_ofNat_Int] at hL
    have w0 : wgt 0 = 1 := rfl
    rw [w0] at hL
    generalize wgt (v - 1).toNat = W at *
    simp [hp, hw]
    rw [hL]
  · rw [decide_eq_false hP] at hp
    rw [if_neg hP]
    simp [hp, fin53]
theorem weight_loop_r {m : Nat} {x : Int} (hx : x = m + 1 ∨ (m = 0 ∧ x ≤ 1)) (hm : m ≤ 5) {k : List RItem} {res : Prop}
    (hk : ∀ K0 K1 K2 K3 K4 K5 K6 K7 K9 Ka Kb Kc Kd Ke Kf Kg Kh Ki Kj Kk Kl Km Kn Ko Kp Kq Kr : Value, Ok tab R54 k #[K0,K1,K2,K3,K4,K5,K6,K7,.int .i64 (wgt m),K9,Ka,Kb,Kc,Kd,Ke,Kf,Kg,Kh,Ki,Kj,Kk,Kl,Km,Kn,Ko,Kp,Kq,Kr] h R = res) :
    ∀ (n i : Nat) (K0 K1 K2 K3 K4 K6 K7 Ka Kb Kc Kd Ke Kf Kg Kh Ki Kj Kk Kl Km Kn Ko Kp Kq Kr : Value), n = m - i → i ≤ m →
      Ok tab R54 (.inLoop L54_0 :: .inBlock 0 :: k) #[K0,K1,K2,K3,K4,.int .i64 x,K6,K7,.int .i64 (wgt i),.int .i64 ((i + 1 : Nat) : Int),Ka,Kb,Kc,Kd,Ke,Kf,Kg,Kh,Ki,Kj,Kk,Kl,Km,Kn,Ko,Kp,Kq,Kr] h R = res := by
  intro n
  induction n with
  | zero =>
    intro i K0 K1 K2 K3 K4 K6 K7 Ka Kb Kc Kd Ke Kf Kg Kh Ki Kj Kk Kl Km Kn Ko Kp Kq Kr hn hi
    have him : i = m := by omega
    subst him
    have hlt : ¬ (((i + 1 : Nat) : Int) < x) := by omega
    generalize ((i + 1 : Nat) : Int) = i1 at *
    rw [ok_round, l54_0, L54_0a, L54_0b]
    simp [hlt, hk]
  | succ n ih =>
    intro i K0 K1 K2 K3 K4 K6 K7 Ka Kb Kc Kd Ke Kf Kg Kh Ki Kj Kk Kl Km Kn Ko Kp Kq Kr hn hi
    have hlt : (((i + 1 : Nat) : Int) < x) := by omega
    have hw : IntKind.i64.wrap (((i + 1 : Nat) : Int) + 1) = ((i + 1 + 1 : Nat) : Int) := wrapN (n := i + 1 + 1) (by omega)
    have ih' := fun K0 K1 K2 K3 K4 K6 K7 Ka Kb Kc Kd Ke Kf Kg Kh Ki Kj Kk Kl Km Kn Ko Kp Kq Kr => ih (i + 1) K0 K1 K2 K3 K4 K6 K7 Ka Kb Kc Kd Ke Kf Kg Kh Ki Kj Kk Kl Km Kn Ko Kp Kq Kr (by omega) (by omega)
    have hr := wgt_rng i
    have e : wgt (i + 1) = min (4 * wgt i) 16 := rfl
    rw [e] at ih'
    generalize wgt i = W at *
    have w1 : IntKind.i64.wrap (4 * W) = 4 * W := wrapI (by omega) (by omega)
    have e2 : min 16 (4 * W) = min (4 * W) 16 := by omega
    generalize ((i + 1 + 1 : Nat) : Int) = i2 at *
    generalize ((i + 1 : Nat) : Int) = i1 at *
    rw [ok_round, l54_0, L54_0a, L54_0b]
    simp [hlt, fold1, foldO, min2_eq, w1, e2, hw, ih']
theorem weight_r {l i : Int} : Ret tab 54 [.int .i64 l, .int .i64 i] h R = R (.int .i64 (weightI l i)) h := by
  obtain ⟨a, b, ha, hp⟩ := place_r (h := h) (l := l) (i := i)
  rw [enter54, B54]
  unfold weightI
  by_cases hP : PlOk l i
  · have hr := lvl_rng hP
    rw [ha hP] at hp
    rw [decide_eq_true hP] at hp
    rw [if_pos hP]
    generalize lvl l i = v at *
    have hL := fun K0 K1 K2 K3 K4 K6 K7 Ka Kb Kc Kd Ke Kf Kg Kh Ki Kj Kk Kl Km Kn Ko Kp Kq Kr => weight_loop_r (h := h) (R := R) (m := (v - 1).toNat) (x := v) (by omega) (by omega) (res := R (.int .i64 (wgt (v - 1).toNat)) h)
      (k := [.code ((RCode.region [⟨some 27, .mov (.tmp 8), none⟩, ⟨some 4, .mov (.tmp 27), none⟩] []).seq .ret)])
      (fun K0 K1 K2 K3 K4 K5 K6 K7 K9 Ka Kb Kc Kd Ke Kf Kg Kh Ki Kj Kk Kl Km Kn Ko Kp Kq Kr => by simp [fin54]) (v - 1).toNat 0 K0 K1 K2 K3 K4 K6 K7 Ka Kb Kc Kd Ke Kf Kg Kh Ki Kj Kk Kl Km Kn Ko Kp Kq Kr (by omega) (by omega)
    simp only [Nat.zero_add, Int.cast_ofNat_Int] at hL
    have w0 : wgt 0 = 1 := rfl
    rw [w0] at hL
    generalize wgt (v - 1).toNat = W at *
    simp [hp]
    rw [hL]
  · rw [decide_eq_false hP] at hp
    rw [if_neg hP]
    simp [hp, fin54]
end
def qzP (n step dead : Int) : Int := if n < thr step dead then 0 else 1 + (n - thr step dead) / step
def quantI (c step dead : Int) : Int := if c < 0 then - qzP (-c) step dead else qzP c step dead
theorem qzP_rng {n step dead : Int} (h : QOk step dead) (h0 : 0 ≤ n) (h1 : n ≤ 1073741824) : 0 ≤ qzP n step dead ∧ qzP n step dead ≤ 1073741824 := by
  obtain ⟨t1, t2, _, _⟩ := thr_rng h
  unfold qzP
  split
  · omega
  · have h2 := Int.ediv_le_self step (show 0 ≤ n - thr step dead by omega)
    have h3 := Int.ediv_nonneg (show 0 ≤ n - thr step dead by omega) (show 0 ≤ step by have := h.1; omega)
    omega
/-- The middle is near. -/
theorem near {n step dead : Int} (h : QOk step dead) (h0 : 0 ≤ n) (h1 : n ≤ 1073741824) (hq : qzP n step dead ≠ 0) :
    1 ≤ qzP n step dead ∧ 2 * max (n - recP (qzP n step dead) 0 step dead) (recP (qzP n step dead) 0 step dead - n) ≤ step := by
  obtain ⟨t1, t2, _, _⟩ := thr_rng h
  obtain ⟨s1, s2, _, _⟩ := h
  by_cases hlt : n < thr step dead
  · exfalso; apply hq; unfold qzP; rw [if_pos hlt]
  have e : qzP n step dead = 1 + (n - thr step dead) / step := by unfold qzP; rw [if_neg hlt]
  have h3 := Int.ediv_nonneg (show 0 ≤ n - thr step dead by omega) (show 0 ≤ step by omega)
  have hdm := Int.emod_add_mul_ediv (n - thr step dead) step
  have hm0 := Int.emod_nonneg (n - thr step dead) (show step ≠ 0 by omega)
  have hm1 := Int.emod_lt_of_pos (n - thr step dead) (show 0 < step by omega)
  rw [e]
  refine ⟨by omega, ?_⟩
  unfold recP mid2
  have e2 : (1 + (n - thr step dead) / step - 1) * step = step * ((n - thr step dead) / step) := by rw [Int.mul_comm]; congr 1; omega
  rw [e2]
  have e3 : (2 : Int) ^ (0 : Int).toNat * step = step := by simp
  rw [e3]
  generalize step * ((n - thr step dead) / step) = A at *
  generalize (n - thr step dead) % step = r at *
  generalize thr step dead = t at *
  omega

theorem half_law {c step dead : Int} (h : QOk step dead) (h0 : -1073741824 ≤ c) (h1 : c ≤ 1073741824) :
    (quantI c step dead = 0 → errI c (quantI c step dead) 0 step dead < max (thr step dead) 1) ∧ (quantI c step dead ≠ 0 → 2 * errI c (quantI c step dead) 0 step dead ≤ step) := by
  obtain ⟨t1, t2, _, _⟩ := thr_rng h
  have hm : MOk 0 step dead := ⟨h, by omega, by omega⟩
  refine ⟨fun hq => ?_, fun hq => ?_⟩
  · rw [hq]
    have hr : recon 0 0 step dead = 0 := by unfold recon; rw [if_pos (.inl rfl)]
    unfold errI
    rw [hr]
    unfold quantI at hq
    split at hq
    · have : qzP (-c) step dead = 0 := by omega
      unfold qzP at this
      split at this
      · omega
      · have h3 := Int.ediv_nonneg (show 0 ≤ -c - thr step dead by omega) (show 0 ≤ step by have := h.1; omega)
        omega
    · unfold qzP at hq
      split at hq
      · omega
      · have h3 := Int.ediv_nonneg (show 0 ≤ c - thr step dead by omega) (show 0 ≤ step by have := h.1; omega)
        omega
  · by_cases hc : c < 0
    · have e : quantI c step dead = - qzP (-c) step dead := by unfold quantI; rw [if_pos hc]
      rw [e] at hq ⊢
      obtain ⟨n1, n2⟩ := near (n := -c) h (by omega) (by omega) (by omega)
      have hr : recon (- qzP (-c) step dead) 0 step dead = - recP (qzP (-c) step dead) 0 step dead := by
        unfold recon
        rw [if_neg (by intro hx; rcases hx with hx | hx; omega; exact hx hm), if_pos (by omega), Int.neg_neg]
      unfold errI
      rw [hr]
      generalize recP (qzP (-c) step dead) 0 step dead = r at *
      omega
    · have e : quantI c step dead = qzP c step dead := by unfold quantI; rw [if_neg hc]
      rw [e] at hq ⊢
      obtain ⟨n1, n2⟩ := near (n := c) h (by omega) (by omega) hq
      have hr : recon (qzP c step dead) 0 step dead = recP (qzP c step dead) 0 step dead := by
        unfold recon
        rw [if_neg (by intro hx; rcases hx with hx | hx; omega; exact hx hm), if_neg (by omega)]
      unfold errI
      rw [hr]
      generalize recP (qzP c step dead) 0 step dead = r at *
      omega

section
variable {h : Heap} {R : Value → Heap → Prop}
theorem qz_pos {n a b : Int} (hq : QOk a b) (h0 : 0 ≤ n) (h1 : n ≤ 1073741824) : Ret tab 61 [.int .i64 n, .int .i64 a, .int .i64 b] h R = R (.int .i64 (qzP n a b)) h := by
  obtain ⟨t1, t2, _, _⟩ := thr_rng hq
  have hr := qzP_rng hq h0 h1
  have ht := fun H R => thr_r (h := H) (R := R) hq
  have hl := fun H R => limit_r (h := H) (R := R) (n := n) (m := 281474976710656) (by omega) (by omega)
  rw [show min (max n (-281474976710656)) 281474976710656 = n by omega] at hl
  have hneg : ¬ n < 0 := by omega
  rw [enter61, B61]
  unfold qzP at hr ⊢
  have a1 := hq.1
  have hf : ∀ H R, ¬ n < thr a b → Ret tab 100 [.int .i64 (n - thr a b), .int .i64 a] H R = R (.int .i64 ((n - thr a b) / a)) H := fun H R hx => floorDiv_c a1 (by omega) (by omega)
  have ht0 : (thr a b == 0) = false := by simp; omega
  have ht0' : ¬ thr a b = 0 := by omega
  generalize thr a b = t at *
  by_cases hlt : n < t
  · simp [ht, hl, hneg, hlt, ht0, ht0', fin61]
  · rw [if_neg hlt] at hr ⊢
    have hf' := fun H R => hf H R hlt
    have w1 : IntKind.i64.wrap (n - t) = n - t := wrapI (by omega) (by omega)
    generalize (n - t) / a = q at *
    have w2 : IntKind.i64.wrap (1 + q) = 1 + q := wrapI (by omega) (by omega)
    simp [ht, hl, hneg, hlt, ht0, ht0', w1, hf', w2, fin61]
theorem quantize_r {c a b : Int} (hq : QOk a b) (h0 : -1073741824 ≤ c) (h1 : c ≤ 1073741824) : Ret tab 61 [.int .i64 c, .int .i64 a, .int .i64 b] h R = R (.int .i64 (quantI c a b)) h := by
  unfold quantI
  by_cases hc : c < 0
  · rw [if_pos hc]
    obtain ⟨t1, t2, _, _⟩ := thr_rng hq
    have hr := qzP_rng hq (n := -c) (by omega) (by omega)
    have ht := fun H R => thr_r (h := H) (R := R) hq
    have hl := fun H R => limit_r (h := H) (R := R) (n := c) (m := 281474976710656) (by omega) (by omega)
    rw [show min (max c (-281474976710656)) 281474976710656 = c by omega] at hl
    have hp := fun H R => qz_pos (h := H) (R := R) hq (n := -c) (by omega) (by omega)
    have ht0 : (thr a b == 0) = false := by simp; omega
    have ht0' : ¬ thr a b = 0 := by omega
    have w1 : IntKind.i64.wrap (-c) = -c := wrapI (by omega) (by omega)
    generalize qzP (-c) a b = q at *
    have w2 : IntKind.i64.wrap (-q) = -q := wrapI (by omega) (by omega)
    rw [enter61, B61]
    simp [ht, hl, hc, ht0, ht0', w1, hp, w2, fin61]
  · rw [if_neg hc]
    exact qz_pos hq (by omega) h1
end
end Go.Proofs.Ytjpjohchdfoeaaa
