/-
  Reconstruction and errors, plain: what the program and the reference both reckon.
  Quantization, followed: the program's functions and the reference's.
  Values without the shift: the program and the reference.
  Reconstruction and errors, followed.
  Reconstruction and errors of the reference, followed; errors of the program.
  The distortion of coefficients, followed.
  Bits in bytes: plain facts, no program in sight.
  The arithmetic coder, plain: digits to the base 256 (the highest first), and the interval.
  The end of a codeword, plain: what the program chooses, and what the reference finds.
  The arithmetic decoder, plain: it follows the encoder.
  The program's arithmetic encoder, followed: its models, and one that is carried.
  The program's arithmetic encoder, followed: a bit is encoded.
  The program's arithmetic encoder, followed: a bit is encoded; sizes; the models set back.
  The program's arithmetic encoder, followed: a new one, its size, its models set back, the end of a codeword.
  The program's arithmetic encoder, followed: the end of a codeword.
  The program's writer of raw bits, followed.
  The state of a code block, plain: coefficients with their flags, and what the neighbours say.
  The methods of a code block, the program's and the reference's: what they read and write.
  The methods of a code block, on: neighbours, signs, writers; the reference's.
  The methods of the reference's code block.
  The contexts: the program's and the reference's are the same, at every input that occurs.
  The passes of the encoder, plain.
  The encoder's passes: what they read.
  The encoder's passes: symbols and signs.
  What receives the symbols of a segment: the arithmetic encoder, or a writer of raw bits behind an interface.
  The passes of a block, plain: what Run and Symbols come to.
  The segments of a block, followed.
  The encoder's passes: bits; the significance and the refinement pass.
  The order of the coefficients: both Scan functions.
  The encoder's passes: the significance and the refinement pass.
  The encoder's passes: the refinement pass.
  The encoder's passes: the cleanup pass.
  The encoder's passes: the cleanup pass, whole; a pass as Run performs it.
  Run of the encoder's passes.
  Rows of numbers; the number of bit planes; new blocks; the program's and the reference's.
  The reference's numbers of passes.
  Rows of symbols, compared; the symbols of all passes.
  Lists of passes, compared and made.
  Symbols: the program's and the reference's come to the same.
  Symbols, on: the whole calls.
  The block encoder, followed: the symbols of a pass, the passes of a segment.
  The block encoder, followed: the passes of a segment.
  The block encoder, followed: the sizes of a segment's passes.
  The program's arithmetic decoder follows the plain one.
  The program's reader of raw bits.
-/
import Derived.Test.YtjpjohchdfoeaaaGreatSimZ
import Derived.Test.YtjpjohchdfoeaaaGreatTab
namespace Go.Proofs.YtjpjohchdfoeaaaGreat
open Go Go.Sim
def QOk (step dead : Int) : Prop := 1 ≤ step ∧ step ≤ 65536 ∧ 8 ≤ dead ∧ dead ≤ 32
instance (step dead : Int) : Decidable (QOk step dead) := by unfold QOk; exact inferInstance
def MOk (m step dead : Int) : Prop := QOk step dead ∧ 0 ≤ m ∧ m ≤ 60
instance (m step dead : Int) : Decidable (MOk m step dead) := by unfold MOk; exact inferInstance
def thr (step dead : Int) : Int := max 1 (step * dead / 16)
def mid2 (n m step dead : Int) : Int := 2 * (thr step dead + (n - 1) * step) + (2 ^ m.toNat * step - 1)
def recP (n m step dead : Int) : Int := min (mid2 n m step dead / 2) 4294967296
def recon (v m step dead : Int) : Int :=
 if v = 0 ∨ ¬ MOk m step dead then 0 else if v < 0 then - recP (-v) m step dead else recP v m step dead
def errI (c v m step dead : Int) : Int := min (max (c - recon v m step dead) (recon v m step dead - c)) 32767
theorem mul_le_int {a b c d : Int} (h0 : 0 ≤ a) (h1 : a ≤ c) (h2 : 0 ≤ b) (h3 : b ≤ d) : 0 ≤ a * b ∧ a * b ≤ c * d :=
 ⟨Int.mul_nonneg h0 h2,Int.mul_le_mul h1 h3 h2 (by omega)⟩
theorem thr_rng {step dead : Int} (h : QOk step dead) : 1 ≤ thr step dead ∧ thr step dead ≤ 131072 ∧ 0 ≤ step * dead ∧ step * dead ≤ 2097152 := by
 obtain ⟨h1,h2,h3,h4⟩ := h
 obtain ⟨a,b⟩ := mul_le_int (a := step) (b := dead) (c := 65536) (d := 32) (by omega) h2 (by omega) h4
 unfold thr
 omega
theorem pow2_pos (n : Nat) : (1 : Int) ≤ 2 ^ n := by
 have : (0 : Int) < 2 ^ n := Int.pow_pos (by decide)
 omega
theorem recP_rng {n m step dead : Int} (h : QOk step dead) (hn : 1 ≤ n) : 0 ≤ recP n m step dead ∧ recP n m step dead ≤ 4294967296 := by
 obtain ⟨t1,t2,_,_⟩ := thr_rng h
 have hp := pow2_pos m.toNat
 have h1 : 0 ≤ (n - 1) * step := Int.mul_nonneg (by omega) (by have := h.1; omega)
 have h2 : 1 * step ≤ 2 ^ m.toNat * step := Int.mul_le_mul_of_nonneg_right hp (by have := h.1; omega)
 have h3 := h.1
 unfold recP mid2
 generalize (n - 1) * step = A at *
 generalize 2 ^ m.toNat * step = B at *
 omega
theorem recon_rng (v m step dead : Int) : -4294967296 ≤ recon v m step dead ∧ recon v m step dead ≤ 4294967296 := by
 unfold recon
 split
 ·omega
 ·rename_i h
  have hm : MOk m step dead := by
   apply Classical.byContradiction
   intro hc; exact h (.inr hc)
  split
  ·have := recP_rng (n := -v) (m := m) hm.1 (by omega); omega
  ·have := recP_rng (n := v) (m := m) hm.1 (by omega); omega
theorem errI_rng (c v m step dead : Int) : 0 ≤ errI c v m step dead ∧ errI c v m step dead ≤ 32767 := by
 unfold errI; omega
theorem err_sq (c v m step dead : Int) : 0 ≤ errI c v m step dead * errI c v m step dead ∧ errI c v m step dead * errI c v m step dead ≤ 1073676289 := by
 obtain ⟨a,b⟩ := errI_rng c v m step dead
 exact mul_le_int (c := 32767) (d := 32767) a b a b
def capM (a b cap : Int) : Int := if b > 0 ∧ a > cap / b then cap else a * b
theorem capM_cases {a b cap : Int} (ha : 0 ≤ a) (hb : 1 ≤ b) (hc : 0 ≤ cap) : 0 ≤ a * b ∧ ((capM a b cap = a * b ∧ a * b ≤ cap) ∨ (capM a b cap = cap ∧ cap < a * b)) := by
 refine ⟨Int.mul_nonneg ha (by omega),?_⟩
 unfold capM
 by_cases h : a > cap / b
 ·rw [if_pos ⟨by omega,h⟩]
  right
  refine ⟨rfl,?_⟩
  exact (Int.ediv_lt_iff_lt_mul (by omega)).1 h
 ·rw [if_neg (by omega)]
  left
  refine ⟨rfl,?_⟩
  exact (Int.le_ediv_iff_mul_le (by omega)).1 (by omega)
theorem mid_cap {n m step dead A B cap : Int} (h : MOk m step dead) (hn : 1 ≤ n) (hcap : 1125899906842624 ≤ cap)
  (hA : (A = (n - 1) * step ∧ (n - 1) * step ≤ cap) ∨ (A = cap ∧ cap < (n - 1) * step)) (hB : (B = 2 ^ m.toNat * step ∧ 2 ^ m.toNat * step ≤ cap) ∨ (B = cap ∧ cap ≤ 2 ^ m.toNat * step)) :
  0 ≤ (2 * (thr step dead + A) + (B - 1)) / 2 ∧ min ((2 * (thr step dead + A) + (B - 1)) / 2) 4294967296 = recP n m step dead := by
 obtain ⟨t1,t2,_,_⟩ := thr_rng h.1
 have hp := pow2_pos m.toNat
 have h3 := h.1.1
 have h1 : 0 ≤ (n - 1) * step := Int.mul_nonneg (by omega) (by omega)
 have h2 : 1 * step ≤ 2 ^ m.toNat * step := Int.mul_le_mul_of_nonneg_right hp (by omega)
 unfold recP mid2
 generalize (n - 1) * step = A' at *
 generalize 2 ^ m.toNat * step = B' at *
 omega
set_option linter.unusedSimpArgs false
set_option linter.unusedVariables false
theorem min2_eq {k k' : IntKind} {x y : Int} : min2V (.int k x) (.int k' y) = some (.int k (min x y)) := by
 have e : (if y < x then y else x) = min x y := by split <;> omega
 rw [min2V,e]
theorem max2_eq {k k' : IntKind} {x y : Int} : max2V (.int k x) (.int k' y) = some (.int k (max x y)) := by
 have e : (if y > x then y else x) = max x y := by split <;> omega
 rw [max2V,e]
section
variable {h : Heap} {R : RP}
theorem qvalid_c {a b : Int} : Ret tab 98 [.int .i64 a,.int .i64 b] h R = R (.bool (decide (QOk a b))) h := by
 rw [enter98,B98]
 by_cases h1 : 1 ≤ a
 ·by_cases h2 : a ≤ 65536
  ·by_cases h3 : 8 ≤ b
   ·by_cases h4 : b ≤ 32 <;> simp [k_guard,QOk,h1,h2,h3,h4,fin98]
   ·simp [k_guard,QOk,h1,h2,h3,fin98]
  ·simp [k_guard,QOk,h1,h2,fin98]
 ·simp [k_guard,QOk,h1,fin98]
theorem qvalid_r {a b : Int} : Ret tab 53 [.int .i64 a,.int .i64 b] h R = R (.bool (decide (QOk a b))) h := by
 rw [enter53,B53]
 by_cases h1 : 1 ≤ a
 ·by_cases h2 : a ≤ 65536
  ·by_cases h3 : 8 ≤ b
   ·by_cases h4 : b ≤ 32 <;> simp [k_guard,QOk,h1,h2,h3,h4,fin53]
   ·simp [k_guard,QOk,h1,h2,h3,fin53]
  ·simp [k_guard,QOk,h1,h2,fin53]
 ·simp [k_guard,QOk,h1,fin53]
theorem qgood_c {m a b : Int} : Ret tab 134 [.int .i64 m,.int .i64 a,.int .i64 b] h R = R (.bool (decide (MOk m a b))) h := by
 rw [enter134,B134]
 by_cases h1 : QOk a b
 ·by_cases h2 : 0 ≤ m
  ·by_cases h3 : m ≤ 60 <;> simp [k_guard,qvalid_c,MOk,h1,h2,h3,fin134]
  ·simp [k_guard,qvalid_c,MOk,h1,h2,fin134]
 ·simp [k_guard,qvalid_c,MOk,h1,fin134]
theorem qgood_r {m a b : Int} : Ret tab 188 [.int .i64 m,.int .i64 a,.int .i64 b] h R = R (.bool (decide (MOk m a b))) h := by
 rw [enter188,B188]
 by_cases h1 : QOk a b
 ·by_cases h2 : 0 ≤ m
  ·by_cases h3 : m ≤ 60 <;> simp [k_guard,qvalid_r,MOk,h1,h2,h3,fin188]
  ·simp [k_guard,qvalid_r,MOk,h1,h2,fin188]
 ·simp [k_guard,qvalid_r,MOk,h1,fin188]
theorem qlimit_c {n lo hi : Int} : Ret tab 137 [.int .i64 n,.int .i64 lo,.int .i64 hi] h R = R (.int .i64 (min (max n lo) hi)) h := by
 rw [enter137,B137]
 simp [fold1,foldO,max2_eq,min2_eq,fin137]
theorem limit_r {n m : Int} (hm : -9223372036854775807 ≤ m) (hm2 : m ≤ 9223372036854775807) : Ret tab 189 [.int .i64 n,.int .i64 m] h R = R (.int .i64 (min (max n (-m)) m)) h := by
 have hw : IntKind.i64.wrap (-m) = -m := wrapI (by omega) (by omega)
 rw [enter189,B189]
 simp [hw,fold1,foldO,max2_eq,min2_eq,fin189]
theorem floorDiv_c {a b : Int} (hb : 1 ≤ b) (ha : -9223372036854775808 ≤ a) (ha2 : a < 9223372036854775808) : Ret tab 78 [.int .i64 a,.int .i64 b] h R = R (.int .i64 (a / b)) h := by
 rw [enter78,B78]
 have h1 : ¬ b < 1 := by omega
 have h0 : ¬ b = 0 := by omega
 have hle : -9223372036854775808 ≤ a.tdiv b ∧ a.tdiv b < 9223372036854775808 := by
  rcases Int.le_total 0 a with h | h
  ·rw [Int.tdiv_eq_ediv_of_nonneg h]
   have := Int.ediv_le_self b h
   have := Int.ediv_nonneg h (show 0 ≤ b by omega)
   omega
  ·have e : a.tdiv b = - ((-a) / b) := by
    rw [← Int.tdiv_eq_ediv_of_nonneg (by omega),Int.neg_tdiv]; omega
   have := Int.ediv_le_self b (show 0 ≤ -a by omega)
   have := Int.ediv_nonneg (show 0 ≤ -a by omega) (show 0 ≤ b by omega)
   omega
 have hw := wrapI hle.1 hle.2
 by_cases hm : a.tmod b < 0
 ·have hq : a.tdiv b - 1 = a / b := by
   have e1 := Int.tmod_add_mul_tdiv a b
   have e2 := Int.emod_add_mul_ediv a b
   have b1 := Int.emod_nonneg a h0
   have b2 := Int.emod_lt_of_pos a (show 0 < b by omega)
   have b3 : -b < a.tmod b := by have := Int.lt_tmod_of_pos a (show 0 < b by omega); omega
   have e3 : b * (a / b - (a.tdiv b - 1)) = a.tmod b + b - a % b := by rw [Int.mul_sub,Int.mul_sub]; omega
   have l1 : -b < b * (a / b - (a.tdiv b - 1)) := by omega
   have l2 : b * (a / b - (a.tdiv b - 1)) < b := by omega
   rcases Int.lt_trichotomy (a / b - (a.tdiv b - 1)) 0 with h | h | h
   ·have := Int.mul_le_mul_of_nonneg_left (show a / b - (a.tdiv b - 1) ≤ -1 by omega) (show 0 ≤ b by omega)
    omega
   ·omega
   ·have := Int.mul_le_mul_of_nonneg_left (show 1 ≤ a / b - (a.tdiv b - 1) by omega) (show 0 ≤ b by omega)
    omega
  have hlow : -9223372036854775808 ≤ a / b := by
   rcases Int.le_total 0 a with h | h
   ·have := Int.ediv_nonneg h (show 0 ≤ b by omega); omega
   ·exact Int.le_trans ha (Int.le_ediv_of_mul_le (by omega) (by
     have := Int.mul_nonneg (show 0 ≤ -a by omega) (show 0 ≤ b - 1 by omega)
     rw [Int.neg_mul,Int.mul_sub] at this
     omega))
  have hw2 : IntKind.i64.wrap (a.tdiv b - 1) = a / b := by rw [hq]; exact wrapI hlow (by omega)
  simp [h1,h0,hw,hm,hw2,fin78]
 ·have hq : a.tdiv b = a / b := by
   have e1 := Int.tmod_add_mul_tdiv a b
   have e2 := Int.emod_add_mul_ediv a b
   have b1 := Int.emod_nonneg a h0
   have b2 := Int.emod_lt_of_pos a (show 0 < b by omega)
   have b3 : a.tmod b < b := Int.tmod_lt_of_pos a (by omega)
   have e3 : b * (a / b - a.tdiv b) = a.tmod b - a % b := by rw [Int.mul_sub]; omega
   have l1 : -b < b * (a / b - a.tdiv b) := by omega
   have l2 : b * (a / b - a.tdiv b) < b := by omega
   rcases Int.lt_trichotomy (a / b - a.tdiv b) 0 with h | h | h
   ·have := Int.mul_le_mul_of_nonneg_left (show a / b - a.tdiv b ≤ -1 by omega) (show 0 ≤ b by omega)
    omega
   ·omega
   ·have := Int.mul_le_mul_of_nonneg_left (show 1 ≤ a / b - a.tdiv b by omega) (show 0 ≤ b by omega)
    omega
  have hm' : ¬ a.tmod b < 0 := hm
  rw [hq] at hw
  simp [h1,h0,hq,hw,hm,fin78]
end
def unsP (v m s : Int) : Int × Int :=
 if s < 1 ∨ 30 < s ∨ m < 0 ∨ 60 < m then (v,m) else if v.tdiv (2 ^ s.toNat) ≠ 0 then (v.tdiv (2 ^ s.toNat),max 0 (m - s)) else (v,min m s)
theorem shl_one : ∀ s : Fin 31,shlI .i64 1 (s.1 : Int) = 2 ^ s.1 ∧ (1 : Int) ≤ 2 ^ s.1 ∧ (2 : Int) ^ s.1 ≤ 1073741824 := by decide +kernel
theorem tdiv_rng {v p : Int} (hp : 1 ≤ p) (h1 : -9223372036854775808 ≤ v) (h2 : v < 9223372036854775808) : -9223372036854775808 ≤ v.tdiv p ∧ v.tdiv p < 9223372036854775808 := by
 have key : ∀ u : Int,0 ≤ u → 0 ≤ u.tdiv p ∧ u.tdiv p ≤ u := fun u hu => by
  rw [Int.tdiv_eq_ediv_of_nonneg hu]
  exact ⟨Int.ediv_nonneg hu (by omega),Int.ediv_le_self p hu⟩
 by_cases h0 : 0 ≤ v
 ·have := key v h0; omega
 ·have := key (-v) (by omega)
  rw [Int.neg_tdiv] at this; omega
theorem tdiv_zero {v p : Int} (hp : 1 ≤ p) : v.tdiv p ≠ 0 ↔ (p ≤ v ∨ v ≤ -p) := by
 have key : ∀ u : Int,0 ≤ u → (u.tdiv p ≠ 0 ↔ p ≤ u) := fun u hu => by
  rw [Int.tdiv_eq_ediv_of_nonneg hu]
  constructor
  ·intro h
   apply Classical.byContradiction
   intro hc
   exact h (Int.ediv_eq_zero_of_lt hu (by omega))
  ·intro h e
   have : 1 ≤ u / p := Int.le_ediv_of_mul_le (by omega) (by omega)
   omega
 by_cases h0 : 0 ≤ v
 ·rw [key v h0]; omega
 ·have := key (-v) (by omega)
  rw [Int.neg_tdiv] at this
  omega
theorem unsP_rng {v m s : Int} (h1 : -9223372036854775808 ≤ v) (h2 : v < 9223372036854775808) (h3 : -9223372036854775808 ≤ m) (h4 : m < 9223372036854775808) :
  (-9223372036854775808 ≤ (unsP v m s).1 ∧ (unsP v m s).1 < 9223372036854775808) ∧ (-9223372036854775808 ≤ (unsP v m s).2 ∧ (unsP v m s).2 < 9223372036854775808) := by
 unfold unsP
 split
 ·exact ⟨⟨h1,h2⟩,h3,h4⟩
 ·split
  ·exact ⟨tdiv_rng (Int.le_of_lt_add_one (by have : (0 : Int) < 2 ^ s.toNat := Int.pow_pos (by decide); omega)) h1 h2,by simp only; omega⟩
  ·simp only; omega
section
variable {h : Heap} {R : RP}
theorem uns_c {v m s : Int} (h1 : -9223372036854775808 ≤ v) (h2 : v < 9223372036854775808) :
  Ret tab 100 [.int .i64 v,.int .i64 m,.int .i64 s] h R = R (.tuple #[.int .i64 (unsP v m s).1,.int .i64 (unsP v m s).2]) h := by
 rw [enter100,B100]
 unfold unsP
 by_cases c1 : s < 1
 ·simp [k_guard,k_guardU,c1,fin100]
 by_cases c2 : 30 < s
 ·simp [k_guard,k_guardU,c1,c2,fin100]
 by_cases c3 : m < 0
 ·simp [k_guard,k_guardU,c1,c2,c3,fin100]
 by_cases c4 : 60 < m
 ·simp [k_guard,k_guardU,c1,c2,c3,c4,fin100]
 obtain ⟨k,rfl⟩ := Int.eq_ofNat_of_zero_le (show 0 ≤ s by omega)
 obtain ⟨e1,e2,e3⟩ := shl_one ⟨k,by omega⟩
 simp only at e1 e2 e3
 rw [if_neg (by omega),Int.toNat_natCast]
 have hd := tdiv_rng e2 h1 h2
 have wd : IntKind.i64.wrap (v.tdiv (2 ^ k)) = v.tdiv (2 ^ k) := wrapI hd.1 hd.2
 have hn : ¬ ((2 : Int) ^ k = 0) := by omega
 have ws : IntKind.i64.wrap (m - (k : Int)) = m - k := wrapI (by omega) (by omega)
 have k0 : ¬ (k : Int) < 0 := by omega
 generalize hp : (2 : Int) ^ k = p at *
 generalize hdd : v.tdiv p = d at *
 generalize hki : ((k : Nat) : Int) = ki at *
 by_cases hz : d = 0
 ·have hz' : (d != 0) = false := by simp [hz]
  rw [if_neg (by simp [hz])]
  simp [k_guard,k_guardU,c1,c2,c3,c4,e1,k0,hn,hdd,wd,hz',fold1,foldO,min2_eq,fin100]
 ·have hz' : (d != 0) = true := by simp [hz]
  rw [if_pos hz]
  simp [k_guard,k_guardU,c1,c2,c3,c4,e1,k0,hn,hdd,wd,hz',ws,fold1,foldO,max2_eq,fin100]
theorem unsr_loop {k : Nat} (hk : k ≤ 30) {v m : Int} {K : List RItem}
  (hK : ∀ K3 K4 K5 K6 K7 K9 Ka Kb Kc Kd Ke Kf Kg Kh Ki Kj Kk Kl Km Kn Ko Kp Kq Kr Ks Kt Ku Kv Kw Kx Ky Kz J0 J1 J2 J3 J4 J5 J6 J7 J8 J9 Ja Jb Jc Jd Je Jf Jg : Value,Ok tab R103 K #[.int .i64 v,.int .i64 m,.int .i64 (k : Nat),K3,K4,K5,K6,K7,.int .i64 (2 ^ k),K9,Ka,Kb,Kc,Kd,Ke,Kf,Kg,Kh,Ki,Kj,Kk,Kl,Km,Kn,Ko,Kp,Kq,Kr,Ks,Kt,Ku,Kv,Kw,Kx,Ky,Kz,J0,J1,J2,J3,J4,J5,J6,J7,J8,J9,Ja,Jb,Jc,Jd,Je,Jf,Jg] h R) :
  ∀ (d i : Nat) (K3 K4 K5 K6 K7 Ka Kb Kc Kd Ke Kf Kg Kh Ki Kj Kk Kl Km Kn Ko Kp Kq Kr Ks Kt Ku Kv Kw Kx Ky Kz J0 J1 J2 J3 J4 J5 J6 J7 J8 J9 Ja Jb Jc Jd Je Jf Jg : Value),i + d = k → Ok tab R103 (.inLoop L103_0 :: .inBlock 0 :: K) #[.int .i64 v,.int .i64 m,.int .i64 (k : Nat),K3,K4,K5,K6,K7,.int .i64 (2 ^ i),.int .i64 (i : Nat),Ka,Kb,Kc,Kd,Ke,Kf,Kg,Kh,Ki,Kj,Kk,Kl,Km,Kn,Ko,Kp,Kq,Kr,Ks,Kt,Ku,Kv,Kw,Kx,Ky,Kz,J0,J1,J2,J3,J4,J5,J6,J7,J8,J9,Ja,Jb,Jc,Jd,Je,Jf,Jg] h R := by
 intro d
 induction d with
 | zero =>
  intro i;intros;rename_i hi
  obtain rfl : i = k := by omega
  rw [ok_round,l103_0,L103_0a,L103_0b]
  simp
  exact hK ..
 | succ d ih =>
  intro i;intros;rename_i hi
  have hlt : (i : Int) < (k : Int) := by omega
  obtain ⟨_,e2,e3⟩ := shl_one ⟨i,by omega⟩
  simp only at e2 e3
  have w1 : IntKind.i64.wrap (2 * 2 ^ i) = 2 ^ (i + 1) := by rw [wrapI (by omega) (by omega),Int.pow_succ]; omega
  have w2 : IntKind.i64.wrap ((i : Int) + 1) = ((i + 1 : Nat) : Int) := wrapN (n := i + 1) (by omega)
  have ih' := fun K3 K4 K5 K6 K7 Ka Kb Kc Kd Ke Kf Kg Kh Ki Kj Kk Kl Km Kn Ko Kp Kq Kr Ks Kt Ku Kv Kw Kx Ky Kz J0 J1 J2 J3 J4 J5 J6 J7 J8 J9 Ja Jb Jc Jd Je Jf Jg => ih (i + 1) K3 K4 K5 K6 K7 Ka Kb Kc Kd Ke Kf Kg Kh Ki Kj Kk Kl Km Kn Ko Kp Kq Kr Ks Kt Ku Kv Kw Kx Ky Kz J0 J1 J2 J3 J4 J5 J6 J7 J8 J9 Ja Jb Jc Jd Je Jf Jg (by omega)
  generalize (2 : Int) ^ (i + 1) = p1 at *
  generalize (2 : Int) ^ i = p at *
  generalize ((i + 1 : Nat) : Int) = i1 at *
  rw [ok_round,l103_0,L103_0a,L103_0b]
  simp [hlt,w1,w2]
  exact ih' ..
theorem uns_r {v m s : Int} (h1 : -9223372036854775808 ≤ v) (h2 : v < 9223372036854775808) :
  Ret tab 103 [.int .i64 v,.int .i64 m,.int .i64 s] h R = R (.tuple #[.int .i64 (unsP v m s).1,.int .i64 (unsP v m s).2]) h := by
 have key : Ret tab 103 [.int .i64 v,.int .i64 m,.int .i64 s] h fun w h' => w = .tuple #[.int .i64 (unsP v m s).1,.int .i64 (unsP v m s).2] ∧ h' = h := by
  rw [enter103,show B103 = .seq (nthC 0 B103) (.seq (nthC 1 B103) (.seq (nthC 2 B103) (.seq (nthC 3 B103) (tlC 4 B103)))) from rfl]
  generalize hT : tlC 4 B103 = tl
  simp only [nthC,tlC,fstC,B103]
  unfold unsP
  by_cases c1 : s < 1
  ·simp [k_guard,k_guardU,c1,fin103]
  by_cases c2 : 30 < s
  ·simp [k_guard,k_guardU,c1,c2,fin103]
  by_cases c3 : m < 0
  ·simp [k_guard,k_guardU,c1,c2,c3,fin103]
  by_cases c4 : 60 < m
  ·simp [k_guard,k_guardU,c1,c2,c3,c4,fin103]
  obtain ⟨k,rfl⟩ := Int.eq_ofNat_of_zero_le (show 0 ≤ s by omega)
  have hL := fun (R : RP) hK K3 K4 K5 K6 K7 Ka Kb Kc Kd Ke Kf Kg Kh Ki Kj Kk Kl Km Kn Ko Kp Kq Kr Ks Kt Ku Kv Kw Kx Ky Kz J0 J1 J2 J3 J4 J5 J6 J7 J8 J9 Ja Jb Jc Jd Je Jf Jg => unsr_loop (R := R) (h := h) (k := k) (by omega) (v := v) (m := m) (K := [.code tl]) hK k 0 K3 K4 K5 K6 K7 Ka Kb Kc Kd Ke Kf Kg Kh Ki Kj Kk Kl Km Kn Ko Kp Kq Kr Ks Kt Ku Kv Kw Kx Ky Kz J0 J1 J2 J3 J4 J5 J6 J7 J8 J9 Ja Jb Jc Jd Je Jf Jg (by omega)
  obtain ⟨e1,e2,e3⟩ := shl_one ⟨k,by omega⟩
  simp only at e2 e3
  clear e1
  rw [if_neg (by omega),Int.toNat_natCast]
  have hd := tdiv_rng e2 h1 h2
  have hz := tdiv_zero (v := v) e2
  have wd : IntKind.i64.wrap (v.tdiv (2 ^ k)) = v.tdiv (2 ^ k) := wrapI hd.1 hd.2
  have hn : ¬ ((2 : Int) ^ k = 0) := by omega
  have wn : IntKind.i64.wrap (-(2 : Int) ^ k) = -2 ^ k := wrapI (by omega) (by omega)
  have ws : IntKind.i64.wrap (m - (k : Int)) = m - k := wrapI (by omega) (by omega)
  simp only [Int.pow_zero,Int.cast_ofNat_Int] at hL
  generalize hp : (2 : Int) ^ k = p at *
  generalize hdd : v.tdiv p = d at *
  generalize hki : ((k : Nat) : Int) = ki at *
  simp [k_guard,k_guardU,c1,c2,c3,c4]
  refine hL _ ?_ ..
  intros
  rw [← hT]
  simp only [nthC,tlC,fstC,B103]
  by_cases g1 : p ≤ v
  ·have hd0 := hz.2 (.inl g1)
   simp [k_guard,k_guardU,g1,hd0,hn,hdd,wd,ws,fold1,foldO,max2_eq,fin103]
  by_cases g2 : v ≤ -p
  ·have hd0 := hz.2 (.inr g2)
   simp [k_guard,k_guardU,g1,wn,g2,hd0,hn,hdd,wd,ws,fold1,foldO,max2_eq,fin103]
  ·have hd0 : d = 0 := Classical.byContradiction fun x => (hz.1 x).elim g1 g2
   simp [k_guard,k_guardU,g1,wn,g2,hd0,fold1,foldO,min2_eq,fin103]
 obtain ⟨w,h',e,rfl,rfl⟩ := ret_ex key
 exact e R
end
section
variable {h : Heap} {R : RP}
theorem thr_c {a b : Int} (hq : QOk a b) : Ret tab 174 [.int .i64 a,.int .i64 b] h R = R (.int .i64 (thr a b)) h := by
 obtain ⟨_,_,m1,m2⟩ := thr_rng hq
 have hw : IntKind.i64.wrap (a * b) = a * b := wrapI (by omega) (by omega)
 have hd : (a * b).tdiv 16 = a * b / 16 := Int.tdiv_eq_ediv_of_nonneg m1
 have hw2 : IntKind.i64.wrap (a * b / 16) = a * b / 16 := wrapI (by omega) (by omega)
 rw [enter174,B174]
 simp [qvalid_c,hq,hw,hd,hw2,fold1,foldO,max2_eq,fin174,thr]
theorem thr_r {a b : Int} (hq : QOk a b) : Ret tab 206 [.int .i64 a,.int .i64 b] h R = R (.int .i64 (thr a b)) h := by
 obtain ⟨_,_,m1,m2⟩ := thr_rng hq
 have hw : IntKind.i64.wrap (a * b) = a * b := wrapI (by omega) (by omega)
 have hf := fun H R => floorDiv_c (h := H) (R := R) (a := a * b) (b := 16) (by omega) (by omega) (by omega)
 rw [enter206,B206]
 simp [qvalid_r,hq,hw,hf,fold1,foldO,max2_eq,fin206,thr]
theorem times_c {a b : Int} (ha : 0 ≤ a) (ha2 : a < 9223372036854775808) (hb : 1 ≤ b) (hb2 : b ≤ 65536) : Ret tab 175 [.int .i64 a,.int .i64 b] h R = R (.int .i64 (capM a b 1152921504606846976)) h := by
 have h0 : 0 < b := by omega
 have h0' : ¬ b = 0 := by omega
 have hd : (1152921504606846976 : Int).tdiv b = 1152921504606846976 / b := Int.tdiv_eq_ediv_of_nonneg (by omega)
 have hle := Int.ediv_le_self b (show (0 : Int) ≤ 1152921504606846976 by omega)
 have hge := Int.ediv_nonneg (show (0 : Int) ≤ 1152921504606846976 by omega) (show 0 ≤ b by omega)
 have hw : IntKind.i64.wrap (1152921504606846976 / b) = 1152921504606846976 / b := wrapI (by omega) (by omega)
 rw [enter175,B175]
 by_cases hc : a > 1152921504606846976 / b
 ·have e : capM a b 1152921504606846976 = 1152921504606846976 := by unfold capM; rw [if_pos ⟨h0,hc⟩]
  have hc' : 1152921504606846976 / b < a := hc
  simp [k_guard,h0,h0',hd,hw,hc',e,fin175]
 ·have e : capM a b 1152921504606846976 = a * b := by unfold capM; rw [if_neg (by omega)]
  have hc' : ¬ 1152921504606846976 / b < a := hc
  obtain ⟨m1,m2⟩ := capM_cases ha hb (show (0 : Int) ≤ 1152921504606846976 by omega)
  rw [e] at m2
  have m3 : a * b ≤ 1152921504606846976 := by omega
  have hw2 : IntKind.i64.wrap (a * b) = a * b := wrapI (by omega) (by omega)
  have hm : min (max (a * b) 0) 1152921504606846976 = a * b := by omega
  have hl := fun H R => qlimit_c (h := H) (R := R) (n := a * b) (lo := 0) (hi := 1152921504606846976)
  rw [hm] at hl
  simp [k_guard,h0,h0',hd,hw,hc',hw2,hl,e,fin175]
theorem times_r {a b : Int} (ha : 0 ≤ a) (ha2 : a < 9223372036854775808) (hb : 1 ≤ b) (hb2 : b ≤ 65536) : Ret tab 207 [.int .i64 a,.int .i64 b] h R = R (.int .i64 (capM a b 1125899906842624)) h := by
 have h0 : 0 < b := by omega
 have hf := fun H R => floorDiv_c (h := H) (R := R) (a := 1125899906842624) (b := b) hb (by omega) (by omega)
 rw [enter207,B207]
 by_cases hc : a > 1125899906842624 / b
 ·have e : capM a b 1125899906842624 = 1125899906842624 := by unfold capM; rw [if_pos ⟨h0,hc⟩]
  have hc' : 1125899906842624 / b < a := hc
  simp [k_guard,h0,hf,hc',e,fin207]
 ·have e : capM a b 1125899906842624 = a * b := by unfold capM; rw [if_neg (by omega)]
  have hc' : ¬ 1125899906842624 / b < a := hc
  obtain ⟨m1,m2⟩ := capM_cases ha hb (show (0 : Int) ≤ 1125899906842624 by omega)
  rw [e] at m2
  have hw2 : IntKind.i64.wrap (a * b) = a * b := wrapI (by omega) (by omega)
  simp [k_guard,h0,hf,hc',hw2,e,fin207]
theorem shl_pow {m : Int} (h0 : 0 ≤ m) (h1 : m ≤ 60) : shlI .i64 1 m = 2 ^ m.toNat ∧ (2 : Int) ^ m.toNat ≤ 1152921504606846976 := by
 obtain ⟨n,rfl⟩ := Int.eq_ofNat_of_zero_le h0
 have hn : n ≤ 60 := by omega
 have hp : (2 : Nat) ^ n ≤ 2 ^ 60 := Nat.pow_le_pow_right (by decide) hn
 have e : (2 : Int) ^ n = ((2 ^ n : Nat) : Int) := by simp
 have hb : min n 64 = n := by omega
 refine ⟨?_,by rw [Int.toNat_natCast,e]; omega⟩
 unfold shlI
 rw [Int.toNat_natCast,Int.one_mul,show min n IntKind.i64.bits = n from hb,e]
 generalize (2 : Nat) ^ n = q at *
 exact wrapI (by omega) (by omega)
theorem ends_c {v m a b : Int} (hq : MOk m a b) (hv : 1 ≤ v) (hv2 : v < 9223372036854775808) : Ret tab 135 [.int .i64 v,.int .i64 m,.int .i64 a,.int .i64 b] h R =
  R (.tuple #[.int .i64 (thr a b + capM (v - 1) a 1152921504606846976),.int .i64 (thr a b + capM (v - 1) a 1152921504606846976 + capM (2 ^ m.toNat) a 1152921504606846976 - 1)]) h := by
 obtain ⟨t1,t2,_,_⟩ := thr_rng hq.1
 obtain ⟨⟨q1,q2,q3,q4⟩,q5,q6⟩ := hq
 obtain ⟨s1,s2⟩ := shl_pow q5 q6
 have hp := pow2_pos m.toNat
 have hbits : ¬ m < 0 := by omega
 obtain ⟨a1,a2⟩ := capM_cases (show 0 ≤ v - 1 by omega) q1 (show (0 : Int) ≤ 1152921504606846976 by omega)
 obtain ⟨b1,b2⟩ := capM_cases (show (0 : Int) ≤ 2 ^ m.toNat by omega) q1 (show (0 : Int) ≤ 1152921504606846976 by omega)
 have ht := fun H R => thr_c (h := H) (R := R) (a := a) (b := b) ⟨q1,q2,q3,q4⟩
 have h1 := fun H R => times_c (h := H) (R := R) (a := 2 ^ m.toNat) (b := a) (by omega) (by omega) q1 q2
 have h2 := fun H R => times_c (h := H) (R := R) (a := v - 1) (b := a) (by omega) (by omega) q1 q2
 have hw0 : IntKind.i64.wrap (v - 1) = v - 1 := wrapI (by omega) (by omega)
 have hv0 : ¬ v = 0 := by omega
 have hv0' : (v == 0) = false := by simp [hv0]
 rw [enter135,B135]
 have A1 : 0 ≤ capM (v - 1) a 1152921504606846976 := by omega
 have A2 : capM (v - 1) a 1152921504606846976 ≤ 1152921504606846976 := by omega
 have B1 : 0 ≤ capM (2 ^ m.toNat) a 1152921504606846976 := by omega
 have B2 : capM (2 ^ m.toNat) a 1152921504606846976 ≤ 1152921504606846976 := by omega
 generalize hA : capM (v - 1) a 1152921504606846976 = A at *
 generalize hB : capM (2 ^ m.toNat) a 1152921504606846976 = B at *
 generalize thr a b = t at *
 have w1 : IntKind.i64.wrap (t + A) = t + A := wrapI (by omega) (by omega)
 have w2 : IntKind.i64.wrap (t + A + B) = t + A + B := wrapI (by omega) (by omega)
 have w3 : IntKind.i64.wrap (t + A + B - 1) = t + A + B - 1 := wrapI (by omega) (by omega)
 simp [hbits,ht,s1,h1,hv0,hv0',hw0,h2,w1,w2,w3,fin135]
theorem qsize_c {v : Int} (h1 : -9223372036854775808 ≤ v) (h2 : v < 9223372036854775808) : ∃ n,(∀ H R,Ret tab 136 [.int .i64 v] H R = R (.int .i64 n) H) ∧ ((v ≠ -9223372036854775808 ∧ n = max v (-v)) ∨ (v = -9223372036854775808 ∧ n = 9223372036854775807)) := by
 by_cases h : v = -9223372036854775808
 ·refine ⟨9223372036854775807,fun H R => ?_,.inr ⟨h,rfl⟩⟩
  rw [enter136,B136]
  simp [h,fin136]
 ·refine ⟨max v (-v),fun H R => ?_,.inl ⟨h,rfl⟩⟩
  have hw : IntKind.i64.wrap (-v) = -v := wrapI (by omega) (by omega)
  have h' : (v == -9223372036854775808) = false := by simp [h]
  rw [enter136,B136]
  simp [h,h',hw,fold1,foldO,max2_eq,fin136]
theorem recon_c {v m a b : Int} (hv1 : -9223372036854775808 ≤ v) (hv2 : v < 9223372036854775808) : Ret tab 102 [.int .i64 v,.int .i64 m,.int .i64 a,.int .i64 b] h R = R (.int .i64 (recon v m a b)) h := by
 rw [enter102,B102]
 have hg := fun H R => qgood_c (h := H) (R := R) (m := m) (a := a) (b := b)
 by_cases h0 : v = 0
 ·have e : recon v m a b = 0 := by unfold recon; rw [if_pos (.inl h0)]
  rw [e]
  simp [k_guard,h0,fin102]
 have h0' : (v == 0) = false := by simp [h0]
 by_cases hm : MOk m a b
 rotate_left
 ·have e : recon v m a b = 0 := by unfold recon; rw [if_pos (.inr hm)]
  rw [e]
  simp [k_guard,h0,h0',hg,hm,fin102]
 obtain ⟨n,hs,hn⟩ := qsize_c hv1 hv2
 have hn1 : 1 ≤ n := by omega
 have hn2 : n < 9223372036854775808 := by omega
 have he := fun H R => ends_c (h := H) (R := R) hm hn1 hn2
 obtain ⟨t1,t2,_,_⟩ := thr_rng hm.1
 have hp := pow2_pos m.toNat
 have ha1 := hm.1.1
 obtain ⟨a1,a2⟩ := capM_cases (show 0 ≤ n - 1 by omega) ha1 (show (0 : Int) ≤ 1152921504606846976 by omega)
 obtain ⟨b1,b2⟩ := capM_cases (show (0 : Int) ≤ 2 ^ m.toNat by omega) ha1 (show (0 : Int) ≤ 1152921504606846976 by omega)
 obtain ⟨c1,c2⟩ := mid_cap (n := n) (A := capM (n - 1) a 1152921504606846976) (B := capM (2 ^ m.toNat) a 1152921504606846976) (cap := 1152921504606846976) hm hn1 (by omega) a2 (by omega)
 have r := recP_rng (n := n) (m := m) hm.1 hn1
 have e : recon v m a b = if v < 0 then - recP n m a b else recP n m a b := by
  unfold recon
  rw [if_neg (by intro h; rcases h with h | h; exact h0 h; exact h hm)]
  rcases hn with ⟨_,rfl⟩ | ⟨rfl,rfl⟩
  ·split
   ·rw [show max v (-v) = -v by omega]
   ·rw [show max v (-v) = v by omega]
  ·rw [if_pos (by omega),if_pos (by omega)]
   have : recP (- -9223372036854775808) m a b = recP 9223372036854775807 m a b := by
    have u1 : (9223372036854775807 - 1 : Int) * 1 ≤ (9223372036854775807 - 1) * a := Int.mul_le_mul_of_nonneg_left ha1 (by omega)
    have u2 : (- -9223372036854775808 - 1 : Int) * 1 ≤ (- -9223372036854775808 - 1) * a := Int.mul_le_mul_of_nonneg_left ha1 (by omega)
    have u3 : 1 * a ≤ 2 ^ m.toNat * a := Int.mul_le_mul_of_nonneg_right hp (by omega)
    unfold recP mid2
    omega
   rw [this]
 rw [e]
 have A1 : 0 ≤ capM (n - 1) a 1152921504606846976 := by omega
 have A2 : capM (n - 1) a 1152921504606846976 ≤ 1152921504606846976 := by omega
 have B1 : 0 ≤ capM (2 ^ m.toNat) a 1152921504606846976 := by omega
 have B2 : capM (2 ^ m.toNat) a 1152921504606846976 ≤ 1152921504606846976 := by omega
 generalize capM (n - 1) a 1152921504606846976 = A at *
 generalize capM (2 ^ m.toNat) a 1152921504606846976 = B at *
 generalize thr a b = t at *
 generalize recP n m a b = r' at *
 have w1 : IntKind.i64.wrap (t + A + (t + A + B - 1)) = 2 * (t + A) + (B - 1) := by rw [wrapI (by omega) (by omega)]; omega
 have w2 : IntKind.i64.wrap ((2 * (t + A) + (B - 1)).tdiv 2) = (2 * (t + A) + (B - 1)) / 2 := by
  rw [Int.tdiv_eq_ediv_of_nonneg (by omega)]; exact wrapI (by omega) (by omega)
 have hl := fun H R => qlimit_c (h := H) (R := R) (n := (2 * (t + A) + (B - 1)) / 2) (lo := 0) (hi := 4294967296)
 rw [show min (max ((2 * (t + A) + (B - 1)) / 2) 0) 4294967296 = r' by omega] at hl
 have w3 : IntKind.i64.wrap (-r') = -r' := wrapI (by omega) (by omega)
 by_cases hneg : v < 0
 ·simp [k_guard,h0,h0',hg,hm,hs,he,w1,w2,hl,w3,hneg,fin102]
 ·simp [k_guard,h0,h0',hg,hm,hs,he,w1,w2,hl,w3,hneg,fin102]
end
def spn (step : Int) : Nat → Int
 | 0 => step
 | i + 1 => capM (spn step i) 2 1125899906842624
theorem spn_eq {step : Int} (h1 : 1 ≤ step) (h2 : step ≤ 65536) : ∀ i : Nat,1 ≤ spn step i ∧ spn step i ≤ 1125899906842624 ∧
  ((spn step i = 2 ^ i * step ∧ 2 ^ i * step ≤ 1125899906842624) ∨ (spn step i = 1125899906842624 ∧ 1125899906842624 ≤ 2 ^ i * step))
 | 0 => by simp [spn]; omega
 | i + 1 => by
  obtain ⟨a,b,c⟩ := spn_eq h1 h2 i
  obtain ⟨_,d⟩ := capM_cases (show 0 ≤ spn step i by omega) (show (1 : Int) ≤ 2 by omega) (show (0 : Int) ≤ 1125899906842624 by omega)
  have e : (2 : Int) ^ (i + 1) * step = 2 * (2 ^ i * step) := by rw [Int.pow_succ,Int.mul_comm (2 ^ i) 2,Int.mul_assoc]
  rw [e,spn]
  generalize (2 : Int) ^ i * step = p at *
  omega
section
variable {h : Heap} {R : RP}
theorem span_loop {m : Nat} {step : Int} (h1 : 1 ≤ step) (h2 : step ≤ 65536) (hm : m ≤ 60) {k : List RItem}
  (hk : ∀ K2 K3 K4 K6 K7 K8 K9 Ka Kb Kc Kd Ke Kf : Value,Ok tab R208 k #[.int .i64 m,.int .i64 step,K2,K3,K4,.int .i64 (spn step m),K6,K7,K8,K9,Ka,Kb,Kc,Kd,Ke,Kf] h R = R (.int .i64 (spn step m)) h) :
  ∀ (n i : Nat) (K2 K3 K4 K7 K8 K9 Ka Kb Kc Kd Ke Kf : Value),n = m - i → i ≤ m →
   Ok tab R208 (.inLoop L208_0 :: .inBlock 0 :: k) #[.int .i64 m,.int .i64 step,K2,K3,K4,.int .i64 (spn step i),.int .i64 i,K7,K8,K9,Ka,Kb,Kc,Kd,Ke,Kf] h R = R (.int .i64 (spn step m)) h := by
 intro n
 induction n with
 | zero =>
  intro i;intros;rename_i hn hi
  have him : i = m := by omega
  subst him
  rw [ok_round,l208_0,L208_0a,L208_0b]
  simp [hk]
 | succ n ih =>
  intro i;intros;rename_i hn hi
  have hlt : ((i : Int) < m) := by omega
  have hw : IntKind.i64.wrap ((i : Int) + 1) = ((i + 1 : Nat) : Int) := wrapN (n := i + 1) (by omega)
  have ih' := fun K2 K3 K4 K7 K8 K9 Ka Kb Kc Kd Ke Kf => ih (i + 1) K2 K3 K4 K7 K8 K9 Ka Kb Kc Kd Ke Kf (by omega) (by omega)
  obtain ⟨a,b,_⟩ := spn_eq h1 h2 i
  have ht := fun H R => times_r (h := H) (R := R) (a := spn step i) (b := 2) (by omega) (by omega) (by omega) (by omega)
  rw [show capM (spn step i) 2 1125899906842624 = spn step (i + 1) from rfl] at ht
  rw [ok_round,l208_0,L208_0a,L208_0b]
  generalize ((i + 1 : Nat) : Int) = i1 at *
  generalize spn step (i + 1) = s1 at *
  simp [hlt,ht,hw,ih']
theorem span_r {m step : Int} (h1 : 1 ≤ step) (h2 : step ≤ 65536) (hm0 : 0 ≤ m) (hm : m ≤ 60) : Ret tab 208 [.int .i64 m,.int .i64 step] h R = R (.int .i64 (spn step m.toNat)) h := by
 obtain ⟨n,rfl⟩ := Int.eq_ofNat_of_zero_le hm0
 rw [enter208,B208]
 have hl := fun K2 K3 K4 K7 K8 K9 Ka Kb Kc Kd Ke Kf => span_loop (h := h) (R := R) (m := n) (step := step) h1 h2 (by omega) (k := [.code ((RCode.region [⟨some 15,.mov (.tmp 5),none⟩,⟨some 4,.mov (.tmp 15),none⟩] []).seq .ret)])
  (fun K2 K3 K4 K6 K7 K8 K9 Ka Kb Kc Kd Ke Kf => by simp [fin208]) n 0 K2 K3 K4 K7 K8 K9 Ka Kb Kc Kd Ke Kf (by omega) (by omega)
 simp [spn] at hl ⊢
 rw [hl]
theorem ends_r {v m a b : Int} (hq : MOk m a b) (hv : 1 ≤ v) (hv2 : v ≤ 1125899906842624) : Ret tab 190 [.int .i64 v,.int .i64 m,.int .i64 a,.int .i64 b] h R =
  R (.tuple #[.int .i64 (thr a b + capM (v - 1) a 1125899906842624),.int .i64 (thr a b + capM (v - 1) a 1125899906842624 + spn a m.toNat - 1)]) h := by
 obtain ⟨t1,t2,_,_⟩ := thr_rng hq.1
 obtain ⟨⟨q1,q2,q3,q4⟩,q5,q6⟩ := hq
 obtain ⟨a1,a2⟩ := capM_cases (show 0 ≤ v - 1 by omega) q1 (show (0 : Int) ≤ 1125899906842624 by omega)
 obtain ⟨b1,b2,_⟩ := spn_eq q1 q2 m.toNat
 have ht := fun H R => thr_r (h := H) (R := R) (a := a) (b := b) ⟨q1,q2,q3,q4⟩
 have h1 := fun H R => span_r (h := H) (R := R) (m := m) (step := a) q1 q2 q5 q6
 have h2 := fun H R => times_r (h := H) (R := R) (a := v - 1) (b := a) (by omega) (by omega) q1 q2
 have hw0 : IntKind.i64.wrap (v - 1) = v - 1 := wrapI (by omega) (by omega)
 rw [enter190,B190]
 have A1 : 0 ≤ capM (v - 1) a 1125899906842624 := by omega
 have A2 : capM (v - 1) a 1125899906842624 ≤ 1125899906842624 := by omega
 generalize hA : capM (v - 1) a 1125899906842624 = A at *
 generalize hB : spn a m.toNat = B at *
 generalize thr a b = t at *
 have w1 : IntKind.i64.wrap (t + A) = t + A := wrapI (by omega) (by omega)
 have w2 : IntKind.i64.wrap (t + A + B) = t + A + B := wrapI (by omega) (by omega)
 have w3 : IntKind.i64.wrap (t + A + B - 1) = t + A + B - 1 := wrapI (by omega) (by omega)
 simp [ht,h1,hw0,h2,w1,w2,w3,fin190]
theorem recP_cap {v m a b : Int} (hm : MOk m a b) (hv : 1125899906842624 < v) : recP 1125899906842624 m a b = recP v m a b := by
 have ha1 := hm.1.1
 obtain ⟨t1,t2,_,_⟩ := thr_rng hm.1
 have hp := pow2_pos m.toNat
 have u1 : (1125899906842624 - 1 : Int) * 1 ≤ (1125899906842624 - 1) * a := Int.mul_le_mul_of_nonneg_left ha1 (by omega)
 have u2 : (v - 1) * 1 ≤ (v - 1) * a := Int.mul_le_mul_of_nonneg_left ha1 (by omega)
 have u3 : 1 * a ≤ 2 ^ m.toNat * a := Int.mul_le_mul_of_nonneg_right hp (by omega)
 unfold recP mid2
 generalize (v - 1) * a = x at *
 generalize 2 ^ m.toNat * a = y at *
 omega
theorem recon_r_pos {v m a b : Int} (hm : MOk m a b) (hv1 : 1 ≤ v) (hv2 : v < 9223372036854775808) : Ret tab 176 [.int .i64 v,.int .i64 m,.int .i64 a,.int .i64 b] h R = R (.int .i64 (recP v m a b)) h := by
 rw [enter176,B176]
 have hg := fun H R => qgood_r (h := H) (R := R) (m := m) (a := a) (b := b)
 have h0' : (v == 0) = false := by simp; omega
 have h0 : ¬ v = 0 := by omega
 have hl1 := fun H R => limit_r (h := H) (R := R) (n := v) (m := 1125899906842624) (by omega) (by omega)
 have e : recP (min v 1125899906842624) m a b = recP v m a b := by
  by_cases hc : 1125899906842624 < v
  ·rw [show min v 1125899906842624 = 1125899906842624 by omega]; exact recP_cap hm hc
  ·rw [show min v 1125899906842624 = v by omega]
 rw [← e]
 rw [show min (max v (-1125899906842624)) 1125899906842624 = min v 1125899906842624 by omega] at hl1
 have hn1 : 1 ≤ min v 1125899906842624 := by omega
 have hn2 : min v 1125899906842624 ≤ 1125899906842624 := by omega
 generalize min v 1125899906842624 = n at *
 have he := fun H R => ends_r (h := H) (R := R) hm hn1 hn2
 obtain ⟨t1,t2,_,_⟩ := thr_rng hm.1
 have ha1 := hm.1.1
 obtain ⟨a1,a2⟩ := capM_cases (show 0 ≤ n - 1 by omega) ha1 (show (0 : Int) ≤ 1125899906842624 by omega)
 obtain ⟨b1,b2,b3⟩ := spn_eq ha1 hm.1.2.1 m.toNat
 obtain ⟨c1,c2⟩ := mid_cap (n := n) (A := capM (n - 1) a 1125899906842624) (B := spn a m.toNat) (cap := 1125899906842624) hm hn1 (by omega) a2 b3
 have r := recP_rng (n := n) (m := m) hm.1 hn1
 have A1 : 0 ≤ capM (n - 1) a 1125899906842624 := by omega
 have A2 : capM (n - 1) a 1125899906842624 ≤ 1125899906842624 := by omega
 generalize capM (n - 1) a 1125899906842624 = A at *
 generalize spn a m.toNat = B at *
 generalize thr a b = t at *
 generalize recP n m a b = r' at *
 have w1 : IntKind.i64.wrap (t + A + (t + A + B - 1)) = 2 * (t + A) + (B - 1) := by rw [wrapI (by omega) (by omega)]; omega
 have hf := fun H R => floorDiv_c (h := H) (R := R) (a := 2 * (t + A) + (B - 1)) (b := 2) (by omega) (by omega) (by omega)
 have hl := fun H R => limit_r (h := H) (R := R) (n := (2 * (t + A) + (B - 1)) / 2) (m := 4294967296) (by omega) (by omega)
 rw [show min (max ((2 * (t + A) + (B - 1)) / 2) (-4294967296)) 4294967296 = r' by omega] at hl
 have hneg : ¬ n < 0 := by omega
 simp [k_guard,h0,h0',hg,hm,hl1,hneg,he,w1,hf,hl,fin176]
theorem recon_r {v m a b : Int} (hv1 : -9223372036854775808 ≤ v) (hv2 : v < 9223372036854775808) : Ret tab 176 [.int .i64 v,.int .i64 m,.int .i64 a,.int .i64 b] h R = R (.int .i64 (recon v m a b)) h := by
 have hg := fun H R => qgood_r (h := H) (R := R) (m := m) (a := a) (b := b)
 by_cases hm : MOk m a b
 rotate_left
 ·have e : recon v m a b = 0 := by unfold recon; rw [if_pos (.inr hm)]
  rw [e,enter176,B176]
  simp [k_guard,hg,hm,fin176]
 by_cases h0 : v = 0
 ·have e : recon v m a b = 0 := by unfold recon; rw [if_pos (.inl h0)]
  rw [e,enter176,B176]
  simp [k_guard,h0,hg,hm,fin176]
 by_cases hneg : v < 0
 rotate_left
 ·have e : recon v m a b = recP v m a b := by unfold recon; rw [if_neg (by intro h; rcases h with h | h; exact h0 h; exact h hm),if_neg hneg]
  rw [e]
  exact recon_r_pos hm (by omega) hv2
 have e : recon v m a b = - recP (-v) m a b := by unfold recon; rw [if_neg (by intro h; rcases h with h | h; exact h0 h; exact h hm),if_pos hneg]
 have h0' : (v == 0) = false := by simp [h0]
 have hl1 := fun H R => limit_r (h := H) (R := R) (n := v) (m := 1125899906842624) (by omega) (by omega)
 have e2 : recP (- min (max v (-1125899906842624)) 1125899906842624) m a b = recP (-v) m a b := by
  by_cases hc : 1125899906842624 < -v
  ·rw [show - min (max v (-1125899906842624)) 1125899906842624 = 1125899906842624 by omega]; exact recP_cap hm hc
  ·rw [show - min (max v (-1125899906842624)) 1125899906842624 = -v by omega]
 rw [e,← e2]
 have hn1 : min (max v (-1125899906842624)) 1125899906842624 < 0 := by omega
 have hn2 : -1125899906842624 ≤ min (max v (-1125899906842624)) 1125899906842624 := by omega
 generalize min (max v (-1125899906842624)) 1125899906842624 = n at *
 have hr := fun H R => recon_r_pos (h := H) (R := R) (v := -n) hm (by omega) (by omega)
 have hw : IntKind.i64.wrap (-n) = -n := wrapI (by omega) (by omega)
 have r := recP_rng (n := -n) (m := m) hm.1 (by omega)
 generalize recP (-n) m a b = r' at *
 have hw2 : IntKind.i64.wrap (-r') = -r' := wrapI (by omega) (by omega)
 rw [enter176,B176]
 simp [k_guard,h0,h0',hg,hm,hl1,hn1,hw,hr,hw2,fin176]
theorem error_c {c v m a b : Int} (hc1 : -9223372036854775808 ≤ c) (hc2 : c < 9223372036854775808) (hv1 : -9223372036854775808 ≤ v) (hv2 : v < 9223372036854775808) :
  Ret tab 52 [.int .i64 c,.int .i64 v,.int .i64 m,.int .i64 a,.int .i64 b] h R = R (.int .i64 (errI c v m a b)) h := by
 have hr := fun H R => recon_c (h := H) (R := R) (m := m) (a := a) (b := b) hv1 hv2
 obtain ⟨r1,r2⟩ := recon_rng v m a b
 rw [enter52,B52]
 unfold errI
 generalize recon v m a b = r at *
 have w1 : IntKind.i64.wrap (r + 32767) = r + 32767 := wrapI (by omega) (by omega)
 have w2 : IntKind.i64.wrap (r - 32767) = r - 32767 := wrapI (by omega) (by omega)
 by_cases h1 : r + 32767 < c
 ·rw [show min (max (c - r) (r - c)) 32767 = 32767 by omega]
  simp [k_guard,hr,w1,w2,h1,fin52]
 ·by_cases h2 : c < r - 32767
  ·rw [show min (max (c - r) (r - c)) 32767 = 32767 by omega]
   simp [k_guard,hr,w1,w2,h1,h2,fin52]
  ·rw [show min (max (c - r) (r - c)) 32767 = max (c - r) (r - c) by omega]
   have w3 : IntKind.i64.wrap (c - r) = c - r := wrapI (by omega) (by omega)
   have w4 : IntKind.i64.wrap (r - c) = r - c := wrapI (by omega) (by omega)
   simp [k_guard,hr,w1,w2,w3,w4,h1,h2,fold1,foldO,max2_eq,fin52]
theorem qerror_r {c v m a b : Int} (hc1 : -9223372036854775808 ≤ c) (hc2 : c < 9223372036854775808) (hv1 : -9223372036854775808 ≤ v) (hv2 : v < 9223372036854775808) :
  Ret tab 138 [.int .i64 c,.int .i64 v,.int .i64 m,.int .i64 a,.int .i64 b] h R = R (.int .i64 (errI c v m a b)) h := by
 have hr := fun H R => recon_r (h := H) (R := R) (m := m) (a := a) (b := b) hv1 hv2
 obtain ⟨r1,r2⟩ := recon_rng v m a b
 rw [enter138,B138]
 unfold errI
 generalize recon v m a b = r at *
 obtain ⟨d,hd⟩ : ∃ d,d = min (max c (-17179869184)) 17179869184 - r := ⟨_,rfl⟩
 have w1 : IntKind.i64.wrap (min (max c (-17179869184)) 17179869184 - r) = d := by rw [hd]; exact wrapI (by omega) (by omega)
 have w2 : IntKind.i64.wrap (-d) = -d := wrapI (by omega) (by omega)
 have e : min (max (c - r) (r - c)) 32767 = min (max d (-d)) 32767 := by omega
 rw [e]
 simp [hr,fold1,foldO,max2_eq,min2_eq,w1,w2,fin138]
end
def tot (a b : Int) (cs vs ms : List Int) : Nat → Int
 | 0 => 0
 | n + 1 => tot a b cs vs ms n + errI (cs.getD n 0) (vs.getD n 0) (ms.getD n 0) a b * errI (cs.getD n 0) (vs.getD n 0) (ms.getD n 0) a b
theorem tot_rng (a b : Int) (cs vs ms : List Int) : ∀ n : Nat,0 ≤ tot a b cs vs ms n ∧ tot a b cs vs ms n ≤ n * 1073676289
 | 0 => by simp [tot]
 | n + 1 => by
  obtain ⟨h1,h2⟩ := tot_rng a b cs vs ms n
  obtain ⟨e1,e2⟩ := err_sq (cs.getD n 0) (vs.getD n 0) (ms.getD n 0) a b
  rw [tot]
  omega
def mOk (m : Int) : Bool := decide (0 ≤ m) && decide (m ≤ 60)
def totRes (a b w : Int) (cs vs ms : List Int) : Int × Int :=
 if cs.length ≠ vs.length ∨ cs.length ≠ ms.length then (0,4) else if 4096 < cs.length then (0,5) else
 if ¬ QOk a b ∨ w < 0 ∨ 16 < w then (0,2) else if ms.all mOk = true then (tot a b cs vs ms cs.length * w,0) else (0,2)
section
variable {h : Heap} {R : RP} {s t u : Value} {cs vs ms : List Int}
theorem total_loop_c (hc : Rk .i64 h s cs) (hv : Rk .i64 h t vs) (hm : Rk .i64 h u ms) (hl1 : cs.length = vs.length) (hl2 : cs.length = ms.length) (hl : cs.length ≤ 4096) {a b w : Int} {k : List RItem} {res : Prop}
  (hk : ∀ K6 K7 K8 K9 Ka Kb Kc Kd Kf Kg Kh Ki Kj Kk Kl Km Kn Ko Kp Kq Kr Ks Kt Ku Kv Kw Kx Ky Kz J0 J1 J2 J3 J4 J5 J6 J7 J8 J9 Ja Jb Jc Jd Je Jf Jg Jh Ji Jj Jk Jl Jm Jn Jo Jp Jq Jr Js Jt Ju Jv Jw Jx Jy Jz Y0 Y1 Y2 Y3 Y4 Y5 Y6 Y7 Y8 Y9 Ya Yb Yc : Value,Ok tab R49 k #[s,t,u,.int .i64 a,.int .i64 b,.int .i64 w,K6,K7,K8,K9,Ka,Kb,Kc,Kd,.int .i64 (tot a b cs vs ms cs.length),Kf,Kg,Kh,Ki,Kj,Kk,Kl,Km,Kn,Ko,Kp,Kq,Kr,Ks,Kt,Ku,Kv,Kw,Kx,Ky,Kz,J0,J1,J2,J3,J4,J5,J6,J7,J8,J9,Ja,Jb,Jc,Jd,Je,Jf,Jg,Jh,Ji,Jj,Jk,Jl,Jm,Jn,Jo,Jp,Jq,Jr,Js,Jt,Ju,Jv,Jw,Jx,Jy,Jz,Y0,Y1,Y2,Y3,Y4,Y5,Y6,Y7,Y8,Y9,Ya,Yb,Yc] h R = res) :
  ∀ (n i : Nat) (K6 K7 K8 K9 Ka Kb Kc Kd Kf Kg Kh Ki Kj Kk Kl Km Kn Ko Kp Kq Kr Ks Kt Ku Kv Kw Kx Ky Kz J0 J1 J2 J3 J4 J5 J6 J7 J8 Jb Jc Jd Je Jf Jg Jh Ji Jj Jk Jl Jm Jn Jo Jp Jq Jr Js Jt Ju Jv Jw Jx Jy Jz Y0 Y1 Y2 Y3 Y4 Y5 Y6 Y7 Y8 Y9 Ya Yb Yc : Value),n = cs.length - i → i ≤ cs.length →
   Ok tab R49 (.inLoop L49_0 :: .inBlock 0 :: k) #[s,t,u,.int .i64 a,.int .i64 b,.int .i64 w,K6,K7,K8,K9,Ka,Kb,Kc,Kd,.int .i64 (tot a b cs vs ms i),Kf,Kg,Kh,Ki,Kj,Kk,Kl,Km,Kn,Ko,Kp,Kq,Kr,Ks,Kt,Ku,Kv,Kw,Kx,Ky,Kz,J0,J1,J2,J3,J4,J5,J6,J7,J8,.int .i64 cs.length,.int .i64 i,Jb,Jc,Jd,Je,Jf,Jg,Jh,Ji,Jj,Jk,Jl,Jm,Jn,Jo,Jp,Jq,Jr,Js,Jt,Ju,Jv,Jw,Jx,Jy,Jz,Y0,Y1,Y2,Y3,Y4,Y5,Y6,Y7,Y8,Y9,Ya,Yb,Yc] h R =
    if (ms.drop i).all mOk = true then res else R (.tuple #[.int .i64 0,.int .i64 2]) h := by
 intro n
 induction n with
 | zero =>
  intro i;intros;rename_i hn hi
  have him : i = cs.length := by omega
  subst him
  rw [ok_round,l49_0,L49_0a,L49_0b]
  rw [List.drop_of_length_le (by omega)]
  simp [hk]
 | succ n ih =>
  intro i;intros;rename_i hn hi
  have hlt : ((i : Int) < cs.length) := by omega
  have h1 : i < cs.length := by omega
  have h2 : i < vs.length := by omega
  have h3 : i < ms.length := by omega
  have hw : IntKind.i64.wrap ((i : Int) + 1) = ((i + 1 : Nat) : Int) := wrapN (n := i + 1) (by omega)
  have ih' := fun K6 K7 K8 K9 Ka Kb Kc Kd Kf Kg Kh Ki Kj Kk Kl Km Kn Ko Kp Kq Kr Ks Kt Ku Kv Kw Kx Ky Kz J0 J1 J2 J3 J4 J5 J6 J7 J8 Jb Jc Jd Je Jf Jg Jh Ji Jj Jk Jl Jm Jn Jo Jp Jq Jr Js Jt Ju Jv Jw Jx Jy Jz Y0 Y1 Y2 Y3 Y4 Y5 Y6 Y7 Y8 Y9 Ya Yb Yc => ih (i + 1) K6 K7 K8 K9 Ka Kb Kc Kd Kf Kg Kh Ki Kj Kk Kl Km Kn Ko Kp Kq Kr Ks Kt Ku Kv Kw Kx Ky Kz J0 J1 J2 J3 J4 J5 J6 J7 J8 Jb Jc Jd Je Jf Jg Jh Ji Jj Jk Jl Jm Jn Jo Jp Jq Jr Js Jt Ju Jv Jw Jx Jy Jz Y0 Y1 Y2 Y3 Y4 Y5 Y6 Y7 Y8 Y9 Ya Yb Yc (by omega) (by omega)
  obtain ⟨id1,o1,b1,rfl,hb1,hc1⟩ := hc.get h1
  obtain ⟨id2,o2,b2,rfl,hb2,hc2⟩ := hv.get h2
  obtain ⟨id3,o3,b3,rfl,hb3,hc3⟩ := hm.get h3
  have l1 : ((i : Int) < vs.length) := by omega
  have l2 : ((i : Int) < ms.length) := by omega
  have g1 : cs.getD i 0 = cs[i] := by rw [List.getD_eq_getElem?_getD,List.getElem?_eq_getElem h1]; rfl
  have g2 : vs.getD i 0 = vs[i] := by rw [List.getD_eq_getElem?_getD,List.getElem?_eq_getElem h2]; rfl
  have g3 : ms.getD i 0 = ms[i] := by rw [List.getD_eq_getElem?_getD,List.getElem?_eq_getElem h3]; rfl
  obtain ⟨r1,r2⟩ := wf_i64 (hc.rng cs[i] (List.getElem_mem h1))
  obtain ⟨r3,r4⟩ := wf_i64 (hv.rng vs[i] (List.getElem_mem h2))
  have he := fun H R => error_c (h := H) (R := R) (m := ms[i]) (a := a) (b := b) r1 r2 r3 r4
  obtain ⟨t1,t2⟩ := tot_rng a b cs vs ms i
  obtain ⟨e1,e2⟩ := err_sq cs[i] vs[i] ms[i] a b
  have hT : tot a b cs vs ms (i + 1) = tot a b cs vs ms i + errI cs[i] vs[i] ms[i] a b * errI cs[i] vs[i] ms[i] a b := by rw [tot,g1,g2,g3]
  have hd : (ms.drop i).all mOk = (mOk ms[i] && (ms.drop (i + 1)).all mOk) := by rw [List.drop_eq_getElem_cons h3,List.all_cons]
  rw [hd]
  rw [hT] at ih'
  generalize (ms.drop (i + 1)).all mOk = rest at *
  generalize errI cs[i] vs[i] ms[i] a b = e at *
  generalize tot a b cs vs ms i = T at *
  have w1 : IntKind.i64.wrap (e * e) = e * e := wrapI (by omega) (by omega)
  have w2 : IntKind.i64.wrap (T + e * e) = T + e * e := wrapI (by omega) (by omega)
  generalize ((i + 1 : Nat) : Int) = i1 at *
  generalize cs[i] = c at *
  generalize vs[i] = v at *
  generalize ms[i] = m at *
  rw [ok_round,l49_0,L49_0a,L49_0b]
  by_cases m1 : m < 0
  ·have hmo : mOk m = false := by simp [mOk]; omega
   simp [k_guard,hlt,l1,l2,h1,h2,h3,hb1,hb2,hb3,hc1,hc2,hc3,m1,hmo,fin49]
  ·by_cases m2 : 60 < m
   ·have hmo : mOk m = false := by simp [mOk]; omega
    simp [k_guard,hlt,l1,l2,h1,h2,h3,hb1,hb2,hb3,hc1,hc2,hc3,m1,m2,hmo,fin49]
   ·have hmo : mOk m = true := by simp [mOk]; omega
    simp [k_guard,hlt,l1,l2,h1,h2,h3,hb1,hb2,hb3,hc1,hc2,hc3,m1,m2,hmo,he,w1,w2,hw,ih']
theorem total_c (hc : Rk .i64 h s cs) (hv : Rk .i64 h t vs) (hm : Rk .i64 h u ms) {a b w : Int} :
  Ret tab 49 [s,t,u,.int .i64 a,.int .i64 b,.int .i64 w] h R = R (.tuple #[.int .i64 (totRes a b w cs vs ms).1,.int .i64 (totRes a b w cs vs ms).2]) h := by
 rw [enter49,B49]
 obtain ⟨sa,sc,hs⟩ := hc.sl.shape
 obtain ⟨ta,tc,ht⟩ := hv.sl.shape
 obtain ⟨ua,uc,hu⟩ := hm.sl.shape
 unfold totRes
 by_cases hl1 : cs.length = vs.length
 rotate_left
 ·have hl1' : ((cs.length : Int) != vs.length) = true := by simp; omega
  simp [k_guard,hs,ht,hu,hl1,hl1',fin49]
 have hl1' : ((cs.length : Int) != vs.length) = false := by simp; omega
 by_cases hl2 : cs.length = ms.length
 rotate_left
 ·have hl2' : ((cs.length : Int) != ms.length) = true := by simp; omega
  rw [if_pos (.inr hl2)]
  simp [k_guard,hs,ht,hu,hl1',hl2',fin49]
 have hl2' : ((cs.length : Int) != ms.length) = false := by simp; omega
 rw [if_neg (by omega)]
 by_cases hl : 4096 < cs.length
 ·have hl' : (4096 : Int) < cs.length := by omega
  rw [if_pos hl]
  simp [k_guard,hs,ht,hu,hl1',hl2',hl',fin49]
 have hl' : ¬ (4096 : Int) < cs.length := by omega
 rw [if_neg hl]
 have hq := fun H R => qvalid_c (h := H) (R := R) (a := a) (b := b)
 by_cases hqo : QOk a b
 rotate_left
 ·rw [if_pos (.inl hqo)]
  simp [k_guard,hs,ht,hu,hl1',hl2',hl',hq,hqo,fin49]
 by_cases hw0 : w < 0
 ·rw [if_pos (.inr (.inl hw0))]
  simp [k_guard,hs,ht,hu,hl1',hl2',hl',hq,hqo,hw0,fin49]
 by_cases hw1 : 16 < w
 ·rw [if_pos (.inr (.inr hw1))]
  simp [k_guard,hs,ht,hu,hl1',hl2',hl',hq,hqo,hw0,hw1,fin49]
 rw [if_neg (by intro hx; rcases hx with hx | hx | hx; exact hx hqo; exact hw0 hx; exact hw1 hx)]
 obtain ⟨t1,t2⟩ := tot_rng a b cs vs ms cs.length
 obtain ⟨p1,p2⟩ := mul_le_int (a := tot a b cs vs ms cs.length) (b := w) (c := 4096 * 1073676289) (d := 16) t1 (by omega) (by omega) (by omega)
 have hwr : IntKind.i64.wrap (tot a b cs vs ms cs.length * w) = tot a b cs vs ms cs.length * w := wrapI (by omega) (by omega)
 have hL := fun K6 K7 K8 K9 Ka Kb Kc Kd Kf Kg Kh Ki Kj Kk Kl Km Kn Ko Kp Kq Kr Ks Kt Ku Kv Kw Kx Ky Kz J0 J1 J2 J3 J4 J5 J6 J7 J8 Jb Jc Jd Je Jf Jg Jh Ji Jj Jk Jl Jm Jn Jo Jp Jq Jr Js Jt Ju Jv Jw Jx Jy Jz Y0 Y1 Y2 Y3 Y4 Y5 Y6 Y7 Y8 Y9 Ya Yb Yc => total_loop_c (R := R) hc hv hm hl1 hl2 (by omega) (a := a) (b := b) (w := w) (res := R (.tuple #[.int .i64 (tot a b cs vs ms cs.length * w),.int .i64 0]) h)
  (k := [.code ((RCode.region [⟨some 82,.mov (.tmp 14),none⟩,⟨some 83,.mov (.tmp 5),none⟩,⟨some 84,.bin .mul (.tmp 82) (.tmp 83),none⟩,⟨some 12,.mov (.tmp 84),none⟩,⟨some 13,.mov (.const (.int .i64 0)),none⟩] []).seq .ret)])
  (fun K6 K7 K8 K9 Ka Kb Kc Kd Kf Kg Kh Ki Kj Kk Kl Km Kn Ko Kp Kq Kr Ks Kt Ku Kv Kw Kx Ky Kz J0 J1 J2 J3 J4 J5 J6 J7 J8 J9 Ja Jb Jc Jd Je Jf Jg Jh Ji Jj Jk Jl Jm Jn Jo Jp Jq Jr Js Jt Ju Jv Jw Jx Jy Jz Y0 Y1 Y2 Y3 Y4 Y5 Y6 Y7 Y8 Y9 Ya Yb Yc => by simp [hwr,fin49]) cs.length 0 K6 K7 K8 K9 Ka Kb Kc Kd Kf Kg Kh Ki Kj Kk Kl Km Kn Ko Kp Kq Kr Ks Kt Ku Kv Kw Kx Ky Kz J0 J1 J2 J3 J4 J5 J6 J7 J8 Jb Jc Jd Je Jf Jg Jh Ji Jj Jk Jl Jm Jn Jo Jp Jq Jr Js Jt Ju Jv Jw Jx Jy Jz Y0 Y1 Y2 Y3 Y4 Y5 Y6 Y7 Y8 Y9 Ya Yb Yc (by omega) (by omega)
 simp only [List.drop_zero] at hL
 have t0 : tot a b cs vs ms 0 = 0 := rfl
 rw [t0] at hL
 simp only [Int.cast_ofNat_Int] at hL
 rw [hs,ht,hu] at *
 generalize ms.all mOk = A at *
 cases A <;> simp [k_guard,hl1',hl2',hl',hq,hqo,hw0,hw1] <;> rw [hL] <;> simp
theorem total_loop_r (hc : Rk .i64 h s cs) (hv : Rk .i64 h t vs) (hm : Rk .i64 h u ms) (hl1 : cs.length = vs.length) (hl2 : cs.length = ms.length) (hl : cs.length ≤ 4096) {a b w : Int} {k : List RItem} {res : Prop} (hw0 : 0 ≤ w) (hw1 : w ≤ 16)
  (hk : ∀ K6 K7 K8 K9 Ka Kb Kc Kd Kf Kg Kh Ki Kj Kk Kl Km Kn Ko Kp Kq Kr Ks Kt Ku Kv Kw Kx Ky Kz J0 J1 J2 J3 J4 J5 J6 J7 J8 J9 Ja Jb Jc Jd Je Jf Jg Jh Ji Jj Jk Jl Jm Jn Jo Jp Jq Jr Js Jt Ju Jv Jw Jx Jy Jz Y0 Y1 Y2 Y3 Y4 Y5 Y6 Y7 Y8 Y9 Ya Yb Yc : Value,Ok tab R104 k #[s,t,u,.int .i64 a,.int .i64 b,.int .i64 w,K6,K7,K8,K9,Ka,Kb,Kc,Kd,.int .i64 (w * tot a b cs vs ms cs.length),Kf,Kg,Kh,Ki,Kj,Kk,Kl,Km,Kn,Ko,Kp,Kq,Kr,Ks,Kt,Ku,Kv,Kw,Kx,Ky,Kz,J0,J1,J2,J3,J4,J5,J6,J7,J8,J9,Ja,Jb,Jc,Jd,Je,Jf,Jg,Jh,Ji,Jj,Jk,Jl,Jm,Jn,Jo,Jp,Jq,Jr,Js,Jt,Ju,Jv,Jw,Jx,Jy,Jz,Y0,Y1,Y2,Y3,Y4,Y5,Y6,Y7,Y8,Y9,Ya,Yb,Yc] h R = res) :
  ∀ (n i : Nat) (K6 K7 K8 K9 Ka Kb Kc Kd Kg Kh Ki Kj Kk Kl Km Kn Ko Kp Kq Kr Ks Kt Ku Kv Kw Kx Ky Kz J0 J1 J2 J3 J4 J5 J6 J7 J8 J9 Ja Jb Jc Jd Je Jf Jg Jh Ji Jj Jk Jl Jm Jn Jo Jp Jq Jr Js Jt Ju Jv Jw Jx Jy Jz Y0 Y1 Y2 Y3 Y4 Y5 Y6 Y7 Y8 Y9 Ya Yb Yc : Value),n = cs.length - i → i ≤ cs.length →
   Ok tab R104 (.inLoop L104_0 :: .inBlock 0 :: k) #[s,t,u,.int .i64 a,.int .i64 b,.int .i64 w,K6,K7,K8,K9,Ka,Kb,Kc,Kd,.int .i64 (w * tot a b cs vs ms i),.int .i64 i,Kg,Kh,Ki,Kj,Kk,Kl,Km,Kn,Ko,Kp,Kq,Kr,Ks,Kt,Ku,Kv,Kw,Kx,Ky,Kz,J0,J1,J2,J3,J4,J5,J6,J7,J8,J9,Ja,Jb,Jc,Jd,Je,Jf,Jg,Jh,Ji,Jj,Jk,Jl,Jm,Jn,Jo,Jp,Jq,Jr,Js,Jt,Ju,Jv,Jw,Jx,Jy,Jz,Y0,Y1,Y2,Y3,Y4,Y5,Y6,Y7,Y8,Y9,Ya,Yb,Yc] h R =
    if (ms.drop i).all mOk = true then res else R (.tuple #[.int .i64 0,.int .i64 2]) h := by
 intro n
 induction n with
 | zero =>
  intro i;intros;rename_i hn hi
  have him : i = cs.length := by omega
  subst him
  rw [ok_round,l104_0,L104_0a,L104_0b]
  rw [List.drop_of_length_le (by omega)]
  obtain ⟨sa,sc,rfl⟩ := hc.sl.shape
  simp [hk]
 | succ n ih =>
  intro i;intros;rename_i hn hi
  have hlt : ((i : Int) < cs.length) := by omega
  have h1 : i < cs.length := by omega
  have h2 : i < vs.length := by omega
  have h3 : i < ms.length := by omega
  have hw : IntKind.i64.wrap ((i : Int) + 1) = ((i + 1 : Nat) : Int) := wrapN (n := i + 1) (by omega)
  have ih' := fun K6 K7 K8 K9 Ka Kb Kc Kd Kg Kh Ki Kj Kk Kl Km Kn Ko Kp Kq Kr Ks Kt Ku Kv Kw Kx Ky Kz J0 J1 J2 J3 J4 J5 J6 J7 J8 J9 Ja Jb Jc Jd Je Jf Jg Jh Ji Jj Jk Jl Jm Jn Jo Jp Jq Jr Js Jt Ju Jv Jw Jx Jy Jz Y0 Y1 Y2 Y3 Y4 Y5 Y6 Y7 Y8 Y9 Ya Yb Yc => ih (i + 1) K6 K7 K8 K9 Ka Kb Kc Kd Kg Kh Ki Kj Kk Kl Km Kn Ko Kp Kq Kr Ks Kt Ku Kv Kw Kx Ky Kz J0 J1 J2 J3 J4 J5 J6 J7 J8 J9 Ja Jb Jc Jd Je Jf Jg Jh Ji Jj Jk Jl Jm Jn Jo Jp Jq Jr Js Jt Ju Jv Jw Jx Jy Jz Y0 Y1 Y2 Y3 Y4 Y5 Y6 Y7 Y8 Y9 Ya Yb Yc (by omega) (by omega)
  obtain ⟨id1,o1,b1,rfl,hb1,hc1⟩ := hc.get h1
  obtain ⟨id2,o2,b2,rfl,hb2,hc2⟩ := hv.get h2
  obtain ⟨id3,o3,b3,rfl,hb3,hc3⟩ := hm.get h3
  have l1 : ((i : Int) < vs.length) := by omega
  have l2 : ((i : Int) < ms.length) := by omega
  have g1 : cs.getD i 0 = cs[i] := by rw [List.getD_eq_getElem?_getD,List.getElem?_eq_getElem h1]; rfl
  have g2 : vs.getD i 0 = vs[i] := by rw [List.getD_eq_getElem?_getD,List.getElem?_eq_getElem h2]; rfl
  have g3 : ms.getD i 0 = ms[i] := by rw [List.getD_eq_getElem?_getD,List.getElem?_eq_getElem h3]; rfl
  obtain ⟨r1,r2⟩ := wf_i64 (hc.rng cs[i] (List.getElem_mem h1))
  obtain ⟨r3,r4⟩ := wf_i64 (hv.rng vs[i] (List.getElem_mem h2))
  have he := fun H R => qerror_r (h := H) (R := R) (m := ms[i]) (a := a) (b := b) r1 r2 r3 r4
  obtain ⟨t1,t2⟩ := tot_rng a b cs vs ms i
  obtain ⟨e1,e2⟩ := err_sq cs[i] vs[i] ms[i] a b
  obtain ⟨e3,e4⟩ := errI_rng cs[i] vs[i] ms[i] a b
  have hT : tot a b cs vs ms (i + 1) = tot a b cs vs ms i + errI cs[i] vs[i] ms[i] a b * errI cs[i] vs[i] ms[i] a b := by rw [tot,g1,g2,g3]
  have hd : (ms.drop i).all mOk = (mOk ms[i] && (ms.drop (i + 1)).all mOk) := by rw [List.drop_eq_getElem_cons h3,List.all_cons]
  rw [hd]
  rw [hT] at ih'
  generalize (ms.drop (i + 1)).all mOk = rest at *
  generalize errI cs[i] vs[i] ms[i] a b = e at *
  generalize tot a b cs vs ms i = T at *
  obtain ⟨f1,f2⟩ := mul_le_int (a := w) (b := e) (c := 16) (d := 32767) hw0 hw1 e3 e4
  obtain ⟨f3,f4⟩ := mul_le_int (a := w) (b := e * e) (c := 16) (d := 1073676289) hw0 hw1 e1 e2
  obtain ⟨f5,f6⟩ := mul_le_int (a := w) (b := T) (c := 16) (d := 4096 * 1073676289) hw0 hw1 t1 (by omega)
  have w1 : IntKind.i64.wrap (w * e) = w * e := wrapI (by omega) (by omega)
  have w2 : IntKind.i64.wrap (w * e * e) = w * (e * e) := by rw [Int.mul_assoc]; exact wrapI (by omega) (by omega)
  have w3 : IntKind.i64.wrap (w * T + w * (e * e)) = w * (T + e * e) := by rw [Int.mul_add]; exact wrapI (by omega) (by omega)
  generalize ((i + 1 : Nat) : Int) = i1 at *
  generalize cs[i] = c at *
  generalize vs[i] = v at *
  generalize ms[i] = m at *
  rw [ok_round,l104_0,L104_0a,L104_0b]
  by_cases m1 : m < 0
  ·have hmo : mOk m = false := by simp [mOk]; omega
   simp [k_guard,hlt,l1,l2,h1,h2,h3,hb1,hb2,hb3,hc1,hc2,hc3,m1,hmo,fin104]
  ·by_cases m2 : 60 < m
   ·have hmo : mOk m = false := by simp [mOk]; omega
    simp [k_guard,hlt,l1,l2,h1,h2,h3,hb1,hb2,hb3,hc1,hc2,hc3,m1,m2,hmo,fin104]
   ·have hmo : mOk m = true := by simp [mOk]; omega
    simp [k_guard,hlt,l1,l2,h1,h2,h3,hb1,hb2,hb3,hc1,hc2,hc3,m1,m2,hmo,he,w1,w2,w3,hw,ih']
theorem total_r (hc : Rk .i64 h s cs) (hv : Rk .i64 h t vs) (hm : Rk .i64 h u ms) {a b w : Int} :
  Ret tab 104 [s,t,u,.int .i64 a,.int .i64 b,.int .i64 w] h R = R (.tuple #[.int .i64 (totRes a b w cs vs ms).1,.int .i64 (totRes a b w cs vs ms).2]) h := by
 rw [enter104,B104]
 obtain ⟨sa,sc,hs⟩ := hc.sl.shape
 obtain ⟨ta,tc,ht⟩ := hv.sl.shape
 obtain ⟨ua,uc,hu⟩ := hm.sl.shape
 unfold totRes
 by_cases hl1 : cs.length = vs.length
 rotate_left
 ·have hl1' : ((cs.length : Int) != vs.length) = true := by simp; omega
  simp [k_guard,hs,ht,hu,hl1,hl1',fin104]
 have hl1' : ((cs.length : Int) != vs.length) = false := by simp; omega
 by_cases hl2 : cs.length = ms.length
 rotate_left
 ·have hl2' : ((cs.length : Int) != ms.length) = true := by simp; omega
  rw [if_pos (.inr hl2)]
  simp [k_guard,hs,ht,hu,hl1',hl2',fin104]
 have hl2' : ((cs.length : Int) != ms.length) = false := by simp; omega
 rw [if_neg (by omega)]
 by_cases hl : 4096 < cs.length
 ·have hl' : (4096 : Int) < cs.length := by omega
  rw [if_pos hl]
  simp [k_guard,hs,ht,hu,hl1',hl2',hl',fin104]
 have hl' : ¬ (4096 : Int) < cs.length := by omega
 rw [if_neg hl]
 have hq := fun H R => qvalid_r (h := H) (R := R) (a := a) (b := b)
 by_cases hqo : QOk a b
 rotate_left
 ·rw [if_pos (.inl hqo)]
  simp [k_guard,hs,ht,hu,hl1',hl2',hl',hq,hqo,fin104]
 by_cases hw0 : w < 0
 ·rw [if_pos (.inr (.inl hw0))]
  simp [k_guard,hs,ht,hu,hl1',hl2',hl',hq,hqo,hw0,fin104]
 by_cases hw1 : 16 < w
 ·rw [if_pos (.inr (.inr hw1))]
  simp [k_guard,hs,ht,hu,hl1',hl2',hl',hq,hqo,hw0,hw1,fin104]
 rw [if_neg (by intro hx; rcases hx with hx | hx | hx; exact hx hqo; exact hw0 hx; exact hw1 hx)]
 obtain ⟨t1,t2⟩ := tot_rng a b cs vs ms cs.length
 obtain ⟨p1,p2⟩ := mul_le_int (a := tot a b cs vs ms cs.length) (b := w) (c := 4096 * 1073676289) (d := 16) t1 (by omega) (by omega) (by omega)
 have hwr : IntKind.i64.wrap (tot a b cs vs ms cs.length * w) = tot a b cs vs ms cs.length * w := wrapI (by omega) (by omega)
 have hL := fun K6 K7 K8 K9 Ka Kb Kc Kd Kg Kh Ki Kj Kk Kl Km Kn Ko Kp Kq Kr Ks Kt Ku Kv Kw Kx Ky Kz J0 J1 J2 J3 J4 J5 J6 J7 J8 J9 Ja Jb Jc Jd Je Jf Jg Jh Ji Jj Jk Jl Jm Jn Jo Jp Jq Jr Js Jt Ju Jv Jw Jx Jy Jz Y0 Y1 Y2 Y3 Y4 Y5 Y6 Y7 Y8 Y9 Ya Yb Yc => total_loop_r (R := R) hc hv hm hl1 hl2 (by omega) (by omega) (by omega) (a := a) (b := b) (w := w) (res := R (.tuple #[.int .i64 (tot a b cs vs ms cs.length * w),.int .i64 0]) h)
  (k := [.code ((RCode.region [⟨some 84,.mov (.tmp 14),none⟩,⟨some 12,.mov (.tmp 84),none⟩,⟨some 13,.mov (.const (.int .i64 0)),none⟩] []).seq .ret)])
  (fun K6 K7 K8 K9 Ka Kb Kc Kd Kf Kg Kh Ki Kj Kk Kl Km Kn Ko Kp Kq Kr Ks Kt Ku Kv Kw Kx Ky Kz J0 J1 J2 J3 J4 J5 J6 J7 J8 J9 Ja Jb Jc Jd Je Jf Jg Jh Ji Jj Jk Jl Jm Jn Jo Jp Jq Jr Js Jt Ju Jv Jw Jx Jy Jz Y0 Y1 Y2 Y3 Y4 Y5 Y6 Y7 Y8 Y9 Ya Yb Yc => by simp [Int.mul_comm w,fin104]) cs.length 0 K6 K7 K8 K9 Ka Kb Kc Kd Kg Kh Ki Kj Kk Kl Km Kn Ko Kp Kq Kr Ks Kt Ku Kv Kw Kx Ky Kz J0 J1 J2 J3 J4 J5 J6 J7 J8 J9 Ja Jb Jc Jd Je Jf Jg Jh Ji Jj Jk Jl Jm Jn Jo Jp Jq Jr Js Jt Ju Jv Jw Jx Jy Jz Y0 Y1 Y2 Y3 Y4 Y5 Y6 Y7 Y8 Y9 Ya Yb Yc (by omega) (by omega)
 simp only [List.drop_zero] at hL
 have t0 : tot a b cs vs ms 0 = 0 := rfl
 rw [t0,Int.mul_zero] at hL
 simp only [Int.cast_ofNat_Int] at hL
 rw [hs,ht,hu] at *
 generalize ms.all mOk = A at *
 cases A <;> simp [k_guard,hl1',hl2',hl',hq,hqo,hw0,hw1] <;> rw [hL] <;> simp
end
def bitAt (xs : List Nat) (n : Nat) : Nat := (xs.getD (n / 8) 0) / 2 ^ (7 - n % 8) % 2
def val : List Nat → Nat
 | [] => 0
 | d :: ds => d * 256 ^ ds.length + val ds
def Dig (ds : List Nat) : Prop := ∀ d ∈ ds,d < 256
theorem val_append : ∀ (a b : List Nat),val (a ++ b) = val a * 256 ^ b.length + val b
 | [],b => by simp [val]
 | d :: a,b => by
  rw [List.cons_append,val,val,val_append a b,List.length_append,Nat.pow_add,Nat.add_mul,Nat.mul_assoc,Nat.add_assoc]
theorem val_lt : ∀ {ds : List Nat},Dig ds → val ds < 256 ^ ds.length
 | [],_ => by simp [val]
 | d :: ds,h => by
  have h1 : d < 256 := h d (by simp)
  have h2 := val_lt (ds := ds) (fun x hx => h x (by simp [hx]))
  rw [val,List.length_cons,Nat.pow_succ]
  have := Nat.mul_le_mul_right (256 ^ ds.length) (show d ≤ 255 by omega)
  omega
def adaptP (p : Nat) (bit : Nat) : Nat := if bit = 0 then p + (4096 - p) / 32 else p - p / 32
def POk (p : Nat) : Prop := 31 ≤ p ∧ p ≤ 4065
theorem adaptP_ok {p bit : Nat} (h : POk p) : POk (adaptP p bit) := by
 unfold POk adaptP at *
 split <;> omega
def PsOk (ps : List Nat) : Prop := ∀ p ∈ ps,POk p
structure AE where
 p : List Nat
 ds : List Nat
 size : Nat
 begun : Bool
def AE.base (n : Nat) : List Nat := List.replicate n 2048
theorem base_ok (n : Nat) : PsOk (AE.base n) := by
 intro p hp
 simp only [AE.base,List.mem_replicate] at hp
 rw [hp.2]; unfold POk; omega
theorem PsOk.getD {ps : List Nat} (h : PsOk ps) {c : Nat} (hc : c < ps.length) : POk (ps.getD c 0) := by
 rw [List.getD_eq_getElem?_getD,List.getElem?_eq_getElem hc]
 exact h _ (List.getElem_mem _)
theorem PsOk.set {ps : List Nat} (h : PsOk ps) {c v : Nat} (hv : POk v) : PsOk (ps.set c v) := by
 intro p hp
 rcases List.mem_or_eq_of_mem_set hp with h1 | h1
 ·exact h p h1
 ·rw [h1]; exact hv
theorem Dig.drop {a : List Nat} (ha : Dig a) (n : Nat) : Dig (a.drop n) := fun d hd => ha d (List.mem_of_mem_drop hd)
section
variable {ds : List Nat} {size : Nat}
end
structure AD where
 p : List Nat
 rest : List Nat
 value : Nat
 size : Nat
def pad (D : List Nat) : Nat → List Nat
 | 0 => []
 | n + 1 => D.headD 0 :: pad D.tail n
def AD.start (p D : List Nat) : AD := ⟨p,D.drop 4,min (val (pad D 4)) 4294967294,4294967295⟩
def AD.split (d : AD) (c : Nat) : Nat := d.size / 4096 * d.p.getD c 0
def AD.bit (d : AD) (c : Nat) : Nat := if d.value < d.split c then 0 else 1
def AD.norm (d : AD) : AD := if d.size < 16777216 then { d with rest := d.rest.tail,value := d.value * 256 + d.rest.headD 0,size := d.size * 256 } else d
def AD.next (d : AD) (c : Nat) : AD :=
 let d1 : AD := if d.value < d.split c then { d with size := d.split c } else { d with value := d.value - d.split c,size := d.size - d.split c }
 { d1.norm with p := d.p.set c (adaptP (d.p.getD c 0) (d.bit c)) }
structure AD.Ok (d : AD) : Prop where
 ps : PsOk d.p
 dig : Dig d.rest
 v : d.value < d.size
 s1 : 16777216 ≤ d.size
 s2 : d.size < 4294967296
theorem pad_len : ∀ (D : List Nat) (n : Nat),(pad D n).length = n
 | _,0 => rfl
 | D,n + 1 => by simp [pad,pad_len D.tail n]
theorem pad_dig : ∀ {D : List Nat} (n : Nat),Dig D → Dig (pad D n)
 | _,0,_ => by intro d hd; simp [pad] at hd
 | [],n + 1,h => by
  intro d hd
  simp only [pad,List.headD_nil,List.tail_nil,List.mem_cons] at hd
  rcases hd with rfl | hd
  ·decide
  ·exact pad_dig n h d hd
 | x :: D,n + 1,h => by
  intro d hd
  simp only [pad,List.headD_cons,List.tail_cons,List.mem_cons] at hd
  rcases hd with rfl | hd
  ·exact h _ (by simp)
  ·exact pad_dig n (fun y hy => h y (by simp [hy])) d hd
theorem pad_succ : ∀ (D : List Nat) (n : Nat),pad D (n + 1) = pad D n ++ [(D.drop n).headD 0]
 | D,0 => by simp [pad]
 | D,n + 1 => by
  rw [pad,pad_succ D.tail n,pad]
  simp
theorem AD.start_ok {p D : List Nat} (hp : PsOk p) (hD : Dig D) : (AD.start p D).Ok :=
 ⟨hp,hD.drop 4,by simp only [AD.start]; omega,by simp [AD.start],by simp [AD.start]⟩
theorem AD.split_rng {d : AD} (h : d.Ok) {c : Nat} (hc : c < d.p.length) : 65536 ≤ d.split c ∧ d.split c + 65536 ≤ d.size := by
 obtain ⟨p1,p2⟩ := h.ps.getD hc
 have h1 := h.s1
 have h2 := h.s2
 unfold AD.split
 generalize d.p.getD c 0 = p at *
 have hq : 4096 ≤ d.size / 4096 := by omega
 have hm := Nat.mul_le_mul hq p1
 have hu := Nat.mul_le_mul_left (d.size / 4096) p2
 have hd := Nat.div_mul_le_self d.size 4096
 generalize d.size / 4096 = q at *
 omega
theorem headD_dig {r : List Nat} (h : Dig r) : r.headD 0 < 256 := by
 cases r with
 | nil => simp
 | cons x r => exact h x (by simp)
theorem Dig.tail {r : List Nat} (h : Dig r) : Dig r.tail := fun x hx => h x (List.mem_of_mem_tail hx)
theorem AD.next_ok {d : AD} (h : d.Ok) {c : Nat} (hc : c < d.p.length) : (d.next c).Ok := by
 obtain ⟨r1,r2⟩ := AD.split_rng h hc
 have hh := headD_dig h.dig
 have hv := h.v
 have h1 := h.s1
 have h2 := h.s2
 have hps : PsOk (d.p.set c (adaptP (d.p.getD c 0) (d.bit c))) := h.ps.set (adaptP_ok (h.ps.getD hc))
 unfold AD.next AD.norm
 simp only
 split
 ·simp only
  split
  ·exact ⟨hps,h.dig.tail,by simp only; omega,by simp only; omega,by simp only; omega⟩
  ·exact ⟨hps,h.dig,by simp only; omega,by simp only; omega,by simp only; omega⟩
 ·simp only
  split
  ·exact ⟨hps,h.dig.tail,by simp only; omega,by simp only; omega,by simp only; omega⟩
  ·exact ⟨hps,h.dig,by simp only; omega,by simp only; omega,by simp only; omega⟩
def nI (xs : List Nat) : List Value := xs.map fun (x : Nat) => .int .i64 x
def nU (xs : List Nat) : List Value := xs.map fun (x : Nat) => .int .u8 x
theorem nI_len (xs : List Nat) : (nI xs).length = xs.length := by simp [nI]
theorem nI_get {xs : List Nat} {i : Nat} (h : i < xs.length) : (nI xs)[i]? = some (.int .i64 (xs.getD i 0 : Nat)) := by simp [nI,h]
theorem nU_get {xs : List Nat} {i : Nat} (h : i < xs.length) : (nU xs)[i]? = some (.int .u8 (xs.getD i 0 : Nat)) := by simp [nU,h]
theorem nI_set {xs : List Nat} {i v : Nat} : (nI xs).set i (.int .i64 (v : Nat)) = nI (xs.set i v) := by simp [nI,List.map_set]
theorem get_of {α : Type} {C : List α} {i : Nat} {v : α} (h : C[i]? = some v) : ∀ hh : i < C.length,C[i]'hh = v := fun hh => by
 rw [List.getElem?_eq_getElem hh] at h; exact Option.some.inj h
structure EF (h h' : Heap) (e pb : Nat) (o o' : Value) : Prop where
 len : h.length ≤ h'.length
 same : ∀ id,id < h.length → id ≠ e → id ≠ pb → sid o ≠ some id → blk? h' id = blk? h id
 fresh : ∀ id,sid o' = some id → sid o = some id ∨ (h.length ≤ id ∧ id < h'.length)
section
variable {h : Heap} {R : RP} {e pb : Nat} {o : Value} {p out : List Nat} {low size : Nat} {begun : Bool}
theorem has_c {q : Nat} {cs : List Value} {n c : Nat} {z : Nat} (h1 : blk? h q = some ⟨false,.slice (some ⟨z,0,none⟩) n 1 :: cs⟩) : Ret tab 234 [ptr q,.int .i64 (c : Nat)] h R = R (.bool (decide (c < n))) h := by
 rw [enter234,B234]
 by_cases hc : c < n
 ·simp [k_guard,h1,hc,fin234]
 ·simp [k_guard,h1,hc,fin234]
theorem split_c {q : Nat} {cs : List Value} {c : Nat} {z size : Nat} (h1 : blk? h q = some ⟨false,.slice (some ⟨z,0,none⟩) p.length 1 :: cs⟩) (h2 : blk? h z = some ⟨false,nI p⟩) (hc : c < p.length) (hpc : p.getD c 0 ≤ 4096) (hs : size < 4294967296) :
  Ret tab 235 [ptr q,.int .i64 (c : Nat),.int .i64 (size : Nat)] h R = R (.int .i64 (size / 4096 * p.getD c 0 : Nat)) h := by
 have g := nI_get hc
 have d : ((size : Int)).tdiv 4096 = ((size / 4096 : Nat) : Int) := by rw [Int.tdiv_eq_ediv_of_nonneg (by omega)]; omega
 have w1 : IntKind.i64.wrap ((size / 4096 : Nat) : Int) = ((size / 4096 : Nat) : Int) := wrapN (by omega)
 have hm := Nat.mul_le_mul (show size / 4096 ≤ 1048576 by omega) hpc
 generalize hx : p.getD c 0 = x at *
 have w2 : IntKind.i64.wrap (((size / 4096 : Nat) : Int) * (x : Int)) = ((size / 4096 * x : Nat) : Int) := by
  rw [← Int.natCast_mul]; exact wrapN (by omega)
 generalize ((size / 4096 * x : Nat) : Int) = y at *
 generalize hz : ((size / 4096 : Nat) : Int) = z' at *
 generalize nI p = C at *
 rw [enter235,B235]
 simp [-Int.natCast_ediv,h1,h2,hc,g,d,w1,w2,fin235]
theorem adapt_eq {x b : Nat} (hx : POk x) (hb : b < 2) : Ret tab 237 [.int .i64 (x : Nat),.int .i64 (b : Nat)] h R = R (.int .i64 (adaptP x b : Nat)) h := by
 obtain ⟨h1,h2⟩ := hx
 have n1 : ¬ ((x : Int) < 0) := by omega
 have n2 : ¬ ((4096 : Int) < x) := by omega
 rw [enter237,B237]
 unfold adaptP
 by_cases hb0 : b = 0
 ·subst hb0
  have w1 : IntKind.i64.wrap (4096 - (x : Int)) = 4096 - (x : Int) := wrapI (by omega) (by omega)
  have d : (4096 - (x : Int)).tdiv 32 = (4096 - (x : Int)) / 32 := Int.tdiv_eq_ediv_of_nonneg (by omega)
  have w2 : IntKind.i64.wrap ((4096 - (x : Int)) / 32) = (4096 - (x : Int)) / 32 := wrapI (by omega) (by omega)
  have w3 : IntKind.i64.wrap ((x : Int) + (4096 - (x : Int)) / 32) = ((x + (4096 - x) / 32 : Nat) : Int) := by rw [wrapI (by omega) (by omega)]; omega
  rw [if_pos rfl]
  generalize ((x + (4096 - x) / 32 : Nat) : Int) = y at *
  simp [k_guard,n1,n2,w1,d,w2,w3,fin237]
 ·obtain rfl : b = 1 := by omega
  have d : ((x : Int)).tdiv 32 = (x : Int) / 32 := Int.tdiv_eq_ediv_of_nonneg (by omega)
  have w2 : IntKind.i64.wrap ((x : Int) / 32) = (x : Int) / 32 := wrapI (by omega) (by omega)
  have w3 : IntKind.i64.wrap ((x : Int) - (x : Int) / 32) = ((x - x / 32 : Nat) : Int) := by rw [wrapI (by omega) (by omega)]; omega
  rw [if_neg (by omega)]
  generalize ((x - x / 32 : Nat) : Int) = y at *
  simp [k_guard,n1,n2,d,w2,w3,fin237]
theorem adapt_c {q : Nat} {cs : List Value} {c b : Nat} {z : Nat} (h1 : blk? h q = some ⟨false,.slice (some ⟨z,0,none⟩) p.length 1 :: cs⟩) (h2 : blk? h z = some ⟨false,nI p⟩) (hne : q ≠ z) (hc : c < p.length) (hp : PsOk p) (hb : b < 2) :
  Ret tab 236 [ptr q,.int .i64 (c : Nat),.int .i64 (b : Nat)] h R = R (.tuple #[]) (h.set z (some ⟨false,nI (p.set c (adaptP (p.getD c 0) b))⟩)) := by
 have g := nI_get hc
 have ha := fun H R => adapt_eq (h := H) (R := R) (hp.getD hc) hb
 have hs := nI_set (xs := p) (i := c) (v := adaptP (p.getD c 0) b)
 have hl : c + 1 ≤ (nI p).length := by rw [nI_len]; exact hc
 have hz := blk?_lt h2
 have hl1 : blk? (h.set z (some ⟨false,nI (p.set c (adaptP (p.getD c 0) b))⟩)) q = some ⟨false,.slice (some ⟨z,0,none⟩) p.length 1 :: cs⟩ := by rw [blk?_set_ne (Ne.symm hne)]; exact h1
 have g' := get_of g
 generalize p.set c (adaptP (p.getD c 0) b) = p' at *
 generalize adaptP (p.getD c 0) b = v at *
 generalize p.getD c 0 = x at *
 generalize nI p = C at *
 rw [enter236,B236]
 simp [book,logOf,addLog,chk1,lookL,reload,h1,h2,hc,g,g',ha,hl,hs,hl1,fin236]
end
section
variable {h : Heap} {R : RP} {e pb : Nat} {o : Value} {p out : List Nat} {low size : Nat} {begun : Bool}
theorem app1v {H : Heap} {s v : Value} {n bytes : Nat} {cs : List Value} (ho : OwnS H 1 s n cs) (hn : n + 1 ≤ roomCells) (hb : bytes ≤ 4096) :
  ∃ H1,appendV (H ++ [some ⟨false,[v]⟩]) 1 bytes s (.slice (some ⟨H.length,0,none⟩) 1 1) = some (.slice (some ⟨H.length + 1,0,none⟩) (n + 1) 1,H1) ∧
   blk? H1 (H.length + 1) = some ⟨false,cs ++ [v]⟩ ∧ H1.length = H.length + 2 ∧ ∀ id,id < H.length → sid s ≠ some id → blk? H1 id = blk? H id := by
 have ho' : OwnS (H ++ [some ⟨false,[v]⟩]) 1 s n cs := ho.of_blk fun id hid hb => by rw [blk?_push_lt (blk?_lt hb)]; exact hb
 have ht : Sl (H ++ [some ⟨false,[v]⟩]) 1 (.slice (some ⟨H.length,0,none⟩) 1 1) 1 [v] := ⟨rfl,.inr ⟨H.length,0,rfl,.inr ⟨_,blk?_push_eq,by simp,by simp⟩⟩⟩
 obtain ⟨H1,e,hb,hl,hk⟩ := own_append ho' ht hn hb (by omega)
 have hlen : (H ++ [some (⟨false,[v]⟩ : Blk)]).length = H.length + 1 := by simp
 rw [hlen] at e hb hl hk
 exact ⟨H1,e,hb,hl,fun id hid hne => by rw [hk id (by omega) hne,blk?_push_lt hid]⟩
end
set_option maxRecDepth 4000
section
variable {h : Heap} {R : RP} {e pb : Nat} {o : Value} {p out : List Nat} {low size : Nat} {begun : Bool} {a : AE}
end
section
variable {h : Heap} {R : RP} {e pb : Nat} {o : Value} {p out : List Nat} {low size : Nat} {begun : Bool} {a : AE}
theorem restart_loop {q z : Nat} {cs : List Value} {n : Nat} (h1 : blk? h q = some ⟨false,.slice (some ⟨z,0,none⟩) n 1 :: cs⟩) (hz : z < h.length) (hne : q ≠ z) (hl : p.length = n) (hn : n < 1000000) {k : List RItem} {res : Prop}
  (hk : ∀ K1 K2 K3 K4 K5 K6 K7 K8 K9 Ka Kb Kc Kd Ke Kf Kg Kh : Value,Ok tab R84 k #[ptr q,K1,K2,K3,K4,K5,K6,K7,K8,K9,Ka,Kb,Kc,Kd,Ke,Kf,Kg,Kh] (h.set z (some ⟨false,nI (List.replicate n 2048)⟩)) R = res) :
  ∀ (m i : Nat) (K1 K2 K3 K4 K5 K6 K9 Ka Kb Kc Kd Ke Kf Kg Kh : Value),i + m = n →
   Ok tab R84 (.inLoop L84_0 :: .inBlock 0 :: k) #[ptr q,K1,K2,K3,K4,K5,K6,.int .i64 (n : Nat),.int .i64 (i : Nat),K9,Ka,Kb,Kc,Kd,Ke,Kf,Kg,Kh] (h.set z (some ⟨false,nI (List.replicate i 2048 ++ p.drop i)⟩)) R = res := by
 intro m
 induction m with
 | zero =>
  intro i;intros;rename_i him
  obtain rfl : i = n := by omega
  have hlt : ¬ ((i : Int) < (i : Int)) := by omega
  rw [List.drop_of_length_le (by omega),List.append_nil]
  rw [ok_round,l84_0,L84_0a,L84_0b]
  simp [hk]
 | succ m ih =>
  intro i;intros;rename_i him
  have hlt : ((i : Int) < n) := by omega
  have hin : i < n := by omega
  have hw : IntKind.i64.wrap ((i : Int) + 1) = ((i + 1 : Nat) : Int) := wrapN (n := i + 1) (by omega)
  have ih' := fun K1 K2 K3 K4 K5 K6 K9 Ka Kb Kc Kd Ke Kf Kg Kh => ih (i + 1) K1 K2 K3 K4 K5 K6 K9 Ka Kb Kc Kd Ke Kf Kg Kh (by omega)
  have hq : ∀ x,blk? (h.set z x) q = some ⟨false,.slice (some ⟨z,0,none⟩) n 1 :: cs⟩ := fun x => by rw [blk?_set_ne (Ne.symm hne)]; exact h1
  have hzz : ∀ x,blk? (h.set z x) z = x := fun x => blk?_set_eq hz
  have hst := nI_set (xs := List.replicate i 2048 ++ p.drop i) (i := i) (v := 2048)
  have hlist : (List.replicate i 2048 ++ p.drop i).set i 2048 = List.replicate (i + 1) 2048 ++ p.drop (i + 1) := by
   rw [List.set_append_right _ _ (by simp),List.length_replicate,Nat.sub_self,List.drop_eq_getElem_cons (show i < p.length by omega),List.set_cons_zero,List.replicate_succ',List.append_assoc]; rfl
  rw [hlist] at hst
  have hcl : i + 1 ≤ (nI (List.replicate i 2048 ++ p.drop i)).length := by rw [nI_len]; simp; omega
  have hst' : (nI (List.replicate i 2048 ++ p.drop i)).set i (.int .i64 2048) = nI (List.replicate (i + 1) 2048 ++ p.drop (i + 1)) := hst
  generalize nI (List.replicate i 2048 ++ p.drop i) = C at *
  generalize nI (List.replicate (i + 1) 2048 ++ p.drop (i + 1)) = C2 at *
  generalize ((i + 1 : Nat) : Int) = i1 at *
  rw [ok_round,l84_0,L84_0a,L84_0b]
  simp [hlt,hin,hq,hzz,hcl,hst',hw,ih']
theorem restart_c {q z : Nat} {cs : List Value} (h1 : blk? h q = some ⟨false,.slice (some ⟨z,0,none⟩) p.length 1 :: cs⟩) (h2 : blk? h z = some ⟨false,nI p⟩) (hne : q ≠ z) (hn : p.length < 1000000) :
  Ret tab 84 [ptr q] h R = R (.tuple #[]) (h.set z (some ⟨false,nI (List.replicate p.length 2048)⟩)) := by
 have hz := blk?_lt h2
 have e0 : h.set z (some ⟨false,nI (List.replicate 0 2048 ++ p.drop 0)⟩) = h := by
  rw [List.replicate_zero,List.nil_append,List.drop_zero]
  unfold blk? at h2
  split at h2
  ·rename_i b hx
   injection h2 with h2
   subst h2
   obtain ⟨hlt,hg⟩ := List.getElem?_eq_some_iff.1 hx
   rw [← hg,List.set_getElem_self]
  ·cases h2
 have hL := fun K1 K2 K3 K4 K5 K6 K9 Ka Kb Kc Kd Ke Kf Kg Kh => restart_loop (R := R) h1 hz hne rfl hn (k := []) (res := R (.tuple #[]) (h.set z (some ⟨false,nI (List.replicate p.length 2048)⟩))) (fun K1 K2 K3 K4 K5 K6 K7 K8 K9 Ka Kb Kc Kd Ke Kf Kg Kh => by simp [fin84]) p.length 0 K1 K2 K3 K4 K5 K6 K9 Ka Kb Kc Kd Ke Kf Kg Kh (by omega)
 rw [e0] at hL
 simp only [Int.cast_ofNat_Int] at hL
 rw [enter84,B84]
 simp [h1,hL]
theorem repL_nI : ∀ n : Nat,repL [.int .i64 0] n = nI (List.replicate n 0)
 | 0 => rfl
 | n + 1 => by rw [repL,repL_nI n,List.replicate_succ]; rfl
theorem newModels_c {n : Nat} (h1 : 1 ≤ n) (h2 : n ≤ 64) : ∃ h',(∀ R,Ret tab 81 [.int .i64 (n : Nat)] h R = R (.agg #[.slice (some ⟨h.length + 1,0,none⟩) n 1]) h') ∧ blk? h' (h.length + 1) = some ⟨false,nI (AE.base n)⟩ ∧
  h'.length = h.length + 3 ∧ ∀ id,id < h.length → blk? h' id = blk? h id := by
 generalize hH : h ++ [some (⟨false,[.slice none 0 0]⟩ : Blk),some ⟨false,nI (List.replicate n 0)⟩,some ⟨false,[.slice (some ⟨h.length + 1,0,none⟩) n 1]⟩] = H
 have b0 : blk? H h.length = some ⟨false,[.slice none 0 0]⟩ := by rw [← hH,app_len]; rfl
 have b1 : blk? H (h.length + 1) = some ⟨false,nI (List.replicate n 0)⟩ := by rw [← hH,app_add]; rfl
 have b2 : blk? H (h.length + 2) = some ⟨false,[.slice (some ⟨h.length + 1,0,none⟩) n 1]⟩ := by rw [← hH,app_add]; rfl
 have hlen : H.length = h.length + 3 := by rw [← hH]; simp
 have hr := fun R => restart_c (h := H) (R := R) (q := h.length + 2) (z := h.length + 1) (p := List.replicate n 0) (cs := []) (by simpa using b2) b1 (by omega) (by simp; omega)
 simp only [List.length_replicate] at hr
 have l2 : blk? (H.set (h.length + 1) (some ⟨false,nI (List.replicate n 2048)⟩)) (h.length + 2) = some ⟨false,[.slice (some ⟨h.length + 1,0,none⟩) n 1]⟩ := by rw [blk?_set_ne (by omega)]; exact b2
 have l0 : blk? (H.set (h.length + 1) (some ⟨false,nI (List.replicate n 2048)⟩)) h.length = some ⟨false,[.slice none 0 0]⟩ := by rw [blk?_set_ne (by omega)]; exact b0
 refine ⟨(H.set (h.length + 1) (some ⟨false,nI (List.replicate n 2048)⟩)).set h.length (some ⟨false,[.slice (some ⟨h.length + 1,0,none⟩) n 1]⟩),fun R => ?_,?_,by simp [hlen],fun id hid => ?_⟩
 ·have hroom : ((n : Nat) : Int) ≤ (roomCells : Int) := by unfold roomCells; omega
  have hs0 : h.length < (H.set (h.length + 1) (some ⟨false,nI (List.replicate n 2048)⟩)).length := by simp [hlen]
  have l3 : ∀ x,blk? ((H.set (h.length + 1) (some ⟨false,nI (List.replicate n 2048)⟩)).set h.length x) h.length = x := fun x => blk?_set_eq hs0
  have hset : (h ++ [some (⟨false,[.slice none 0 0]⟩ : Blk),some ⟨false,nI (List.replicate n 0)⟩,some ⟨false,[.slice none 0 0]⟩]).set (h.length + 2) (some ⟨false,[.slice (some ⟨h.length + 1,0,none⟩) n 1]⟩) = H := by rw [← hH,app_setk]; rfl
  have b3 : blk? (h ++ [some (⟨false,[.slice none 0 0]⟩ : Blk),some ⟨false,nI (List.replicate n 0)⟩,some ⟨false,[.slice none 0 0]⟩]) (h.length + 2) = some ⟨false,[.slice none 0 0]⟩ := by rw [app_add]; rfl
  rw [enter81,B81]
  simp [hroom,repL_nI,b3,hset,hr,l2,l0]
  simp [finishV,R81,allSome,resV,l3]
 ·rw [blk?_set_ne (by omega),blk?_set_eq (by omega)]; rfl
 ·rw [blk?_set_ne (by omega),blk?_set_ne (by omega),← hH]; exact app_lt hid
end
theorem shlM {q k : Nat} (hk : k ≤ 32) (hq : q * 2 ^ k < 9223372036854775808) : shlI .i64 (q : Int) (k : Int) = ((q * 2 ^ k : Nat) : Int) := by
 unfold shlI
 rw [Int.toNat_natCast]
 have : min k IntKind.i64.bits = k := by show min k 64 = k; omega
 rw [this]
 have e2 : ((q : Int) * 2 ^ k) = ((q * 2 ^ k : Nat) : Int) := by simp
 rw [e2]; exact wrapN hq
section
variable {h : Heap} {R : RP} {e pb : Nat} {o : Value} {p out : List Nat} {low size : Nat} {begun : Bool} {a : AE}
end
structure Cell where
 v : Int
 s : Bool
 t : Bool
 r : Bool
def Cell.zero : Cell := ⟨0,false,false,false⟩
def Cell.enc (c : Cell) : List Value := [.int .i64 c.v,.bool c.s,.bool c.t,.bool c.r]
def encC : List Cell → List Value
 | [] => []
 | c :: r => c.enc ++ encC r
theorem encC_len : ∀ l : List Cell,(encC l).length = l.length * 4
 | [] => rfl
 | c :: r => by rw [encC,List.length_append,encC_len r]; simp [Cell.enc]; omega
theorem encC_get : ∀ (l : List Cell) (i j : Nat),j < 4 → (encC l)[i * 4 + j]? = (l[i]?).bind fun c => c.enc[j]?
 | [],i,j,_ => by simp [encC]
 | c :: r,0,j,hj => by
  rw [encC,List.getElem?_append_left (by simp [Cell.enc]; omega)]; simp
 | c :: r,i + 1,j,hj => by
  rw [encC,List.getElem?_append_right (by simp [Cell.enc]; omega)]
  have := encC_get r i j hj
  rw [show (i + 1) * 4 + j - c.enc.length = i * 4 + j by simp [Cell.enc]; omega,this]
  simp
theorem encC_drop : ∀ (l : List Cell) (i : Nat),(h : i < l.length) → ((encC l).drop (i * 4)).take 4 = l[i].enc
 | [],i,h => by simp at h
 | c :: r,0,_ => by simp [encC,Cell.enc]
 | c :: r,i + 1,h => by
  rw [encC,show (i + 1) * 4 = c.enc.length + i * 4 by simp [Cell.enc]; omega,List.drop_length_add_append]
  simpa using encC_drop r i (by simpa using h)
theorem encC_set : ∀ (l : List Cell) (i : Nat) (c : Cell),i < l.length → encC (l.set i c) = writeAt (encC l) (i * 4) c.enc
 | [],i,c,h => by simp at h
 | x :: r,0,c,_ => by simp [encC,Cell.enc]
 | x :: r,i + 1,c,h => by
  have ih := encC_set r i c (by simpa using h)
  rw [List.set_cons_succ,encC,ih,encC]
  rw [writeAt_eq _ _ _ (by rw [encC_len]; simp [Cell.enc]; simp at h; omega),writeAt_eq _ _ _ (by rw [List.length_append,encC_len]; simp [Cell.enc]; simp at h; omega)]
  rw [show (i + 1) * 4 = x.enc.length + i * 4 by simp [Cell.enc]; omega,List.take_length_add_append,show x.enc.length + i * 4 + c.enc.length = x.enc.length + (i * 4 + c.enc.length) by omega,List.drop_length_add_append]
  simp
theorem encC_noAddr (n : Nat) : ∀ l : List Cell,belowL n (encC l) = true
 | [] => by simp [encC]
 | c :: r => by simp [encC,Cell.enc,encC_noAddr n r]
theorem set_self {l : List Value} {i : Nat} {v : Value} (h : l[i]? = some v) : l.set i v = l := by
 obtain ⟨hi,rfl⟩ := List.getElem?_eq_some_iff.1 h
 simp
theorem encC_set1 {l : List Cell} {i : Nat} (h : i < l.length) {v : Int} : (encC l).set (i * 4) (.int .i64 v) = encC (l.set i { l[i] with v := v }) := by
 have g := encC_get l i
 have h0 : l[i]? = some l[i] := List.getElem?_eq_getElem h
 rw [encC_set _ _ _ h]
 simp only [Cell.enc,write_cons,write_nil]
 have g1 : (encC l)[i * 4 + 1]? = some (.bool l[i].s) := by rw [g 1 (by omega),h0]; rfl
 have g2 : (encC l)[i * 4 + 2]? = some (.bool l[i].t) := by rw [g 2 (by omega),h0]; rfl
 have g3 : (encC l)[i * 4 + 3]? = some (.bool l[i].r) := by rw [g 3 (by omega),h0]; rfl
 rw [set_self (l := (encC l).set (i * 4) _) (by rw [List.getElem?_set_ne (by omega)]; exact g1)]
 rw [set_self (l := (encC l).set (i * 4) _) (by rw [List.getElem?_set_ne (by omega)]; exact g2)]
 rw [set_self (l := (encC l).set (i * 4) _) (by rw [List.getElem?_set_ne (by omega)]; exact g3)]
theorem encC_set2 {l : List Cell} {i : Nat} (h : i < l.length) {b : Bool} : (encC l).set (i * 4 + 1) (.bool b) = encC (l.set i { l[i] with s := b }) := by
 have g := encC_get l i
 have h0 : l[i]? = some l[i] := List.getElem?_eq_getElem h
 rw [encC_set _ _ _ h]
 simp only [Cell.enc,write_cons,write_nil]
 have g0 : (encC l)[i * 4]? = some (.int .i64 l[i].v) := by have := g 0 (by omega); rw [Nat.add_zero] at this; rw [this,h0]; rfl
 have g2 : (encC l)[i * 4 + 2]? = some (.bool l[i].t) := by rw [g 2 (by omega),h0]; rfl
 have g3 : (encC l)[i * 4 + 3]? = some (.bool l[i].r) := by rw [g 3 (by omega),h0]; rfl
 rw [set_self g0]
 rw [set_self (l := (encC l).set (i * 4 + 1) _) (by rw [List.getElem?_set_ne (by omega)]; exact g2)]
 rw [set_self (l := (encC l).set (i * 4 + 1) _) (by rw [List.getElem?_set_ne (by omega)]; exact g3)]
theorem encC_set3 {l : List Cell} {i : Nat} (h : i < l.length) {b : Bool} : (encC l).set (i * 4 + 2) (.bool b) = encC (l.set i { l[i] with t := b }) := by
 have g := encC_get l i
 have h0 : l[i]? = some l[i] := List.getElem?_eq_getElem h
 rw [encC_set _ _ _ h]
 simp only [Cell.enc,write_cons,write_nil]
 have g0 : (encC l)[i * 4]? = some (.int .i64 l[i].v) := by have := g 0 (by omega); rw [Nat.add_zero] at this; rw [this,h0]; rfl
 have g1 : (encC l)[i * 4 + 1]? = some (.bool l[i].s) := by rw [g 1 (by omega),h0]; rfl
 have g3 : (encC l)[i * 4 + 3]? = some (.bool l[i].r) := by rw [g 3 (by omega),h0]; rfl
 rw [set_self g0,set_self g1]
 rw [set_self (l := (encC l).set (i * 4 + 2) _) (by rw [List.getElem?_set_ne (by omega)]; exact g3)]
theorem encC_set4 {l : List Cell} {i : Nat} (h : i < l.length) {b : Bool} : (encC l).set (i * 4 + 3) (.bool b) = encC (l.set i { l[i] with r := b }) := by
 have g := encC_get l i
 have h0 : l[i]? = some l[i] := List.getElem?_eq_getElem h
 rw [encC_set _ _ _ h]
 simp only [Cell.enc,write_cons,write_nil]
 have g0 : (encC l)[i * 4]? = some (.int .i64 l[i].v) := by have := g 0 (by omega); rw [Nat.add_zero] at this; rw [this,h0]; rfl
 have g1 : (encC l)[i * 4 + 1]? = some (.bool l[i].s) := by rw [g 1 (by omega),h0]; rfl
 have g2 : (encC l)[i * 4 + 2]? = some (.bool l[i].t) := by rw [g 2 (by omega),h0]; rfl
 rw [set_self g0,set_self g1,set_self g2]
structure BS where
 w : Nat
 h : Nat
 cs : List Cell
structure BS.Ok (b : BS) : Prop where
 w1 : 1 ≤ b.w
 w2 : b.w ≤ 64
 h1 : 1 ≤ b.h
 h2 : b.h ≤ 64
 len : b.cs.length = b.w * b.h
def BS.inb (b : BS) (x y : Int) : Prop := 0 ≤ x ∧ x < b.w ∧ 0 ≤ y ∧ y < b.h
instance (b : BS) (x y : Int) : Decidable (b.inb x y) := by unfold BS.inb; exact inferInstance
def BS.idx (b : BS) (x y : Int) : Nat := (y * b.w + x).toNat
def BS.get (b : BS) (x y : Int) : Cell := if b.inb x y then b.cs.getD (b.idx x y) .zero else .zero
def BS.upd (b : BS) (x y : Int) (f : Cell → Cell) : BS := { b with cs := b.cs.set (b.idx x y) (f (b.get x y)) }
theorem mul_le64 {a b c d : Nat} (h1 : a ≤ c) (h2 : b ≤ d) : a * b ≤ c * d := Nat.mul_le_mul h1 h2
theorem BS.idx_lt {b : BS} (ho : b.Ok) {x y : Int} (hi : b.inb x y) : b.idx x y < b.cs.length := by
 obtain ⟨h1,h2,h3,h4⟩ := hi
 rw [ho.len]
 obtain ⟨n,rfl⟩ := Int.eq_ofNat_of_zero_le h1
 obtain ⟨m,rfl⟩ := Int.eq_ofNat_of_zero_le h3
 have e : b.idx n m = m * b.w + n := by
  unfold BS.idx
  rw [show ((m : Int) * b.w + n) = ((m * b.w + n : Nat) : Int) by simp]; rfl
 rw [e]
 have hm : m + 1 ≤ b.h := by omega
 have := Nat.mul_le_mul_right b.w hm
 rw [Nat.add_mul] at this
 rw [Nat.mul_comm b.w]
 omega
theorem BS.idx_int {b : BS} (ho : b.Ok) {x y : Int} (hi : b.inb x y) : y * b.w + x = (b.idx x y : Int) ∧ b.idx x y < 4096 ∧ 0 ≤ y * (b.w : Int) ∧ y * (b.w : Int) ≤ 4096 := by
 have hl := BS.idx_lt ho hi
 obtain ⟨h1,h2,h3,h4⟩ := hi
 have h0 : 0 ≤ y * (b.w : Int) := Int.mul_nonneg h3 (by omega)
 have hm := mul_le64 ho.w2 ho.h2
 rw [← ho.len] at hm
 have he : y * b.w + x = (b.idx x y : Int) := by unfold BS.idx; rw [Int.toNat_of_nonneg (by omega)]
 refine ⟨he,by omega,h0,by omega⟩
theorem BS.get_in {b : BS} (ho : b.Ok) {x y : Int} (hi : b.inb x y) : b.cs[b.idx x y]? = some (b.get x y) := by
 unfold BS.get
 rw [if_pos hi,List.getD_eq_getElem?_getD,List.getElem?_eq_getElem (BS.idx_lt ho hi)]; rfl
theorem BS.getElem_in {b : BS} (ho : b.Ok) {x y : Int} (hi : b.inb x y) : b.cs[b.idx x y]'(BS.idx_lt ho hi) = b.get x y := by
 have := BS.get_in ho hi
 rw [List.getElem?_eq_getElem (BS.idx_lt ho hi)] at this
 exact Option.some.inj this
theorem BS.get_out {b : BS} {x y : Int} (hi : ¬ b.inb x y) : b.get x y = .zero := by
 unfold BS.get; rw [if_neg hi]
theorem BS.Ok.upd {b : BS} (ho : b.Ok) (x y : Int) (f : Cell → Cell) : (b.upd x y f).Ok := ⟨ho.w1,ho.w2,ho.h1,ho.h2,by simp [BS.upd,ho.len]⟩
theorem BS.idx_inj {b : BS} (ho : b.Ok) {x y x' y' : Int} (hi : b.inb x y) (hi' : b.inb x' y') (he : b.idx x y = b.idx x' y') : x = x' ∧ y = y' := by
 have h1 := (BS.idx_int ho hi).1
 have h2 := (BS.idx_int ho hi').1
 rw [← he,← h1] at h2
 obtain ⟨a1,a2,a3,a4⟩ := hi
 obtain ⟨b1,b2,b3,b4⟩ := hi'
 have hy : y = y' := by
  rcases Int.lt_trichotomy y y' with h | h | h
  ·have := Int.mul_le_mul_of_nonneg_right (show y + 1 ≤ y' by omega) (show (0 : Int) ≤ b.w by omega)
   rw [Int.add_mul] at this; omega
  ·exact h
  ·have := Int.mul_le_mul_of_nonneg_right (show y' + 1 ≤ y by omega) (show (0 : Int) ≤ b.w by omega)
   rw [Int.add_mul] at this; omega
 subst hy
 exact ⟨by omega,rfl⟩
theorem BS.get_upd {b : BS} (ho : b.Ok) {x y : Int} (hi : b.inb x y) (f : Cell → Cell) (x' y' : Int) : (b.upd x y f).get x' y' = if x' = x ∧ y' = y then f (b.get x y) else b.get x' y' := by
 have hinb : (b.upd x y f).inb x' y' ↔ b.inb x' y' := Iff.rfl
 have hidx : (b.upd x y f).idx x' y' = b.idx x' y' := rfl
 by_cases hi' : b.inb x' y'
 ·have hl := BS.idx_lt ho hi
  have e : (b.upd x y f).get x' y' = ((b.cs.set (b.idx x y) (f (b.get x y)))[b.idx x' y']?).getD .zero := by
   unfold BS.get
   rw [if_pos (hinb.2 hi'),List.getD_eq_getElem?_getD]; rfl
  rw [e]
  by_cases hx : x' = x ∧ y' = y
  ·obtain ⟨rfl,rfl⟩ := hx
   rw [if_pos ⟨rfl,rfl⟩,List.getElem?_set_self hl]; rfl
  ·rw [if_neg hx,List.getElem?_set_ne (fun h => hx (by have := BS.idx_inj ho hi hi' h; exact ⟨this.1.symm,this.2.symm⟩)),BS.get_in ho hi']; rfl
 ·rw [BS.get_out (fun h => hi' (hinb.1 h)),BS.get_out hi',if_neg]
  rintro ⟨rfl,rfl⟩
  exact hi' hi
def one (b : BS) (x y : Int) : Nat := if (b.get x y).s = true then 1 else 0
def nbH (b : BS) (x y : Int) : Nat := one b (x - 1) y + one b (x + 1) y
def nbV (b : BS) (x y : Int) (causal : Bool) : Nat := one b x (y - 1) + if (!causal || y % 4 != 3) = true then one b x (y + 1) else 0
def nbD (b : BS) (x y : Int) (causal : Bool) : Nat := one b (x - 1) (y - 1) + one b (x + 1) (y - 1) + if (!causal || y % 4 != 3) = true then one b (x - 1) (y + 1) + one b (x + 1) (y + 1) else 0
def sgn (b : BS) (x y : Int) : Int := if (b.get x y).s = true then (if (b.get x y).v < 0 then -1 else 1) else 0
def joint (s t : Int) : Int := min (max (s + t) (-1)) 1
def sgH (b : BS) (x y : Int) : Int := joint (sgn b (x - 1) y) (sgn b (x + 1) y)
def sgV (b : BS) (x y : Int) (causal : Bool) : Int := joint (sgn b x (y - 1)) (if (!causal || y % 4 != 3) = true then sgn b x (y + 1) else 0)
structure CB (h : Heap) (f : Bool) (p c : Nat) (b : BS) : Prop where
 blkp : blk? h p = some ⟨f,[.int .i64 b.w,.int .i64 b.h,.slice (some ⟨c,0,none⟩) (b.w * b.h) 4]⟩
 blkc : blk? h c = some ⟨f,encC b.cs⟩
 ok : b.Ok
theorem CB.frz {h : Heap} {f : Bool} {p c : Nat} {b : BS} (hb : CB h f p c b) : CB (frz h) true p c b :=
 ⟨blk_frz hb.blkp (by simp [blk?_lt hb.blkc]),blk_frz hb.blkc (encC_noAddr _ _),hb.ok⟩
theorem CB.ne {h : Heap} {f : Bool} {p c : Nat} {b : BS} (hb : CB h f p c b) : p ≠ c := by
 intro e
 have h1 := hb.blkp
 rw [e,hb.blkc] at h1
 have h2 := congrArg (fun o : Option Blk => o.map (fun b => b.cells[2]?)) h1
 simp only [Option.map_some,Option.some.injEq] at h2
 have h3 := encC_get b.cs 0 2 (by omega)
 rw [show 0 * 4 + 2 = 2 by rfl] at h3
 rw [h3] at h2
 cases hx : b.cs[0]? with
 | none => rw [hx] at h2; simp at h2
 | some x => rw [hx] at h2; simp [Cell.enc] at h2
theorem CB.set {h : Heap} {p c : Nat} {b b' : BS} (hb : CB h false p c b) (hw : b'.w = b.w) (hh : b'.h = b.h) (ho : b'.Ok) : CB (h.set c (some ⟨false,encC b'.cs⟩)) false p c b' :=
 ⟨by rw [blk?_set_ne (Ne.symm hb.ne),hw,hh]; exact hb.blkp,blk?_set_eq (blk?_lt hb.blkc),ho⟩
section
variable {h : Heap} {f : Bool} {p c : Nat} {b : BS} {x y : Int} {R : RP}
theorem CB.at (hb : CB h f p c b) (hi : b.inb x y) :
  IntKind.i64.wrap (IntKind.i64.wrap (y * (b.w : Int)) + x) = (b.idx x y : Int) ∧ (b.idx x y : Int) < ((b.w * b.h : Nat) : Int) ∧ b.idx x y < b.cs.length ∧ b.idx x y < b.w * b.h := by
 obtain ⟨h1,h2,h3,h4⟩ := BS.idx_int hb.ok hi
 have hl := BS.idx_lt hb.ok hi
 have hm := mul_le64 hb.ok.w2 hb.ok.h2
 have := hb.ok.len
 rw [wrapI (n := y * (b.w : Int)) (by omega) (by omega),h1,wrapI (by omega) (by omega)]
 exact ⟨rfl,by omega,hl,by omega⟩
theorem at_in (hb : CB h f p c b) (hi : b.inb x y) : Ret tab 113 [ptr p,.int .i64 x,.int .i64 y] h R = R (.pointer (some ⟨c,b.idx x y * 4,none⟩)) h := by
 have hp := hb.frz.blkp
 have hlp := blk?_lt hb.blkp
 have hlc := blk?_lt hb.blkc
 obtain ⟨a1,a2,a3,a4⟩ := hb.at hi
 obtain ⟨h1,h2,h3,h4⟩ := hi
 have n1 : ¬ x < 0 := by omega
 have n2 : ¬ (b.w : Int) ≤ x := by omega
 have n3 : ¬ y < 0 := by omega
 have n4 : ¬ (b.h : Int) ≤ y := by omega
 rw [Int.natCast_mul] at a2
 rw [enter113,B113]
 simp [k_guard,hp,hlp,hlc,n1,n2,n3,n4,a1,a2,fin113]
theorem at_out (hb : CB h f p c b) (hi : ¬ b.inb x y) : Ret tab 113 [ptr p,.int .i64 x,.int .i64 y] h R = R (.pointer none) h := by
 have hp := hb.frz.blkp
 have hlp := blk?_lt hb.blkp
 rw [enter113,B113]
 by_cases n1 : x < 0
 ·simp [k_guard,hp,hlp,n1,fin113]
 by_cases n2 : (b.w : Int) ≤ x
 ·simp [k_guard,hp,hlp,n1,n2,fin113]
 by_cases n3 : y < 0
 ·simp [k_guard,hp,hlp,n1,n2,n3,fin113]
 by_cases n4 : (b.h : Int) ≤ y
 ·simp [k_guard,hp,hlp,n1,n2,n3,n4,fin113]
 ·exact absurd ⟨by omega,by omega,by omega,by omega⟩ hi
theorem CB.cells (hb : CB h f p c b) (hi : b.inb x y) : (encC b.cs)[b.idx x y * 4]? = some (.int .i64 (b.get x y).v) ∧ (encC b.cs)[b.idx x y * 4 + 1]? = some (.bool (b.get x y).s) ∧
  (encC b.cs)[b.idx x y * 4 + 2]? = some (.bool (b.get x y).t) ∧ (encC b.cs)[b.idx x y * 4 + 3]? = some (.bool (b.get x y).r) := by
 have g := encC_get b.cs (b.idx x y)
 have h0 := BS.get_in hb.ok hi
 have g0 := g 0 (by omega)
 rw [Nat.add_zero] at g0
 exact ⟨by rw [g0,h0]; rfl,by rw [g 1 (by omega),h0]; rfl,by rw [g 2 (by omega),h0]; rfl,by rw [g 3 (by omega),h0]; rfl⟩
theorem size_c (hb : CB h f p c b) : Ret tab 108 [ptr p] h R = R (.tuple #[.int .i64 b.w,.int .i64 b.h]) h := by
 have hp := hb.frz.blkp
 have hlp := blk?_lt hb.blkp
 rw [enter108,B108]
 simp [hp,hlp,fin108]
theorem value_c (hb : CB h f p c b) : Ret tab 64 [ptr p,.int .i64 x,.int .i64 y] h R = R (.int .i64 (b.get x y).v) h := by
 have hlp := blk?_lt hb.blkp
 have hc := hb.frz.blkc
 rw [enter64,B64]
 by_cases hi : b.inb x y
 ·obtain ⟨c1,c2,c3,c4⟩ := hb.cells hi
  simp [hlp,at_in hb.frz hi,hc,c1,fin64]
 ·simp [hlp,at_out hb.frz hi,fin64,BS.get_out hi,Cell.zero]
theorem significant_c (hb : CB h f p c b) : Ret tab 140 [ptr p,.int .i64 x,.int .i64 y] h R = R (.bool (b.get x y).s) h := by
 have hlp := blk?_lt hb.blkp
 have hc := hb.frz.blkc
 rw [enter140,B140]
 by_cases hi : b.inb x y
 ·obtain ⟨c1,c2,c3,c4⟩ := hb.cells hi
  simp [k_guard,hlp,at_in hb.frz hi,hc,c2,fin140]
 ·simp [k_guard,hlp,at_out hb.frz hi,fin140,BS.get_out hi,Cell.zero]
theorem touched_c (hb : CB h f p c b) : Ret tab 65 [ptr p,.int .i64 x,.int .i64 y] h R = R (.bool (b.get x y).t) h := by
 have hlp := blk?_lt hb.blkp
 have hc := hb.frz.blkc
 rw [enter65,B65]
 by_cases hi : b.inb x y
 ·obtain ⟨c1,c2,c3,c4⟩ := hb.cells hi
  simp [k_guard,hlp,at_in hb.frz hi,hc,c3,fin65]
 ·simp [k_guard,hlp,at_out hb.frz hi,fin65,BS.get_out hi,Cell.zero]
theorem refined_c (hb : CB h f p c b) : Ret tab 145 [ptr p,.int .i64 x,.int .i64 y] h R = R (.bool (b.get x y).r) h := by
 have hlp := blk?_lt hb.blkp
 have hc := hb.frz.blkc
 rw [enter145,B145]
 by_cases hi : b.inb x y
 ·obtain ⟨c1,c2,c3,c4⟩ := hb.cells hi
  simp [k_guard,hlp,at_in hb.frz hi,hc,c4,fin145]
 ·simp [k_guard,hlp,at_out hb.frz hi,fin145,BS.get_out hi,Cell.zero]
theorem one_c (hb : CB h f p c b) : Ret tab 191 [ptr p,.int .i64 x,.int .i64 y] h R = R (.int .i64 (one b x y)) h := by
 have hlp := blk?_lt hb.blkp
 rw [enter191,B191]
 cases hs : (b.get x y).s <;> simp [hlp,significant_c hb.frz,hs,fin191,one]
theorem sign_c (hb : CB h f p c b) : Ret tab 195 [ptr p,.int .i64 x,.int .i64 y] h R = R (.int .i64 (sgn b x y)) h := by
 have hlp := blk?_lt hb.blkp
 have hc := hb.frz.blkc
 rw [enter195,B195]
 by_cases hi : b.inb x y
 ·obtain ⟨c1,c2,c3,c4⟩ := hb.cells hi
  cases hs : (b.get x y).s
  ·simp [k_guard,hlp,at_in hb.frz hi,hc,c1,c2,hs,fin195,sgn]
  ·by_cases hv : (b.get x y).v < 0 <;> simp [k_guard,hlp,at_in hb.frz hi,hc,c1,c2,hs,hv,fin195,sgn]
 ·simp [k_guard,hlp,at_out hb.frz hi,fin195,sgn,BS.get_out hi,Cell.zero]
end
theorem sgn_range (b : BS) (x y : Int) : sgn b x y = -1 ∨ sgn b x y = 0 ∨ sgn b x y = 1 := by
 unfold sgn; split <;> (try split) <;> simp
theorem one_le (b : BS) (x y : Int) : one b x y ≤ 1 := by
 unfold one; split <;> omega
theorem tmod4 {y : Int} (h : 0 ≤ y) : y.tmod 4 = y % 4 := Int.tmod_eq_emod_of_nonneg h
section
variable {h : Heap} {f : Bool} {p c : Nat} {b : BS} {x y : Int} {R : RP}
theorem nb_facts (b : BS) (x y : Int) : (one b (x - 1) y ≤ 1 ∧ one b (x + 1) y ≤ 1 ∧ one b x (y - 1) ≤ 1 ∧ one b x (y + 1) ≤ 1) ∧ (one b (x - 1) (y - 1) ≤ 1 ∧ one b (x + 1) (y - 1) ≤ 1 ∧ one b (x - 1) (y + 1) ≤ 1 ∧ one b (x + 1) (y + 1) ≤ 1) :=
 ⟨⟨one_le _ _ _,one_le _ _ _,one_le _ _ _,one_le _ _ _⟩,⟨one_le _ _ _,one_le _ _ _,one_le _ _ _,one_le _ _ _⟩⟩
theorem wrapNN {a b : Nat} (h : a + b < 9223372036854775808) : IntKind.i64.wrap ((a : Int) + (b : Int)) = ((a + b : Nat) : Int) := by
 rw [← Int.natCast_add]; exact wrapN h
theorem BS.inb_range {b : BS} (ho : b.Ok) (hi : b.inb x y) : 0 ≤ x ∧ x < 64 ∧ 0 ≤ y ∧ y < 64 := by
 obtain ⟨h1,h2,h3,h4⟩ := hi
 have := ho.w2; have := ho.h2
 omega
theorem BS.wraps {b : BS} (ho : b.Ok) (hi : b.inb x y) : IntKind.i64.wrap (x - 1) = x - 1 ∧ IntKind.i64.wrap (x + 1) = x + 1 ∧ IntKind.i64.wrap (y - 1) = y - 1 ∧ IntKind.i64.wrap (y + 1) = y + 1 ∧ y.tmod 4 = y % 4 := by
 obtain ⟨h1,h2,h3,h4⟩ := BS.inb_range ho hi
 exact ⟨wrapI (by omega) (by omega),wrapI (by omega) (by omega),wrapI (by omega) (by omega),wrapI (by omega) (by omega),tmod4 h3⟩
theorem joint_c {s t : Int} (hs : s = -1 ∨ s = 0 ∨ s = 1) (ht : t = -1 ∨ t = 0 ∨ t = 1) : Ret tab 196 [.int .i64 s,.int .i64 t] h R = R (.int .i64 (joint s t)) h := by
 rw [enter196,B196]
 rcases hs with rfl | rfl | rfl <;> rcases ht with rfl | rfl | rfl <;> (simp [fold1,foldO,min2V,max2V,wrapI,fin196,joint]; try exact Iff.rfl)
theorem neighbors_c (hb : CB h f p c b) (hi : b.inb x y) (q : Bool) : Ret tab 177 [ptr p,.int .i64 x,.int .i64 y,.bool q] h R = R (.tuple #[.int .i64 (nbH b x y : Nat),.int .i64 (nbV b x y q : Nat),.int .i64 (nbD b x y q : Nat)]) h := by
 have hlp := blk?_lt hb.blkp
 have hlc := blk?_lt hb.blkc
 obtain ⟨w1,w2,w3,w4,w5⟩ := BS.wraps hb.ok hi
 have hn : ∀ x y R,Ret tab 191 [ptr p,.int .i64 x,.int .i64 y] (frz h) R = R (.int .i64 (one b x y)) (frz h) := fun x y R => one_c hb.frz
 have ha := fun R => at_in hb.frz hi (R := R)
 obtain ⟨⟨a1,a2,a3,a4⟩,⟨b1,b2,b3,b4⟩⟩ := nb_facts b x y
 have s1 : IntKind.i64.wrap ((one b (x - 1) y : Int) + (one b (x + 1) y : Int)) = ((one b (x - 1) y + one b (x + 1) y : Nat) : Int) := wrapNN (by omega)
 have s2 : IntKind.i64.wrap ((one b (x - 1) (y - 1) : Int) + (one b (x + 1) (y - 1) : Int)) = ((one b (x - 1) (y - 1) + one b (x + 1) (y - 1) : Nat) : Int) := wrapNN (by omega)
 have s3 : IntKind.i64.wrap ((one b x (y - 1) : Int) + (one b x (y + 1) : Int)) = ((one b x (y - 1) + one b x (y + 1) : Nat) : Int) := wrapNN (by omega)
 have s4 : IntKind.i64.wrap (((one b (x - 1) (y - 1) + one b (x + 1) (y - 1) : Nat) : Int) + (one b (x - 1) (y + 1) : Int)) = ((one b (x - 1) (y - 1) + one b (x + 1) (y - 1) + one b (x - 1) (y + 1) : Nat) : Int) := wrapNN (by omega)
 have s5 : IntKind.i64.wrap (((one b (x - 1) (y - 1) + one b (x + 1) (y - 1) + one b (x - 1) (y + 1) : Nat) : Int) + (one b (x + 1) (y + 1) : Int)) = ((one b (x - 1) (y - 1) + one b (x + 1) (y - 1) + one b (x - 1) (y + 1) + one b (x + 1) (y + 1) : Nat) : Int) := wrapNN (by omega)
 have s6 : IntKind.i64.wrap ((one b (x - 1) (y + 1) : Int) + (one b (x + 1) (y + 1) : Int)) = ((one b (x - 1) (y + 1) + one b (x + 1) (y + 1) : Nat) : Int) := wrapNN (by omega)
 have s7 : IntKind.i64.wrap (((one b (x - 1) (y - 1) + one b (x + 1) (y - 1) : Nat) : Int) + ((one b (x - 1) (y + 1) + one b (x + 1) (y + 1) : Nat) : Int)) = ((one b (x - 1) (y - 1) + one b (x + 1) (y - 1) + (one b (x - 1) (y + 1) + one b (x + 1) (y + 1)) : Nat) : Int) := wrapNN (by omega)
 have hassoc : one b (x - 1) (y - 1) + one b (x + 1) (y - 1) + one b (x - 1) (y + 1) + one b (x + 1) (y + 1) = one b (x - 1) (y - 1) + one b (x + 1) (y - 1) + (one b (x - 1) (y + 1) + one b (x + 1) (y + 1)) := by omega
 have hg : nbH b x y = one b (x - 1) y + one b (x + 1) y := rfl
 rw [enter177,B177]
 generalize e1 : one b (x - 1) y = o1 at *
 generalize e2 : one b (x + 1) y = o2 at *
 generalize e3 : one b x (y - 1) = o3 at *
 generalize e4 : one b x (y + 1) = o4 at *
 generalize e5 : one b (x - 1) (y - 1) = o5 at *
 generalize e6 : one b (x + 1) (y - 1) = o6 at *
 generalize e7 : one b (x - 1) (y + 1) = o7 at *
 generalize e8 : one b (x + 1) (y + 1) = o8 at *
 rw [hassoc] at s5
 cases q
 ·simp [-Int.natCast_add,k_guard,hlp,hlc,ha,hn,w1,w2,w3,w4,w5,e1,e2,e3,e4,e5,e6,e7,e8,s1,s2,s3,s4,s5,s6,s7,fin177,nbH,nbV,nbD]
 ·by_cases hy : y % 4 = 3
  ·have hy' : (y % 4 != 3) = false := by simp [hy]
   simp [-Int.natCast_add,k_guard,hlp,hlc,ha,hn,w1,w2,w3,w4,w5,e1,e2,e3,e4,e5,e6,e7,e8,s1,s2,s3,s4,s5,s6,s7,hy,hy',fin177,nbH,nbV,nbD]
  ·have hy' : (y % 4 != 3) = true := by simp [hy]
   simp [-Int.natCast_add,k_guard,hlp,hlc,ha,hn,w1,w2,w3,w4,w5,e1,e2,e3,e4,e5,e6,e7,e8,s1,s2,s3,s4,s5,s6,s7,hy,hy',fin177,nbH,nbV,nbD]
theorem signs_c (hb : CB h f p c b) (hi : b.inb x y) (q : Bool) : Ret tab 180 [ptr p,.int .i64 x,.int .i64 y,.bool q] h R = R (.tuple #[.int .i64 (sgH b x y),.int .i64 (sgV b x y q)]) h := by
 have hlp := blk?_lt hb.blkp
 have hlc := blk?_lt hb.blkc
 obtain ⟨w1,w2,w3,w4,w5⟩ := BS.wraps hb.ok hi
 have hn : ∀ x y R,Ret tab 195 [ptr p,.int .i64 x,.int .i64 y] (frz h) R = R (.int .i64 (sgn b x y)) (frz h) := fun x y R => sign_c hb.frz
 have ha := fun R => at_in hb.frz hi (R := R)
 have j1 : ∀ R,Ret tab 196 [.int .i64 (sgn b (x - 1) y),.int .i64 (sgn b (x + 1) y)] (frz h) R = R (.int .i64 (joint (sgn b (x - 1) y) (sgn b (x + 1) y))) (frz h) := fun R => joint_c (sgn_range _ _ _) (sgn_range _ _ _)
 have j2 : ∀ R,Ret tab 196 [.int .i64 (sgn b x (y - 1)),.int .i64 (sgn b x (y + 1))] (frz h) R = R (.int .i64 (joint (sgn b x (y - 1)) (sgn b x (y + 1)))) (frz h) := fun R => joint_c (sgn_range _ _ _) (sgn_range _ _ _)
 have j3 : ∀ R,Ret tab 196 [.int .i64 (sgn b x (y - 1)),.int .i64 0] (frz h) R = R (.int .i64 (joint (sgn b x (y - 1)) 0)) (frz h) := fun R => joint_c (sgn_range _ _ _) (.inr (.inl rfl))
 rw [enter180,B180]
 cases q
 ·simp [k_guard,hlp,hlc,ha,hn,w1,w2,w3,w4,w5,j1,j2,j3,fin180,sgH,sgV]
 ·by_cases hy : y % 4 = 3
  ·have hy' : (y % 4 != 3) = false := by simp [hy]
   have hy2 : (y % 4 == 3) = true := by simp [hy]
   simp [k_guard,hlp,hlc,ha,hn,w1,w2,w3,w4,w5,hy,hy',hy2,j1,j2,j3,fin180,sgH,sgV]
  ·have hy' : (y % 4 != 3) = true := by simp [hy]
   have hy2 : (y % 4 == 3) = false := by simp [hy]
   simp [k_guard,hlp,hlc,ha,hn,w1,w2,w3,w4,w5,hy,hy',hy2,j1,j2,j3,fin180,sgH,sgV]
theorem set_c (hb : CB h false p c b) (hi : b.inb x y) {v : Int} (hv : -1152921504606846976 < v ∧ v < 1152921504606846976) : Ret tab 79 [ptr p,.int .i64 x,.int .i64 y,.int .i64 v] h R = R (.int .i64 0) (h.set c (some ⟨false,encC (b.upd x y fun z => { z with v := v }).cs⟩)) := by
 have hlp := blk?_lt hb.blkp
 have hc := hb.blkc
 have hl := BS.idx_lt hb.ok hi
 have hg := BS.getElem_in hb.ok hi
 have h4 : b.idx x y * 4 + 1 ≤ (encC b.cs).length := by rw [encC_len]; omega
 have hset := encC_set1 hl (v := v)
 rw [hg] at hset
 rw [enter79,B79]
 simp [k_guard,hlp,at_in hb hi,hc,h4,hset,show ¬ 1152921504606846975 < v by omega,show ¬ v < -1152921504606846975 by omega,fin79,BS.upd]
theorem mark_c (hb : CB h false p c b) (hi : b.inb x y) : Ret tab 181 [ptr p,.int .i64 x,.int .i64 y] h R = R (.int .i64 0) (h.set c (some ⟨false,encC (b.upd x y fun z => { z with s := true }).cs⟩)) := by
 have hlp := blk?_lt hb.blkp
 have hc := hb.blkc
 have hl := BS.idx_lt hb.ok hi
 have hg := BS.getElem_in hb.ok hi
 have h4 : b.idx x y * 4 + 2 ≤ (encC b.cs).length := by rw [encC_len]; omega
 have hset := encC_set2 hl (b := true)
 rw [hg] at hset
 rw [enter181,B181]
 simp [k_guard,hlp,at_in hb hi,hc,h4,hset,fin181,BS.upd]
theorem touch_c (hb : CB h false p c b) (hi : b.inb x y) {v : Bool} : Ret tab 143 [ptr p,.int .i64 x,.int .i64 y,.bool v] h R = R (.int .i64 0) (h.set c (some ⟨false,encC (b.upd x y fun z => { z with t := v }).cs⟩)) := by
 have hlp := blk?_lt hb.blkp
 have hc := hb.blkc
 have hl := BS.idx_lt hb.ok hi
 have hg := BS.getElem_in hb.ok hi
 have h4 : b.idx x y * 4 + 3 ≤ (encC b.cs).length := by rw [encC_len]; omega
 have hset := encC_set3 hl (b := v)
 rw [hg] at hset
 rw [enter143,B143]
 simp [k_guard,hlp,at_in hb hi,hc,h4,hset,fin143,BS.upd]
theorem refine_c (hb : CB h false p c b) (hi : b.inb x y) : Ret tab 147 [ptr p,.int .i64 x,.int .i64 y] h R = R (.int .i64 0) (h.set c (some ⟨false,encC (b.upd x y fun z => { z with r := true }).cs⟩)) := by
 have hlp := blk?_lt hb.blkp
 have hc := hb.blkc
 have hl := BS.idx_lt hb.ok hi
 have hg := BS.getElem_in hb.ok hi
 have h4 : b.idx x y * 4 + 4 ≤ (encC b.cs).length := by rw [encC_len]; omega
 have hset := encC_set4 hl (b := true)
 rw [hg] at hset
 rw [enter147,B147]
 simp [k_guard,hlp,at_in hb hi,hc,h4,hset,fin147,BS.upd]
end
section
variable {h : Heap} {f : Bool} {p c : Nat} {b : BS} {x y : Int} {R : RP}
theorem BS.Ok.pos {b : BS} (ho : b.Ok) : 0 < b.w * b.h := Nat.mul_pos ho.w1 ho.h1
theorem made_r (hb : CB h f p c b) : Ret tab 151 [ptr p] h R = R (.bool true) h := by
 have hp := hb.frz.blkp
 have hlp := blk?_lt hb.blkp
 have h1 : (0 : Int) < (b.w : Int) * b.h := by rw [← Int.natCast_mul]; exact Int.natCast_pos.2 hb.ok.pos
 rw [enter151,B151]
 simp [k_guard,hp,hlp,h1,fin151]
theorem in_r (hb : CB h f p c b) (hi : b.inb x y) : Ret tab 150 [ptr p,.int .i64 x,.int .i64 y] h R = R (.bool true) h := by
 have hp := hb.frz.blkp
 have hlp := blk?_lt hb.blkp
 obtain ⟨h1,h2,h3,h4⟩ := hi
 rw [enter150,B150]
 simp [k_guard,hp,hlp,made_r hb.frz,h1,h2,h3,h4,fin150]
theorem in_out_r (hb : CB h f p c b) (hi : ¬ b.inb x y) : Ret tab 150 [ptr p,.int .i64 x,.int .i64 y] h R = R (.bool false) h := by
 have hp := hb.frz.blkp
 have hlp := blk?_lt hb.blkp
 rw [enter150,B150]
 by_cases n1 : 0 ≤ x
 ·by_cases n2 : x < (b.w : Int)
  ·by_cases n3 : 0 ≤ y
   ·by_cases n4 : y < (b.h : Int)
    ·exact absurd ⟨n1,n2,n3,n4⟩ hi
    ·simp [k_guard,hp,hlp,made_r hb.frz,n1,n2,n3,n4,fin150]
   ·simp [k_guard,hp,hlp,made_r hb.frz,n1,n2,n3,fin150]
  ·simp [k_guard,hp,hlp,made_r hb.frz,n1,n2,fin150]
 ·simp [k_guard,hp,hlp,made_r hb.frz,n1,fin150]
theorem error_r (hb : CB h f p c b) (hi : b.inb x y) : Ret tab 127 [ptr p,.int .i64 x,.int .i64 y] h R = R (.int .i64 0) h := by
 have hlp := blk?_lt hb.blkp
 rw [enter127,B127]
 simp [hlp,made_r hb.frz,in_r hb.frz hi,fin127]
def Cell.agg (c : Cell) : Value := .agg #[.int .i64 c.v,.bool c.s,.bool c.t,.bool c.r]
theorem get_r (hb : CB h f p c b) : Ret tab 115 [ptr p,.int .i64 x,.int .i64 y] h R = R (b.get x y).agg h := by
 have hp := hb.frz.blkp
 have hc := hb.frz.blkc
 have hlp := blk?_lt hb.blkp
 have hlc := blk?_lt hb.blkc
 have hb1 : CB (frz h ++ [some ⟨false,[.int .i64 0,.bool false,.bool false,.bool false]⟩]) true p c b := ⟨blk?_push hp,blk?_push hc,hb.ok⟩
 have hp1 := hb1.blkp
 have hc1 := hb1.blkc
 have hn : ∀ y : Blk,blk? (frz h ++ [some y]) h.length = some y := fun y => by
  have := blk?_push_eq (h := frz h) (x := some y)
  rwa [len_frz] at this
 have hls : ∀ x : Option Blk,((frz h) ++ [x]).length = h.length + 1 := fun x => by simp
 rw [enter115,B115]
 by_cases hi : b.inb x y
 ·obtain ⟨a1,a2,a3,a4⟩ := hb.at hi
  have hd := encC_drop b.cs (b.idx x y) a3
  rw [BS.getElem_in hb.ok hi] at hd
  have h4 : b.idx x y * 4 + 4 ≤ (encC b.cs).length := by rw [encC_len]; omega
  rw [Int.natCast_mul] at a2
  simp [-List.cons_append,-List.append_assoc,in_r hb1 hi,hp1,hc1,a1,a2,hd,h4,hn,hls,hlp,show p < h.length + 1 by omega,Cell.enc,finishV,allSome,resV,R115,blk?_set_eq,Cell.agg]
 ·simp [in_out_r hb1 hi,hn,hls,hlp,show p < h.length + 1 by omega,finishV,allSome,resV,R115,blk?_set_eq,Cell.agg,BS.get_out hi,Cell.zero]
theorem size_r (hb : CB h f p c b) : Ret tab 117 [ptr p] h R = R (.tuple #[.int .i64 b.w,.int .i64 b.h]) h := by
 have hp := hb.frz.blkp
 have hlp := blk?_lt hb.blkp
 rw [enter117,B117]
 simp [hp,hlp,made_r hb.frz,fin117]
theorem value_r (hb : CB h f p c b) : Ret tab 71 [ptr p,.int .i64 x,.int .i64 y] h R = R (.int .i64 (b.get x y).v) h := by
 have hlp := blk?_lt hb.blkp
 rw [enter71,B71]
 simp [hlp,get_r hb.frz,Cell.agg,fin71]
theorem significant_r (hb : CB h f p c b) : Ret tab 152 [ptr p,.int .i64 x,.int .i64 y] h R = R (.bool (b.get x y).s) h := by
 have hlp := blk?_lt hb.blkp
 rw [enter152,B152]
 simp [hlp,get_r hb.frz,Cell.agg,fin152]
theorem touched_r (hb : CB h f p c b) : Ret tab 72 [ptr p,.int .i64 x,.int .i64 y] h R = R (.bool (b.get x y).t) h := by
 have hlp := blk?_lt hb.blkp
 rw [enter72,B72]
 simp [hlp,get_r hb.frz,Cell.agg,fin72]
theorem refined_r (hb : CB h f p c b) : Ret tab 158 [ptr p,.int .i64 x,.int .i64 y] h R = R (.bool (b.get x y).r) h := by
 have hlp := blk?_lt hb.blkp
 rw [enter158,B158]
 simp [hlp,get_r hb.frz,Cell.agg,fin158]
theorem count_r (hb : CB h f p c b) : Ret tab 197 [ptr p,.int .i64 x,.int .i64 y] h R = R (.int .i64 (one b x y)) h := by
 have hlp := blk?_lt hb.blkp
 rw [enter197,B197]
 cases hs : (b.get x y).s <;> simp [hlp,get_r hb.frz,Cell.agg,hs,fin197,one]
theorem sign_r (hb : CB h f p c b) : Ret tab 209 [ptr p,.int .i64 x,.int .i64 y] h R = R (.int .i64 (sgn b x y)) h := by
 have hlp := blk?_lt hb.blkp
 have hn : ∀ y : Blk,blk? (frz h ++ [some y]) h.length = some y := fun y => by
  have := blk?_push_eq (h := frz h) (x := some y)
  rwa [len_frz] at this
 rw [enter209,B209]
 cases hs : (b.get x y).s
 ·simp [k_guard,hlp,get_r hb.frz,Cell.agg,hs,hn,fin209,sgn,blk?_set_eq]
 ·by_cases hv : (b.get x y).v < 0 <;> simp [k_guard,hlp,get_r hb.frz,Cell.agg,hs,hv,hn,fin209,sgn,blk?_set_eq]
theorem limit13_r {v lo hi : Int} : Ret tab 198 [.int .i64 v,.int .i64 lo,.int .i64 hi] h R = R (.int .i64 (min (max v lo) hi)) h := by
 rw [enter198,B198]
 simp [fold1,foldO,min2V,max2V,fin198]
 refine Iff.of_eq (congrArg (fun n => R (.int .i64 n) h) ?_)
 split <;> split <;> omega
theorem limit_c {v lo hi : Int} : Ret tab 192 [.int .i64 v,.int .i64 lo,.int .i64 hi] h R = R (.int .i64 (min (max v lo) hi)) h := by
 rw [enter192,B192]
 simp [fold1,foldO,min2V,max2V,fin192]
 refine Iff.of_eq (congrArg (fun n => R (.int .i64 n) h) ?_)
 split <;> split <;> omega
theorem contribution_r {s t : Int} (hs : s = -1 ∨ s = 0 ∨ s = 1) (ht : t = -1 ∨ t = 0 ∨ t = 1) : Ret tab 210 [.int .i64 s,.int .i64 t] h R = R (.int .i64 (joint s t)) h := by
 rw [enter210,B210]
 rcases hs with rfl | rfl | rfl <;> rcases ht with rfl | rfl | rfl <;> (simp [k_guard,limit13_r,wrapI,fin210,joint]; try exact Iff.rfl)
theorem neighbors_r (hb : CB h f p c b) (hi : b.inb x y) (q : Bool) : Ret tab 182 [ptr p,.int .i64 x,.int .i64 y,.bool q] h R = R (.tuple #[.int .i64 (nbH b x y : Nat),.int .i64 (nbV b x y q : Nat),.int .i64 (nbD b x y q : Nat)]) h := by
 have hlp := blk?_lt hb.blkp
 have hlc := blk?_lt hb.blkc
 obtain ⟨w1,w2,w3,w4,w5⟩ := BS.wraps hb.ok hi
 have hn : ∀ x y R,Ret tab 197 [ptr p,.int .i64 x,.int .i64 y] (frz h) R = R (.int .i64 (one b x y)) (frz h) := fun x y R => count_r hb.frz
 have ha := fun R => in_r hb.frz hi (R := R)
 obtain ⟨⟨a1,a2,a3,a4⟩,⟨b1,b2,b3,b4⟩⟩ := nb_facts b x y
 have s1 : IntKind.i64.wrap ((one b (x - 1) y : Int) + (one b (x + 1) y : Int)) = ((one b (x - 1) y + one b (x + 1) y : Nat) : Int) := wrapNN (by omega)
 have s2 : IntKind.i64.wrap ((one b (x - 1) (y - 1) : Int) + (one b (x + 1) (y - 1) : Int)) = ((one b (x - 1) (y - 1) + one b (x + 1) (y - 1) : Nat) : Int) := wrapNN (by omega)
 have s3 : IntKind.i64.wrap ((one b x (y - 1) : Int) + (one b x (y + 1) : Int)) = ((one b x (y - 1) + one b x (y + 1) : Nat) : Int) := wrapNN (by omega)
 have s4 : IntKind.i64.wrap (((one b (x - 1) (y - 1) + one b (x + 1) (y - 1) : Nat) : Int) + (one b (x - 1) (y + 1) : Int)) = ((one b (x - 1) (y - 1) + one b (x + 1) (y - 1) + one b (x - 1) (y + 1) : Nat) : Int) := wrapNN (by omega)
 have s5 : IntKind.i64.wrap (((one b (x - 1) (y - 1) + one b (x + 1) (y - 1) + one b (x - 1) (y + 1) : Nat) : Int) + (one b (x + 1) (y + 1) : Int)) = ((one b (x - 1) (y - 1) + one b (x + 1) (y - 1) + one b (x - 1) (y + 1) + one b (x + 1) (y + 1) : Nat) : Int) := wrapNN (by omega)
 have s6 : IntKind.i64.wrap ((one b (x - 1) (y + 1) : Int) + (one b (x + 1) (y + 1) : Int)) = ((one b (x - 1) (y + 1) + one b (x + 1) (y + 1) : Nat) : Int) := wrapNN (by omega)
 have s7 : IntKind.i64.wrap (((one b (x - 1) (y - 1) + one b (x + 1) (y - 1) : Nat) : Int) + ((one b (x - 1) (y + 1) + one b (x + 1) (y + 1) : Nat) : Int)) = ((one b (x - 1) (y - 1) + one b (x + 1) (y - 1) + (one b (x - 1) (y + 1) + one b (x + 1) (y + 1)) : Nat) : Int) := wrapNN (by omega)
 have hassoc : one b (x - 1) (y - 1) + one b (x + 1) (y - 1) + one b (x - 1) (y + 1) + one b (x + 1) (y + 1) = one b (x - 1) (y - 1) + one b (x + 1) (y - 1) + (one b (x - 1) (y + 1) + one b (x + 1) (y + 1)) := by omega
 have hg : nbH b x y = one b (x - 1) y + one b (x + 1) y := rfl
 rw [enter182,B182]
 generalize e1 : one b (x - 1) y = o1 at *
 generalize e2 : one b (x + 1) y = o2 at *
 generalize e3 : one b x (y - 1) = o3 at *
 generalize e4 : one b x (y + 1) = o4 at *
 generalize e5 : one b (x - 1) (y - 1) = o5 at *
 generalize e6 : one b (x + 1) (y - 1) = o6 at *
 generalize e7 : one b (x - 1) (y + 1) = o7 at *
 generalize e8 : one b (x + 1) (y + 1) = o8 at *
 rw [hassoc] at s5
 cases q
 ·simp [-Int.natCast_add,k_guard,hlp,hlc,ha,hn,w1,w2,w3,w4,w5,e1,e2,e3,e4,e5,e6,e7,e8,s1,s2,s3,s4,s5,s6,s7,fin182,nbH,nbV,nbD]
 ·by_cases hy : y % 4 = 3
  ·have hy' : (y % 4 != 3) = false := by simp [hy]
   simp [-Int.natCast_add,k_guard,hlp,hlc,ha,hn,w1,w2,w3,w4,w5,e1,e2,e3,e4,e5,e6,e7,e8,s1,s2,s3,s4,s5,s6,s7,hy,hy',fin182,nbH,nbV,nbD]
  ·have hy' : (y % 4 != 3) = true := by simp [hy]
   simp [-Int.natCast_add,k_guard,hlp,hlc,ha,hn,w1,w2,w3,w4,w5,e1,e2,e3,e4,e5,e6,e7,e8,s1,s2,s3,s4,s5,s6,s7,hy,hy',fin182,nbH,nbV,nbD]
theorem signs_r (hb : CB h f p c b) (hi : b.inb x y) (q : Bool) : Ret tab 201 [ptr p,.int .i64 x,.int .i64 y,.bool q] h R = R (.tuple #[.int .i64 (sgH b x y),.int .i64 (sgV b x y q)]) h := by
 have hlp := blk?_lt hb.blkp
 have hlc := blk?_lt hb.blkc
 obtain ⟨w1,w2,w3,w4,w5⟩ := BS.wraps hb.ok hi
 have hn : ∀ x y R,Ret tab 209 [ptr p,.int .i64 x,.int .i64 y] (frz h) R = R (.int .i64 (sgn b x y)) (frz h) := fun x y R => sign_r hb.frz
 have ha := fun R => in_r hb.frz hi (R := R)
 have j1 : ∀ R,Ret tab 210 [.int .i64 (sgn b (x - 1) y),.int .i64 (sgn b (x + 1) y)] (frz h) R = R (.int .i64 (joint (sgn b (x - 1) y) (sgn b (x + 1) y))) (frz h) := fun R => contribution_r (sgn_range _ _ _) (sgn_range _ _ _)
 have j2 : ∀ R,Ret tab 210 [.int .i64 (sgn b x (y - 1)),.int .i64 (sgn b x (y + 1))] (frz h) R = R (.int .i64 (joint (sgn b x (y - 1)) (sgn b x (y + 1)))) (frz h) := fun R => contribution_r (sgn_range _ _ _) (sgn_range _ _ _)
 have j3 : ∀ R,Ret tab 210 [.int .i64 (sgn b x (y - 1)),.int .i64 0] (frz h) R = R (.int .i64 (joint (sgn b x (y - 1)) 0)) (frz h) := fun R => contribution_r (sgn_range _ _ _) (.inr (.inl rfl))
 rw [enter201,B201]
 cases q
 ·simp [k_guard,hlp,hlc,ha,hn,w1,w2,w3,w4,w5,j1,j2,j3,fin201,sgH,sgV]
 ·by_cases hy : y % 4 = 3
  ·have hy' : (y % 4 != 3) = false := by simp [hy]
   have hy2 : (y % 4 == 3) = true := by simp [hy]
   simp [k_guard,hlp,hlc,ha,hn,w1,w2,w3,w4,w5,hy,hy',hy2,j1,j2,j3,fin201,sgH,sgV]
  ·have hy' : (y % 4 != 3) = true := by simp [hy]
   have hy2 : (y % 4 == 3) = false := by simp [hy]
   simp [k_guard,hlp,hlc,ha,hn,w1,w2,w3,w4,w5,hy,hy',hy2,j1,j2,j3,fin201,sgH,sgV]
theorem set_r (hb : CB h false p c b) (hi : b.inb x y) {v : Int} (hv : -1152921504606846976 < v ∧ v < 1152921504606846976) : Ret tab 85 [ptr p,.int .i64 x,.int .i64 y,.int .i64 v] h R = R (.int .i64 0) (h.set c (some ⟨false,encC (b.upd x y fun z => { z with v := v }).cs⟩)) := by
 have hlp := blk?_lt hb.blkp
 have hp := hb.blkp
 have hc := hb.blkc
 have hl := BS.idx_lt hb.ok hi
 have hg := BS.getElem_in hb.ok hi
 obtain ⟨a1,a2,a3,a4⟩ := hb.at hi
 have h4 : b.idx x y * 4 + 1 ≤ (encC b.cs).length := by rw [encC_len]; omega
 have hset := encC_set1 hl (v := v)
 rw [hg] at hset
 rw [Int.natCast_mul] at a2
 rw [enter85,B85]
 simp [k_guard,hlp,error_r hb hi,hp,hc,a1,a2,h4,hset,show ¬ 1152921504606846976 ≤ v by omega,show ¬ v ≤ -1152921504606846976 by omega,fin85,BS.upd]
theorem mark_r (hb : CB h false p c b) (hi : b.inb x y) : Ret tab 203 [ptr p,.int .i64 x,.int .i64 y] h R = R (.int .i64 0) (h.set c (some ⟨false,encC (b.upd x y fun z => { z with s := true }).cs⟩)) := by
 have hlp := blk?_lt hb.blkp
 have hp := hb.blkp
 have hc := hb.blkc
 have hl := BS.idx_lt hb.ok hi
 have hg := BS.getElem_in hb.ok hi
 obtain ⟨a1,a2,a3,a4⟩ := hb.at hi
 have h4 : b.idx x y * 4 + 2 ≤ (encC b.cs).length := by rw [encC_len]; omega
 have hset := encC_set2 hl (b := true)
 rw [hg] at hset
 rw [Int.natCast_mul] at a2
 rw [enter203,B203]
 simp [k_guard,hlp,error_r hb hi,hp,hc,a1,a2,h4,hset,fin203,BS.upd]
theorem touch_r (hb : CB h false p c b) (hi : b.inb x y) {v : Bool} : Ret tab 155 [ptr p,.int .i64 x,.int .i64 y,.bool v] h R = R (.int .i64 0) (h.set c (some ⟨false,encC (b.upd x y fun z => { z with t := v }).cs⟩)) := by
 have hlp := blk?_lt hb.blkp
 have hp := hb.blkp
 have hc := hb.blkc
 have hl := BS.idx_lt hb.ok hi
 have hg := BS.getElem_in hb.ok hi
 obtain ⟨a1,a2,a3,a4⟩ := hb.at hi
 have h4 : b.idx x y * 4 + 3 ≤ (encC b.cs).length := by rw [encC_len]; omega
 have hset := encC_set3 hl (b := v)
 rw [hg] at hset
 rw [Int.natCast_mul] at a2
 rw [enter155,B155]
 simp [k_guard,hlp,error_r hb hi,hp,hc,a1,a2,h4,hset,fin155,BS.upd]
theorem refine_r (hb : CB h false p c b) (hi : b.inb x y) : Ret tab 159 [ptr p,.int .i64 x,.int .i64 y] h R = R (.int .i64 0) (h.set c (some ⟨false,encC (b.upd x y fun z => { z with r := true }).cs⟩)) := by
 have hlp := blk?_lt hb.blkp
 have hp := hb.blkp
 have hc := hb.blkc
 have hl := BS.idx_lt hb.ok hi
 have hg := BS.getElem_in hb.ok hi
 obtain ⟨a1,a2,a3,a4⟩ := hb.at hi
 have h4 : b.idx x y * 4 + 4 ≤ (encC b.cs).length := by rw [encC_len]; omega
 have hset := encC_set4 hl (b := true)
 rw [hg] at hset
 rw [Int.natCast_mul] at a2
 rw [enter159,B159]
 simp [k_guard,hlp,error_r hb hi,hp,hc,a1,a2,h4,hset,fin159,BS.upd]
end
def strt (p s d : Nat) : Nat := if p = 2 then 8 else if p = 1 then (if 0 < s then 7 else 5 + min d 1) else if 0 < s then 2 + s else min d 2
def diag (n d : Nat) : Nat := if 3 ≤ d then 8 else if d = 2 then 6 + min n 1 else 3 * d + min n 2
def sigCtx (o h v d : Nat) : Nat := if o = 3 then diag (h + v) d else if o = 1 then strt v h d else strt h v d
def signCtx (h v : Int) : Nat := if h < 0 ∨ h = 0 ∧ v < 0 then (9 - 3 * h - v).toNat else (9 + 3 * h + v).toNat
def signFlip (h v : Int) : Nat := if h < 0 ∨ h = 0 ∧ v < 0 then 1 else 0
def refCtx (first near : Bool) : Nat := if first = true then (if near = true then 15 else 14) else 16
section
variable {h : Heap} {R : RP}
theorem le2 {n : Nat} (h : n ≤ 2) : n = 0 ∨ n = 1 ∨ n = 2 := by omega
theorem le4 {n : Nat} (h : n ≤ 4) : n = 0 ∨ n = 1 ∨ n = 2 ∨ n = 3 ∨ n = 4 := by omega
theorem lim02 {d : Nat} (hd : d ≤ 2) : min (d : Int) 2 = (d : Int) := by omega
theorem lim04 {d : Nat} (hd : d ≤ 4) : min (d : Int) 4 = (d : Int) := by omega
theorem mm1 : min (-1 : Int) 1 = -1 := by decide
theorem mm2 : max (0 : Int) (-1) = 0 := by decide
theorem mm3 : max (1 : Int) (-1) = 1 := by decide
theorem mm4 : min (0 : Int) 1 = 0 := by decide
theorem straight_c {p s d : Nat} (hp : p ≤ 2) (hs : s ≤ 2) (hd : d ≤ 4) : Ret tab 194 [.int .i64 p,.int .i64 s,.int .i64 d] h R = R (.int .i64 (strt p s d)) h := by
 rw [enter194,B194]
 rcases le2 hp with rfl | rfl | rfl <;> rcases le2 hs with rfl | rfl | rfl <;> rcases le4 hd with rfl | rfl | rfl | rfl | rfl <;> (simp [k_guard,fold1,foldO,min2V,wrapI,fin194,strt]; try exact Iff.rfl)
theorem straight_r {p s d : Nat} (hp : p ≤ 2) (hs : s ≤ 2) (hd : d ≤ 4) : Ret tab 200 [.int .i64 p,.int .i64 s,.int .i64 d] h R = R (.int .i64 (strt p s d)) h := by
 rw [enter200,B200]
 rcases le2 hp with rfl | rfl | rfl <;> rcases le2 hs with rfl | rfl | rfl <;> rcases le4 hd with rfl | rfl | rfl | rfl | rfl <;> (simp [k_guard,fold1,foldO,min2V,wrapI,fin200,strt]; try exact Iff.rfl)
theorem diagonal_c {n d : Nat} (hn : n ≤ 4) (hd : d ≤ 4) : Ret tab 193 [.int .i64 n,.int .i64 d] h R = R (.int .i64 (diag n d)) h := by
 have hls : ∀ x : Option Blk,((frz h) ++ [x]).length = h.length + 1 := fun x => by simp
 have hnn : ∀ y : Blk,blk? (frz h ++ [some y]) h.length = some y := fun y => by
  have := blk?_push_eq (h := frz h) (x := some y)
  rwa [len_frz] at this
 rw [enter193,B193]
 rcases le4 hn with rfl | rfl | rfl | rfl | rfl <;> rcases le4 hd with rfl | rfl | rfl | rfl | rfl <;> (simp [hls,hnn,fold1,foldO,min2V,wrapI,fin193,diag]; try exact Iff.rfl)
theorem diagonal_r {n d : Nat} (hn : n ≤ 4) (hd : d ≤ 4) : Ret tab 199 [.int .i64 n,.int .i64 d] h R = R (.int .i64 (diag n d)) h := by
 rw [enter199,B199]
 rcases le4 hn with rfl | rfl | rfl | rfl | rfl <;> rcases le4 hd with rfl | rfl | rfl | rfl | rfl <;> (simp [fold1,foldO,min2V,wrapI,fin199,diag]; try exact Iff.rfl)
theorem significance_c {o a b d : Nat} (ho : o ≤ 3) (ha : a ≤ 2) (hb : b ≤ 2) (hd : d ≤ 4) : Ret tab 178 [.int .i64 o,.int .i64 a,.int .i64 b,.int .i64 d] h R = R (.int .i64 (sigCtx o a b d)) h := by
 have hs : IntKind.i64.wrap ((a : Int) + (b : Int)) = ((a + b : Nat) : Int) := wrapNN (by omega)
 have hdg := fun R => diagonal_c (h := frz h) (R := R) (n := a + b) (d := d) (by omega) hd
 have ho' : o = 0 ∨ o = 1 ∨ o = 2 ∨ o = 3 := by omega
 rw [enter178,B178]
 rcases ho' with rfl | rfl | rfl | rfl <;> simp [-Int.natCast_add,limit_c,lim02 ha,lim02 hb,lim04 hd,hs,hdg,straight_c ha hb hd,straight_c hb ha hd,fin178,sigCtx]
theorem significance_r {o a b d : Nat} (ho : o ≤ 3) (ha : a ≤ 2) (hb : b ≤ 2) (hd : d ≤ 4) : Ret tab 183 [.int .i64 o,.int .i64 a,.int .i64 b,.int .i64 d] h R = R (.int .i64 (sigCtx o a b d)) h := by
 have hs : IntKind.i64.wrap ((a : Int) + (b : Int)) = ((a + b : Nat) : Int) := wrapNN (by omega)
 have hdg := fun R => diagonal_r (h := frz h) (R := R) (n := a + b) (d := d) (by omega) hd
 have ho' : o = 0 ∨ o = 1 ∨ o = 2 ∨ o = 3 := by omega
 rw [enter183,B183]
 rcases ho' with rfl | rfl | rfl | rfl <;> simp [-Int.natCast_add,limit13_r,lim02 ha,lim02 hb,lim04 hd,hs,hdg,straight_r ha hb hd,straight_r hb ha hd,fin183,sigCtx]
theorem ctxSign_c {s t : Int} (hs : s = -1 ∨ s = 0 ∨ s = 1) (ht : t = -1 ∨ t = 0 ∨ t = 1) : Ret tab 179 [.int .i64 s,.int .i64 t] h R = R (.tuple #[.int .i64 (signCtx s t),.int .i64 (signFlip s t)]) h := by
 have hls : ∀ x : Option Blk,((frz h) ++ [x]).length = h.length + 1 := fun x => by simp
 have hnn : ∀ y : Blk,blk? (frz h ++ [some y]) h.length = some y := fun y => by
  have := blk?_push_eq (h := frz h) (x := some y)
  rwa [len_frz] at this
 rw [enter179,B179]
 rcases hs with rfl | rfl | rfl <;> rcases ht with rfl | rfl | rfl <;> (simp [k_guard,k_guardU,hls,hnn,limit_c,mm1,mm2,mm3,mm4,wrapI,fin179,signCtx,signFlip]; try exact Iff.rfl)
theorem ctxSign_r1 {s t : Int} (hs : s = -1 ∨ s = 0 ∨ s = 1) (ht : t = -1 ∨ t = 0 ∨ t = 1) (hn : ¬ (s < 0 ∨ s = 0 ∧ t < 0)) : Ret tab 202 [.int .i64 s,.int .i64 t] h R = R (.tuple #[.int .i64 (signCtx s t),.int .i64 0]) h := by
 rw [enter202,B202]
 rcases hs with rfl | rfl | rfl <;> rcases ht with rfl | rfl | rfl <;> first | exact absurd (by decide) hn | (simp [k_guard,k_guardU,limit13_r,mm1,mm2,mm3,mm4,wrapI,fin202,signCtx,signFlip]; try exact Iff.rfl)
theorem ctxSign_r {s t : Int} (hs : s = -1 ∨ s = 0 ∨ s = 1) (ht : t = -1 ∨ t = 0 ∨ t = 1) : Ret tab 202 [.int .i64 s,.int .i64 t] h R = R (.tuple #[.int .i64 (signCtx s t),.int .i64 (signFlip s t)]) h := by
 by_cases hn : s < 0 ∨ s = 0 ∧ t < 0
 ·have h1 := fun R => ctxSign_r1 (h := frz h) (R := R) (s := 0 - s) (t := 0 - t) (by omega) (by omega) (by omega)
  rw [enter202,B202]
  rcases hs with rfl | rfl | rfl <;> rcases ht with rfl | rfl | rfl <;> first | exact absurd hn (by decide) | (simp at h1; simp [k_guard,k_guardU,limit13_r,mm1,mm2,mm3,mm4,wrapI,h1,fin202,signCtx,signFlip]; try exact Iff.rfl)
 ·rw [ctxSign_r1 hs ht hn]
  simp [signFlip,hn]
theorem ctxRefine_c {a b : Bool} : Ret tab 144 [.bool a,.bool b] h R = R (.int .i64 (refCtx a b)) h := by
 rw [enter144,B144]
 cases a <;> cases b <;> simp [fin144,refCtx]
theorem ctxRefine_r {a b : Bool} : Ret tab 157 [.bool a,.bool b] h R = R (.int .i64 (refCtx a b)) h := by
 rw [enter157,B157]
 cases a <;> cases b <;> simp [fin157,refCtx]
end
def near (b : BS) (x y : Int) (q : Bool) : Bool := decide (0 < nbH b x y + nbV b x y q + nbD b x y q)
structure PP where
 s : Nat
 o : Nat
 cz : Bool
 rw : Bool
structure PP.Ok (P : PP) : Prop where
 s1 : P.s ≤ 59
 o1 : P.o ≤ 3
structure ES where
 b : BS
 out : List (Int × Nat)
def mark (c : Cell) : Cell := { c with s := true }
def touch (v : Bool) (c : Cell) : Cell := { c with t := v }
def refine' (c : Cell) : Cell := { c with r := true }
def ctxOf (P : PP) (b : BS) (x y : Int) : Nat := sigCtx P.o (nbH b x y) (nbV b x y P.cz) (nbD b x y P.cz)
def still (b : BS) (x y : Int) (q : Bool) : Bool := !(b.get x y).s && !(b.get x y).t && !near b x y q
def quietFrom (b : BS) (x y : Int) (q : Bool) : Nat → Bool
 | 0 => true
 | n + 1 => still b x y q && quietFrom b x (y + 1) q n
def quiet (b : BS) (x top : Int) (q : Bool) : Bool := decide (top + 4 ≤ b.h) && quietFrom b x top q 4
def colPts (x y : Int) : Nat → List (Int × Int)
 | 0 => []
 | n + 1 => (x,y) :: colPts x (y + 1) n
def stripePts (h : Nat) (x top : Int) : Nat → List (Int × Int)
 | 0 => []
 | n + 1 => colPts x top (min (top + 4) h - top).toNat ++ stripePts h (x + 1) top n
def scanPts (w h : Nat) (top : Int) : Nat → List (Int × Int)
 | 0 => []
 | n + 1 => stripePts h 0 top w ++ scanPts w h (top + 4) n
def stripesOf (h : Nat) : Nat := (h + 3) / 4
def scan (w h : Nat) : List (Int × Int) := scanPts w h 0 (stripesOf h)
def BS.Rng (b : BS) : Prop := ∀ x y,-1152921504606846976 < (b.get x y).v ∧ (b.get x y).v < 1152921504606846976
structure BS.Good (b : BS) : Prop where
 ok : b.Ok
 rng : b.Rng
def keepsV (f : Cell → Cell) : Prop := ∀ c,(f c).v = c.v
theorem BS.Good.upd {b : BS} (hg : b.Good) {x y : Int} (hi : b.inb x y) {f : Cell → Cell} (hf : keepsV f) : (b.upd x y f).Good := by
 refine ⟨hg.ok.upd x y f,fun x' y' => ?_⟩
 rw [BS.get_upd hg.ok hi]
 split
 ·rw [hf]; exact hg.rng x y
 ·exact hg.rng x' y'
theorem kv_mark : keepsV mark := fun _ => rfl
theorem kv_touch (v : Bool) : keepsV (touch v) := fun _ => rfl
theorem kv_refine : keepsV refine' := fun _ => rfl
def AllIn (b : BS) (l : List (Int × Int)) : Prop := ∀ p ∈ l,b.inb p.1 p.2
theorem colPts_in {b : BS} : ∀ {n : Nat} {x y : Int},0 ≤ x → x < b.w → 0 ≤ y → y + n ≤ b.h → AllIn b (colPts x y n)
 | 0,x,y,_,_,_,_ => fun p hp => by simp [colPts] at hp
 | n + 1,x,y,h1,h2,h3,h4 => fun p hp => by
  simp only [colPts,List.mem_cons] at hp
  rcases hp with rfl | hp
  ·exact ⟨h1,h2,h3,by simp only; omega⟩
  ·exact colPts_in h1 h2 (by omega) (by omega) p hp
theorem stripePts_in {b : BS} : ∀ {n : Nat} {x top : Int},0 ≤ x → x + n ≤ b.w → 0 ≤ top → AllIn b (stripePts b.h x top n)
 | 0,x,top,_,_,_ => fun p hp => by simp [stripePts] at hp
 | n + 1,x,top,h1,h2,h3 => fun p hp => by
  simp only [stripePts,List.mem_append] at hp
  rcases hp with hp | hp
  ·by_cases ht : top ≤ b.h
   ·exact colPts_in h1 (by omega) h3 (by omega) p hp
   ·rw [show (min (top + 4) (b.h : Int) - top).toNat = 0 by omega] at hp
    simp [colPts] at hp
  ·exact stripePts_in (by omega) (by omega) h3 p hp
theorem scanPts_in {b : BS} : ∀ {n : Nat} {top : Int},0 ≤ top → AllIn b (scanPts b.w b.h top n)
 | 0,top,_ => fun p hp => by simp [scanPts] at hp
 | n + 1,top,h => fun p hp => by
  simp only [scanPts,List.mem_append] at hp
  rcases hp with hp | hp
  ·exact stripePts_in (by omega) (by omega) h p hp
  ·exact scanPts_in (by omega) p hp
theorem scanIn (b : BS) : AllIn b (scan b.w b.h) := scanPts_in (by omega)
theorem colPts_len : ∀ (n : Nat) (x y : Int),(colPts x y n).length = n
 | 0,_,_ => rfl
 | n + 1,x,y => by rw [colPts,List.length_cons,colPts_len n]
theorem stripePts_len (h : Nat) : ∀ (n : Nat) (x top : Int),(stripePts h x top n).length ≤ 4 * n
 | 0,_,_ => by simp [stripePts]
 | n + 1,x,top => by
  rw [stripePts,List.length_append,colPts_len]
  have := stripePts_len h n (x + 1) top
  omega
theorem scanPts_len (w h : Nat) : ∀ (n : Nat) (top : Int),(scanPts w h top n).length ≤ 4 * w * n
 | 0,_ => by simp [scanPts]
 | n + 1,top => by
  rw [scanPts,List.length_append]
  have := stripePts_len h w 0 top
  have := scanPts_len w h n (top + 4)
  rw [Nat.mul_add]; omega
theorem near_eq (b : BS) (x y : Int) (k : Bool) : near b x y k = decide (0 < nbH b x y + nbV b x y k + nbD b x y k) := rfl
theorem nb_le (b : BS) (x y : Int) (k : Bool) : nbH b x y ≤ 2 ∧ nbV b x y k ≤ 2 ∧ nbD b x y k ≤ 4 := by
 obtain ⟨⟨a1,a2,a3,a4⟩,⟨b1,b2,b3,b4⟩⟩ := nb_facts b x y
 unfold nbH nbV nbD
 refine ⟨by omega,?_,?_⟩ <;> split <;> omega
theorem wrapU {n : Nat} (h : n < 18446744073709551616) : IntKind.u64.wrap (n : Int) = n := by
 rw [IntKind.wrap_u64]; omega
section
variable {h : Heap} {f : Bool} {q p c : Nat} {P : PP} {fv : Value} {b : BS} {x y : Int} {R : RP}
end
def encS : List (Int × Nat) → List Value
 | [] => []
 | p :: l => .int .i64 p.1 :: .int .i64 p.2 :: encS l
theorem encS_append : ∀ a b,encS (a ++ b) = encS a ++ encS b
 | [],b => rfl
 | p :: a,b => by rw [List.cons_append,encS,encS,encS_append a b]; rfl
theorem encS_len : ∀ a,(encS a).length = a.length * 2
 | [] => rfl
 | p :: a => by rw [encS,List.length_cons,List.length_cons,encS_len a,List.length_cons]; omega
section
variable {h : Heap} {q p c pb ob : Nat} {P : PP} {sv : Value} {σ : ES}
theorem signFlip_le (a b : Int) : signFlip a b ≤ 1 := by unfold signFlip; split <;> omega
theorem joint_range (s t : Int) : joint s t = -1 ∨ joint s t = 0 ∨ joint s t = 1 := by unfold joint; omega
end
structure S2 where
 a : AE
 raw : Option (List Nat)
def ownE (e pb : Nat) (o : Value) (id : Nat) : Prop := id = e ∨ id = pb ∨ sid o = some id
def ownR (p : Nat) (s : Value) (id : Nat) : Prop := id = p ∨ sid s = some id
section
variable {h h' : Heap} {R : RP} {e pb : Nat} {o : Value} {p out : List Nat} {low size : Nat} {begun : Bool} {a : AE}
end
structure MD where
 byp : Bool
 res : Bool
 rst : Bool
 cz : Bool
 sy : Bool
def MD.val (m : MD) : Value := .agg #[.bool m.byp,.bool m.res,.bool m.rst,.bool m.cz,.bool m.sy]
def planeOf (n : Nat) : Nat := if n = 0 then 0 else (n - 1) / 3 + 1
def kindOf (n : Nat) : Nat := if n = 0 then 2 else (n - 1) % 3
def rawOf (m : MD) (n : Nat) : Bool := m.byp && decide (4 ≤ planeOf n) && decide (kindOf n ≠ 2)
def runPP (m : MD) (n planes o : Nat) : PP := ⟨planes - 1 - planeOf n,o,m.cz,rawOf m n⟩
def runErr (n planes o : Int) : Int := if planes < 1 ∨ 60 < planes ∨ n < 0 ∨ 3 * planes - 3 < n then 2 else if o < 0 ∨ 3 < o then 3 else 0
theorem planeOf_le {n planes : Nat} (h : n ≤ 3 * planes - 3) (h1 : 1 ≤ planes) : planeOf n ≤ planes - 1 := by
 unfold planeOf; split <;> omega
def blank (n : Nat) : List Cell := List.replicate n .zero
def newBS (w h : Nat) : BS := ⟨w,h,blank (w * h)⟩
theorem newBS_good {w h : Nat} (w1 : 1 ≤ w) (w2 : w ≤ 64) (h1 : 1 ≤ h) (h2 : h ≤ 64) : (newBS w h).Good := by
 refine ⟨⟨w1,w2,h1,h2,by simp [newBS,blank]⟩,fun x y => ?_⟩
 have : (newBS w h).get x y = .zero := by
  unfold BS.get
  split
  ·simp only [newBS,blank,List.getD_eq_getElem?_getD,List.getElem?_replicate]
   split <;> rfl
  ·rfl
 rw [this]; simp [Cell.zero]
def sized (w h : Int) : Bool := decide (1 ≤ w ∧ w ≤ 64 ∧ 1 ≤ h ∧ h ≤ 64)
theorem idx_divmod {w h i : Nat} (hw : 0 < w) (cs : List Cell) : BS.idx ⟨w,h,cs⟩ ((i % w : Nat) : Int) ((i / w : Nat) : Int) = i := by
 unfold BS.idx
 have : ((i / w : Nat) : Int) * (w : Int) + ((i % w : Nat) : Int) = ((i / w * w + i % w : Nat) : Int) := by simp
 simp only
 rw [this,Int.toNat_natCast,Nat.mul_comm]
 exact Nat.div_add_mod i w
theorem inb_divmod {w h i : Nat} (hw : 0 < w) (hi : i < w * h) (cs : List Cell) : BS.inb ⟨w,h,cs⟩ ((i % w : Nat) : Int) ((i / w : Nat) : Int) := by
 have h1 := Nat.mod_lt i hw
 have h2 : i / w < h := by rw [Nat.div_lt_iff_lt_mul hw]; rw [Nat.mul_comm]; exact hi
 exact ⟨Int.natCast_nonneg _,Int.ofNat_lt.2 h1,Int.natCast_nonneg _,Int.ofNat_lt.2 h2⟩
def inR (v : Int) : Prop := -1152921504606846976 < v ∧ v < 1152921504606846976
instance (v : Int) : Decidable (inR v) := by unfold inR; exact inferInstance
def sgNext (m : MD) (sz : Nat) : Nat := if m.byp = true ∧ m.res = false then (if sz = 2 then 1 else 2) else sz
def sgGo (m : MD) : Nat → Nat → Nat → List Nat
 | 0,_,_ => []
 | f + 1,sz,left => if left = 0 then [] else min sz left :: sgGo m f (sgNext m sz) (left - min sz left)
def sgFirst (m : MD) (n : Nat) : Nat := if m.res = true then 1 else if m.byp = true then 10 else n
def segsOf (m : MD) (n : Nat) : List Nat := if n < 1 ∨ 178 < n then [] else sgGo m n (sgFirst m n) n
def sumL : List Nat → Nat
 | [] => 0
 | x :: l => x + sumL l
theorem sgNext_pos {m : MD} {sz : Nat} (h : 1 ≤ sz) : 1 ≤ sgNext m sz := by unfold sgNext; split <;> (try split) <;> omega
theorem sgGo_sum {m : MD} : ∀ (f sz left : Nat),1 ≤ sz → left ≤ f → sumL (sgGo m f sz left) = left ∧ (sgGo m f sz left).length ≤ left ∧ ∀ x ∈ sgGo m f sz left,1 ≤ x ∧ x ≤ left
 | 0,sz,left,_,h => by
  have : left = 0 := by omega
  subst this; simp [sgGo,sumL]
 | f + 1,sz,left,h1,h => by
  unfold sgGo
  by_cases h0 : left = 0
  ·rw [if_pos h0]; subst h0; simp [sumL]
  ·rw [if_neg h0]
   obtain ⟨a,b,c⟩ := sgGo_sum (m := m) f (sgNext m sz) (left - min sz left) (sgNext_pos h1) (by omega)
   refine ⟨by rw [sumL,a]; omega,by simp only [List.length_cons]; omega,fun x hx => ?_⟩
   rcases List.mem_cons.1 hx with rfl | hx
   ·omega
   ·have := c x hx; omega
theorem segs_sum {m : MD} {n : Nat} (h : n ≤ 178) : sumL (segsOf m n) = n ∧ (segsOf m n).length ≤ n ∧ ∀ x ∈ segsOf m n,1 ≤ x ∧ x ≤ n := by
 unfold segsOf
 by_cases h0 : n < 1
 ·rw [if_pos (.inl h0)]
  have : n = 0 := by omega
  subst this; simp [sumL]
 ·rw [if_neg (by omega)]
  refine sgGo_sum n _ n ?_ (Nat.le_refl _)
  unfold sgFirst; split
  ·omega
  ·split <;> omega
theorem app1n {H : Heap} {s : Value} {xs : List Nat} {v : Nat} (ho : OwnS H 1 s xs.length (nI xs)) (hn : xs.length < 1000000) :
  ∃ H1,appendV (H ++ [some ⟨false,[.int .i64 (v : Nat)]⟩]) 1 8 s (.slice (some ⟨H.length,0,none⟩) 1 1) = some (.slice (some ⟨H.length + 1,0,none⟩) (xs.length + 1) 1,H1) ∧
   OwnS H1 1 (.slice (some ⟨H.length + 1,0,none⟩) (xs.length + 1) 1) (xs ++ [v]).length (nI (xs ++ [v])) ∧ H1.length = H.length + 2 ∧ ∀ id,id < H.length → sid s ≠ some id → blk? H1 id = blk? H id := by
 have ho' : OwnS (H ++ [some ⟨false,[.int .i64 (v : Nat)]⟩]) 1 s xs.length (nI xs) := ho.of_blk fun id hid hb => by rw [blk?_push_lt (blk?_lt hb)]; exact hb
 have ht : Sl (H ++ [some ⟨false,[.int .i64 (v : Nat)]⟩]) 1 (.slice (some ⟨H.length,0,none⟩) 1 1) 1 [.int .i64 (v : Nat)] := ⟨rfl,.inr ⟨H.length,0,rfl,.inr ⟨_,blk?_push_eq,by simp,by simp⟩⟩⟩
 obtain ⟨H1,e,hb,hl,hk⟩ := own_append ho' ht (bytes := 8) (by unfold roomCells; omega) (by omega) (by omega)
 have hlen : (H ++ [some (⟨false,[.int .i64 (v : Nat)]⟩ : Blk)]).length = H.length + 1 := by simp
 rw [hlen] at e hb hl hk
 refine ⟨H1,e,⟨by simp [nI],.inr ⟨H.length + 1,by simp,by rw [hb]; simp [nI]⟩⟩,hl,fun id hid hne => by rw [hk id (by omega) hne,blk?_push_lt hid]⟩
theorem mn2 {k k' : IntKind} {x y : Int} : min2V (.int k x) (.int k' y) = some (.int k (min x y)) := by
 have e : (if y < x then y else x) = min x y := by split <;> omega
 rw [min2V,e]
section
variable {h : Heap}
theorem seg_loop {B M : Nat} {h0 : Heap} {m : MD} {k : List RItem} {R : RP} {zs : List Nat} (hMB : M < B) (hM : blk? h0 M = some ⟨false,[.bool m.byp,.bool m.res,.bool m.rst,.bool m.cz,.bool m.sy]⟩)
  (hk : ∀ (H : Heap) (s : Value) (K0 K1 K2 K4 K6 K7 K8 K9 Ka Kb Kc Kd Ke Kf Kg Kh Ki Kj Kk Kl Km Kn Ko Kp Kq Kr Ks Kt Ku Kv Kw Kx Ky Kz J0 J1 J2 J3 J4 J5 J6 : Value),OwnS H 1 s zs.length (nI zs) → (∀ id,id < B → blk? H id = blk? h0 id) → B ≤ H.length → (∀ id,sid s = some id → B ≤ id) →
   Ok tab R38 k #[K0,K1,K2,ptr M,K4,s,K6,K7,K8,K9,Ka,Kb,Kc,Kd,Ke,Kf,Kg,Kh,Ki,Kj,Kk,Kl,Km,Kn,Ko,Kp,Kq,Kr,Ks,Kt,Ku,Kv,Kw,Kx,Ky,Kz,J0,J1,J2,J3,J4,J5,J6] H R) :
  ∀ (f sz left : Nat) (xs : List Nat) (s : Value) (H : Heap) (K0 K1 K2 K4 K8 K9 Ka Kb Kc Kd Ke Kf Kg Kh Ki Kj Kk Kl Km Kn Ko Kp Kq Kr Ks Kt Ku Kv Kw Kx Ky Kz J0 J1 J2 J3 J4 J5 J6 : Value),left ≤ f → 1 ≤ sz → sz ≤ 1000 → f ≤ 1000 → xs.length + f ≤ 2000 → xs ++ sgGo m f sz left = zs →
   OwnS H 1 s xs.length (nI xs) → (∀ id,id < B → blk? H id = blk? h0 id) → B ≤ H.length → (∀ id,sid s = some id → B ≤ id) →
   Ok tab R38 (.inLoop L38_0 :: .inBlock 0 :: k) #[K0,K1,K2,ptr M,K4,s,.int .i64 (sz : Nat),.int .i64 (left : Nat),K8,K9,Ka,Kb,Kc,Kd,Ke,Kf,Kg,Kh,Ki,Kj,Kk,Kl,Km,Kn,Ko,Kp,Kq,Kr,Ks,Kt,Ku,Kv,Kw,Kx,Ky,Kz,J0,J1,J2,J3,J4,J5,J6] H R := by
 intro f
 induction f with
 | zero =>
  intro sz left xs s H;intros;rename_i hf h1 _ _ _ hz ho hl hlen hs
  obtain rfl : left = 0 := by omega
  simp only [sgGo,List.append_nil] at hz
  subst hz
  rw [ok_round,l38_0,L38_0a,L38_0b]
  simp
  exact hk _ _ _ _ _ _ _ _ _ _ _ _ _ _ _ _ _ _ _ _ _ _ _ _ _ _ _ _ _ _ _ _ _ _ _ _ _ _ _ _ _ _ _ ho hl hlen hs
 | succ f ih =>
  intro sz left xs s H;intros;rename_i hf h1 h2 h3 h4 hz ho hl hlen hs
  by_cases hz0 : left = 0
  ·subst hz0
   unfold sgGo at hz
   rw [if_pos rfl,List.append_nil] at hz
   subst hz
   rw [ok_round,l38_0,L38_0a,L38_0b]
   simp
   exact hk _ _ _ _ _ _ _ _ _ _ _ _ _ _ _ _ _ _ _ _ _ _ _ _ _ _ _ _ _ _ _ _ _ _ _ _ _ _ _ _ _ _ _ ho hl hlen hs
  ·unfold sgGo at hz
   rw [if_neg hz0] at hz
   obtain ⟨H1,ha,ho1,hl1,hk1⟩ := app1n (v := min sz left) ho (by omega)
   have hlow : ∀ id,id < B → blk? H1 id = blk? h0 id := fun id hid => by rw [hk1 id (by omega) (fun x => by have := hs id x; omega),hl id hid]
   have hb : blk? H M = some ⟨false,[.bool m.byp,.bool m.res,.bool m.rst,.bool m.cz,.bool m.sy]⟩ := by rw [hl M hMB]; exact hM
   have hb1 : blk? H1 M = some ⟨false,[.bool m.byp,.bool m.res,.bool m.rst,.bool m.cz,.bool m.sy]⟩ := by rw [hlow M hMB]; exact hM
   have hpos : 0 < left := by omega
   have hmin : min (sz : Int) (left : Int) = ((min sz left : Nat) : Int) := by omega
   have hw : IntKind.i64.wrap ((left : Int) - ((min sz left : Nat) : Int)) = ((left - min sz left : Nat) : Int) := by rw [wrapI (by omega) (by omega)]; omega
   have ih' := fun K0 K1 K2 K4 K8 K9 Ka Kb Kc Kd Ke Kf Kg Kh Ki Kj Kk Kl Km Kn Ko Kp Kq Kr Ks Kt Ku Kv Kw Kx Ky Kz J0 J1 J2 J3 J4 J5 J6 => ih (sgNext m sz) (left - min sz left) (xs ++ [min sz left]) (.slice (some ⟨H.length + 1,0,none⟩) (xs.length + 1) 1) H1 K0 K1 K2 K4 K8 K9 Ka Kb Kc Kd Ke Kf Kg Kh Ki Kj Kk Kl Km Kn Ko Kp Kq Kr Ks Kt Ku Kv Kw Kx Ky Kz J0 J1 J2 J3 J4 J5 J6 (by omega) (sgNext_pos h1) (by unfold sgNext; split <;> (try split) <;> omega) (by omega) (by simp; omega)
    (by rw [List.append_assoc]; exact hz) ho1 hlow (by omega) (fun id hid => by simp [sid] at hid; omega)
   unfold sgNext at ih'
   generalize ((left - min sz left : Nat) : Int) = l2 at *
   generalize hmm : ((min sz left : Nat) : Int) = mm at *
   rw [ok_round,l38_0,L38_0a,L38_0b]
   cases hbp : m.byp with
   | false =>
    rw [hbp] at hb hb1 ih'
    simp only [Bool.false_eq_true,false_and,if_false] at ih'
    simp [k_guard,repL,hb,hb1,hpos,fold1,foldO,mn2,hmin,ha,hw]
    exact ih' ..
   | true =>
    rw [hbp] at hb hb1 ih'
    cases hrs : m.res with
    | true =>
     rw [hrs] at hb hb1 ih'
     simp only [Bool.true_eq_false,and_false,if_false] at ih'
     simp [k_guard,repL,hb,hb1,hpos,fold1,foldO,mn2,hmin,ha,hw]
     exact ih' ..
    | false =>
     rw [hrs] at hb hb1 ih'
     simp only [and_self,if_true] at ih'
     by_cases h22 : sz = 2
     ·subst h22
      simp only [if_true] at ih'
      have hmin3 : min 2 (left : Int) = mm := hmin
      simp [k_guard,repL,hb,hb1,hpos,fold1,foldO,mn2,hmin3,ha,hw]
      exact ih' ..
     ·have h22' : ((sz : Int) == 2) = false := beq_eq_false_iff_ne.2 (by omega)
      have h22'' : ¬ (sz : Int) = 2 := by omega
      rw [if_neg h22] at ih'
      simp [k_guard,repL,hb,hb1,hpos,fold1,foldO,mn2,hmin,ha,hw,h22',h22'']
      exact ih' ..
theorem segs_c (n : Nat) (m : MD) (hn : n < 9000000000) : ∃ h' s,(∀ R,Ret tab 38 [.int .i64 (n : Nat),m.val] h R = R s h') ∧ OwnS h' 1 s (segsOf m n).length (nI (segsOf m n)) ∧ (∀ id,id < h.length → blk? h' id = blk? h id) ∧ h.length ≤ h'.length ∧ (∀ id,sid s = some id → h.length ≤ id) := by
 have key : ∀ R0 : RP,(∀ h' s,OwnS h' 1 s (segsOf m n).length (nI (segsOf m n)) → (∀ id,id < h.length → blk? h' id = blk? h id) → h.length ≤ h'.length → (∀ id,sid s = some id → h.length ≤ id) → R0 s h') →
   Ret tab 38 [.int .i64 (n : Nat),m.val] h R0 := by
  intro R0 hR
  have hlow0 : ∀ x : Option Blk,∀ id,id < h.length → blk? (h ++ [x]) id = blk? h id := fun x id hid => blk?_push_lt hid
  have hempty : (n < 1 ∨ 178 < n) → R0 (.slice none 0 0) (h ++ [some ⟨false,[.bool m.byp,.bool m.res,.bool m.rst,.bool m.cz,.bool m.sy]⟩]) := fun hx => by
   have e : segsOf m n = [] := by unfold segsOf; rw [if_pos hx]
   exact hR _ _ (by rw [e]; exact OwnS.nil _ _) (hlow0 _) (by simp) (fun id hid => by simp [sid] at hid)
  rw [enter38,B38]
  by_cases h1 : n < 1
  ·have h1' : (n : Int) < 1 := by omega
   simp [k_guard,MD.val,h1',fin38]
   exact hempty (.inl h1)
  have h1' : ¬ (n : Int) < 1 := by omega
  by_cases h2 : 178 < n
  ·have h2' : (178 : Int) < n := by omega
   simp [k_guard,MD.val,h1',h2',fin38]
   exact hempty (.inr h2)
  have h2' : ¬ (178 : Int) < n := by omega
  have e : segsOf m n = sgGo m n (sgFirst m n) n := by unfold segsOf; rw [if_neg (by omega)]
  rw [e] at hR
  generalize hH : h ++ [some (⟨false,[.bool m.byp,.bool m.res,.bool m.rst,.bool m.cz,.bool m.sy]⟩ : Blk)] = H
  have hbM : blk? H h.length = some ⟨false,[.bool m.byp,.bool m.res,.bool m.rst,.bool m.cz,.bool m.sy]⟩ := by rw [← hH]; exact blk?_push_eq
  have hHl : H.length = h.length + 1 := by rw [← hH]; simp
  have hfirst : 1 ≤ sgFirst m n ∧ sgFirst m n ≤ 1000 := by unfold sgFirst; split <;> (try split) <;> omega
  have hL := fun K0 K1 K2 K4 K8 K9 Ka Kb Kc Kd Ke Kf Kg Kh Ki Kj Kk Kl Km Kn Ko Kp Kq Kr Ks Kt Ku Kv Kw Kx Ky Kz J0 J1 J2 J3 J4 J5 J6 => seg_loop (R := R0) (zs := sgGo m n (sgFirst m n) n) (m := m) (B := h.length + 1) (M := h.length) (h0 := H) (by omega) hbM (k := [.code (tlC 7 B38)])
   (fun H' s K0 K1 K2 K4 K6 K7 K8 K9 Ka Kb Kc Kd Ke Kf Kg Kh Ki Kj Kk Kl Km Kn Ko Kp Kq Kr Ks Kt Ku Kv Kw Kx Ky Kz J0 J1 J2 J3 J4 J5 J6 ho hl hlen hs => by
    show Ok tab R38 [.code (.seq (nthC 7 B38) (tlC 8 B38))] _ H' R0
    simp only [nthC,tlC,fstC,B38]
    simp [fin38]
    exact hR _ _ ho (fun id hid => by rw [hl id (by omega),← hH]; exact blk?_push_lt hid) (by omega) (fun id hid => by have := hs id hid; omega))
   n (sgFirst m n) n [] (.slice none 0 0) H K0 K1 K2 K4 K8 K9 Ka Kb Kc Kd Ke Kf Kg Kh Ki Kj Kk Kl Km Kn Ko Kp Kq Kr Ks Kt Ku Kv Kw Kx Ky Kz J0 J1 J2 J3 J4 J5 J6 (Nat.le_refl _) hfirst.1 hfirst.2 (by omega) (by simp; omega) rfl (OwnS.nil _ _) (fun _ _ => rfl) (by omega) (fun id hid => by simp [sid] at hid)
  unfold sgFirst at hL
  simp only [tlC,B38] at hL
  cases hbp : m.byp <;> cases hrs : m.res <;> rw [hbp,hrs] at hbM hH <;> simp only [hbp,hrs,Bool.false_eq_true,if_false,if_true] at hL <;> simp [k_guard,MD.val,h1',h2',hbp,hrs,hH,hbM]
  ·exact hL ..
  ·exact hL ..
  ·exact hL ..
  ·exact hL ..
 obtain ⟨v,h',ee,A,B,C,D⟩ := ret_ex (key (fun s h' => OwnS h' 1 s (segsOf m n).length (nI (segsOf m n)) ∧ (∀ id,id < h.length → blk? h' id = blk? h id) ∧ h.length ≤ h'.length ∧ (∀ id,sid s = some id → h.length ≤ id)) (fun h' s A B C D => ⟨A,B,C,D⟩))
 exact ⟨h',v,ee,A,B,C,D⟩
end
def encP : List (Int × Int) → List Value
 | [] => []
 | p :: l => .int .i64 p.1 :: .int .i64 p.2 :: encP l
theorem encP_len : ∀ a,(encP a).length = a.length * 2
 | [] => rfl
 | p :: a => by rw [encP,List.length_cons,List.length_cons,encP_len a,List.length_cons]; omega
theorem encP_append : ∀ a b,encP (a ++ b) = encP a ++ encP b
 | [],b => rfl
 | p :: a,b => by rw [List.cons_append,encP,encP,encP_append a b]; rfl
theorem encP_get : ∀ (l : List (Int × Int)) (i : Nat) (h : i < l.length),(encP l)[i * 2]? = some (.int .i64 l[i].1) ∧ (encP l)[i * 2 + 1]? = some (.int .i64 l[i].2)
 | [],i,h => by simp at h
 | p :: l,0,_ => by simp [encP]
 | p :: l,i + 1,h => by
  obtain ⟨a,b⟩ := encP_get l i (by simpa using h)
  rw [encP,show (i + 1) * 2 + 1 = i * 2 + 1 + 1 + 1 by omega,show (i + 1) * 2 = i * 2 + 1 + 1 by omega]
  simpa using ⟨a,b⟩
theorem two {l : List Value} {m : Nat} {x y : Value} (h1 : l[m]? = some x) (h2 : l[m + 1]? = some y) : (l.drop m).take 2 = [x,y] ∧ m + 2 ≤ l.length := by
 have hl := (List.getElem?_eq_some_iff.1 h2).1
 refine ⟨?_,by omega⟩
 apply List.ext_getElem?
 intro j
 rw [List.getElem?_take]
 match j with
 | 0 => simpa using h1
 | 1 => simpa using h2
 | j + 2 => rw [if_neg (by omega)]; simp
section
variable {h : Heap} {q p c pb ob : Nat} {P : PP} {sv : Value} {σ : ES}
end
structure Mk (B : Nat) (h0 h : Heap) (s : Value) (l : List (Int × Int)) : Prop where
 own : OwnS h 2 s l.length (encP l)
 low : ∀ id,id < B → blk? h id = blk? h0 id
 len : B ≤ h.length
 far : ∀ id,sid s = some id → B ≤ id
theorem Mk.push {B : Nat} {h0 h : Heap} {s : Value} {l : List (Int × Int)} (m : Mk B h0 h s l) (hl : l.length < 100000) (x y : Int) :
  ∃ s' H,appendV (h ++ [some ⟨false,[.int .i64 x,.int .i64 y]⟩]) 2 16 s (.slice (some ⟨h.length,0,none⟩) 1 2) = some (s',H) ∧ Mk B h0 H s' (l ++ [(x,y)]) := by
 have hsl : Sl (h ++ [some ⟨false,[.int .i64 x,.int .i64 y]⟩]) 2 (.slice (some ⟨h.length,0,none⟩) 1 2) 1 [.int .i64 x,.int .i64 y] :=
  ⟨by simp,.inr ⟨h.length,0,rfl,.inr ⟨_,blk?_push_eq,by simp,by simp⟩⟩⟩
 have ho : OwnS (h ++ [some ⟨false,[.int .i64 x,.int .i64 y]⟩]) 2 s l.length (encP l) := m.own.of_blk fun id _ hb => blk?_push hb
 obtain ⟨H,ha,hK,hHl,hHs⟩ := own_append (bytes := 16) ho hsl (by unfold roomCells; omega) (by omega) (by omega)
 simp only [List.length_append,List.length_singleton] at ha hK hHl hHs
 have hlen := m.len
 refine ⟨_,H,ha,⟨⟨by rw [encP_len],.inr ⟨h.length + 1,by simp,?_⟩⟩,fun id hid => ?_,by omega,fun id hid => ?_⟩⟩
 ·rw [hK,encP_append]; rfl
 ·rw [hHs id (by omega) (fun e => by have := m.far id e; omega),blk?_push_lt (by omega)]
  exact m.low id hid
 ·simp [sid] at hid; omega
theorem min4 {top : Int} {hh : Nat} (h0 : 0 ≤ top) : (if (hh : Int) < top + 4 then (hh : Int) else top + 4) = min (top + 4) (hh : Int) := by split <;> omega
theorem sized_c {w hh : Nat} (w1 : 1 ≤ w) (w2 : w ≤ 64) (h1 : 1 ≤ hh) (h2 : hh ≤ 64) {h : Heap} {R : RP} : Ret tab 105 [.int .i64 w,.int .i64 hh] h R = R (.bool true) h := by
 have a1 : (1 : Int) ≤ w := by omega
 have a2 : (w : Int) ≤ 64 := by omega
 have a3 : (1 : Int) ≤ hh := by omega
 have a4 : (hh : Int) ≤ 64 := by omega
 rw [enter105,B105]
 simp [k_guard,a1,a2,a3,a4,fin105]
theorem sized_r {w hh : Nat} (w1 : 1 ≤ w) (w2 : w ≤ 64) (h1 : 1 ≤ hh) (h2 : hh ≤ 64) {h : Heap} {R : RP} : Ret tab 114 [.int .i64 w,.int .i64 hh] h R = R (.bool true) h := by
 have a1 : (1 : Int) ≤ w := by omega
 have a2 : (w : Int) ≤ 64 := by omega
 have a3 : (1 : Int) ≤ hh := by omega
 have a4 : (hh : Int) ≤ 64 := by omega
 rw [enter114,B114]
 simp [k_guard,a1,a2,a3,a4,fin114]
section
variable {B w hh : Nat} {h0 : Heap} {R : RP} {k : List RItem} {v4 : Value}
theorem scan0_c (hh2 : hh ≤ 64) {top x : Int} (ht : 0 ≤ top ∧ top < 64) :
  ∀ (n : Nat) (y : Int) (h : Heap) (s : Value) (l : List (Int × Int)) (K2 K3 K9 Ka Kb Kc Kd Ke Kf Kg Kh Ki Kj Kk Kl Km Kn Ko Kp Kq Kr Ks Kt Ku Kv Kw Kx Ky Kz J0 J1 J2 J3 J4 J5 J6 : Value),y + n = min (top + 4) hh → top ≤ y → Mk B h0 h s l → l.length + n ≤ 20000 →
   (∀ (h' : Heap) (s' : Value) (y' : Int) (K2 K3 K9 Ka Kb Kc Kd Ke Kf Kg Kh Ki Kj Kk Kl Km Kn Ko Kp Kq Kr Ks Kt Ku Kv Kw Kx Ky Kz J0 J1 J2 J3 J4 J5 J6 : Value),Mk B h0 h' s' (l ++ colPts x y n) → Ok tab R139 k #[.int .i64 w,.int .i64 hh,K2,K3,v4,s',.int .i64 top,.int .i64 x,.int .i64 y',K9,Ka,Kb,Kc,Kd,Ke,Kf,Kg,Kh,Ki,Kj,Kk,Kl,Km,Kn,Ko,Kp,Kq,Kr,Ks,Kt,Ku,Kv,Kw,Kx,Ky,Kz,J0,J1,J2,J3,J4,J5,J6] h' R) →
   Ok tab R139 (.inLoop L139_0 :: .inBlock 4 :: k) #[.int .i64 w,.int .i64 hh,K2,K3,v4,s,.int .i64 top,.int .i64 x,.int .i64 y,K9,Ka,Kb,Kc,Kd,Ke,Kf,Kg,Kh,Ki,Kj,Kk,Kl,Km,Kn,Ko,Kp,Kq,Kr,Ks,Kt,Ku,Kv,Kw,Kx,Ky,Kz,J0,J1,J2,J3,J4,J5,J6] h R := by
 intro n
 induction n with
 | zero =>
  intro y h s l;intros;rename_i hy hty m hl hk
  have hw : IntKind.i64.wrap (top + 4) = top + 4 := wrapI (by omega) (by omega)
  have hlt : ¬ y < min (top + 4) (hh : Int) := by omega
  have := hk h s y
  rw [colPts,List.append_nil] at this
  rw [ok_round,l139_0,L139_0a,L139_0b]
  simp [hw,fold1,foldO,min2V,min4 (hh := hh) ht.1]
  simp [hlt]
  exact this _ _ _ _ _ _ _ _ _ _ _ _ _ _ _ _ _ _ _ _ _ _ _ _ _ _ _ _ _ _ _ _ _ _ _ _ m
 | succ n ih =>
  intro y h s l;intros;rename_i hy hty m hl hk
  have hw : IntKind.i64.wrap (top + 4) = top + 4 := wrapI (by omega) (by omega)
  have hw1 : IntKind.i64.wrap (y + 1) = y + 1 := wrapI (by omega) (by omega)
  have hlt : y < min (top + 4) (hh : Int) := by omega
  obtain ⟨s',H,ha,m'⟩ := m.push (by omega) x y
  rw [ok_round,l139_0,L139_0a,L139_0b]
  simp [hw,fold1,foldO,min2V,min4 (hh := hh) ht.1]
  simp [hlt,hw1,repL,ha]
  refine ih (y + 1) H s' (l ++ [(x,y)]) _ _ _ _ _ _ _ _ _ _ _ _ _ _ _ _ _ _ _ _ _ _ _ _ _ _ _ _ _ _ _ _ _ _ _ _ (by omega) (by omega) m' (by simp; omega) ?_
  intro h' s'' y';intros;rename_i m2
  exact hk h' s'' y' _ _ _ _ _ _ _ _ _ _ _ _ _ _ _ _ _ _ _ _ _ _ _ _ _ _ _ _ _ _ _ _ _ _ _ _ (by rw [colPts]; simpa using m2)
theorem scan1_c (hh2 : hh ≤ 64) (hw2 : w ≤ 64) {top : Int} (ht : 0 ≤ top ∧ top < 64) :
  ∀ (n : Nat) (x : Int) (h : Heap) (s : Value) (l : List (Int × Int)) (K2 K3 K8 K9 Ka Kb Kc Kd Ke Kf Kg Kh Ki Kj Kk Kl Km Kn Ko Kp Kq Kr Ks Kt Ku Kv Kw Kx Ky Kz J0 J1 J2 J3 J4 J5 J6 : Value),x + n = w → 0 ≤ x → Mk B h0 h s l → l.length + 4 * n ≤ 20000 →
   (∀ (h' : Heap) (s' : Value) (x' : Int) (K2 K3 K8 K9 Ka Kb Kc Kd Ke Kf Kg Kh Ki Kj Kk Kl Km Kn Ko Kp Kq Kr Ks Kt Ku Kv Kw Kx Ky Kz J0 J1 J2 J3 J4 J5 J6 : Value),Mk B h0 h' s' (l ++ stripePts hh x top n) → Ok tab R139 k #[.int .i64 w,.int .i64 hh,K2,K3,v4,s',.int .i64 top,.int .i64 x',K8,K9,Ka,Kb,Kc,Kd,Ke,Kf,Kg,Kh,Ki,Kj,Kk,Kl,Km,Kn,Ko,Kp,Kq,Kr,Ks,Kt,Ku,Kv,Kw,Kx,Ky,Kz,J0,J1,J2,J3,J4,J5,J6] h' R) →
   Ok tab R139 (.inLoop L139_1 :: .inBlock 2 :: k) #[.int .i64 w,.int .i64 hh,K2,K3,v4,s,.int .i64 top,.int .i64 x,K8,K9,Ka,Kb,Kc,Kd,Ke,Kf,Kg,Kh,Ki,Kj,Kk,Kl,Km,Kn,Ko,Kp,Kq,Kr,Ks,Kt,Ku,Kv,Kw,Kx,Ky,Kz,J0,J1,J2,J3,J4,J5,J6] h R := by
 intro n
 induction n with
 | zero =>
  intro x h s l;intros;rename_i hx h0x m hl hk
  have hlt : ¬ x < (w : Int) := by omega
  have := hk h s x
  rw [stripePts,List.append_nil] at this
  rw [ok_round,l139_1,L139_1a,L139_1b]
  simp [hlt]
  exact this _ _ _ _ _ _ _ _ _ _ _ _ _ _ _ _ _ _ _ _ _ _ _ _ _ _ _ _ _ _ _ _ _ _ _ _ _ m
 | succ n ih =>
  intro x h s l;intros;rename_i hx h0x m hl hk
  have hw1 : IntKind.i64.wrap (x + 1) = x + 1 := wrapI (by omega) (by omega)
  have hlt : x < (w : Int) := by omega
  rw [ok_round,l139_1,L139_1a,L139_1b]
  simp [hlt]
  by_cases hth : top ≤ hh
  ·refine scan0_c hh2 ht (min (top + 4) (hh : Int) - top).toNat top h s l _ _ _ _ _ _ _ _ _ _ _ _ _ _ _ _ _ _ _ _ _ _ _ _ _ _ _ _ _ _ _ _ _ _ _ _ (by omega) (by omega) m (by omega) ?_
   intro h' s' y';intros;rename_i m1
   simp [hw1]
   refine ih (x + 1) h' s' _ _ _ _ _ _ _ _ _ _ _ _ _ _ _ _ _ _ _ _ _ _ _ _ _ _ _ _ _ _ _ _ _ _ _ _ _ _ (by omega) (by omega) m1 (by rw [List.length_append,colPts_len]; omega) ?_
   intro h'' s'' x';intros;rename_i m2
   exact hk h'' s'' x' _ _ _ _ _ _ _ _ _ _ _ _ _ _ _ _ _ _ _ _ _ _ _ _ _ _ _ _ _ _ _ _ _ _ _ _ _ (by rw [stripePts]; simpa using m2)
  ·have hw : IntKind.i64.wrap (top + 4) = top + 4 := wrapI (by omega) (by omega)
   have hlt2 : ¬ top < min (top + 4) (hh : Int) := by omega
   rw [ok_round,l139_0,L139_0a,L139_0b]
   simp [hw,fold1,foldO,min2V,min4 (hh := hh) ht.1]
   simp [hlt2,hw1]
   refine ih (x + 1) h s _ _ _ _ _ _ _ _ _ _ _ _ _ _ _ _ _ _ _ _ _ _ _ _ _ _ _ _ _ _ _ _ _ _ _ _ _ _ (by omega) (by omega) m (by omega) ?_
   intro h'' s'' x';intros;rename_i m2
   refine hk h'' s'' x' _ _ _ _ _ _ _ _ _ _ _ _ _ _ _ _ _ _ _ _ _ _ _ _ _ _ _ _ _ _ _ _ _ _ _ _ _ ?_
   rw [stripePts,show (min (top + 4) (hh : Int) - top).toNat = 0 by omega]
   simpa [colPts] using m2
theorem scan2_c (hh2 : hh ≤ 64) (hw2 : w ≤ 64) :
  ∀ (n : Nat) (top : Int) (h : Heap) (s : Value) (l : List (Int × Int)) (K2 K3 K7 K8 K9 Ka Kb Kc Kd Ke Kf Kg Kh Ki Kj Kk Kl Km Kn Ko Kp Kq Kr Ks Kt Ku Kv Kw Kx Ky Kz J0 J1 J2 J3 J4 J5 J6 : Value),(hh : Int) ≤ top + 4 * n → top + 4 * n ≤ hh + 3 → 0 ≤ top → Mk B h0 h s l → l.length + 4 * w * n ≤ 20000 →
   (∀ (h' : Heap) (s' : Value) (K2 K3 K6 K7 K8 K9 Ka Kb Kc Kd Ke Kf Kg Kh Ki Kj Kk Kl Km Kn Ko Kp Kq Kr Ks Kt Ku Kv Kw Kx Ky Kz J0 J1 J2 J3 J4 J5 J6 : Value),Mk B h0 h' s' (l ++ scanPts w hh top n) → Ok tab R139 k #[.int .i64 w,.int .i64 hh,K2,K3,v4,s',K6,K7,K8,K9,Ka,Kb,Kc,Kd,Ke,Kf,Kg,Kh,Ki,Kj,Kk,Kl,Km,Kn,Ko,Kp,Kq,Kr,Ks,Kt,Ku,Kv,Kw,Kx,Ky,Kz,J0,J1,J2,J3,J4,J5,J6] h' R) →
   Ok tab R139 (.inLoop L139_2 :: .inBlock 0 :: k) #[.int .i64 w,.int .i64 hh,K2,K3,v4,s,.int .i64 top,K7,K8,K9,Ka,Kb,Kc,Kd,Ke,Kf,Kg,Kh,Ki,Kj,Kk,Kl,Km,Kn,Ko,Kp,Kq,Kr,Ks,Kt,Ku,Kv,Kw,Kx,Ky,Kz,J0,J1,J2,J3,J4,J5,J6] h R := by
 intro n
 induction n with
 | zero =>
  intro top h s l;intros;rename_i hx hx2 h0x m hl hk
  have hlt : ¬ top < (hh : Int) := by omega
  have := hk h s
  rw [scanPts,List.append_nil] at this
  rw [ok_round,l139_2,L139_2a,L139_2b]
  simp [hlt]
  exact this _ _ _ _ _ _ _ _ _ _ _ _ _ _ _ _ _ _ _ _ _ _ _ _ _ _ _ _ _ _ _ _ _ _ _ _ _ _ _ m
 | succ n ih =>
  intro top h s l;intros;rename_i hx hx2 h0x m hl hk
  have hw1 : IntKind.i64.wrap (top + 4) = top + 4 := wrapI (by omega) (by omega)
  have hlt : top < (hh : Int) := by omega
  have hmul : 4 * w * (n + 1) = 4 * w * n + 4 * w := by rw [Nat.mul_add]; omega
  rw [ok_round,l139_2,L139_2a,L139_2b]
  simp [hlt]
  refine scan1_c hh2 hw2 ⟨h0x,by omega⟩ w 0 h s l _ _ _ _ _ _ _ _ _ _ _ _ _ _ _ _ _ _ _ _ _ _ _ _ _ _ _ _ _ _ _ _ _ _ _ _ _ (by omega) (by omega) m (by omega) ?_
  intro h' s' x';intros;rename_i m1
  simp [hw1]
  refine ih (top + 4) h' s' _ _ _ _ _ _ _ _ _ _ _ _ _ _ _ _ _ _ _ _ _ _ _ _ _ _ _ _ _ _ _ _ _ _ _ _ _ _ _ (by omega) (by omega) (by omega) m1 (by rw [List.length_append]; have := stripePts_len hh w 0 top; omega) ?_
  intro h'' s'';intros;rename_i m2
  exact hk h'' s'' _ _ _ _ _ _ _ _ _ _ _ _ _ _ _ _ _ _ _ _ _ _ _ _ _ _ _ _ _ _ _ _ _ _ _ _ _ _ _ (by rw [scanPts]; simpa using m2)
end
theorem scan_c {w hh : Nat} (w1 : 1 ≤ w) (w2 : w ≤ 64) (h1 : 1 ≤ hh) (h2 : hh ≤ 64) (h : Heap) :
  ∃ s h',(∀ R,Ret tab 139 [.int .i64 w,.int .i64 hh] h R = R s h') ∧ Mk h.length h h' s (scan w hh) := by
 have hs : ∀ h R,Ret tab 105 [.int .i64 w,.int .i64 hh] h R = R (.bool true) h := fun h R => sized_c w1 w2 h1 h2
 have key : Ret tab 139 [.int .i64 w,.int .i64 hh] h fun s h' => Mk h.length h h' s (scan w hh) := by
  have hm : w * hh ≤ 64 * 64 := Nat.mul_le_mul w2 h2
  have hst : 4 * w * stripesOf hh ≤ 4 * 64 * 16 := Nat.mul_le_mul (by omega) (by unfold stripesOf; omega)
  have g1 : (hh : Int) ≤ 0 + 4 * (stripesOf hh : Nat) := by unfold stripesOf; omega
  have g2 : 0 + 4 * ((stripesOf hh : Nat) : Int) ≤ hh + 3 := by unfold stripesOf; omega
  rw [enter139,B139]
  have hw : IntKind.i64.wrap ((w : Int) * hh) = ((w * hh : Nat) : Int) := by rw [← Int.natCast_mul]; exact wrapN (by omega)
  have hr : ((w * hh : Nat) : Int) ≤ (roomCells : Int) := by unfold roomCells; omega
  simp [-Int.natCast_mul,hs,hw,hr,repL]
  refine scan2_c h2 w2 (stripesOf hh) 0 _ _ [] _ _ _ _ _ _ _ _ _ _ _ _ _ _ _ _ _ _ _ _ _ _ _ _ _ _ _ _ _ _ _ _ _ _ _ _ _ _ g1 g2 (by omega) ⟨⟨rfl,.inr ⟨h.length,rfl,blk?_push_eq⟩⟩,fun id hid => blk?_push_lt hid,by simp,fun id hid => by simp [sid] at hid; omega⟩ (by simp; omega) ?_
  intro h' s';intros;rename_i m
  simp [fin139]
  simpa [scan] using m
 obtain ⟨v,h',e,m⟩ := ret_ex key
 exact ⟨v,h',e,m⟩
section
variable {B w hh : Nat} {h0 : Heap} {R : RP} {k : List RItem} {v4 : Value}
theorem scan0_r (hh2 : hh ≤ 64) {top x : Int} (ht : 0 ≤ top ∧ top < 64) :
  ∀ (n : Nat) (y : Int) (h : Heap) (s : Value) (l : List (Int × Int)) (K2 K3 K9 Ka Kb Kc Kd Ke Kf Kg Kh Ki Kj Kk Kl Km Kn Ko Kp Kq Kr Ks Kt Ku Kv Kw Kx Ky Kz J0 J1 J2 : Value),y + n = min (top + 4) hh → top ≤ y → Mk B h0 h s l → l.length + n ≤ 20000 →
   (∀ (h' : Heap) (s' : Value) (y' : Int) (K2 K3 K9 Ka Kb Kc Kd Ke Kf Kg Kh Ki Kj Kk Kl Km Kn Ko Kp Kq Kr Ks Kt Ku Kv Kw Kx Ky Kz J0 J1 J2 : Value),Mk B h0 h' s' (l ++ colPts x y n) → Ok tab R118 k #[.int .i64 w,.int .i64 hh,K2,K3,v4,s',.int .i64 top,.int .i64 x,.int .i64 y',K9,Ka,Kb,Kc,Kd,Ke,Kf,Kg,Kh,Ki,Kj,Kk,Kl,Km,Kn,Ko,Kp,Kq,Kr,Ks,Kt,Ku,Kv,Kw,Kx,Ky,Kz,J0,J1,J2] h' R) →
   Ok tab R118 (.inLoop L118_0 :: .inBlock 4 :: k) #[.int .i64 w,.int .i64 hh,K2,K3,v4,s,.int .i64 top,.int .i64 x,.int .i64 y,K9,Ka,Kb,Kc,Kd,Ke,Kf,Kg,Kh,Ki,Kj,Kk,Kl,Km,Kn,Ko,Kp,Kq,Kr,Ks,Kt,Ku,Kv,Kw,Kx,Ky,Kz,J0,J1,J2] h R := by
 intro n
 induction n with
 | zero =>
  intro y h s l;intros;rename_i hy hty m hl hk
  have hw : IntKind.i64.wrap (top + 4) = top + 4 := wrapI (by omega) (by omega)
  have hlt : ¬ y < min (top + 4) (hh : Int) := by omega
  have := hk h s y
  rw [colPts,List.append_nil] at this
  rw [ok_round,l118_0,L118_0a,L118_0b]
  simp [hw,fold1,foldO,min2V,min4 (hh := hh) ht.1]
  simp [hlt]
  exact this _ _ _ _ _ _ _ _ _ _ _ _ _ _ _ _ _ _ _ _ _ _ _ _ _ _ _ _ _ _ _ _ m
 | succ n ih =>
  intro y h s l;intros;rename_i hy hty m hl hk
  have hw : IntKind.i64.wrap (top + 4) = top + 4 := wrapI (by omega) (by omega)
  have hw1 : IntKind.i64.wrap (y + 1) = y + 1 := wrapI (by omega) (by omega)
  have hlt : y < min (top + 4) (hh : Int) := by omega
  obtain ⟨s',H,ha,m'⟩ := m.push (by omega) x y
  rw [ok_round,l118_0,L118_0a,L118_0b]
  simp [hw,fold1,foldO,min2V,min4 (hh := hh) ht.1]
  simp [hlt,hw1,repL,ha]
  refine ih (y + 1) H s' (l ++ [(x,y)]) _ _ _ _ _ _ _ _ _ _ _ _ _ _ _ _ _ _ _ _ _ _ _ _ _ _ _ _ _ _ _ _ (by omega) (by omega) m' (by simp; omega) ?_
  intro h' s'' y';intros;rename_i m2
  exact hk h' s'' y' _ _ _ _ _ _ _ _ _ _ _ _ _ _ _ _ _ _ _ _ _ _ _ _ _ _ _ _ _ _ _ _ (by rw [colPts]; simpa using m2)
theorem scan1_r (hh2 : hh ≤ 64) (hw2 : w ≤ 64) {top : Int} (ht : 0 ≤ top ∧ top < 64) :
  ∀ (n : Nat) (x : Int) (h : Heap) (s : Value) (l : List (Int × Int)) (K2 K3 K8 K9 Ka Kb Kc Kd Ke Kf Kg Kh Ki Kj Kk Kl Km Kn Ko Kp Kq Kr Ks Kt Ku Kv Kw Kx Ky Kz J0 J1 J2 : Value),x + n = w → 0 ≤ x → Mk B h0 h s l → l.length + 4 * n ≤ 20000 →
   (∀ (h' : Heap) (s' : Value) (x' : Int) (K2 K3 K8 K9 Ka Kb Kc Kd Ke Kf Kg Kh Ki Kj Kk Kl Km Kn Ko Kp Kq Kr Ks Kt Ku Kv Kw Kx Ky Kz J0 J1 J2 : Value),Mk B h0 h' s' (l ++ stripePts hh x top n) → Ok tab R118 k #[.int .i64 w,.int .i64 hh,K2,K3,v4,s',.int .i64 top,.int .i64 x',K8,K9,Ka,Kb,Kc,Kd,Ke,Kf,Kg,Kh,Ki,Kj,Kk,Kl,Km,Kn,Ko,Kp,Kq,Kr,Ks,Kt,Ku,Kv,Kw,Kx,Ky,Kz,J0,J1,J2] h' R) →
   Ok tab R118 (.inLoop L118_1 :: .inBlock 2 :: k) #[.int .i64 w,.int .i64 hh,K2,K3,v4,s,.int .i64 top,.int .i64 x,K8,K9,Ka,Kb,Kc,Kd,Ke,Kf,Kg,Kh,Ki,Kj,Kk,Kl,Km,Kn,Ko,Kp,Kq,Kr,Ks,Kt,Ku,Kv,Kw,Kx,Ky,Kz,J0,J1,J2] h R := by
 intro n
 induction n with
 | zero =>
  intro x h s l;intros;rename_i hx h0x m hl hk
  have hlt : ¬ x < (w : Int) := by omega
  have := hk h s x
  rw [stripePts,List.append_nil] at this
  rw [ok_round,l118_1,L118_1a,L118_1b]
  simp [hlt]
  exact this _ _ _ _ _ _ _ _ _ _ _ _ _ _ _ _ _ _ _ _ _ _ _ _ _ _ _ _ _ _ _ _ _ m
 | succ n ih =>
  intro x h s l;intros;rename_i hx h0x m hl hk
  have hw1 : IntKind.i64.wrap (x + 1) = x + 1 := wrapI (by omega) (by omega)
  have hlt : x < (w : Int) := by omega
  rw [ok_round,l118_1,L118_1a,L118_1b]
  simp [hlt]
  by_cases hth : top ≤ hh
  ·refine scan0_r hh2 ht (min (top + 4) (hh : Int) - top).toNat top h s l _ _ _ _ _ _ _ _ _ _ _ _ _ _ _ _ _ _ _ _ _ _ _ _ _ _ _ _ _ _ _ _ (by omega) (by omega) m (by omega) ?_
   intro h' s' y';intros;rename_i m1
   simp [hw1]
   refine ih (x + 1) h' s' _ _ _ _ _ _ _ _ _ _ _ _ _ _ _ _ _ _ _ _ _ _ _ _ _ _ _ _ _ _ _ _ _ _ (by omega) (by omega) m1 (by rw [List.length_append,colPts_len]; omega) ?_
   intro h'' s'' x';intros;rename_i m2
   exact hk h'' s'' x' _ _ _ _ _ _ _ _ _ _ _ _ _ _ _ _ _ _ _ _ _ _ _ _ _ _ _ _ _ _ _ _ _ (by rw [stripePts]; simpa using m2)
  ·have hw : IntKind.i64.wrap (top + 4) = top + 4 := wrapI (by omega) (by omega)
   have hlt2 : ¬ top < min (top + 4) (hh : Int) := by omega
   rw [ok_round,l118_0,L118_0a,L118_0b]
   simp [hw,fold1,foldO,min2V,min4 (hh := hh) ht.1]
   simp [hlt2,hw1]
   refine ih (x + 1) h s _ _ _ _ _ _ _ _ _ _ _ _ _ _ _ _ _ _ _ _ _ _ _ _ _ _ _ _ _ _ _ _ _ _ (by omega) (by omega) m (by omega) ?_
   intro h'' s'' x';intros;rename_i m2
   refine hk h'' s'' x' _ _ _ _ _ _ _ _ _ _ _ _ _ _ _ _ _ _ _ _ _ _ _ _ _ _ _ _ _ _ _ _ _ ?_
   rw [stripePts,show (min (top + 4) (hh : Int) - top).toNat = 0 by omega]
   simpa [colPts] using m2
theorem scan2_r (hh2 : hh ≤ 64) (hw2 : w ≤ 64) :
  ∀ (n : Nat) (top : Int) (h : Heap) (s : Value) (l : List (Int × Int)) (K2 K3 K7 K8 K9 Ka Kb Kc Kd Ke Kf Kg Kh Ki Kj Kk Kl Km Kn Ko Kp Kq Kr Ks Kt Ku Kv Kw Kx Ky Kz J0 J1 J2 : Value),(hh : Int) ≤ top + 4 * n → top + 4 * n ≤ hh + 3 → 0 ≤ top → Mk B h0 h s l → l.length + 4 * w * n ≤ 20000 →
   (∀ (h' : Heap) (s' : Value) (K2 K3 K6 K7 K8 K9 Ka Kb Kc Kd Ke Kf Kg Kh Ki Kj Kk Kl Km Kn Ko Kp Kq Kr Ks Kt Ku Kv Kw Kx Ky Kz J0 J1 J2 : Value),Mk B h0 h' s' (l ++ scanPts w hh top n) → Ok tab R118 k #[.int .i64 w,.int .i64 hh,K2,K3,v4,s',K6,K7,K8,K9,Ka,Kb,Kc,Kd,Ke,Kf,Kg,Kh,Ki,Kj,Kk,Kl,Km,Kn,Ko,Kp,Kq,Kr,Ks,Kt,Ku,Kv,Kw,Kx,Ky,Kz,J0,J1,J2] h' R) →
   Ok tab R118 (.inLoop L118_2 :: .inBlock 0 :: k) #[.int .i64 w,.int .i64 hh,K2,K3,v4,s,.int .i64 top,K7,K8,K9,Ka,Kb,Kc,Kd,Ke,Kf,Kg,Kh,Ki,Kj,Kk,Kl,Km,Kn,Ko,Kp,Kq,Kr,Ks,Kt,Ku,Kv,Kw,Kx,Ky,Kz,J0,J1,J2] h R := by
 intro n
 induction n with
 | zero =>
  intro top h s l;intros;rename_i hx hx2 h0x m hl hk
  have hlt : ¬ top < (hh : Int) := by omega
  have := hk h s
  rw [scanPts,List.append_nil] at this
  rw [ok_round,l118_2,L118_2a,L118_2b]
  simp [hlt]
  exact this _ _ _ _ _ _ _ _ _ _ _ _ _ _ _ _ _ _ _ _ _ _ _ _ _ _ _ _ _ _ _ _ _ _ _ m
 | succ n ih =>
  intro top h s l;intros;rename_i hx hx2 h0x m hl hk
  have hw1 : IntKind.i64.wrap (top + 4) = top + 4 := wrapI (by omega) (by omega)
  have hlt : top < (hh : Int) := by omega
  have hmul : 4 * w * (n + 1) = 4 * w * n + 4 * w := by rw [Nat.mul_add]; omega
  rw [ok_round,l118_2,L118_2a,L118_2b]
  simp [hlt]
  refine scan1_r hh2 hw2 ⟨h0x,by omega⟩ w 0 h s l _ _ _ _ _ _ _ _ _ _ _ _ _ _ _ _ _ _ _ _ _ _ _ _ _ _ _ _ _ _ _ _ _ (by omega) (by omega) m (by omega) ?_
  intro h' s' x';intros;rename_i m1
  simp [hw1]
  refine ih (top + 4) h' s' _ _ _ _ _ _ _ _ _ _ _ _ _ _ _ _ _ _ _ _ _ _ _ _ _ _ _ _ _ _ _ _ _ _ _ (by omega) (by omega) (by omega) m1 (by rw [List.length_append]; have := stripePts_len hh w 0 top; omega) ?_
  intro h'' s'';intros;rename_i m2
  exact hk h'' s'' _ _ _ _ _ _ _ _ _ _ _ _ _ _ _ _ _ _ _ _ _ _ _ _ _ _ _ _ _ _ _ _ _ _ _ (by rw [scanPts]; simpa using m2)
end
theorem scan_r {w hh : Nat} (w1 : 1 ≤ w) (w2 : w ≤ 64) (h1 : 1 ≤ hh) (h2 : hh ≤ 64) (h : Heap) :
  ∃ s h',(∀ R,Ret tab 118 [.int .i64 w,.int .i64 hh] h R = R s h') ∧ Mk h.length h h' s (scan w hh) := by
 have hs : ∀ h R,Ret tab 114 [.int .i64 w,.int .i64 hh] h R = R (.bool true) h := fun h R => sized_r w1 w2 h1 h2
 have key : Ret tab 118 [.int .i64 w,.int .i64 hh] h fun s h' => Mk h.length h h' s (scan w hh) := by
  have hm : w * hh ≤ 64 * 64 := Nat.mul_le_mul w2 h2
  have hst : 4 * w * stripesOf hh ≤ 4 * 64 * 16 := Nat.mul_le_mul (by omega) (by unfold stripesOf; omega)
  have g1 : (hh : Int) ≤ 0 + 4 * (stripesOf hh : Nat) := by unfold stripesOf; omega
  have g2 : 0 + 4 * ((stripesOf hh : Nat) : Int) ≤ hh + 3 := by unfold stripesOf; omega
  rw [enter118,B118]
  simp [hs]
  refine scan2_r h2 w2 (stripesOf hh) 0 _ _ [] _ _ _ _ _ _ _ _ _ _ _ _ _ _ _ _ _ _ _ _ _ _ _ _ _ _ _ _ _ _ _ _ _ _ g1 g2 (by omega) ⟨OwnS.nil _ _,fun id hid => rfl,Nat.le_refl _,fun id hid => by simp [sid] at hid⟩ (by simp; omega) ?_
  intro h' s';intros;rename_i m
  simp [fin118]
  simpa [scan] using m
 obtain ⟨v,h',e,m⟩ := ret_ex key
 exact ⟨v,h',e,m⟩
section
variable {h : Heap} {q p c pb ob : Nat} {P : PP} {sv : Value} {σ : ES}
theorem scan_len {w h : Nat} (hw : w ≤ 64) (hh : h ≤ 64) : (scan w h).length ≤ 4096 := by
 have := scanPts_len w h (stripesOf h) 0
 have h2 : 4 * w * stripesOf h ≤ 4 * 64 * 16 := Nat.mul_le_mul (by omega) (by unfold stripesOf; omega)
 unfold scan; omega
end
section
variable {h : Heap} {q p c pb ob : Nat} {P : PP} {sv : Value} {σ : ES}
end
section
variable {h : Heap} {q p c pb ob : Nat} {P : PP} {sv : Value} {σ : ES} {k : List RItem} {R : RP} {v1 : Value}
end
section
variable {h : Heap} {q p c pb ob : Nat} {P : PP} {sv : Value} {σ : ES} {k : List RItem} {R : RP} {v1 : Value}
end
section
variable {h : Heap} {R : RP}
theorem pass_c {n : Nat} (hn : n < 100000) : Ret tab 62 [.int .i64 n] h R = R (.tuple #[.int .i64 (planeOf n),.int .i64 (kindOf n)]) h := by
 have h1 : ¬ ((n : Int) < 0) := by omega
 rw [enter62,B62]
 by_cases h0 : n = 0
 ·subst h0; simp [fin62,planeOf,kindOf]
 ·have hn0 : ((n : Int) == 0) = false := by simp [h0]
  have e1 : IntKind.i64.wrap ((n : Int) - 1) = ((n - 1 : Nat) : Int) := by rw [wrapI (by omega) (by omega)]; omega
  have e2 : ((n - 1 : Nat) : Int).tdiv 3 = (((n - 1) / 3 : Nat) : Int) := rfl
  have e3 : ((n - 1 : Nat) : Int).tmod 3 = (((n - 1) % 3 : Nat) : Int) := rfl
  have e4 : IntKind.i64.wrap ((((n - 1) / 3 : Nat) : Int)) = (((n - 1) / 3 : Nat) : Int) := wrapN (by omega)
  have e5 : IntKind.i64.wrap ((((n - 1) / 3 : Nat) : Int) + 1) = (((n - 1) / 3 + 1 : Nat) : Int) := wrapN (n := (n - 1) / 3 + 1) (by omega)
  have hp : planeOf n = (n - 1) / 3 + 1 := by unfold planeOf; rw [if_neg h0]
  have hk : kindOf n = (n - 1) % 3 := by unfold kindOf; rw [if_neg h0]
  rw [hp,hk]
  generalize hm : n - 1 = m at *
  generalize hd : m / 3 = d at *
  generalize hr : m % 3 = r at *
  simp [-Int.natCast_add,h1,hn0,e1,e2,e3,e4,e5,fin62]
theorem raw_c {n : Nat} (hn : n < 100000) (m : MD) : Ret tab 39 [.int .i64 n,m.val] h R = R (.bool (rawOf m n)) h := by
 have hK : ∀ y : Blk,blk? (frz h ++ [some y]) h.length = some y := fun y => by
  have := blk?_push_eq (h := frz h) (x := some y)
  rwa [len_frz] at this
 have hp := fun h R => pass_c (h := h) (R := R) hn
 have hk : kindOf n = 0 ∨ kindOf n = 1 ∨ kindOf n = 2 := by unfold kindOf; split <;> omega
 have h4 : decide ((4 : Int) ≤ (planeOf n : Int)) = decide (4 ≤ planeOf n) := by congr 1; exact propext (by omega)
 rw [enter39,B39]
 obtain ⟨b1,b2,b3,b4,b5⟩ := m
 rcases hk with hk | hk | hk
 ·cases b1 <;> simp [k_guard,MD.val,hp,hk,hK,h4,fin39,rawOf]
 ·cases b1 <;> simp [k_guard,MD.val,hp,hk,hK,h4,fin39,rawOf]
 ·simp [k_guard,MD.val,hp,hk,hK,fin39,rawOf]
end
section
variable {h : Heap} {p c : Nat} {b : BS}
theorem runErr_lo {n planes o : Int} (h : planes < 1 ∨ 60 < planes ∨ n < 0 ∨ 3 * planes - 3 < n) : runErr n planes o = 2 := by unfold runErr; rw [if_pos h]
end
section
variable {h : Heap} {R : RP}
end
def i64s (xs : List Int) : List Value := xs.map fun v => .int .i64 v
section
variable {h : Heap} {R : RP}
end
theorem repL_blank : ∀ n,repL [.int .i64 0,.bool false,.bool false,.bool false] n = encC (blank n)
 | 0 => rfl
 | n + 1 => by rw [repL,repL_blank n,blank,blank,List.replicate_succ,encC]; rfl
section
variable {h : Heap} {R : RP}
theorem sized_ci {w hh : Int} : Ret tab 105 [.int .i64 w,.int .i64 hh] h R = R (.bool (sized w hh)) h := by
 rw [enter105,B105]
 by_cases a1 : 1 ≤ w
 ·by_cases a2 : w ≤ 64
  ·by_cases a3 : 1 ≤ hh
   ·by_cases a4 : hh ≤ 64 <;> simp [k_guard,a1,a2,a3,a4,fin105,sized]
   ·simp [k_guard,a1,a2,a3,fin105,sized]
  ·simp [k_guard,a1,a2,fin105,sized]
 ·simp [k_guard,a1,fin105,sized]
def newHeap (h : Heap) (w hh : Nat) : Heap := h ++ [some ⟨false,encC (blank (w * hh))⟩,some ⟨false,[.int .i64 w,.int .i64 hh,.slice (some ⟨h.length,0,none⟩) (w * hh) 4]⟩]
theorem newHeap_cb (h : Heap) {w hh : Nat} (w1 : 1 ≤ w) (w2 : w ≤ 64) (h1 : 1 ≤ hh) (h2 : hh ≤ 64) : CB (newHeap h w hh) false (h.length + 1) h.length (newBS w hh) :=
 ⟨by unfold newHeap; rw [app_add]; rfl,by unfold newHeap; rw [app_len]; rfl,(newBS_good w1 w2 h1 h2).ok⟩
theorem newHeap_low (h : Heap) (w hh : Nat) : ∀ id,id < h.length → blk? (newHeap h w hh) id = blk? h id := fun id hid => app_lt hid
theorem newHeap_len (h : Heap) (w hh : Nat) : (newHeap h w hh).length = h.length + 2 := by simp [newHeap]
theorem new_c {w hh : Nat} (w1 : 1 ≤ w) (w2 : w ≤ 64) (h1 : 1 ≤ hh) (h2 : hh ≤ 64) : Ret tab 55 [.int .i64 w,.int .i64 hh] h R = R (.tuple #[ptr (h.length + 1),.int .i64 0]) (newHeap h w hh) := by
 have hm : w * hh ≤ 64 * 64 := Nat.mul_le_mul w2 h2
 have hs := fun R => sized_c (h := h) (R := R) w1 w2 h1 h2
 have hw : IntKind.i64.wrap ((w : Int) * hh) = ((w * hh : Nat) : Int) := by rw [← Int.natCast_mul]; exact wrapN (by omega)
 have hr : ((w * hh : Nat) : Int) ≤ (roomCells : Int) := by unfold roomCells; omega
 rw [enter55,B55]
 simp [-Int.natCast_mul,hs,hw,hr,repL_blank,fin55,newHeap]
theorem new_r {w hh : Nat} (w1 : 1 ≤ w) (w2 : w ≤ 64) (h1 : 1 ≤ hh) (h2 : hh ≤ 64) : Ret tab 69 [.int .i64 w,.int .i64 hh] h R = R (.tuple #[ptr (h.length + 1),.int .i64 0]) (newHeap h w hh) := by
 have hm : w * hh ≤ 64 * 64 := Nat.mul_le_mul w2 h2
 have hs := fun R => Go.Proofs.YtjpjohchdfoeaaaGreat.sized_r (h := h) (R := R) w1 w2 h1 h2
 have hw : IntKind.i64.wrap ((w : Int) * hh) = ((w * hh : Nat) : Int) := by rw [← Int.natCast_mul]; exact wrapN (by omega)
 have hr : ((w * hh : Nat) : Int) ≤ (roomCells : Int) := by unfold roomCells; omega
 rw [enter69,B69]
 simp [-Int.natCast_mul,hs,hw,hr,repL_blank,fin69,newHeap]
theorem new_bad {w hh : Int} (hs : sized w hh = false) : Ret tab 55 [.int .i64 w,.int .i64 hh] h R = R (.tuple #[.pointer none,.int .i64 2]) h := by
 rw [enter55,B55]
 simp [sized_ci,hs,fin55]
end
section
variable {h : Heap} {R : RP}
theorem validOrient_r {o : Int} : Ret tab 68 [.int .i64 o] h R = R (.bool (decide (0 ≤ o ∧ o ≤ 3))) h := by
 rw [enter68,B68]
 by_cases h0 : 0 ≤ o
 ·by_cases h3 : o ≤ 3
  ·simp [k_guard,h0,h3,fin68]
  ·simp [k_guard,h0,h3,fin68]
 ·simp [k_guard,h0,fin68]
theorem floorDiv3_r {n : Nat} (hn : n < 100000) : Ret tab 78 [.int .i64 n,.int .i64 3] h R = R (.int .i64 (n / 3 : Nat)) h := by
 have e2 : (n : Int).tdiv 3 = ((n / 3 : Nat) : Int) := rfl
 have e3 : (n : Int).tmod 3 = ((n % 3 : Nat) : Int) := rfl
 have e4 : IntKind.i64.wrap ((n / 3 : Nat) : Int) = ((n / 3 : Nat) : Int) := wrapN (by omega)
 have e5 : ¬ (((n % 3 : Nat) : Int) < 0) := by omega
 rw [enter78,B78]
 simp [-Int.natCast_ediv,-Int.natCast_emod,e2,e3,e4,e5,fin78]
theorem pass_r {n : Nat} (hn : n < 100000) : Ret tab 32 [.int .i64 n] h R = R (.tuple #[.int .i64 (planeOf n),.int .i64 (kindOf n)]) h := by
 have h1 : ¬ ((n : Int) < 0) := by omega
 rw [enter32,B32]
 by_cases h0 : n = 0
 ·subst h0; simp [fin32,planeOf,kindOf]
 ·have hn0 : ((n : Int) == 0) = false := by simp [h0]
  have e1 : IntKind.i64.wrap ((n : Int) - 1) = ((n - 1 : Nat) : Int) := by rw [wrapI (by omega) (by omega)]; omega
  have e3 : ((n - 1 : Nat) : Int).tmod 3 = (((n - 1) % 3 : Nat) : Int) := rfl
  have hf := fun R => floorDiv3_r (h := frz h) (R := R) (n := n - 1) (by omega)
  have e5 : IntKind.i64.wrap (1 + (((n - 1) / 3 : Nat) : Int)) = (((n - 1) / 3 + 1 : Nat) : Int) := by rw [wrapI (by omega) (by omega)]; omega
  have hp : planeOf n = (n - 1) / 3 + 1 := by unfold planeOf; rw [if_neg h0]
  have hk : kindOf n = (n - 1) % 3 := by unfold kindOf; rw [if_neg h0]
  rw [hp,hk]
  generalize hm : n - 1 = m at *
  generalize hd : m / 3 = d at *
  generalize hr : m % 3 = r at *
  simp [-Int.natCast_add,h1,hn0,e1,e3,hf,e5,fin32]
theorem raw_r {n : Nat} (hn : n < 100000) (m : MD) : Ret tab 48 [.int .i64 n,m.val] h R = R (.bool (rawOf m n)) h := by
 have hK : ∀ y : Blk,blk? (frz h ++ [some y]) h.length = some y := fun y => by
  have := blk?_push_eq (h := frz h) (x := some y)
  rwa [len_frz] at this
 have hp := fun h R => pass_r (h := h) (R := R) hn
 have hk : kindOf n = 0 ∨ kindOf n = 1 ∨ kindOf n = 2 := by unfold kindOf; split <;> omega
 rw [enter48,B48]
 obtain ⟨b1,b2,b3,b4,b5⟩ := m
 by_cases h4 : 4 ≤ planeOf n
 ·have h4' : (4 : Int) ≤ (planeOf n : Int) := by omega
  rcases hk with hk | hk | hk <;> cases b1 <;> simp [k_guard,k_guardU,MD.val,hp,hk,hK,h4,h4',fin48,rawOf]
 ·have h4' : ¬ (4 : Int) ≤ (planeOf n : Int) := by omega
  rcases hk with hk | hk | hk <;> cases b1 <;> simp [k_guard,k_guardU,MD.val,hp,hk,hK,h4,h4',fin48,rawOf]
end
section
variable {h : Heap} {R : RP}
end
section
variable {h : Heap} {R : RP}
end
section
variable {h : Heap} {R : RP} {k : List RItem}
end
section
variable {h : Heap} {R : RP} {k : List RItem}
end
set_option maxRecDepth 10000
section
variable {R : RP} {k : List RItem} {e M X0 X cnt gn gi n j : Nat} {sv zv gv v : Value}
end
section
variable {R : RP} {k : List RItem} {e M X0 X cnt gn gi n0 : Nat} {sv gv v : Value} {m : MD}
end
theorem app_any {h : Heap} {t s : Value} {n m bytes : Nat} {cs new : List Value} (ho : OwnS h 1 t n cs) (hs : Sl h 1 s m new) (hr : n + m ≤ roomCells) (hb : bytes ≤ 4096) :
  ∃ t' H,appendV h 1 bytes t s = some (t',H) ∧ OwnS H 1 t' (n + m) (cs ++ new) ∧ h.length ≤ H.length ∧ (∀ id,id < h.length → sid t ≠ some id → blk? H id = blk? h id) ∧ (∀ id,sid t' = some id → h.length ≤ id ∧ id < H.length) := by
 by_cases hm : m = 0
 ·subst hm
  have hn : new = [] := List.eq_nil_of_length_eq_zero (by have := hs.1; omega)
  subst hn
  rcases ho.2 with ⟨rfl,h0⟩ | ⟨id,rfl,hbk⟩
  ·subst h0
   have hc : cs = [] := List.eq_nil_of_length_eq_zero (by have := ho.1; omega)
   subst hc
   refine ⟨.slice none 0 0,h,?_,OwnS.nil _ _,Nat.le_refl _,fun _ _ _ => rfl,fun id hid => by simp [sid] at hid⟩
   unfold appendV
   simp [hs.lenV,hs.firstC]
  ·have hl := ho.1
   refine ⟨.slice (some ⟨h.length,0,none⟩) n 1,h.set id none ++ [some ⟨false,cs⟩],?_,⟨by simpa using hl,.inr ⟨h.length,rfl,?_⟩⟩,by simp,fun j hj hne => ?_,fun j hj => by simp [sid] at hj; subst hj; simp⟩
   ·simp only [appendV,hs.lenV,hs.firstC,hbk]
    rw [if_pos ⟨trivial,trivial,by simp; omega,hr,hb⟩]
    simp only [List.drop_zero,List.append_nil,Nat.add_zero]
    rw [List.take_of_length_le (by omega)]
   ·have := blk?_push_eq (h := h.set id none) (x := some ⟨false,cs⟩)
    simpa using this
   ·rw [blk?_push_lt (by simpa using hj),blk?_set_ne (fun e => hne (by rw [e]; rfl))]
 ·obtain ⟨H,e,hbk,hl,hk⟩ := own_append ho hs hr hb hm
  refine ⟨_,H,e,⟨by have h1 := ho.1; have h2 := hs.1; simp only [List.length_append]; omega,.inr ⟨_,rfl,hbk⟩⟩,by omega,hk,fun id hid => by simp [sid] at hid; omega⟩
section
variable {R : RP} {k : List RItem} {e M X0 X gn gi : Nat} {sv gv nv : Value}
end
structure DP (h : Heap) (d pb : Nat) (dv : Value) (D : List Nat) (n : Nat) (p : List Nat) (value size : Nat) (st : Bool) : Prop where
 blk : blk? h d = some ⟨false,[.slice (some ⟨pb,0,none⟩) p.length 1,dv,.int .i64 (n : Nat),.int .i64 (value : Nat),.int .i64 (size : Nat),.bool st]⟩
 pblk : blk? h pb = some ⟨false,nI p⟩
 own : OwnS h 1 dv D.length (nU D)
 ne1 : d ≠ pb
 ne2 : sid dv ≠ some d
 ne3 : sid dv ≠ some pb
structure DA (h : Heap) (d pb : Nat) (dv : Value) (D : List Nat) (n : Nat) (a : AD) : Prop where
 dp : DP h d pb dv D n a.p a.value a.size true
 rest : D.drop n = a.rest
 ok : a.Ok
 pos : 0 < a.p.length
theorem set_same {h : Heap} {d : Nat} {b : Blk} (hb : blk? h d = some b) : h.set d (some b) = h := by
 unfold blk? at hb
 split at hb
 ·rename_i b' hx
  injection hb with hb
  subst hb
  obtain ⟨hlt,hg⟩ := List.getElem?_eq_some_iff.1 hx
  rw [← hg,List.set_getElem_self]
 ·cases hb
section
variable {h : Heap} {R : RP} {d pb n value size : Nat} {dv : Value} {D p : List Nat} {st : Bool} {a : AD}
theorem DP.set (I : DP h d pb dv D n p value size st) (n' value' size' : Nat) (st' : Bool) :
  DP (h.set d (some ⟨false,[.slice (some ⟨pb,0,none⟩) p.length 1,dv,.int .i64 (n' : Nat),.int .i64 (value' : Nat),.int .i64 (size' : Nat),.bool st']⟩)) d pb dv D n' p value' size' st' := by
 have he := blk?_lt I.blk
 exact ⟨blk?_set_eq he,by rw [blk?_set_ne I.ne1]; exact I.pblk,I.own.of_blk fun id hid hb => by rw [blk?_set_ne (fun x => I.ne2 (by rw [x]; exact hid))]; exact hb,I.ne1,I.ne2,I.ne3⟩
theorem DP.keep {h' : Heap} (I : DP h d pb dv D n p value size st) (hk : ∀ id,ownE d pb dv id → blk? h' id = blk? h id) : DP h' d pb dv D n p value size st :=
 ⟨by rw [hk d (.inl rfl)]; exact I.blk,by rw [hk pb (.inr (.inl rfl))]; exact I.pblk,I.own.of_blk fun id hid hb => by rw [hk id (.inr (.inr hid))]; exact hb,I.ne1,I.ne2,I.ne3⟩
theorem DP.own_lt (I : DP h d pb dv D n p value size st) {id : Nat} (hid : ownE d pb dv id) : id < h.length := by
 rcases hid with rfl | rfl | hid
 ·exact blk?_lt I.blk
 ·exact blk?_lt I.pblk
 ·exact I.own.lt hid
theorem dvalid_c (I : DP h d pb dv D n p value size st) (hp : 0 < p.length) : Ret tab 106 [ptr d] h R = R (.bool true) h := by
 have h1 := I.blk
 rw [enter106,B106]
 simp [k_guard,h1,hp,fin106]
theorem dnext_c (I : DP h d pb dv D n p value size st) (hD : Dig D) (hl : D.length < 1000000000) : ∃ n' : Nat,D.drop n' = (D.drop n).tail ∧
  ∀ R : RP,Ret tab 107 [ptr d] h R = R (.int .i64 ((D.drop n).headD 0 : Nat)) (h.set d (some ⟨false,[.slice (some ⟨pb,0,none⟩) p.length 1,dv,.int .i64 (n' : Nat),.int .i64 (value : Nat),.int .i64 (size : Nat),.bool st]⟩)) := by
 have hb := I.blk
 obtain ⟨da,dc,hdv⟩ := I.own.sl.shape
 by_cases hn : n < D.length
 ·refine ⟨n + 1,by rw [List.tail_drop],fun R => ?_⟩
  obtain ⟨id,off,b,e,hbk,hc⟩ := I.own.sl.get hn
  have hc0 := hc 0 (by omega)
  rw [Nat.mul_one,Nat.add_zero,Nat.add_zero,nU_get hn] at hc0
  have hgd : D.getD n 0 = (D.drop n).headD 0 := by
   rw [List.drop_eq_getElem_cons hn]; simp [hn]
  rw [hgd] at hc0
  have hx : (D.drop n).headD 0 < 256 := headD_dig (hD.drop n)
  generalize (D.drop n).headD 0 = x at *
  have hlt : ¬ (D.length : Int) ≤ (n : Int) := by omega
  have hlt2 : ¬ D.length ≤ n := by omega
  have hltn : (n : Int) < (D.length : Int) := by omega
  have w1 : IntKind.i64.wrap ((n : Int) + 1) = ((n + 1 : Nat) : Int) := wrapN (n := n + 1) (by omega)
  have w2 : IntKind.i64.wrap (((n + 1 : Nat) : Int) - 1) = (n : Int) := by rw [wrapI (by omega) (by omega)]; omega
  have w3 : IntKind.i64.wrap (x : Int) = (x : Int) := wrapN (by omega)
  have hne : id ≠ d := fun x => I.ne2 (by rw [e]; simp [sid,x])
  have hs : ∀ x,blk? (h.set d x) d = x := fun x => blk?_set_eq (blk?_lt hb)
  have hs2 : ∀ x,blk? (h.set d x) id = some b := fun x => by rw [blk?_set_ne (Ne.symm hne)]; exact hbk
  generalize ((n + 1 : Nat) : Int) = n1 at *
  rw [e] at hb ⊢
  rw [enter107,B107]
  simp [hb,hlt,hlt2,w1,hs,w2,hltn,hs2,hc0,w3,fin107]
 ·have hdr : D.drop n = [] := List.drop_eq_nil_of_le (by omega)
  refine ⟨n,by rw [hdr]; rfl,fun R => ?_⟩
  rw [hdr,set_same hb]
  have hlt : (D.length : Int) ≤ (n : Int) := by omega
  have hlt2 : D.length ≤ n := by omega
  rw [hdv] at hb
  rw [enter107,B107]
  simp [hb,hlt,hlt2,fin107]
theorem start_loop {v1 : Value} {k : List RItem} (hD : Dig D) (hl : D.length < 1000000000)
  (hk : ∀ (h' : Heap) (n' : Nat) (K1 K2 K3 K5 K6 K7 K8 K9 Ka Kb Kc Kd Ke Kf Kg Kh Ki Kj Kk Kl Km Kn Ko Kp Kq Kr Ks Kt Ku Kv Kw Kx Ky Kz J0 J1 J2 J3 J4 J5 J6 J7 J8 J9 Ja : Value),DP h' d pb dv D n' p (val (pad D 4)) size st → D.drop n' = D.drop 4 → (∀ id,id ≠ d → blk? h' id = blk? h id) → h'.length = h.length → Ok tab R58 k #[ptr d,K1,K2,K3,.int .i64 0,K5,K6,K7,K8,K9,Ka,Kb,Kc,Kd,Ke,Kf,Kg,Kh,Ki,Kj,Kk,Kl,Km,Kn,Ko,Kp,Kq,Kr,Ks,Kt,Ku,Kv,Kw,Kx,Ky,Kz,J0,J1,J2,J3,J4,J5,J6,J7,J8,J9,Ja] h' R) :
  ∀ (q j : Nat) (H : Heap) (n : Nat) (K1 K2 K3 K5 K6 K7 K8 K9 Ka Kb Kc Kd Ke Kf Kg Kh Ki Kk Kl Km Kn Ko Kp Kq Kr Ks Kt Ku Kv Kw Kx Ky Kz J0 J1 J2 J3 J4 J5 J6 J7 J8 J9 Ja : Value),j + q = 4 → DP H d pb dv D n p (val (pad D j)) size st → D.drop n = D.drop j → (∀ id,id ≠ d → blk? H id = blk? h id) → H.length = h.length →
   Ok tab R58 (.inLoop L58_0 :: .inBlock 0 :: k) #[ptr d,K1,K2,K3,.int .i64 0,K5,K6,K7,K8,K9,Ka,Kb,Kc,Kd,Ke,Kf,Kg,Kh,Ki,.int .i64 (j : Nat),Kk,Kl,Km,Kn,Ko,Kp,Kq,Kr,Ks,Kt,Ku,Kv,Kw,Kx,Ky,Kz,J0,J1,J2,J3,J4,J5,J6,J7,J8,J9,Ja] H R := by
 intro q
 induction q with
 | zero =>
  intro j H n;intros;rename_i hj I hd hk1 hl1
  obtain rfl : j = 4 := by omega
  rw [ok_round,l58_0,L58_0a,L58_0b]
  simp
  exact hk H n _ _ _ _ _ _ _ _ _ _ _ _ _ _ _ _ _ _ _ _ _ _ _ _ _ _ _ _ _ _ _ _ _ _ _ _ _ _ _ _ _ _ _ _ _ I hd hk1 hl1
 | succ q ih =>
  intro j H n;intros;rename_i hj I hd hk1 hl1
  obtain ⟨n',hn',e⟩ := dnext_c I hD hl
  have hb := I.blk
  have hs : ∀ x,blk? (H.set d x) d = x := fun x => blk?_set_eq (blk?_lt hb)
  have hlt : (j : Int) < 4 := by omega
  have hw : IntKind.i64.wrap ((j : Int) + 1) = ((j + 1 : Nat) : Int) := wrapN (n := j + 1) (by omega)
  have hv := val_lt (pad_dig j hD)
  rw [pad_len] at hv
  have hpw : (256 : Nat) ^ j ≤ 16777216 := by
   have : j = 0 ∨ j = 1 ∨ j = 2 ∨ j = 3 := by omega
   rcases this with rfl | rfl | rfl | rfl <;> decide
  have hx : (D.drop n).headD 0 < 256 := headD_dig (hD.drop n)
  have hval : val (pad D (j + 1)) = val (pad D j) * 256 + (D.drop n).headD 0 := by
   rw [pad_succ,val_append,← hd]; simp [val]
  have I2 := I.set n' (val (pad D (j + 1))) size st
  rw [hval] at I2
  generalize (D.drop n).headD 0 = x at *
  generalize hq : val (pad D j) = v at *
  have hS := shlM (q := v) (k := 8) (by omega) (by omega)
  simp only [Int.cast_ofNat_Int] at hS
  have hS' : shlI .i64 (v : Int) 8 = ((v * 256 : Nat) : Int) := hS
  have ha : IntKind.i64.wrap (((v * 256 : Nat) : Int) + (x : Int)) = ((v * 256 + x : Nat) : Int) := by rw [wrapI (by omega) (by omega)]; omega
  have ih' := fun K1 K2 K3 K5 K6 K7 K8 K9 Ka Kb Kc Kd Ke Kf Kg Kh Ki Kk Kl Km Kn Ko Kp Kq Kr Ks Kt Ku Kv Kw Kx Ky Kz J0 J1 J2 J3 J4 J5 J6 J7 J8 J9 Ja => ih (j + 1) _ n' K1 K2 K3 K5 K6 K7 K8 K9 Ka Kb Kc Kd Ke Kf Kg Kh Ki Kk Kl Km Kn Ko Kp Kq Kr Ks Kt Ku Kv Kw Kx Ky Kz J0 J1 J2 J3 J4 J5 J6 J7 J8 J9 Ja (by omega) (by rw [hval]; exact I2) (by rw [hn',hd,List.tail_drop]) (fun id hid => by rw [blk?_set_ne (Ne.symm hid)]; exact hk1 id hid) (by simpa using hl1)
  generalize ((j + 1 : Nat) : Int) = j1 at *
  generalize ((v * 256 : Nat) : Int) = y at *
  generalize ((v * 256 + x : Nat) : Int) = z at *
  rw [ok_round,l58_0,L58_0a,L58_0b]
  simp [book,bookU,logOf,addLog,chk1,lookL,reload,veq,hlt,hb,hS',e,ha,hs,hw]
  exact ih' ..
theorem dstart_c {tv : Value} {D' : List Nat} (I : DP h d pb dv D n p value size st) (hp : 0 < p.length) (ht : Sl h 1 tv D'.length (nU D')) (hD : Dig D') (hl : D'.length < 100000000) :
  ∃ h' dv' n',(∀ R : RP,Ret tab 58 [ptr d,tv] h R = R (.int .i64 0) h') ∧ DP h' d pb dv' D' n' p (AD.start p D').value 4294967295 true ∧ D'.drop n' = D'.drop 4 ∧ EF h h' d pb dv dv' := by
 have key : ∀ R0 : RP,(∀ h' dv' n',DP h' d pb dv' D' n' p (AD.start p D').value 4294967295 true → D'.drop n' = D'.drop 4 → EF h h' d pb dv dv' → R0 (.int .i64 0) h') → Ret tab 58 [ptr d,tv] h R0 := by
  intro R0 hR
  have hv := fun R => dvalid_c (R := R) I hp
  obtain ⟨t1,H1,a1,o1,l1,k1,g1⟩ := app_any (bytes := 1) (OwnS.nil h 1) ht (by unfold roomCells; omega) (by omega)
  rw [Nat.zero_add,List.nil_append] at o1
  have k1' : ∀ id,id < h.length → blk? H1 id = blk? h id := fun id hid => k1 id hid (by simp [sid])
  have hd := blk?_lt I.blk
  have hpb := blk?_lt I.pblk
  have hb1 : blk? H1 d = some ⟨false,[.slice (some ⟨pb,0,none⟩) p.length 1,dv,.int .i64 (n : Nat),.int .i64 (value : Nat),.int .i64 (size : Nat),.bool st]⟩ := by rw [k1' d hd]; exact I.blk
  have hd1 := blk?_lt hb1
  have hs : ∀ x,blk? (H1.set d x) d = x := fun x => blk?_set_eq hd1
  have I1 : DP (H1.set d (some ⟨false,[.slice (some ⟨pb,0,none⟩) p.length 1,t1,.int .i64 ((0 : Nat) : Int),.int .i64 ((0 : Nat) : Int),.int .i64 (size : Nat),.bool st]⟩)) d pb t1 D' 0 p (val (pad D' 0)) size st :=
   ⟨hs _,by rw [blk?_set_ne I.ne1,k1' pb hpb]; exact I.pblk,o1.of_blk fun id hid hb => by rw [blk?_set_ne (by have := g1 id hid; omega)]; exact hb,I.ne1,fun x => by have := g1 d x; omega,fun x => by have := g1 pb x; omega⟩
  obtain ⟨ta,tc,ht1⟩ := o1.sl.shape
  have hL := fun K1 K2 K3 K5 K6 K7 K8 K9 Ka Kb Kc Kd Ke Kf Kg Kh Ki Kk Kl Km Kn Ko Kp Kq Kr Ks Kt Ku Kv Kw Kx Ky Kz J0 J1 J2 J3 J4 J5 J6 J7 J8 J9 Ja => start_loop (h := H1.set d (some ⟨false,[.slice (some ⟨pb,0,none⟩) p.length 1,t1,.int .i64 ((0 : Nat) : Int),.int .i64 ((0 : Nat) : Int),.int .i64 (size : Nat),.bool st]⟩)) (R := R0) (v1 := .bool true) (k := [.code (tlC 4 B58)]) hD (by omega)
   (fun H2 n2 K1 K2 K3 K5 K6 K7 K8 K9 Ka Kb Kc Kd Ke Kf Kg Kh Ki Kj Kk Kl Km Kn Ko Kp Kq Kr Ks Kt Ku Kv Kw Kx Ky Kz J0 J1 J2 J3 J4 J5 J6 J7 J8 J9 Ja I2 hd2 k2 l2 => by
    have hb2 := I2.blk
    have hs2 : ∀ x,blk? (H2.set d x) d = x := fun x => blk?_set_eq (blk?_lt hb2)
    have hmn : min (val (pad D' 4) : Int) 4294967294 = ((AD.start p D').value : Nat) := by simp only [AD.start]; omega
    have I3 := I2.set n2 (AD.start p D').value 4294967295 true
    have F3 : EF h (H2.set d (some ⟨false,[.slice (some ⟨pb,0,none⟩) p.length 1,t1,.int .i64 (n2 : Nat),.int .i64 ((AD.start p D').value : Nat),.int .i64 ((4294967295 : Nat) : Int),.bool true]⟩)) d pb dv t1 := by
     refine ⟨by rw [List.length_set]; simp at l2; omega,fun id h1 h2 h3 h4 => ?_,fun id hid => .inr ?_⟩
     ·rw [blk?_set_ne (Ne.symm h2),k2 id h2,blk?_set_ne (Ne.symm h2),k1' id h1]
     ·have := g1 id hid
      rw [List.length_set]; simp at l2; omega
    have hR' := hR _ t1 n2 I3 hd2 F3
    simp only [Int.cast_ofNat_Int] at hR'
    generalize (((AD.start p D').value : Nat) : Int) = z at *
    simp only [nthC,tlC,fstC,B58]
    simp [hb2,fold1,foldO,mn2,hmn,hs2,fin58]
    exact hR') 4 0 _ 0 K1 K2 K3 K5 K6 K7 K8 K9 Ka Kb Kc Kd Ke Kf Kg Kh Ki Kk Kl Km Kn Ko Kp Kq Kr Ks Kt Ku Kv Kw Kx Ky Kz J0 J1 J2 J3 J4 J5 J6 J7 J8 J9 Ja (by omega) I1 rfl (fun _ _ => rfl) rfl
  simp only [Int.cast_ofNat_Int] at hL
  rw [ht1] at hL a1
  rw [enter58,show B58 = .seq (nthC 0 B58) (.seq (nthC 1 B58) (.seq (nthC 2 B58) (.seq (nthC 3 B58) (tlC 4 B58)))) from rfl]
  generalize tlC 4 B58 = tl at *
  simp only [nthC,tlC,fstC,B58]
  simp [hv,a1,hb1,hs]
  exact hL ..
 obtain ⟨v,h',e,rfl,dv',n',a,b,c⟩ := ret_ex (key (fun v h' => v = .int .i64 0 ∧ ∃ dv' n',DP h' d pb dv' D' n' p (AD.start p D').value 4294967295 true ∧ D'.drop n' = D'.drop 4 ∧ EF h h' d pb dv dv') fun h' dv' n' a b c => ⟨rfl,dv',n',a,b,c⟩)
 exact ⟨h',dv',n',e,a,b,c⟩
theorem dnorm_c {v1 v6 : Value} (I : DP h d pb dv D n p value size st) (hD : Dig D) (hl : D.length < 1000000000) (hv : value < size) (h1 : 65536 ≤ size) (h2 : size < 4294967296) :
  ∃ h' n' value' size',DP h' d pb dv D n' p value' size' st ∧ (∀ id,id ≠ d → blk? h' id = blk? h id) ∧ h'.length = h.length ∧ D.drop n' = (if size < 16777216 then (D.drop n).tail else D.drop n) ∧
   value' = (if size < 16777216 then value * 256 + (D.drop n).headD 0 else value) ∧ size' = (if size < 16777216 then size * 256 else size) ∧
   ∀ (k : List RItem) (K2 K3 K4 K5 K7 K8 K9 Ka Kb Kc Kd Ke Kf Kg Kh Ki Kj Kk Kl Km Kn Ko Kp Kq Kr Ks Kt Ku Kv Kw Kx Ky Kz J0 J1 J2 J3 J4 J5 J6 J7 J8 J9 Ja Jb Jc Jd Je Jf Jg Jh Ji Jj Jk Jl Jm Jn Jo Jp Jq Jr Js Jt Ju Jv Jw Jx Jy Jz Y0 Y1 Y2 Y3 Y4 Y5 Y6 Y7 Y8 Y9 Ya Yb Yc Yd Ye Yf Yg : Value),(∀ K2 K3 K4 K5 K7 K8 K9 Ka Kb Kc Kd Ke Kf Kg Kh Ki Kj Kk Kl Km Kn Ko Kp Kq Kr Ks Kt Ku Kv Kw Kx Ky Kz J0 J1 J2 J3 J4 J5 J6 J7 J8 J9 Ja Jb Jc Jd Je Jf Jg Jh Ji Jj Jk Jl Jm Jn Jo Jp Jq Jr Js Jt Ju Jv Jw Jx Jy Jz Y0 Y1 Y2 Y3 Y4 Y5 Y6 Y7 Y8 Y9 Ya Yb Yc Yd Ye Yf Yg : Value,Ok tab R246 k #[ptr d,v1,K2,K3,K4,K5,v6,K7,K8,K9,Ka,Kb,Kc,Kd,Ke,Kf,Kg,Kh,Ki,Kj,Kk,Kl,Km,Kn,Ko,Kp,Kq,Kr,Ks,Kt,Ku,Kv,Kw,Kx,Ky,Kz,J0,J1,J2,J3,J4,J5,J6,J7,J8,J9,Ja,Jb,Jc,Jd,Je,Jf,Jg,Jh,Ji,Jj,Jk,Jl,Jm,Jn,Jo,Jp,Jq,Jr,Js,Jt,Ju,Jv,Jw,Jx,Jy,Jz,Y0,Y1,Y2,Y3,Y4,Y5,Y6,Y7,Y8,Y9,Ya,Yb,Yc,Yd,Ye,Yf,Yg] h' R) →
    Ok tab R246 (.inLoop L246_0 :: .inBlock 0 :: k) #[ptr d,v1,K2,K3,K4,K5,v6,K7,K8,K9,Ka,Kb,Kc,Kd,Ke,Kf,Kg,Kh,Ki,Kj,Kk,Kl,Km,Kn,Ko,Kp,Kq,Kr,Ks,Kt,Ku,Kv,Kw,Kx,Ky,Kz,J0,J1,J2,J3,J4,J5,J6,J7,J8,J9,Ja,Jb,Jc,Jd,Je,Jf,Jg,Jh,Ji,Jj,Jk,Jl,Jm,Jn,Jo,Jp,Jq,Jr,Js,Jt,Ju,Jv,Jw,Jx,Jy,Jz,Y0,Y1,Y2,Y3,Y4,Y5,Y6,Y7,Y8,Y9,Ya,Yb,Yc,Yd,Ye,Yf,Yg] h R := by
 have hb := I.blk
 have hd := blk?_lt hb
 by_cases hs : size < 16777216
 ·obtain ⟨n',hn',e⟩ := dnext_c I hD hl
  have hx : (D.drop n).headD 0 < 256 := headD_dig (hD.drop n)
  have I2 := I.set n' (value * 256 + (D.drop n).headD 0) (size * 256) st
  refine ⟨_,n',_,_,I2,fun id hid => by rw [blk?_set_ne (Ne.symm hid)],by simp,by rw [if_pos hs]; exact hn',by rw [if_pos hs],by rw [if_pos hs],?_⟩
  intro k;intros;rename_i hk
  generalize (D.drop n).headD 0 = x at *
  have hS := shlM (q := value) (k := 8) (by omega) (by omega)
  simp only [Int.cast_ofNat_Int] at hS
  have hS' : shlI .i64 (value : Int) 8 = ((value * 256 : Nat) : Int) := hS
  have hT := shlM (q := size) (k := 8) (by omega) (by omega)
  simp only [Int.cast_ofNat_Int] at hT
  have hT' : shlI .i64 (size : Int) 8 = ((size * 256 : Nat) : Int) := hT
  have ha : IntKind.i64.wrap (((value * 256 : Nat) : Int) + (x : Int)) = ((value * 256 + x : Nat) : Int) := by rw [wrapI (by omega) (by omega)]; omega
  have hlt : (size : Int) < 16777216 := by omega
  have hge : ¬ ((size * 256 : Nat) : Int) < 16777216 := by omega
  have hss : ∀ x,blk? (h.set d x) d = x := fun x => blk?_set_eq hd
  generalize ((value * 256 : Nat) : Int) = y at *
  generalize ((value * 256 + x : Nat) : Int) = z at *
  generalize ((size * 256 : Nat) : Int) = u at *
  rw [ok_round,l246_0,L246_0a,L246_0b]
  simp [book,bookU,logOf,addLog,chk1,lookL,reload,veq,hlt,hb,hS',e,ha,hss,hT']
  rw [ok_round,l246_0,L246_0a,L246_0b]
  simp [hss,hge]
  exact hk ..
 ·have hlt : ¬ (size : Int) < 16777216 := by omega
  refine ⟨h,n,value,size,I,fun _ _ => rfl,rfl,by rw [if_neg hs],by rw [if_neg hs],by rw [if_neg hs],?_⟩
  intro k;intros;rename_i hk
  rw [ok_round,l246_0,L246_0a,L246_0b]
  simp [hb,hlt]
  exact hk ..
theorem DP.setp (I : DP h d pb dv D n p value size st) (p' : List Nat) (hl : p'.length = p.length) : DP (h.set pb (some ⟨false,nI p'⟩)) d pb dv D n p' value size st := by
 have hp := blk?_lt I.pblk
 exact ⟨by rw [blk?_set_ne (Ne.symm I.ne1),hl]; exact I.blk,blk?_set_eq hp,I.own.of_blk fun id hid hb => by rw [blk?_set_ne (fun x => I.ne3 (by rw [x]; exact hid))]; exact hb,I.ne1,I.ne2,I.ne3⟩
theorem ddecode_c {c : Nat} (I : DA h d pb dv D n a) (hc : c < a.p.length) (hD : Dig D) (hl : D.length < 1000000000) :
  ∃ h' n',(∀ R : RP,Ret tab 246 [ptr d,.int .i64 (c : Nat)] h R = R (.tuple #[.int .i64 (a.bit c : Nat),.int .i64 0]) h') ∧ DA h' d pb dv D n' (a.next c) ∧ (∀ id,id ≠ d → id ≠ pb → blk? h' id = blk? h id) ∧ h'.length = h.length := by
 have key : ∀ R0 : RP,(∀ h' n',DA h' d pb dv D n' (a.next c) → (∀ id,id ≠ d → id ≠ pb → blk? h' id = blk? h id) → h'.length = h.length → R0 (.tuple #[.int .i64 (a.bit c : Nat),.int .i64 0]) h') → Ret tab 246 [ptr d,.int .i64 (c : Nat)] h R0 := by
  intro R0 hR
  have hP := I.dp
  obtain ⟨r1,r2⟩ := AD.split_rng I.ok hc
  have s2 := I.ok.s2
  have hv := I.ok.v
  have hok := AD.next_ok I.ok hc
  have hval := fun R => dvalid_c (R := R) hP I.pos
  have hh := fun R => has_c (R := R) (c := c) hP.blk
  rw [decide_eq_true hc] at hh
  have hpo := I.ok.ps.getD hc
  have hsp := fun R => split_c (R := R) hP.blk hP.pblk hc (by have := hpo.2; omega) s2
  have hS : a.size / 4096 * a.p.getD c 0 = a.split c := rfl
  rw [hS] at hsp
  have hb := hP.blk
  have hd := blk?_lt hb
  have hss : ∀ x,blk? (h.set d x) d = x := fun x => blk?_set_eq hd
  have hbl : a.bit c < 2 := by unfold AD.bit; split <;> omega
  have rest : ∀ (H : Heap) (v1 s1 : Nat),DP H d pb dv D n a.p v1 s1 true → (∀ id,id ≠ d → blk? H id = blk? h id) → H.length = h.length → v1 < s1 → 65536 ≤ s1 → s1 < 4294967296 → (a.next c).rest = (if s1 < 16777216 then (D.drop n).tail else D.drop n) →
    (a.next c).value = (if s1 < 16777216 then v1 * 256 + (D.drop n).headD 0 else v1) → (a.next c).size = (if s1 < 16777216 then s1 * 256 else s1) →
    ∀ K2 K3 K4 K5 K7 K8 K9 Ka Kb Kc Kd Ke Kf Kg Kh Ki Kj Kk Kl Km Kn Ko Kp Kq Kr Ks Kt Ku Kv Kw Kx Ky Kz J0 J1 J2 J3 J4 J5 J6 J7 J8 J9 Ja Jb Jc Jd Je Jf Jg Jh Ji Jj Jk Jl Jm Jn Jo Jp Jq Jr Js Jt Ju Jv Jw Jx Jy Jz Y0 Y1 Y2 Y3 Y4 Y5 Y6 Y7 Y8 Y9 Ya Yb Yc Yd Ye Yf Yg : Value,Ok tab R246 [.inLoop L246_0,.inBlock 0,.code (tlC 6 B246)] #[ptr d,.int .i64 (c : Nat),K2,K3,K4,K5,.int .i64 (a.bit c : Nat),K7,K8,K9,Ka,Kb,Kc,Kd,Ke,Kf,Kg,Kh,Ki,Kj,Kk,Kl,Km,Kn,Ko,Kp,Kq,Kr,Ks,Kt,Ku,Kv,Kw,Kx,Ky,Kz,J0,J1,J2,J3,J4,J5,J6,J7,J8,J9,Ja,Jb,Jc,Jd,Je,Jf,Jg,Jh,Ji,Jj,Jk,Jl,Jm,Jn,Jo,Jp,Jq,Jr,Js,Jt,Ju,Jv,Jw,Jx,Jy,Jz,Y0,Y1,Y2,Y3,Y4,Y5,Y6,Y7,Y8,Y9,Ya,Yb,Yc,Yd,Ye,Yf,Yg] H R0 := by
   intro H v1 s1 I1 k1 l1 hv1 hs1 hs2 q1 q2 q3;intros
   obtain ⟨h2,n2,v2,s2,I2,k2,l2,e1,e2,e3,hL⟩ := dnorm_c (v1 := .int .i64 (c : Nat)) (v6 := .int .i64 (a.bit c : Nat)) I1 hD hl hv1 hs1 hs2
   refine hL _ _ _ _ _ _ _ _ _ _ _ _ _ _ _ _ _ _ _ _ _ _ _ _ _ _ _ _ _ _ _ _ _ _ _ _ _ _ _ _ _ _ _ _ _ _ _ _ _ _ _ _ _ _ _ _ _ _ _ _ _ _ _ _ _ _ _ _ _ _ _ _ _ _ _ _ _ _ _ _ _ _ _ _ _ _ _ fun K2 K3 K4 K5 K7 K8 K9 Ka Kb Kc Kd Ke Kf Kg Kh Ki Kj Kk Kl Km Kn Ko Kp Kq Kr Ks Kt Ku Kv Kw Kx Ky Kz J0 J1 J2 J3 J4 J5 J6 J7 J8 J9 Ja Jb Jc Jd Je Jf Jg Jh Ji Jj Jk Jl Jm Jn Jo Jp Jq Jr Js Jt Ju Jv Jw Jx Jy Jz Y0 Y1 Y2 Y3 Y4 Y5 Y6 Y7 Y8 Y9 Ya Yb Yc Yd Ye Yf Yg => ?_
   have I3 := I2.setp (a.p.set c (adaptP (a.p.getD c 0) (a.bit c))) (by simp)
   have hA := fun R => adapt_c (R := R) I2.blk I2.pblk I2.ne1 hc I.ok.ps hbl
   have hb2 := I2.blk
   have hpn : (a.next c).p = a.p.set c (adaptP (a.p.getD c 0) (a.bit c)) := rfl
   have hR' := hR _ n2 ⟨by rw [hpn,q2,q3,← e2,← e3]; exact I3,by rw [q1,e1],hok,by rw [hpn]; simpa using I.pos⟩ (fun id h1 h2 => by rw [blk?_set_ne (Ne.symm h2),k2 id h1,k1 id h1]) (by simp [l2,l1])
   generalize nI (a.p.set c (adaptP (a.p.getD c 0) (a.bit c))) = C at *
   generalize a.bit c = bt at *
   simp only [nthC,tlC,fstC,B246]
   simp [hb2,hA,fin246]
   exact hR'
  rw [enter246,show B246 = .seq (nthC 0 B246) (.seq (nthC 1 B246) (.seq (nthC 2 B246) (.seq (nthC 3 B246) (.seq (nthC 4 B246) (.seq (nthC 5 B246) (tlC 6 B246)))))) from rfl]
  generalize hT6 : tlC 6 B246 = T6 at *
  simp only [nthC,tlC,fstC,B246]
  by_cases hlt : a.value < a.split c
  ·have hbit : a.bit c = 0 := by unfold AD.bit; rw [if_pos hlt]
   have hlt' : (a.value : Int) < (a.split c : Int) := by omega
   have I1 := hP.set n a.value (a.split c) true
   have hfin := rest _ a.value (a.split c) I1 (fun id hid => by rw [blk?_set_ne (Ne.symm hid)]) (by simp) hlt r1 (by omega)
    (by unfold AD.next AD.norm; simp only [hlt,if_true]; rw [I.rest]; split <;> rfl)
    (by unfold AD.next AD.norm; simp only [hlt,if_true]; rw [I.rest]; split <;> rfl)
    (by unfold AD.next AD.norm; simp only [hlt,if_true]; split <;> rfl)
   rw [hbit] at hfin
   simp only [Int.cast_ofNat_Int] at hfin
   generalize a.split c = S at *
   simp [k_guard,k_guardU,hval,hb,hh,hsp,hlt',hlt,hss]
   exact hfin ..
  ·have hbit : a.bit c = 1 := by unfold AD.bit; rw [if_neg hlt]
   have hlt' : ¬ (a.value : Int) < (a.split c : Int) := by omega
   have I1 := hP.set n (a.value - a.split c) (a.size - a.split c) true
   have hfin := rest _ (a.value - a.split c) (a.size - a.split c) I1 (fun id hid => by rw [blk?_set_ne (Ne.symm hid)]) (by simp) (by omega) (by omega) (by omega)
    (by unfold AD.next AD.norm; simp only [hlt,if_false]; rw [I.rest]; split <;> rfl)
    (by unfold AD.next AD.norm; simp only [hlt,if_false]; rw [I.rest]; split <;> rfl)
    (by unfold AD.next AD.norm; simp only [hlt,if_false]; split <;> rfl)
   rw [hbit] at hfin
   simp only [Int.cast_ofNat_Int] at hfin
   have w1 : IntKind.i64.wrap ((a.value : Int) - (a.split c : Int)) = ((a.value - a.split c : Nat) : Int) := by rw [wrapI (by omega) (by omega)]; omega
   have w2 : IntKind.i64.wrap ((a.size : Int) - (a.split c : Int)) = ((a.size - a.split c : Nat) : Int) := by rw [wrapI (by omega) (by omega)]; omega
   generalize ((a.value - a.split c : Nat) : Int) = y1 at *
   generalize ((a.size - a.split c : Nat) : Int) = y2 at *
   generalize a.split c = S at *
   simp [k_guard,k_guardU,hval,hb,hh,hsp,hlt',hlt,hss,w1,w2]
   exact hfin ..
 obtain ⟨v,h',e,rfl,n',x,y,z⟩ := ret_ex (key (fun v h' => v = .tuple #[.int .i64 (a.bit c : Nat),.int .i64 0] ∧ ∃ n',DA h' d pb dv D n' (a.next c) ∧ (∀ id,id ≠ d → id ≠ pb → blk? h' id = blk? h id) ∧ h'.length = h.length) fun h' n' x y z => ⟨rfl,n',x,y,z⟩)
 exact ⟨h',n',e,x,y,z⟩
theorem ddecode_no {x : Int} (I : DA h d pb dv D n a) (hx : x < 0 ∨ (a.p.length : Int) ≤ x) : Ret tab 246 [ptr d,.int .i64 x] h R = R (.tuple #[.int .i64 0,.int .i64 2]) h := by
 have hP := I.dp
 have hval := fun R => dvalid_c (R := R) hP I.pos
 have hb := hP.blk
 have hh : ∀ R,Ret tab 234 [ptr d,.int .i64 x] h R = R (.bool false) h := fun R => by
  rw [enter234,B234]
  by_cases h0 : x < 0
  ·have h0' : ¬ (0 : Int) ≤ x := by omega
   simp [k_guard,k_guardU,hb,h0,h0',fin234]
  ·have h0' : (0 : Int) ≤ x := by omega
   have h1 : ¬ x < (a.p.length : Int) := by omega
   simp [k_guard,k_guardU,hb,h0,h0',h1,fin234]
 rw [enter246,B246]
 simp [k_guard,k_guardU,hval,hb,hh,fin246]
theorem dreset_c (I : DP h d pb dv D n p value size st) (hp : 0 < p.length) (hn : p.length < 1000000) :
  ∃ h',(∀ R : RP,Ret tab 59 [ptr d] h R = R (.tuple #[]) h') ∧ DP h' d pb dv D n (AE.base p.length) value size st ∧ (∀ id,id ≠ pb → blk? h' id = blk? h id) ∧ h'.length = h.length := by
 have I1 := I.setp (AE.base p.length) (by simp [AE.base])
 refine ⟨_,fun R => ?_,I1,fun id hid => by rw [blk?_set_ne (Ne.symm hid)],by simp⟩
 have hv := fun R => dvalid_c (R := R) I hp
 have hr := fun R => restart_c (R := R) I.blk I.pblk I.ne1 hn
 have hb := I.blk
 rw [enter59,B59]
 simp [hv,hb,hr,fin59,AE.base]
theorem newDec_c {m : Nat} (h1 : 1 ≤ m) (h2 : m ≤ 64) : ∃ h' d pb,(∀ R : RP,Ret tab 56 [.int .i64 (m : Nat)] h R = R (.tuple #[ptr d,.int .i64 0]) h') ∧ DP h' d pb (.slice none 0 0) [] 0 (AE.base m) 0 0 false ∧ h.length ≤ d ∧ h.length ≤ pb ∧
  h.length ≤ h'.length ∧ ∀ id,id < h.length → blk? h' id = blk? h id := by
 obtain ⟨H,hm,hb,hl,hk⟩ := newModels_c (h := h) h1 h2
 refine ⟨H ++ [some ⟨false,[.slice (some ⟨h.length + 1,0,none⟩) m 1,.slice none 0 0,.int .i64 0,.int .i64 0,.int .i64 0,.bool false]⟩],H.length,h.length + 1,fun R => ?_,⟨?_,?_,OwnS.nil _ _,by omega,by simp [sid],by simp [sid]⟩,by omega,by omega,by simp; omega,fun id hid => by rw [blk?_push_lt (by omega)]; exact hk id hid⟩
 ·have n1 : ¬ ((m : Int) < 1) := by omega
  have n2 : ¬ ((64 : Int) < m) := by omega
  rw [enter56,B56]
  simp [k_guard,n1,n2,hm,fin56]
 ·rw [blk?_push_eq]; simp [AE.base]
 ·rw [blk?_push_lt (by omega)]; exact hb
end
structure RB (h : Heap) (p : Nat) (s : Value) (xs : List Nat) (n : Nat) : Prop where
 blk : blk? h p = some ⟨false,[.bool true,s,.int .i64 (n : Nat)]⟩
 own : OwnS h 1 s xs.length (nU xs)
 ne : sid s ≠ some p
 lt : ∀ x ∈ xs,x < 256
theorem bits_get : ∀ (x : Fin 256) (j : Fin 8),andI .i64 (shrI .i64 (IntKind.i64.wrap (x.1 : Int)) ((j.1 : Int))) 1 = ((x.1 / 2 ^ j.1 % 2 : Nat) : Int) := by decide +kernel
section
variable {h : Heap} {R : RP} {p n : Nat} {s : Value} {xs : List Nat}
theorem RB.keep {h' : Heap} (J : RB h p s xs n) (hk : ∀ id,ownR p s id → blk? h' id = blk? h id) : RB h' p s xs n :=
 ⟨by rw [hk p (.inl rfl)]; exact J.blk,J.own.of_blk fun id hid hb => by rw [hk id (.inr hid)]; exact hb,J.ne,J.lt⟩
theorem RB.own_lt (J : RB h p s xs n) {id : Nat} (hid : ownR p s id) : id < h.length := by
 rcases hid with rfl | hid
 ·exact blk?_lt J.blk
 ·exact J.own.lt hid
theorem RB.next (J : RB h p s xs n) : RB (h.set p (some ⟨false,[.bool true,s,.int .i64 ((n + 1 : Nat) : Int)]⟩)) p s xs (n + 1) :=
 ⟨blk?_set_eq (blk?_lt J.blk),J.own.of_blk fun id hid hb => by rw [blk?_set_ne (fun x => J.ne (by rw [x]; exact hid))]; exact hb,J.ne,J.lt⟩
theorem bget_c (J : RB h p s xs n) (hn : n < 100000000) : Ret tab 250 [ptr p] h R = R (.int .i64 (bitAt xs n : Nat)) (h.set p (some ⟨false,[.bool true,s,.int .i64 ((n + 1 : Nat) : Int)]⟩)) := by
 have hp := J.blk
 have hw : IntKind.i64.wrap ((n : Int) + 1) = (n : Int) + 1 := wrapN (n := n + 1) (by omega)
 have hq : IntKind.i64.wrap ((n : Int) / 8) = (n : Int) / 8 := wrapN (n := n / 8) (by omega)
 have hlt := blk?_lt hp
 have hc1 : ((n + 1 : Nat) : Int) = (n : Int) + 1 := by omega
 rw [hc1,enter250,B250]
 by_cases hi : n / 8 < xs.length
 ·obtain ⟨id,off,b,e,hbk,hcell⟩ := J.own.sl.get hi
  have hid : p ≠ id := fun x => J.ne (by rw [e,x]; rfl)
  subst e
  have h1 : ¬ ((xs.length : Int) ≤ (n : Int) / 8) := by omega
  have h2 : (0 : Int) ≤ (n : Int) / 8 ∧ (n : Int) / 8 < xs.length := by omega
  have h3 : ((n : Int) / 8).toNat = n / 8 := by omega
  have h4 := hcell 0 (by omega)
  simp [nU,hi] at h4
  have h5 : IntKind.u64.wrap (IntKind.i64.wrap (7 - (n : Int).tmod 8)) = ((7 - n % 8 : Nat) : Int) := by
   rw [show (n : Int).tmod 8 = ((n % 8 : Nat) : Int) from rfl,wrapI (by omega) (by omega),IntKind.wrap_u64]; omega
  have h6 : ¬ ((7 - n % 8 : Nat) : Int) < 0 := by omega
  have hx8 : xs[n / 8] < 256 := J.lt _ (by simp)
  have hb : bitAt xs n = xs[n / 8] / 2 ^ (7 - n % 8) % 2 := by simp [bitAt,hi]
  have h7 := bits_get ⟨xs[n / 8],hx8⟩ ⟨7 - n % 8,by omega⟩
  simp only at h7
  simp [hp,hw,hq,hlt,blk?_set_eq,blk?_set_ne hid,h1,h2,h3,h4,hbk,h5,h6,h7,fin250,hb]
 ·have hl := J.own.sl.2
  have h1 : (xs.length : Int) ≤ (n : Int) / 8 := by omega
  have h0 : bitAt xs n = 0 := by simp [bitAt,List.getElem?_eq_none (Nat.le_of_not_lt hi)]
  rcases hl with ⟨rfl,hl⟩ | ⟨id,off,rfl,hl⟩
  ·have h1 : (0 : Int) ≤ (n : Int) / 8 := by omega
   simp [hp,hw,hq,hlt,blk?_set_eq,h0,h1,fin250]
  ·simp [hp,hw,hq,hlt,blk?_set_eq,h1,h0,fin250]
theorem rget_c (J : RB h p s xs n) (hn : n < 100000000) : Ret tab 249 [ptr p] h R = R (.int .i64 (bitAt xs n : Nat)) (h.set p (some ⟨false,[.bool true,s,.int .i64 ((n + 1 : Nat) : Int)]⟩)) := by
 have hp := J.blk
 have hg := fun R => bget_c (R := R) J hn
 generalize ((n + 1 : Nat) : Int) = n1 at *
 rw [enter249,B249]
 simp [k_guard,hp,fin249,hg]
theorem newReader_c {tv : Value} {D : List Nat} (ht : Sl h 1 tv D.length (nU D)) (hD : ∀ x ∈ D,x < 256) (hl : D.length < 100000000) :
  ∃ h' q s,(∀ R : RP,Ret tab 57 [tv] h R = R (ptr q) h') ∧ RB h' q s D 0 ∧ (∀ id,id < h.length → blk? h' id = blk? h id) ∧ h.length ≤ h'.length ∧ (∀ id,ownR q s id → h.length ≤ id) := by
 obtain ⟨t1,H1,a1,o1,l1,k1,g1⟩ := app_any (bytes := 1) (OwnS.nil h 1) ht (by unfold roomCells; omega) (by omega)
 rw [Nat.zero_add,List.nil_append] at o1
 have k1' : ∀ id,id < h.length → blk? H1 id = blk? h id := fun id hid => k1 id hid (by simp [sid])
 refine ⟨H1 ++ [some ⟨false,[.bool true,t1,.int .i64 ((0 : Nat) : Int)]⟩],H1.length,t1,fun R => ?_,⟨blk?_push_eq,o1.of_blk fun id hid hb => by rw [blk?_push_lt (blk?_lt hb)]; exact hb,fun x => by have := g1 _ x; omega,hD⟩,fun id hid => by rw [blk?_push_lt (by omega),k1' id hid],by simp; omega,fun id hid => ?_⟩
 ·obtain ⟨ta,tc,ht1⟩ := o1.sl.shape
  rw [ht1] at a1 ⊢
  rw [enter57,B57]
  simp [a1,writeAt,fin57]
 ·rcases hid with rfl | hid
  ·exact l1
  ·exact (g1 id hid).1
end
end Go.Proofs.YtjpjohchdfoeaaaGreat
