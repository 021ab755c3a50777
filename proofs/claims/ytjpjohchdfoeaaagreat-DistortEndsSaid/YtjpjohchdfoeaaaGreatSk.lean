/-
  Reconstruction and errors, plain: what the program and the reference both reckon.
  Quantization, followed: the program's functions and the reference's.
  Values without the shift: the program and the reference.
  Reconstruction and errors, followed.
  Reconstruction and errors of the reference, followed; errors of the program.
  The distortion of coefficients, followed.
  Bits in bytes: plain facts, no program in sight.
  The arithmetic coder, plain: digits to the base 256 (the highest first), and the interval.
  The end of a codeword, plain: what the program chooses, and what the reference finds.
  The arithmetic decoder, plain: it follows the encoder.
  The program's arithmetic encoder, followed: its models, and one that is carried.
  The program's arithmetic encoder, followed: a bit is encoded.
  The program's arithmetic encoder, followed: a bit is encoded; sizes; the models set back.
  The program's arithmetic encoder, followed: a new one, its size, its models set back, the end of a codeword.
  The program's arithmetic encoder, followed: the end of a codeword.
  The program's writer of raw bits, followed.
  The state of a code block, plain: coefficients with their flags, and what the neighbours say.
  The methods of a code block, the program's and the reference's: what they read and write.
  The methods of a code block, on: neighbours, signs, writers; the reference's.
  The methods of the reference's code block.
  The contexts: the program's and the reference's are the same, at every input that occurs.
  The passes of the encoder, plain.
  The encoder's passes: what they read.
  The encoder's passes: symbols and signs.
  What receives the symbols of a segment: the arithmetic encoder, or a writer of raw bits behind an interface.
-/
import Derived.Test.YtjpjohchdfoeaaaGreatSimZ
import Derived.Test.YtjpjohchdfoeaaaGreatTab
namespace Go.Proofs.YtjpjohchdfoeaaaGreat
open Go Go.Sim
set_option linter.unusedSimpArgs false
set_option linter.unusedVariables false
def QOk (step dead : Int) : Prop:=1≤step∧step≤65536∧8≤dead∧dead≤32
instance (step dead : Int) : Decidable (QOk step dead):=by unfold QOk; exact inferInstance
def MOk (m step dead : Int) : Prop:=QOk step dead∧0≤m∧m≤60
instance (m step dead : Int) : Decidable (MOk m step dead):=by unfold MOk; exact inferInstance
def thr (step dead : Int) : Int:=max 1 (step * dead / 16)
def Qdr (n m step dead : Int) : Int:=2 * (thr step dead + (n - 1) * step) + (2 ^ m.toNat * step - 1)
def Gvx (n m step dead : Int) : Int:=min (Qdr n m step dead / 2) 4294967296
def Gfy (v m step dead : Int) : Int :=
 if v = 0∨¬ MOk m step dead then 0 else if v < 0 then - Gvx (-v) m step dead else Gvx v m step dead
def Gop (c v m step dead : Int) : Int:=min (max (c - Gfy v m step dead) (Gfy v m step dead - c)) 32767
theorem Gbx {a b c d : Int} (h0 : 0≤a) (h1 : a≤c) (h2 : 0≤b) (h3 : b≤d) : 0≤a * b∧a * b≤c * d :=
 ⟨Int.mul_nonneg h0 h2,Int.mul_le_mul h1 h3 h2 (by omega)⟩
theorem Gk5 {step dead : Int} (h : QOk step dead) : 1≤thr step dead∧thr step dead≤131072∧0≤step * dead∧step * dead≤2097152:=by
 obtain ⟨h1,h2,h3,h4⟩:=h
 obtain ⟨a,b⟩:=Gbx (a:=step) (b:=dead) (c:=65536) (d:=32) (by omega) h2 (by omega) h4
 unfold thr
 omega
theorem Gjl (n : Nat) : (1 : Int)≤2 ^ n:=by
 have : (0 : Int) < 2 ^ n:=Int.pow_pos (by decide)
 omega
theorem Goe {n m step dead : Int} (h : QOk step dead) (hn : 1≤n) : 0≤Gvx n m step dead∧Gvx n m step dead≤4294967296:=by
 obtain ⟨t1,t2,_,_⟩:=Gk5 h
 have hp:=Gjl m.toNat
 have h1 : 0≤(n - 1) * step:=Int.mul_nonneg (by omega) (by have:=h.1; omega)
 have h2 : 1 * step≤2 ^ m.toNat * step:=Int.mul_le_mul_of_nonneg_right hp (by have:=h.1; omega)
 have h3:=h.1
 unfold Gvx Qdr
 generalize (n - 1) * step = A at *
 generalize 2 ^ m.toNat * step = B at *
 omega
theorem G1g (v m step dead : Int) : -4294967296≤Gfy v m step dead∧Gfy v m step dead≤4294967296:=by
 unfold Gfy
 split
 ·omega
 ·rename_i h
  have hm : MOk m step dead:=by
   apply Classical.byContradiction
   intro hc; exact h (.inr hc)
  split
  ·have:=Goe (n:=-v) (m:=m) hm.1 (by omega); omega
  ·have:=Goe (n:=v) (m:=m) hm.1 (by omega); omega
theorem G5p (c v m step dead : Int) : 0≤Gop c v m step dead∧Gop c v m step dead≤32767:=by
 unfold Gop; omega
theorem G6t (c v m step dead : Int) : 0≤Gop c v m step dead * Gop c v m step dead∧Gop c v m step dead * Gop c v m step dead≤1073676289:=by
 obtain ⟨a,b⟩:=G5p c v m step dead
 exact Gbx (c:=32767) (d:=32767) a b a b
def Gi2 (a b cap : Int) : Int:=if b > 0∧a > cap / b then cap else a * b
theorem Gez {a b cap : Int} (ha : 0≤a) (hb : 1≤b) (hc : 0≤cap) : 0≤a * b∧((Gi2 a b cap = a * b∧a * b≤cap)∨(Gi2 a b cap = cap∧cap < a * b)):=by
 refine ⟨Int.mul_nonneg ha (by omega),?_⟩
 unfold Gi2
 by_cases h : a > cap / b
 ·rw [if_pos ⟨by omega,h⟩]
  right
  refine ⟨rfl,?_⟩
  exact (Int.ediv_lt_iff_lt_mul (by omega)).1 h
 ·rw [if_neg (by omega)]
  left
  refine ⟨rfl,?_⟩
  exact (Int.le_ediv_iff_mul_le (by omega)).1 (by omega)
theorem G8p {n m step dead A B cap : Int} (h : MOk m step dead) (hn : 1≤n) (hcap : 1125899906842624≤cap)
  (hA : (A = (n - 1) * step∧(n - 1) * step≤cap)∨(A = cap∧cap < (n - 1) * step)) (hB : (B = 2 ^ m.toNat * step∧2 ^ m.toNat * step≤cap)∨(B = cap∧cap≤2 ^ m.toNat * step)) :
  0≤(2 * (thr step dead + A) + (B - 1)) / 2∧min ((2 * (thr step dead + A) + (B - 1)) / 2) 4294967296 = Gvx n m step dead:=by
 obtain ⟨t1,t2,_,_⟩:=Gk5 h.1
 have hp:=Gjl m.toNat
 have h3:=h.1.1
 have h1 : 0≤(n - 1) * step:=Int.mul_nonneg (by omega) (by omega)
 have h2 : 1 * step≤2 ^ m.toNat * step:=Int.mul_le_mul_of_nonneg_right hp (by omega)
 unfold Gvx Qdr
 generalize (n - 1) * step = A' at *
 generalize 2 ^ m.toNat * step = B' at *
 omega
theorem G1r {k k' : IntKind} {x y : Int} : Gfo (.int k x) (.int k' y) = some (.int k (min x y)):=by
 have e : (if y < x then y else x) = min x y:=by split <;> omega
 rw [Gfo,e]
theorem Gkw {k k' : IntKind} {x y : Int} : Gh1 (.int k x) (.int k' y) = some (.int k (max x y)):=by
 have e : (if y > x then y else x) = max x y:=by split <;> omega
 rw [Gh1,e]
section
variable {h : Gag} {R : RP}
theorem Ggm {a b : Int} : Ret tab 98 [.int .i64 a,.int .i64 b] h R = R (.bool (decide (QOk a b))) h:=by
 rw [Qa1,B98]
 by_cases h1 : 1≤a
 ·by_cases h2 : a≤65536
  ·by_cases h3 : 8≤b
   ·by_cases h4 : b≤32 <;> simp [Gaa,QOk,h1,h2,h3,h4,G50]
   ·simp [Gaa,QOk,h1,h2,h3,G50]
  ·simp [Gaa,QOk,h1,h2,G50]
 ·simp [Gaa,QOk,h1,G50]
theorem G83 {m a b : Int} : Ret tab 134 [.int .i64 m,.int .i64 a,.int .i64 b] h R = R (.bool (decide (MOk m a b))) h:=by
 rw [G6p,B134]
 by_cases h1 : QOk a b
 ·by_cases h2 : 0≤m
  ·by_cases h3 : m≤60 <;> simp [Gaa,Ggm,MOk,h1,h2,h3,G0l]
  ·simp [Gaa,Ggm,MOk,h1,h2,G0l]
 ·simp [Gaa,Ggm,MOk,h1,G0l]
theorem Gue {n lo hi : Int} : Ret tab 137 [.int .i64 n,.int .i64 lo,.int .i64 hi] h R = R (.int .i64 (min (max n lo) hi)) h:=by
 rw [G57,B137]
 simp [Gci,Gcq,Gkw,G1r,fin137]
end
def Gr1 (v m s : Int) : Int × Int :=
 if s < 1∨30 < s∨m < 0∨60 < m then (v,m) else if v.tdiv (2 ^ s.toNat) ≠ 0 then (v.tdiv (2 ^ s.toNat),max 0 (m - s)) else (v,min m s)
theorem G9o : ∀ s : Fin 31,Gmf .i64 1 (s.1 : Int) = 2 ^ s.1∧(1 : Int)≤2 ^ s.1∧(2 : Int) ^ s.1≤1073741824:=by decide +kernel
theorem Gts {v p : Int} (hp : 1≤p) (h1 : -9223372036854775808≤v) (h2 : v < 9223372036854775808) : -9223372036854775808≤v.tdiv p∧v.tdiv p < 9223372036854775808:=by
 have key : ∀ u : Int,0≤u→0≤u.tdiv p∧u.tdiv p≤u:=fun u hu=>by
  rw [Int.tdiv_eq_ediv_of_nonneg hu]
  exact ⟨Int.ediv_nonneg hu (by omega),Int.ediv_le_self p hu⟩
 by_cases h0 : 0≤v
 ·have:=key v h0; omega
 ·have:=key (-v) (by omega)
  rw [Int.neg_tdiv] at this; omega
theorem Gve {v m s : Int} (h1 : -9223372036854775808≤v) (h2 : v < 9223372036854775808) (h3 : -9223372036854775808≤m) (h4 : m < 9223372036854775808) :
  (-9223372036854775808≤(Gr1 v m s).1∧(Gr1 v m s).1 < 9223372036854775808)∧(-9223372036854775808≤(Gr1 v m s).2∧(Gr1 v m s).2 < 9223372036854775808):=by
 unfold Gr1
 split
 ·exact ⟨⟨h1,h2⟩,h3,h4⟩
 ·split
  ·exact ⟨Gts (Int.le_of_lt_add_one (by have : (0 : Int) < 2 ^ s.toNat:=Int.pow_pos (by decide); omega)) h1 h2,by simp only; omega⟩
  ·simp only; omega
section
variable {h : Gag} {R : RP}
theorem uns_c {v m s : Int} (h1 : -9223372036854775808≤v) (h2 : v < 9223372036854775808) :
  Ret tab 100 [.int .i64 v,.int .i64 m,.int .i64 s] h R = R (.tuple #[.int .i64 (Gr1 v m s).1,.int .i64 (Gr1 v m s).2]) h:=by
 rw [G42,B100]
 unfold Gr1
 by_cases c1 : s < 1
 ·simp [Gaa,Gah,c1,Gl9]
 by_cases c2 : 30 < s
 ·simp [Gaa,Gah,c1,c2,Gl9]
 by_cases c3 : m < 0
 ·simp [Gaa,Gah,c1,c2,c3,Gl9]
 by_cases c4 : 60 < m
 ·simp [Gaa,Gah,c1,c2,c3,c4,Gl9]
 obtain ⟨k,rfl⟩:=Int.eq_ofNat_of_zero_le (show 0≤s by omega)
 obtain ⟨e1,e2,e3⟩:=G9o ⟨k,by omega⟩
 simp only at e1 e2 e3
 rw [if_neg (by omega),Int.toNat_natCast]
 have hd:=Gts e2 h1 h2
 have wd : IntKind.i64.wrap (v.tdiv (2 ^ k)) = v.tdiv (2 ^ k):=Gan hd.1 hd.2
 have hn : ¬ ((2 : Int) ^ k = 0):=by omega
 have ws : IntKind.i64.wrap (m - (k : Int)) = m - k:=Gan (by omega) (by omega)
 have k0 : ¬ (k : Int) < 0:=by omega
 generalize hp : (2 : Int) ^ k = p at *
 generalize hdd : v.tdiv p = d at *
 generalize hki : ((k : Nat) : Int) = ki at *
 by_cases hz : d = 0
 ·have hz' : (d != 0) = false:=by simp [hz]
  rw [if_neg (by simp [hz])]
  simp [Gaa,Gah,c1,c2,c3,c4,e1,k0,hn,hdd,wd,hz',Gci,Gcq,G1r,Gl9]
 ·have hz' : (d != 0) = true:=by simp [hz]
  rw [if_pos hz]
  simp [Gaa,Gah,c1,c2,c3,c4,e1,k0,hn,hdd,wd,hz',ws,Gci,Gcq,Gkw,Gl9]
end
section
variable {h : Gag} {R : RP}
theorem thr_c {a b : Int} (hq : QOk a b) : Ret tab 174 [.int .i64 a,.int .i64 b] h R = R (.int .i64 (thr a b)) h:=by
 obtain ⟨_,_,m1,m2⟩:=Gk5 hq
 have hw : IntKind.i64.wrap (a * b) = a * b:=Gan (by omega) (by omega)
 have hd : (a * b).tdiv 16 = a * b / 16:=Int.tdiv_eq_ediv_of_nonneg m1
 have hw2 : IntKind.i64.wrap (a * b / 16) = a * b / 16:=Gan (by omega) (by omega)
 rw [G6k,B174]
 simp [Ggm,hq,hw,hd,hw2,Gci,Gcq,Gkw,fin174,thr]
theorem Gzw {a b : Int} (ha : 0≤a) (ha2 : a < 9223372036854775808) (hb : 1≤b) (hb2 : b≤65536) : Ret tab 175 [.int .i64 a,.int .i64 b] h R = R (.int .i64 (Gi2 a b 1152921504606846976)) h:=by
 have h0 : 0 < b:=by omega
 have h0' : ¬ b = 0:=by omega
 have hd : (1152921504606846976 : Int).tdiv b = 1152921504606846976 / b:=Int.tdiv_eq_ediv_of_nonneg (by omega)
 have hle:=Int.ediv_le_self b (show (0 : Int)≤1152921504606846976 by omega)
 have hge:=Int.ediv_nonneg (show (0 : Int)≤1152921504606846976 by omega) (show 0≤b by omega)
 have hw : IntKind.i64.wrap (1152921504606846976 / b) = 1152921504606846976 / b:=Gan (by omega) (by omega)
 rw [G3b,B175]
 by_cases hc : a > 1152921504606846976 / b
 ·have e : Gi2 a b 1152921504606846976 = 1152921504606846976:=by unfold Gi2; rw [if_pos ⟨h0,hc⟩]
  have hc' : 1152921504606846976 / b < a:=hc
  simp [Gaa,h0,h0',hd,hw,hc',e,G7s]
 ·have e : Gi2 a b 1152921504606846976 = a * b:=by unfold Gi2; rw [if_neg (by omega)]
  have hc' : ¬ 1152921504606846976 / b < a:=hc
  obtain ⟨m1,m2⟩:=Gez ha hb (show (0 : Int)≤1152921504606846976 by omega)
  rw [e] at m2
  have m3 : a * b≤1152921504606846976:=by omega
  have hw2 : IntKind.i64.wrap (a * b) = a * b:=Gan (by omega) (by omega)
  have hm : min (max (a * b) 0) 1152921504606846976 = a * b:=by omega
  have hl:=fun H R=>Gue (h:=H) (R:=R) (n:=a * b) (lo:=0) (hi:=1152921504606846976)
  rw [hm] at hl
  simp [Gaa,h0,h0',hd,hw,hc',hw2,hl,e,G7s]
theorem Qao {m : Int} (h0 : 0≤m) (h1 : m≤60) : Gmf .i64 1 m = 2 ^ m.toNat∧(2 : Int) ^ m.toNat≤1152921504606846976:=by
 obtain ⟨n,rfl⟩:=Int.eq_ofNat_of_zero_le h0
 have hn : n≤60:=by omega
 have hp : (2 : Nat) ^ n≤2 ^ 60:=Nat.pow_le_pow_right (by decide) hn
 have e : (2 : Int) ^ n = ((2 ^ n : Nat) : Int):=by simp
 have hb : min n 64 = n:=by omega
 refine ⟨?_,by rw [Int.toNat_natCast,e]; omega⟩
 unfold Gmf
 rw [Int.toNat_natCast,Int.one_mul,show min n IntKind.i64.bits = n from hb,e]
 generalize (2 : Nat) ^ n = q at *
 exact Gan (by omega) (by omega)
theorem ends_c {v m a b : Int} (hq : MOk m a b) (hv : 1≤v) (hv2 : v < 9223372036854775808) : Ret tab 135 [.int .i64 v,.int .i64 m,.int .i64 a,.int .i64 b] h R =
  R (.tuple #[.int .i64 (thr a b + Gi2 (v - 1) a 1152921504606846976),.int .i64 (thr a b + Gi2 (v - 1) a 1152921504606846976 + Gi2 (2 ^ m.toNat) a 1152921504606846976 - 1)]) h:=by
 obtain ⟨t1,t2,_,_⟩:=Gk5 hq.1
 obtain ⟨⟨q1,q2,q3,q4⟩,q5,q6⟩:=hq
 obtain ⟨s1,s2⟩:=Qao q5 q6
 have hp:=Gjl m.toNat
 have hbits : ¬ m < 0:=by omega
 obtain ⟨a1,a2⟩:=Gez (show 0≤v - 1 by omega) q1 (show (0 : Int)≤1152921504606846976 by omega)
 obtain ⟨b1,b2⟩:=Gez (show (0 : Int)≤2 ^ m.toNat by omega) q1 (show (0 : Int)≤1152921504606846976 by omega)
 have ht:=fun H R=>thr_c (h:=H) (R:=R) (a:=a) (b:=b) ⟨q1,q2,q3,q4⟩
 have h1:=fun H R=>Gzw (h:=H) (R:=R) (a:=2 ^ m.toNat) (b:=a) (by omega) (by omega) q1 q2
 have h2:=fun H R=>Gzw (h:=H) (R:=R) (a:=v - 1) (b:=a) (by omega) (by omega) q1 q2
 have hw0 : IntKind.i64.wrap (v - 1) = v - 1:=Gan (by omega) (by omega)
 have hv0 : ¬ v = 0:=by omega
 have hv0' : (v == 0) = false:=by simp [hv0]
 rw [G46,B135]
 have A1 : 0≤Gi2 (v - 1) a 1152921504606846976:=by omega
 have A2 : Gi2 (v - 1) a 1152921504606846976≤1152921504606846976:=by omega
 have B1 : 0≤Gi2 (2 ^ m.toNat) a 1152921504606846976:=by omega
 have B2 : Gi2 (2 ^ m.toNat) a 1152921504606846976≤1152921504606846976:=by omega
 generalize hA : Gi2 (v - 1) a 1152921504606846976 = A at *
 generalize hB : Gi2 (2 ^ m.toNat) a 1152921504606846976 = B at *
 generalize thr a b = t at *
 have w1 : IntKind.i64.wrap (t + A) = t + A:=Gan (by omega) (by omega)
 have w2 : IntKind.i64.wrap (t + A + B) = t + A + B:=Gan (by omega) (by omega)
 have w3 : IntKind.i64.wrap (t + A + B - 1) = t + A + B - 1:=Gan (by omega) (by omega)
 simp [hbits,ht,s1,h1,hv0,hv0',hw0,h2,w1,w2,w3,fin135]
theorem G82 {v : Int} (h1 : -9223372036854775808≤v) (h2 : v < 9223372036854775808) : ∃ n,(∀ H R,Ret tab 136 [.int .i64 v] H R = R (.int .i64 n) H)∧((v ≠ -9223372036854775808∧n = max v (-v))∨(v = -9223372036854775808∧n = 9223372036854775807)):=by
 by_cases h : v = -9223372036854775808
 ·refine ⟨9223372036854775807,fun H R=>?_,.inr ⟨h,rfl⟩⟩
  rw [Guv,Qfb]
  simp [h,G73]
 ·refine ⟨max v (-v),fun H R=>?_,.inl ⟨h,rfl⟩⟩
  have hw : IntKind.i64.wrap (-v) = -v:=Gan (by omega) (by omega)
  have h' : (v == -9223372036854775808) = false:=by simp [h]
  rw [Guv,Qfb]
  simp [h,h',hw,Gci,Gcq,Gkw,G73]
theorem Qbm {v m a b : Int} (hv1 : -9223372036854775808≤v) (hv2 : v < 9223372036854775808) : Ret tab 102 [.int .i64 v,.int .i64 m,.int .i64 a,.int .i64 b] h R = R (.int .i64 (Gfy v m a b)) h:=by
 rw [G3i,B102]
 have hg:=fun H R=>G83 (h:=H) (R:=R) (m:=m) (a:=a) (b:=b)
 by_cases h0 : v = 0
 ·have e : Gfy v m a b = 0:=by unfold Gfy; rw [if_pos (.inl h0)]
  rw [e]
  simp [Gaa,h0,Gt7]
 have h0' : (v == 0) = false:=by simp [h0]
 by_cases hm : MOk m a b
 rotate_left
 ·have e : Gfy v m a b = 0:=by unfold Gfy; rw [if_pos (.inr hm)]
  rw [e]
  simp [Gaa,h0,h0',hg,hm,Gt7]
 obtain ⟨n,hs,hn⟩:=G82 hv1 hv2
 have hn1 : 1≤n:=by omega
 have hn2 : n < 9223372036854775808:=by omega
 have he:=fun H R=>ends_c (h:=H) (R:=R) hm hn1 hn2
 obtain ⟨t1,t2,_,_⟩:=Gk5 hm.1
 have hp:=Gjl m.toNat
 have ha1:=hm.1.1
 obtain ⟨a1,a2⟩:=Gez (show 0≤n - 1 by omega) ha1 (show (0 : Int)≤1152921504606846976 by omega)
 obtain ⟨b1,b2⟩:=Gez (show (0 : Int)≤2 ^ m.toNat by omega) ha1 (show (0 : Int)≤1152921504606846976 by omega)
 obtain ⟨c1,c2⟩:=G8p (n:=n) (A:=Gi2 (n - 1) a 1152921504606846976) (B:=Gi2 (2 ^ m.toNat) a 1152921504606846976) (cap:=1152921504606846976) hm hn1 (by omega) a2 (by omega)
 have r:=Goe (n:=n) (m:=m) hm.1 hn1
 have e : Gfy v m a b = if v < 0 then - Gvx n m a b else Gvx n m a b:=by
  unfold Gfy
  rw [if_neg (by intro h; rcases h with h | h; exact h0 h; exact h hm)]
  rcases hn with ⟨_,rfl⟩ | ⟨rfl,rfl⟩
  ·split
   ·rw [show max v (-v) = -v by omega]
   ·rw [show max v (-v) = v by omega]
  ·rw [if_pos (by omega),if_pos (by omega)]
   have : Gvx (- -9223372036854775808) m a b = Gvx 9223372036854775807 m a b:=by
    have u1 : (9223372036854775807 - 1 : Int) * 1≤(9223372036854775807 - 1) * a:=Int.mul_le_mul_of_nonneg_left ha1 (by omega)
    have u2 : (- -9223372036854775808 - 1 : Int) * 1≤(- -9223372036854775808 - 1) * a:=Int.mul_le_mul_of_nonneg_left ha1 (by omega)
    have u3 : 1 * a≤2 ^ m.toNat * a:=Int.mul_le_mul_of_nonneg_right hp (by omega)
    unfold Gvx Qdr
    omega
   rw [this]
 rw [e]
 have A1 : 0≤Gi2 (n - 1) a 1152921504606846976:=by omega
 have A2 : Gi2 (n - 1) a 1152921504606846976≤1152921504606846976:=by omega
 have B1 : 0≤Gi2 (2 ^ m.toNat) a 1152921504606846976:=by omega
 have B2 : Gi2 (2 ^ m.toNat) a 1152921504606846976≤1152921504606846976:=by omega
 generalize Gi2 (n - 1) a 1152921504606846976 = A at *
 generalize Gi2 (2 ^ m.toNat) a 1152921504606846976 = B at *
 generalize thr a b = t at *
 generalize Gvx n m a b = r' at *
 have w1 : IntKind.i64.wrap (t + A + (t + A + B - 1)) = 2 * (t + A) + (B - 1):=by rw [Gan (by omega) (by omega)]; omega
 have w2 : IntKind.i64.wrap ((2 * (t + A) + (B - 1)).tdiv 2) = (2 * (t + A) + (B - 1)) / 2:=by
  rw [Int.tdiv_eq_ediv_of_nonneg (by omega)]; exact Gan (by omega) (by omega)
 have hl:=fun H R=>Gue (h:=H) (R:=R) (n:=(2 * (t + A) + (B - 1)) / 2) (lo:=0) (hi:=4294967296)
 rw [show min (max ((2 * (t + A) + (B - 1)) / 2) 0) 4294967296 = r' by omega] at hl
 have w3 : IntKind.i64.wrap (-r') = -r':=Gan (by omega) (by omega)
 by_cases hneg : v < 0
 ·simp [Gaa,h0,h0',hg,hm,hs,he,w1,w2,hl,w3,hneg,Gt7]
 ·simp [Gaa,h0,h0',hg,hm,hs,he,w1,w2,hl,w3,hneg,Gt7]
end
section
variable {h : Gag} {R : RP}
theorem Qbc {c v m a b : Int} (hc1 : -9223372036854775808≤c) (hc2 : c < 9223372036854775808) (hv1 : -9223372036854775808≤v) (hv2 : v < 9223372036854775808) :
  Ret tab 52 [.int .i64 c,.int .i64 v,.int .i64 m,.int .i64 a,.int .i64 b] h R = R (.int .i64 (Gop c v m a b)) h:=by
 have hr:=fun H R=>Qbm (h:=H) (R:=R) (m:=m) (a:=a) (b:=b) hv1 hv2
 obtain ⟨r1,r2⟩:=G1g v m a b
 rw [G9s,B52]
 unfold Gop
 generalize Gfy v m a b = r at *
 have w1 : IntKind.i64.wrap (r + 32767) = r + 32767:=Gan (by omega) (by omega)
 have w2 : IntKind.i64.wrap (r - 32767) = r - 32767:=Gan (by omega) (by omega)
 by_cases h1 : r + 32767 < c
 ·rw [show min (max (c - r) (r - c)) 32767 = 32767 by omega]
  simp [Gaa,hr,w1,w2,h1,Qbz]
 ·by_cases h2 : c < r - 32767
  ·rw [show min (max (c - r) (r - c)) 32767 = 32767 by omega]
   simp [Gaa,hr,w1,w2,h1,h2,Qbz]
  ·rw [show min (max (c - r) (r - c)) 32767 = max (c - r) (r - c) by omega]
   have w3 : IntKind.i64.wrap (c - r) = c - r:=Gan (by omega) (by omega)
   have w4 : IntKind.i64.wrap (r - c) = r - c:=Gan (by omega) (by omega)
   simp [Gaa,hr,w1,w2,w3,w4,h1,h2,Gci,Gcq,Gkw,Qbz]
end
def tot (a b : Int) (cs vs ms : List Int) : Nat→Int
 | 0=>0
 | n + 1=>tot a b cs vs ms n + Gop (cs.getD n 0) (vs.getD n 0) (ms.getD n 0) a b * Gop (cs.getD n 0) (vs.getD n 0) (ms.getD n 0) a b
theorem Gpr (a b : Int) (cs vs ms : List Int) : ∀ n : Nat,0≤tot a b cs vs ms n∧tot a b cs vs ms n≤n * 1073676289
 | 0=>by simp [tot]
 | n + 1=>by
  obtain ⟨h1,h2⟩:=Gpr a b cs vs ms n
  obtain ⟨e1,e2⟩:=G6t (cs.getD n 0) (vs.getD n 0) (ms.getD n 0) a b
  rw [tot]
  omega
def mOk (m : Int) : Bool:=decide (0≤m) && decide (m≤60)
def Gms (a b w : Int) (cs vs ms : List Int) : Int × Int :=
 if cs.length ≠ vs.length∨cs.length ≠ ms.length then (0,4) else if 4096 < cs.length then (0,5) else
 if ¬ QOk a b∨w < 0∨16 < w then (0,2) else if ms.all mOk = true then (tot a b cs vs ms cs.length * w,0) else (0,2)
section
variable {h : Gag} {R : RP} {s t u : Value} {cs vs ms : List Int}
theorem Gqf (hc : Rk .i64 h s cs) (hv : Rk .i64 h t vs) (hm : Rk .i64 h u ms) (hl1 : cs.length = vs.length) (hl2 : cs.length = ms.length) (hl : cs.length≤4096) {a b w : Int} {k : List Ga1} {res : Prop}
  (hk : ∀ K6 K7 K8 K9 Ka Kb Kc Kd Kf Kg Kh Ki Kj Kk Kl Km Kn Ko Kp Kq Kr Ks Kt Ku Kv Kw Kx Ky Kz J0 J1 J2 J3 J4 J5 J6 J7 J8 J9 Ja Jb Jc Jd Je Jf Jg Jh Ji Jj Jk Jl Jm Jn Jo Jp Jq Jr Js Jt Ju Jv Jw Jx Jy Jz Y0 Y1 Y2 Y3 Y4 Y5 Y6 Y7 Y8 Y9 Ya Yb Yc : Value,Ok tab R49 k #[s,t,u,.int .i64 a,.int .i64 b,.int .i64 w,K6,K7,K8,K9,Ka,Kb,Kc,Kd,.int .i64 (tot a b cs vs ms cs.length),Kf,Kg,Kh,Ki,Kj,Kk,Kl,Km,Kn,Ko,Kp,Kq,Kr,Ks,Kt,Ku,Kv,Kw,Kx,Ky,Kz,J0,J1,J2,J3,J4,J5,J6,J7,J8,J9,Ja,Jb,Jc,Jd,Je,Jf,Jg,Jh,Ji,Jj,Jk,Jl,Jm,Jn,Jo,Jp,Jq,Jr,Js,Jt,Ju,Jv,Jw,Jx,Jy,Jz,Y0,Y1,Y2,Y3,Y4,Y5,Y6,Y7,Y8,Y9,Ya,Yb,Yc] h R = res) :
  ∀ (n i : Nat) (K6 K7 K8 K9 Ka Kb Kc Kd Kf Kg Kh Ki Kj Kk Kl Km Kn Ko Kp Kq Kr Ks Kt Ku Kv Kw Kx Ky Kz J0 J1 J2 J3 J4 J5 J6 J7 J8 Jb Jc Jd Je Jf Jg Jh Ji Jj Jk Jl Jm Jn Jo Jp Jq Jr Js Jt Ju Jv Jw Jx Jy Jz Y0 Y1 Y2 Y3 Y4 Y5 Y6 Y7 Y8 Y9 Ya Yb Yc : Value),n = cs.length - i→i≤cs.length →
   Ok tab R49 (.inLoop G41 :: .inBlock 0 :: k) #[s,t,u,.int .i64 a,.int .i64 b,.int .i64 w,K6,K7,K8,K9,Ka,Kb,Kc,Kd,.int .i64 (tot a b cs vs ms i),Kf,Kg,Kh,Ki,Kj,Kk,Kl,Km,Kn,Ko,Kp,Kq,Kr,Ks,Kt,Ku,Kv,Kw,Kx,Ky,Kz,J0,J1,J2,J3,J4,J5,J6,J7,J8,.int .i64 cs.length,.int .i64 i,Jb,Jc,Jd,Je,Jf,Jg,Jh,Ji,Jj,Jk,Jl,Jm,Jn,Jo,Jp,Jq,Jr,Js,Jt,Ju,Jv,Jw,Jx,Jy,Jz,Y0,Y1,Y2,Y3,Y4,Y5,Y6,Y7,Y8,Y9,Ya,Yb,Yc] h R =
    if (ms.drop i).all mOk = true then res else R (.tuple #[.int .i64 0,.int .i64 2]) h:=by
 intro n
 induction n with
 | zero =>
  intro i;intros;rename_i hn hi
  have him : i = cs.length:=by omega
  subst him
  rw [Gad,Qd2,Gwx,Gwk]
  rw [List.drop_of_length_le (by omega)]
  simp [hk]
 | succ n ih =>
  intro i;intros;rename_i hn hi
  have hlt : ((i : Int) < cs.length):=by omega
  have h1 : i < cs.length:=by omega
  have h2 : i < vs.length:=by omega
  have h3 : i < ms.length:=by omega
  have hw : IntKind.i64.wrap ((i : Int) + 1) = ((i + 1 : Nat) : Int):=Gbc (n:=i + 1) (by omega)
  have ih':=fun K6 K7 K8 K9 Ka Kb Kc Kd Kf Kg Kh Ki Kj Kk Kl Km Kn Ko Kp Kq Kr Ks Kt Ku Kv Kw Kx Ky Kz J0 J1 J2 J3 J4 J5 J6 J7 J8 Jb Jc Jd Je Jf Jg Jh Ji Jj Jk Jl Jm Jn Jo Jp Jq Jr Js Jt Ju Jv Jw Jx Jy Jz Y0 Y1 Y2 Y3 Y4 Y5 Y6 Y7 Y8 Y9 Ya Yb Yc=>ih (i + 1) K6 K7 K8 K9 Ka Kb Kc Kd Kf Kg Kh Ki Kj Kk Kl Km Kn Ko Kp Kq Kr Ks Kt Ku Kv Kw Kx Ky Kz J0 J1 J2 J3 J4 J5 J6 J7 J8 Jb Jc Jd Je Jf Jg Jh Ji Jj Jk Jl Jm Jn Jo Jp Jq Jr Js Jt Ju Jv Jw Jx Jy Jz Y0 Y1 Y2 Y3 Y4 Y5 Y6 Y7 Y8 Y9 Ya Yb Yc (by omega) (by omega)
  obtain ⟨id1,o1,b1,rfl,hb1,hc1⟩:=hc.get h1
  obtain ⟨id2,o2,b2,rfl,hb2,hc2⟩:=hv.get h2
  obtain ⟨id3,o3,b3,rfl,hb3,hc3⟩:=hm.get h3
  have l1 : ((i : Int) < vs.length):=by omega
  have l2 : ((i : Int) < ms.length):=by omega
  have g1 : cs.getD i 0 = cs[i]:=by rw [List.getD_eq_getElem?_getD,List.getElem?_eq_getElem h1]; rfl
  have g2 : vs.getD i 0 = vs[i]:=by rw [List.getD_eq_getElem?_getD,List.getElem?_eq_getElem h2]; rfl
  have g3 : ms.getD i 0 = ms[i]:=by rw [List.getD_eq_getElem?_getD,List.getElem?_eq_getElem h3]; rfl
  obtain ⟨r1,r2⟩:=wf_i64 (hc.rng cs[i] (List.getElem_mem h1))
  obtain ⟨r3,r4⟩:=wf_i64 (hv.rng vs[i] (List.getElem_mem h2))
  have he:=fun H R=>Qbc (h:=H) (R:=R) (m:=ms[i]) (a:=a) (b:=b) r1 r2 r3 r4
  obtain ⟨t1,t2⟩:=Gpr a b cs vs ms i
  obtain ⟨e1,e2⟩:=G6t cs[i] vs[i] ms[i] a b
  have hT : tot a b cs vs ms (i + 1) = tot a b cs vs ms i + Gop cs[i] vs[i] ms[i] a b * Gop cs[i] vs[i] ms[i] a b:=by rw [tot,g1,g2,g3]
  have hd : (ms.drop i).all mOk = (mOk ms[i] && (ms.drop (i + 1)).all mOk):=by rw [List.drop_eq_getElem_cons h3,List.all_cons]
  rw [hd]
  rw [hT] at ih'
  generalize (ms.drop (i + 1)).all mOk = rest at *
  generalize Gop cs[i] vs[i] ms[i] a b = e at *
  generalize tot a b cs vs ms i = T at *
  have w1 : IntKind.i64.wrap (e * e) = e * e:=Gan (by omega) (by omega)
  have w2 : IntKind.i64.wrap (T + e * e) = T + e * e:=Gan (by omega) (by omega)
  generalize ((i + 1 : Nat) : Int) = i1 at *
  generalize cs[i] = c at *
  generalize vs[i] = v at *
  generalize ms[i] = m at *
  rw [Gad,Qd2,Gwx,Gwk]
  by_cases m1 : m < 0
  ·have hmo : mOk m = false:=by simp [mOk]; omega
   simp [Gaa,hlt,l1,l2,h1,h2,h3,hb1,hb2,hb3,hc1,hc2,hc3,m1,hmo,Gpg]
  ·by_cases m2 : 60 < m
   ·have hmo : mOk m = false:=by simp [mOk]; omega
    simp [Gaa,hlt,l1,l2,h1,h2,h3,hb1,hb2,hb3,hc1,hc2,hc3,m1,m2,hmo,Gpg]
   ·have hmo : mOk m = true:=by simp [mOk]; omega
    simp [Gaa,hlt,l1,l2,h1,h2,h3,hb1,hb2,hb3,hc1,hc2,hc3,m1,m2,hmo,he,w1,w2,hw,ih']
theorem G9k (hc : Rk .i64 h s cs) (hv : Rk .i64 h t vs) (hm : Rk .i64 h u ms) {a b w : Int} :
  Ret tab 49 [s,t,u,.int .i64 a,.int .i64 b,.int .i64 w] h R = R (.tuple #[.int .i64 (Gms a b w cs vs ms).1,.int .i64 (Gms a b w cs vs ms).2]) h:=by
 rw [G8w,B49]
 obtain ⟨sa,sc,hs⟩:=hc.sl.shape
 obtain ⟨ta,tc,ht⟩:=hv.sl.shape
 obtain ⟨ua,uc,hu⟩:=hm.sl.shape
 unfold Gms
 by_cases hl1 : cs.length = vs.length
 rotate_left
 ·have hl1' : ((cs.length : Int) != vs.length) = true:=by simp; omega
  simp [Gaa,hs,ht,hu,hl1,hl1',Gpg]
 have hl1' : ((cs.length : Int) != vs.length) = false:=by simp; omega
 by_cases hl2 : cs.length = ms.length
 rotate_left
 ·have hl2' : ((cs.length : Int) != ms.length) = true:=by simp; omega
  rw [if_pos (.inr hl2)]
  simp [Gaa,hs,ht,hu,hl1',hl2',Gpg]
 have hl2' : ((cs.length : Int) != ms.length) = false:=by simp; omega
 rw [if_neg (by omega)]
 by_cases hl : 4096 < cs.length
 ·have hl' : (4096 : Int) < cs.length:=by omega
  rw [if_pos hl]
  simp [Gaa,hs,ht,hu,hl1',hl2',hl',Gpg]
 have hl' : ¬ (4096 : Int) < cs.length:=by omega
 rw [if_neg hl]
 have hq:=fun H R=>Ggm (h:=H) (R:=R) (a:=a) (b:=b)
 by_cases hqo : QOk a b
 rotate_left
 ·rw [if_pos (.inl hqo)]
  simp [Gaa,hs,ht,hu,hl1',hl2',hl',hq,hqo,Gpg]
 by_cases hw0 : w < 0
 ·rw [if_pos (.inr (.inl hw0))]
  simp [Gaa,hs,ht,hu,hl1',hl2',hl',hq,hqo,hw0,Gpg]
 by_cases hw1 : 16 < w
 ·rw [if_pos (.inr (.inr hw1))]
  simp [Gaa,hs,ht,hu,hl1',hl2',hl',hq,hqo,hw0,hw1,Gpg]
 rw [if_neg (by intro hx; rcases hx with hx | hx | hx; exact hx hqo; exact hw0 hx; exact hw1 hx)]
 obtain ⟨t1,t2⟩:=Gpr a b cs vs ms cs.length
 obtain ⟨p1,p2⟩:=Gbx (a:=tot a b cs vs ms cs.length) (b:=w) (c:=4096 * 1073676289) (d:=16) t1 (by omega) (by omega) (by omega)
 have hwr : IntKind.i64.wrap (tot a b cs vs ms cs.length * w) = tot a b cs vs ms cs.length * w:=Gan (by omega) (by omega)
 have hL:=fun K6 K7 K8 K9 Ka Kb Kc Kd Kf Kg Kh Ki Kj Kk Kl Km Kn Ko Kp Kq Kr Ks Kt Ku Kv Kw Kx Ky Kz J0 J1 J2 J3 J4 J5 J6 J7 J8 Jb Jc Jd Je Jf Jg Jh Ji Jj Jk Jl Jm Jn Jo Jp Jq Jr Js Jt Ju Jv Jw Jx Jy Jz Y0 Y1 Y2 Y3 Y4 Y5 Y6 Y7 Y8 Y9 Ya Yb Yc=>Gqf (R:=R) hc hv hm hl1 hl2 (by omega) (a:=a) (b:=b) (w:=w) (res:=R (.tuple #[.int .i64 (tot a b cs vs ms cs.length * w),.int .i64 0]) h)
  (k:=[.code ((RCode.region [⟨some 82,.mov (.tmp 14),none⟩,⟨some 83,.mov (.tmp 5),none⟩,⟨some 84,.bin .mul (.tmp 82) (.tmp 83),none⟩,⟨some 12,.mov (.tmp 84),none⟩,⟨some 13,.mov (.const (.int .i64 0)),none⟩] []).seq .ret)])
  (fun K6 K7 K8 K9 Ka Kb Kc Kd Kf Kg Kh Ki Kj Kk Kl Km Kn Ko Kp Kq Kr Ks Kt Ku Kv Kw Kx Ky Kz J0 J1 J2 J3 J4 J5 J6 J7 J8 J9 Ja Jb Jc Jd Je Jf Jg Jh Ji Jj Jk Jl Jm Jn Jo Jp Jq Jr Js Jt Ju Jv Jw Jx Jy Jz Y0 Y1 Y2 Y3 Y4 Y5 Y6 Y7 Y8 Y9 Ya Yb Yc=>by simp [hwr,Gpg]) cs.length 0 K6 K7 K8 K9 Ka Kb Kc Kd Kf Kg Kh Ki Kj Kk Kl Km Kn Ko Kp Kq Kr Ks Kt Ku Kv Kw Kx Ky Kz J0 J1 J2 J3 J4 J5 J6 J7 J8 Jb Jc Jd Je Jf Jg Jh Ji Jj Jk Jl Jm Jn Jo Jp Jq Jr Js Jt Ju Jv Jw Jx Jy Jz Y0 Y1 Y2 Y3 Y4 Y5 Y6 Y7 Y8 Y9 Ya Yb Yc (by omega) (by omega)
 simp only [List.drop_zero] at hL
 have t0 : tot a b cs vs ms 0 = 0:=rfl
 rw [t0] at hL
 simp only [Int.cast_ofNat_Int] at hL
 rw [hs,ht,hu] at *
 generalize ms.all mOk = A at *
 cases A <;> simp [Gaa,hl1',hl2',hl',hq,hqo,hw0,hw1] <;> rw [hL] <;> simp
end
def Gft (xs : List Nat) (n : Nat) : Nat:=(xs.getD (n / 8) 0) / 2 ^ (7 - n % 8) % 2
def Gc7 (bs : List Nat) (j : Nat) : Nat :=
 bs.getD (8 * j) 0 * 128 + bs.getD (8 * j + 1) 0 * 64 + bs.getD (8 * j + 2) 0 * 32 + bs.getD (8 * j + 3) 0 * 16 + bs.getD (8 * j + 4) 0 * 8 + bs.getD (8 * j + 5) 0 * 4 + bs.getD (8 * j + 6) 0 * 2 + bs.getD (8 * j + 7) 0
def bytesOf (bs : List Nat) (m : Nat) : List Nat:=(List.range m).map (Gc7 bs)
def pack (bs : List Nat) : List Nat:=bytesOf bs ((bs.length + 7) / 8)
def Gc5 (bs : List Nat) : Prop:=∀ b ∈ bs,b≤1
theorem Gc5.getD {bs : List Nat} (h : Gc5 bs) (i : Nat) : bs.getD i 0≤1:=by
 rw [List.getD_eq_getElem?_getD]
 cases hi : bs[i]? with
 | none=>simp
 | some b=>exact h b (List.mem_of_getElem? hi)
theorem Gc5.push {bs : List Nat} (h : Gc5 bs) {b : Nat} (hb : b≤1) : Gc5 (bs++[b]):=by
 intro x hx
 rw [List.mem_append] at hx
 rcases hx with hx | hx
 ·exact h x hx
 ·simp at hx; omega
theorem Grw {bs : List Nat} (h : Gc5 bs) (j : Nat) : Gc7 bs j < 256:=by
 unfold Gc7
 have:=h.getD (8 * j); have:=h.getD (8 * j + 1); have:=h.getD (8 * j + 2); have:=h.getD (8 * j + 3)
 have:=h.getD (8 * j + 4); have:=h.getD (8 * j + 5); have:=h.getD (8 * j + 6); have:=h.getD (8 * j + 7)
 omega
theorem Gky (bs : List Nat) (b i : Nat) : (bs++[b]).getD i 0 = if i = bs.length then b else bs.getD i 0:=by
 simp only [List.getD_eq_getElem?_getD]
 by_cases h : i < bs.length
 ·rw [List.getElem?_append_left h,if_neg (by omega)]
 ·by_cases h2 : i = bs.length
  ·subst h2; simp
  ·rw [if_neg h2,List.getElem?_eq_none (by simp; omega),List.getElem?_eq_none (by omega)]
theorem Gbt {bs : List Nat} {i : Nat} (h : bs.length≤i) : bs.getD i 0 = 0:=by
 rw [List.getD_eq_getElem?_getD,List.getElem?_eq_none h]; rfl
theorem Gg9 (bs : List Nat) (b j : Nat) : Gc7 (bs++[b]) j = if j = bs.length / 8 then Gc7 bs j + b * 2 ^ (7 - bs.length % 8) else Gc7 bs j:=by
 unfold Gc7
 simp only [Gky]
 by_cases hj : j = bs.length / 8
 ·rw [if_pos hj]
  have h8 : bs.length % 8 < 8:=Nat.mod_lt _ (by omega)
  generalize hn : bs.length = n at *
  have : n % 8 = 0∨n % 8 = 1∨n % 8 = 2∨n % 8 = 3∨n % 8 = 4∨n % 8 = 5∨n % 8 = 6∨n % 8 = 7:=by omega
  rcases this with h | h | h | h | h | h | h | h
  ·rw [if_pos (by omega),if_neg (by omega),if_neg (by omega),if_neg (by omega),if_neg (by omega),if_neg (by omega),if_neg (by omega),if_neg (by omega),Gbt (show bs.length≤8 * j by omega),h]; omega
  ·rw [if_neg (by omega),if_pos (by omega),if_neg (by omega),if_neg (by omega),if_neg (by omega),if_neg (by omega),if_neg (by omega),if_neg (by omega),Gbt (show bs.length≤8 * j + 1 by omega),h]; omega
  ·rw [if_neg (by omega),if_neg (by omega),if_pos (by omega),if_neg (by omega),if_neg (by omega),if_neg (by omega),if_neg (by omega),if_neg (by omega),Gbt (show bs.length≤8 * j + 2 by omega),h]; omega
  ·rw [if_neg (by omega),if_neg (by omega),if_neg (by omega),if_pos (by omega),if_neg (by omega),if_neg (by omega),if_neg (by omega),if_neg (by omega),Gbt (show bs.length≤8 * j + 3 by omega),h]; omega
  ·rw [if_neg (by omega),if_neg (by omega),if_neg (by omega),if_neg (by omega),if_pos (by omega),if_neg (by omega),if_neg (by omega),if_neg (by omega),Gbt (show bs.length≤8 * j + 4 by omega),h]; omega
  ·rw [if_neg (by omega),if_neg (by omega),if_neg (by omega),if_neg (by omega),if_neg (by omega),if_pos (by omega),if_neg (by omega),if_neg (by omega),Gbt (show bs.length≤8 * j + 5 by omega),h]; omega
  ·rw [if_neg (by omega),if_neg (by omega),if_neg (by omega),if_neg (by omega),if_neg (by omega),if_neg (by omega),if_pos (by omega),if_neg (by omega),Gbt (show bs.length≤8 * j + 6 by omega),h]; omega
  ·rw [if_neg (by omega),if_neg (by omega),if_neg (by omega),if_neg (by omega),if_neg (by omega),if_neg (by omega),if_neg (by omega),if_pos (by omega),Gbt (show bs.length≤8 * j + 7 by omega),h]; omega
 ·rw [if_neg hj]
  rw [if_neg (by omega),if_neg (by omega),if_neg (by omega),if_neg (by omega),if_neg (by omega),if_neg (by omega),if_neg (by omega),if_neg (by omega)]
theorem Gxp (bs : List Nat) : Gc7 bs (bs.length / 8) % 2 ^ (8 - bs.length % 8) = 0:=by
 unfold Gc7
 have h8 : bs.length % 8 < 8:=Nat.mod_lt _ (by omega)
 have out : ∀ i,bs.length % 8≤i→bs.getD (8 * (bs.length / 8) + i) 0 = 0:=fun i hi=>Gbt (by omega)
 have : bs.length % 8 = 0∨bs.length % 8 = 1∨bs.length % 8 = 2∨bs.length % 8 = 3∨bs.length % 8 = 4∨bs.length % 8 = 5∨bs.length % 8 = 6∨bs.length % 8 = 7:=by omega
 have o7:=out 7 (by omega)
 rcases this with h | h | h | h | h | h | h | h <;> rw [h] at out ⊢ <;> rw [o7]
 ·rw [show 8 * (bs.length / 8) = 8 * (bs.length / 8) + 0 from rfl,out 0 (by omega),out 1 (by omega),out 2 (by omega),out 3 (by omega),out 4 (by omega),out 5 (by omega),out 6 (by omega)]
 ·rw [out 1 (by omega),out 2 (by omega),out 3 (by omega),out 4 (by omega),out 5 (by omega),out 6 (by omega)]; omega
 ·rw [out 2 (by omega),out 3 (by omega),out 4 (by omega),out 5 (by omega),out 6 (by omega)]; omega
 ·rw [out 3 (by omega),out 4 (by omega),out 5 (by omega),out 6 (by omega)]; omega
 ·rw [out 4 (by omega),out 5 (by omega),out 6 (by omega)]; omega
 ·rw [out 5 (by omega),out 6 (by omega)]; omega
 ·rw [out 6 (by omega)]; omega
 ·omega
theorem Gm3 {bs : List Nat} (h : Gc5 bs) (i : Nat) : Gc7 bs (i / 8) / 2 ^ (7 - i % 8) % 2 = bs.getD i 0:=by
 unfold Gc7
 have h0:=h.getD (8 * (i / 8)); have h1:=h.getD (8 * (i / 8) + 1); have h2:=h.getD (8 * (i / 8) + 2); have h3:=h.getD (8 * (i / 8) + 3)
 have h4:=h.getD (8 * (i / 8) + 4); have h5:=h.getD (8 * (i / 8) + 5); have h6:=h.getD (8 * (i / 8) + 6); have h7:=h.getD (8 * (i / 8) + 7)
 have h8 : i % 8 < 8:=Nat.mod_lt _ (by omega)
 have e : bs.getD i 0 = bs.getD (8 * (i / 8) + i % 8) 0:=by rw [Nat.div_add_mod]
 rw [e]
 have : i % 8 = 0∨i % 8 = 1∨i % 8 = 2∨i % 8 = 3∨i % 8 = 4∨i % 8 = 5∨i % 8 = 6∨i % 8 = 7:=by omega
 rcases this with h | h | h | h | h | h | h | h <;> rw [h] <;> (try simp only [Nat.add_zero]) <;> omega
theorem Gdh {bs : List Nat} {m j : Nat} (h : j < m) : (bytesOf bs m)[j]? = some (Gc7 bs j):=by
 simp [bytesOf,h]
theorem bytesOf_length (bs : List Nat) (m : Nat) : (bytesOf bs m).length = m:=by simp [bytesOf]
theorem Gbb (bs : List Nat) : (pack bs).length = (bs.length + 7) / 8:=bytesOf_length _ _
theorem Gmx {bs : List Nat} {j : Nat} (h : bs.length≤8 * j) : Gc7 bs j = 0:=by
 unfold Gc7
 rw [Gbt h,Gbt (show bs.length≤8 * j + 1 by omega),Gbt (show bs.length≤8 * j + 2 by omega),Gbt (show bs.length≤8 * j + 3 by omega),Gbt (show bs.length≤8 * j + 4 by omega),Gbt (show bs.length≤8 * j + 5 by omega),Gbt (show bs.length≤8 * j + 6 by omega),Gbt (show bs.length≤8 * j + 7 by omega)]
theorem Ghh (bs : List Nat) (j : Nat) : (pack bs).getD j 0 = Gc7 bs j:=by
 rw [List.getD_eq_getElem?_getD]
 by_cases h : j < (bs.length + 7) / 8
 ·rw [pack,Gdh h]; rfl
 ·rw [List.getElem?_eq_none (by rw [Gbb]; omega),Gmx (by omega)]; rfl
theorem Gxn {bs : List Nat} (h : Gc5 bs) (i : Nat) : Gft (pack bs) i = bs.getD i 0:=by
 rw [Gft,Ghh,Gm3 h]
theorem Gmd {bs : List Nat} {b : Nat} (h : bs.length % 8 = 0) : pack (bs++[b]) = pack bs++[b * 128]:=by
 apply List.ext_getElem?
 intro j
 have hl : ((bs++[b]).length + 7) / 8 = (bs.length + 7) / 8 + 1:=by simp; omega
 by_cases hj : j < (bs.length + 7) / 8
 ·rw [List.getElem?_append_left (by rw [Gbb]; exact hj),pack,pack,hl,Gdh (by omega),Gdh hj,Gg9,if_neg (by omega)]
 ·by_cases hj2 : j = (bs.length + 7) / 8
  ·subst hj2
   rw [pack,hl,Gdh (by omega),Gg9,if_pos (by omega),h,Gmx (by omega)]
   rw [List.getElem?_append_right (by rw [Gbb]; omega),Gbb]; simp
  ·rw [List.getElem?_eq_none (by rw [Gbb,hl]; omega),List.getElem?_eq_none (by rw [List.length_append,Gbb]; simp; omega)]
theorem Gmr {bs : List Nat} {b : Nat} (h : bs.length % 8 ≠ 0) : pack (bs++[b]) = (pack bs).set (bs.length / 8) (Gc7 bs (bs.length / 8) + b * 2 ^ (7 - bs.length % 8)):=by
 apply List.ext_getElem?
 intro j
 have hl : ((bs++[b]).length + 7) / 8 = (bs.length + 7) / 8:=by simp; omega
 rw [List.getElem?_set,Gbb]
 by_cases hj : j < (bs.length + 7) / 8
 ·rw [pack,hl,Gdh hj,Gg9]
  by_cases he : j = bs.length / 8
  ·subst he; rw [if_pos rfl,if_pos rfl,if_pos hj]
  ·rw [if_neg he,if_neg (Ne.symm he),pack,Gdh hj]
 ·rw [List.getElem?_eq_none (by rw [Gbb,hl]; omega),if_neg (by omega),List.getElem?_eq_none (by rw [Gbb]; omega)]
def Trim (xs : List Nat) (m : Nat) : Prop:=m≤xs.length∧(∀ j,m≤j→xs.getD j 0 = 0)∧(m = 0∨xs.getD (m - 1) 0 ≠ 0)
theorem Gxv {xs : List Nat} {m : Nat} (h : Trim xs m) (i : Nat) : Gft (xs.take m) i = Gft xs i:=by
 unfold Gft
 congr 2
 simp only [List.getD_eq_getElem?_getD,List.getElem?_take]
 by_cases hi : i / 8 < m
 ·rw [if_pos hi]
 ·rw [if_neg hi]
  have:=h.2.1 (i / 8) (by omega)
  rw [List.getD_eq_getElem?_getD] at this
  rw [this]; rfl
def Gf9 (bs : List Nat) : Nat→Nat
 | 0=>0
 | i + 1=>if bs.getD i 0 = 1 then i / 8 + 1 else Gf9 bs i
theorem Gv7 (bs : List Nat) : ∀ i,Gf9 bs i≤(i + 7) / 8
 | 0=>by simp [Gf9]
 | i + 1=>by
  have:=Gv7 bs i
  unfold Gf9
  split <;> omega
theorem Gnb {bs : List Nat} (h : Gc5 bs) : ∀ i k,k < i→8 * Gf9 bs i≤k→bs.getD k 0 = 0
 | 0,k,hk,_=>by omega
 | i + 1,k,hk,he=>by
  unfold Gf9 at he
  split at he
  ·omega
  ·rename_i hb
   by_cases hki : k = i
   ·subst hki; have:=h.getD k; omega
   ·exact Gnb h i k (by omega) he
theorem Gmk {bs : List Nat} : ∀ i,Gf9 bs i = 0∨∃ k,k < i∧bs.getD k 0 = 1∧k / 8 = Gf9 bs i - 1
 | 0=>.inl rfl
 | i + 1=>by
  unfold Gf9
  split
  ·rename_i hb
   exact .inr ⟨i,by omega,hb,by omega⟩
  ·rcases Gmk i with h | ⟨k,h1,h2,h3⟩
   ·exact .inl h
   ·exact .inr ⟨k,by omega,h2,h3⟩
theorem Gst {bs : List Nat} {j : Nat} (h : ∀ i,i < 8→bs.getD (8 * j + i) 0 = 0) : Gc7 bs j = 0:=by
 unfold Gc7
 rw [show 8 * j = 8 * j + 0 from rfl,h 0 (by omega),h 1 (by omega),h 2 (by omega),h 3 (by omega),h 4 (by omega),h 5 (by omega),h 6 (by omega),h 7 (by omega)]
theorem Ghj {bs : List Nat} (h : Gc5 bs) : Trim (pack bs) (Gf9 bs bs.length):=by
 refine ⟨by rw [Gbb]; exact Gv7 _ _,fun j hj=>?_,?_⟩
 ·rw [Ghh]
  refine Gst fun i hi=>?_
  by_cases hk : 8 * j + i < bs.length
  ·exact Gnb h bs.length _ hk (by omega)
  ·exact Gbt (by omega)
 ·rcases Gmk (bs:=bs) bs.length with h0 | ⟨k,h1,h2,h3⟩
  ·exact .inl h0
  ·right
   rw [Ghh]
   intro hz
   have:=Gm3 h k
   rw [h3,hz] at this
   rw [h2] at this
   simp at this
def Gjc (bs : List Nat) : List Nat:=(pack bs).take (Gf9 bs bs.length)
theorem Gy6 {bs : List Nat} (h : Gc5 bs) (i : Nat) : Gft (Gjc bs) i = bs.getD i 0:=by
 rw [Gjc,Gxv (Ghj h),Gxn h]
theorem Qbh {bs : List Nat} (h : Gc5 bs) : ∀ x ∈ pack bs,x < 256:=by
 intro x hx
 simp only [pack,bytesOf,List.mem_map] at hx
 obtain ⟨j,_,rfl⟩:=hx
 exact Grw h j
def val : List Nat→Nat
 | []=>0
 | d :: ds=>d * 256 ^ ds.length + val ds
def Dig (ds : List Nat) : Prop:=∀ d ∈ ds,d < 256
def Gde : List Nat→Nat→Nat × List Nat
 | [],b=>(b,[])
 | d :: ds,b=>(((Gde ds b).1 + d) / 256,((Gde ds b).1 + d) % 256 :: (Gde ds b).2)
theorem val_append : ∀ (a b : List Nat),val (a++b) = val a * 256 ^ b.length + val b
 | [],b=>by simp [val]
 | d :: a,b=>by
  rw [List.cons_append,val,val,val_append a b,List.length_append,Nat.pow_add,Nat.add_mul,Nat.mul_assoc,Nat.add_assoc]
theorem Gle : ∀ {ds : List Nat},Dig ds→val ds < 256 ^ ds.length
 | [],_=>by simp [val]
 | d :: ds,h=>by
  have h1 : d < 256:=h d (by simp)
  have h2:=Gle (ds:=ds) (fun x hx=>h x (by simp [hx]))
  rw [val,List.length_cons,Nat.pow_succ]
  have:=Nat.mul_le_mul_right (256 ^ ds.length) (show d≤255 by omega)
  omega
theorem Gb7 : ∀ (ds : List Nat) (b : Nat),(Gde ds b).2.length = ds.length
 | [],b=>rfl
 | d :: ds,b=>by simp [Gde,Gb7 ds b]
theorem Gjn : ∀ (ds : List Nat) (b : Nat),Dig (Gde ds b).2
 | [],b=>by intro d hd; simp [Gde] at hd
 | d :: ds,b=>by
  intro x hx
  simp only [Gde,List.mem_cons] at hx
  rcases hx with rfl | hx
  ·exact Nat.mod_lt _ (by decide)
  ·exact Gjn ds b x hx
theorem Gjp : ∀ (ds : List Nat) (b : Nat),val ds + b = (Gde ds b).1 * 256 ^ ds.length + val (Gde ds b).2
 | [],b=>by simp [Gde,val]
 | d :: ds,b=>by
  have ih:=Gjp ds b
  simp only [Gde,val,Gb7,List.length_cons,Nat.pow_succ]
  generalize (Gde ds b).1 = c at *
  generalize val (Gde ds b).2 = v at *
  generalize 256 ^ ds.length = q at *
  have e:=Nat.div_add_mod (c + d) 256
  generalize (c + d) / 256 = x at *
  generalize (c + d) % 256 = y at *
  have h1 : (c + d) * q = (256 * x + y) * q:=by rw [e]
  rw [Nat.add_mul,Nat.add_mul] at h1
  rw [show x * (q * 256) = 256 * x * q by rw [Nat.mul_comm q,← Nat.mul_assoc,Nat.mul_comm x]]
  omega
theorem Gg5 : ∀ (a c : List Nat) (b : Nat),Gde (a++c) b = ((Gde a (Gde c b).1).1,(Gde a (Gde c b).1).2++(Gde c b).2)
 | [],c,b=>by simp [Gde]
 | d :: a,c,b=>by
  rw [List.cons_append,Gde,Gg5 a c b]; simp [Gde]
theorem Gke : ∀ {ds : List Nat},Dig ds→Gde ds 0 = (0,ds)
 | [],_=>rfl
 | d :: ds,h=>by
  have h1 : d < 256:=h d (by simp)
  rw [Gde,Gke (fun x hx=>h x (by simp [hx]))]
  simp only [Nat.zero_add]
  rw [Nat.div_eq_of_lt h1,Nat.mod_eq_of_lt h1]
theorem Goz : ∀ {a b : List Nat},Dig a→Dig b→a.length = b.length→val a = val b→a = b
 | [],[],_,_,_,_=>rfl
 | [],_ :: _,_,_,hl,_=>by simp at hl
 | _ :: _,[],_,_,hl,_=>by simp at hl
 | x :: a,y :: b,ha,hb,hl,hv=>by
  have hl' : a.length = b.length:=by simpa using hl
  have h1:=Gle (ds:=a) (fun z hz=>ha z (by simp [hz]))
  have h2:=Gle (ds:=b) (fun z hz=>hb z (by simp [hz]))
  simp only [val] at hv
  rw [← hl'] at hv h2
  have hq : 0 < 256 ^ a.length:=Nat.pow_pos (by decide)
  generalize 256 ^ a.length = q at *
  have hxy : x = y:=by
   rcases Nat.lt_trichotomy x y with h | h | h
   ·have:=Nat.mul_le_mul_right q (show x + 1≤y by omega)
    rw [Nat.add_mul] at this; omega
   ·exact h
   ·have:=Nat.mul_le_mul_right q (show y + 1≤x by omega)
    rw [Nat.add_mul] at this; omega
  subst hxy
  rw [Goz (fun z hz=>ha z (by simp [hz])) (fun z hz=>hb z (by simp [hz])) hl' (by omega)]
def Gdz (n : Nat) : List Nat:=[n / 16777216,n / 65536 % 256,n / 256 % 256,n % 256]
theorem Ges (n : Nat) : (Gdz n).length = 4:=rfl
theorem Gfa (n : Nat) : val (Gdz n) = n:=by
 simp only [Gdz,val,List.length_cons,List.length_nil]
 omega
theorem Gjt {n : Nat} (h : n < 4294967296) : Dig (Gdz n):=by
 intro d hd
 simp only [Gdz,List.mem_cons,List.not_mem_nil,or_false] at hd
 omega
theorem Gz5 {n b : Nat} (h : n < 4294967296) (hb : b < 4294967296) : Gde (Gdz n) b = if n + b < 4294967296 then (0,Gdz (n + b)) else (1,Gdz (n + b - 4294967296)):=by
 have hv:=Gjp (Gdz n) b
 have hd:=Gjn (Gdz n) b
 have hl:=Gb7 (Gdz n) b
 have hlt:=Gle hd
 rw [hl,Ges] at hlt
 rw [Gfa,Ges] at hv
 rw [Ges] at hl
 generalize hX : Gde (Gdz n) b = X at *
 obtain ⟨c,r⟩:=X
 simp only at *
 split
 ·rename_i hs
  have hc : c = 0:=by omega
  subst hc
  have : r = Gdz (n + b):=Goz hd (Gjt hs) (by rw [hl,Ges]) (by rw [Gfa]; omega)
  rw [this]
 ·rename_i hs
  have hc : c = 1:=by omega
  subst hc
  have : r = Gdz (n + b - 4294967296):=Goz hd (Gjt (by omega)) (by rw [hl,Ges]) (by rw [Gfa]; omega)
  rw [this]
theorem G5v {out : List Nat} {low b : Nat} (ho : Dig out) (h : low < 4294967296) (hb : b < 4294967296) :
  (Gde (out++Gdz low) b).2 = if low + b < 4294967296 then out++Gdz (low + b) else (Gde out 1).2++Gdz (low + b - 4294967296):=by
 rw [Gg5,Gz5 h hb]
 split
 ·simp only [Gke ho]
 ·rfl
def Gcw (p : Nat) (bit : Nat) : Nat:=if bit = 0 then p + (4096 - p) / 32 else p - p / 32
def POk (p : Nat) : Prop:=31≤p∧p≤4065
theorem Grr {p bit : Nat} (h : POk p) : POk (Gcw p bit):=by
 unfold POk Gcw at *
 split <;> omega
def Gp1 (ps : List Nat) : Prop:=∀ p ∈ ps,POk p
structure AE where
 p : List Nat
 ds : List Nat
 size : Nat
 begun : Bool
def AE.base (n : Nat) : List Nat:=List.replicate n 2048
def AE.begin (p : List Nat) : AE:=⟨p,[0,0,0,0],4294967295,false⟩
structure AE.Ok (a : AE) : Prop where
 ps : Gp1 a.p
 dig : Dig a.ds
 len : 4≤a.ds.length
 s1 : 16777216≤a.size
 s2 : a.size < 4294967296
 top : val a.ds + a.size≤4294967295 * 256 ^ (a.ds.length - 4)
def AE.split (a : AE) (c : Nat) : Nat:=a.size / 4096 * a.p.getD c 0
def AE.norm (a : AE) : AE:=if a.size < 16777216 then { a with ds:=a.ds++[0],size:=a.size * 256 } else a
def AE.put (a : AE) (c : Nat) (bit : Nat) : AE :=
 let b:=a.split c
 let a1 : AE:=if bit = 0 then { a with size:=b } else { a with ds:=(Gde a.ds b).2,size:=a.size - b }
 { a1.norm with p:=a.p.set c (Gcw (a.p.getD c 0) bit),begun:=true }
theorem Gfw (n : Nat) : Gp1 (AE.base n):=by
 intro p hp
 simp only [AE.base,List.mem_replicate] at hp
 rw [hp.2]; unfold POk; omega
theorem Ghf {p : List Nat} (h : Gp1 p) : (AE.begin p).Ok :=
 ⟨h,by intro d hd; simp [AE.begin] at hd; omega,by simp [AE.begin],by simp [AE.begin],by simp [AE.begin],by simp [AE.begin,val]⟩
theorem Gp1.getD {ps : List Nat} (h : Gp1 ps) {c : Nat} (hc : c < ps.length) : POk (ps.getD c 0):=by
 rw [List.getD_eq_getElem?_getD,List.getElem?_eq_getElem hc]
 exact h _ (List.getElem_mem _)
theorem AE.split_rng {a : AE} (h : a.Ok) {c : Nat} (hc : c < a.p.length) : 65536≤a.split c∧a.split c + 65536≤a.size:=by
 obtain ⟨p1,p2⟩:=h.ps.getD hc
 have h1:=h.s1
 have h2:=h.s2
 unfold AE.split
 generalize a.p.getD c 0 = p at *
 have hq : 4096≤a.size / 4096:=by omega
 have hm:=Nat.mul_le_mul hq p1
 have hu:=Nat.mul_le_mul_left (a.size / 4096) p2
 have hd:=Nat.div_mul_le_self a.size 4096
 generalize a.size / 4096 = q at *
 omega
theorem G6o {n : Nat} (h : 4≤n) : 256 ^ n = 4294967296 * 256 ^ (n - 4):=by
 obtain ⟨k,rfl⟩ : ∃ k,n = 4 + k:=⟨n - 4,by omega⟩
 rw [Nat.pow_add,Nat.add_sub_cancel_left]
theorem Gp1.set {ps : List Nat} (h : Gp1 ps) {c v : Nat} (hv : POk v) : Gp1 (ps.set c v):=by
 intro p hp
 rcases List.mem_or_eq_of_mem_set hp with h1 | h1
 ·exact h p h1
 ·rw [h1]; exact hv
theorem AE.add_val {a : AE} (h : a.Ok) {b : Nat} (hb : b < a.size) : val (Gde a.ds b).2 = val a.ds + b:=by
 have hv:=Gjp a.ds b
 have ht:=h.top
 have hp:=G6o h.len
 have hq : 0 < 256 ^ (a.ds.length - 4):=Nat.pow_pos (by decide)
 have hc : (Gde a.ds b).1 = 0:=by
  apply Classical.byContradiction
  intro hc
  have:=Nat.mul_le_mul_right (256 ^ a.ds.length) (show 1≤(Gde a.ds b).1 by omega)
  rw [hp] at this hv
  generalize 256 ^ (a.ds.length - 4) = q at *
  omega
 rw [hc] at hv; omega
theorem AE.put_ok {a : AE} (h : a.Ok) {c bit : Nat} (hc : c < a.p.length) : (a.put c bit).Ok:=by
 obtain ⟨r1,r2⟩:=AE.split_rng h hc
 have hps : Gp1 (a.p.set c (Gcw (a.p.getD c 0) bit)):=h.ps.set (Grr (h.ps.getD hc))
 have key : ∀ (ds : List Nat) (size : Nat),Dig ds→ds.length = a.ds.length→65536≤size→size < 4294967296→val ds + size≤4294967295 * 256 ^ (a.ds.length - 4) →
   ({ (AE.norm { a with ds:=ds,size:=size }) with p:=a.p.set c (Gcw (a.p.getD c 0) bit),begun:=true } : AE).Ok:=by
  intro ds size hd hl h1 h2 h3
  have h4:=h.len
  unfold AE.norm
  by_cases hs : size < 16777216
  ·simp only [hs,if_true]
   refine ⟨hps,?_,by simp; omega,by simp only; omega,by simp only; omega,?_⟩
   ·intro d hd'
    simp only [List.mem_append,List.mem_singleton] at hd'
    rcases hd' with h' | h'
    ·exact hd d h'
    ·omega
   ·simp only [val_append,List.length_append,List.length_cons,List.length_nil,val]
    rw [hl,show a.ds.length + 1 - 4 = (a.ds.length - 4) + 1 by omega,show 256 ^ (a.ds.length - 4 + 1) = 256 ^ (a.ds.length - 4) * 256 from Nat.pow_succ _ _]
    clear r1 r2
    generalize 256 ^ (a.ds.length - 4) = q at h3 ⊢
    omega
  ·simp only [hs,if_false]
   exact ⟨hps,hd,by simp only; omega,by simp only; omega,by simp only; omega,by simp only; rw [hl]; exact h3⟩
 have ht:=h.top
 have h2:=h.s2
 unfold AE.put
 simp only
 by_cases hb : bit = 0
 ·simp only [hb,if_true]
  subst hb
  exact key a.ds _ h.dig rfl r1 (by omega) (by omega)
 ·simp only [hb,if_false]
  exact key _ _ (Gjn _ _) (Gb7 _ _) (by omega) (by omega) (by rw [AE.add_val h (by omega)]; omega)
def Ghg : List Nat→List Nat
 | []=>[]
 | d :: ds=>match Ghg ds with
  | []=>if d = 0 then [] else [d]
  | x :: xs=>d :: x :: xs
def Gch (low size : Nat) : Nat × Bool :=
 if low = 0 then (0,false) else if low + size > 4294967296 then (0,true) else
 if (low + 16777215) / 16777216 * 16777216 < low + size then ((low + 16777215) / 16777216 * 16777216,false) else
 if (low + 65535) / 65536 * 65536 < low + size then ((low + 65535) / 65536 * 65536,false) else
 if (low + 255) / 256 * 256 < low + size then ((low + 255) / 256 * 256,false) else (low,false)
def Gf7 (out : List Nat) (low size : Nat) : List Nat :=
 (if (Gch low size).2 = true then (Gde out 1).2 else out)++Gdz (Gch low size).1
theorem Dig.app {a b : List Nat} (ha : Dig a) (hb : Dig b) : Dig (a++b):=by
 intro d hd
 rcases List.mem_append.1 hd with h | h
 ·exact ha d h
 ·exact hb d h
theorem Dig.take {a : List Nat} (ha : Dig a) (n : Nat) : Dig (a.take n):=fun d hd=>ha d (List.mem_of_mem_take hd)
theorem Dig.drop {a : List Nat} (ha : Dig a) (n : Nat) : Dig (a.drop n):=fun d hd=>ha d (List.mem_of_mem_drop hd)
section
variable {ds : List Nat} {size : Nat}
end
structure AD where
 p : List Nat
 rest : List Nat
 value : Nat
 size : Nat
def pad (D : List Nat) : Nat→List Nat
 | 0=>[]
 | n + 1=>D.headD 0 :: pad D.tail n
def AD.start (p D : List Nat) : AD:=⟨p,D.drop 4,min (val (pad D 4)) 4294967294,4294967295⟩
def AD.split (d : AD) (c : Nat) : Nat:=d.size / 4096 * d.p.getD c 0
def AD.bit (d : AD) (c : Nat) : Nat:=if d.value < d.split c then 0 else 1
def AD.norm (d : AD) : AD:=if d.size < 16777216 then { d with rest:=d.rest.tail,value:=d.value * 256 + d.rest.headD 0,size:=d.size * 256 } else d
def AD.next (d : AD) (c : Nat) : AD :=
 let d1 : AD:=if d.value < d.split c then { d with size:=d.split c } else { d with value:=d.value - d.split c,size:=d.size - d.split c }
 { d1.norm with p:=d.p.set c (Gcw (d.p.getD c 0) (d.bit c)) }
structure AD.Ok (d : AD) : Prop where
 ps : Gp1 d.p
 dig : Dig d.rest
 v : d.value < d.size
 s1 : 16777216≤d.size
 s2 : d.size < 4294967296
theorem G1x : ∀ (D : List Nat) (n : Nat),(pad D n).length = n
 | _,0=>rfl
 | D,n + 1=>by simp [pad,G1x D.tail n]
theorem Gs3 : ∀ {D : List Nat} (n : Nat),Dig D→Dig (pad D n)
 | _,0,_=>by intro d hd; simp [pad] at hd
 | [],n + 1,h=>by
  intro d hd
  simp only [pad,List.headD_nil,List.tail_nil,List.mem_cons] at hd
  rcases hd with rfl | hd
  ·decide
  ·exact Gs3 n h d hd
 | x :: D,n + 1,h=>by
  intro d hd
  simp only [pad,List.headD_cons,List.tail_cons,List.mem_cons] at hd
  rcases hd with rfl | hd
  ·exact h _ (by simp)
  ·exact Gs3 n (fun y hy=>h y (by simp [hy])) d hd
theorem Gji : ∀ (D : List Nat) (n : Nat),pad D (n + 1) = pad D n++[(D.drop n).headD 0]
 | D,0=>by simp [pad]
 | D,n + 1=>by
  rw [pad,Gji D.tail n,pad]
  simp
theorem Gwp : ∀ (D : List Nat) {n m : Nat},n≤m→pad (D.take m) n = pad D n
 | _,0,_,_=>rfl
 | [],n + 1,m,_=>by simp
 | x :: D,n + 1,m + 1,h=>by
  simp only [List.take_succ_cons,pad,List.headD_cons,List.tail_cons]
  rw [Gwp D (by omega)]
theorem G0w : ∀ n,pad [] n = List.replicate n 0
 | 0=>rfl
 | n + 1=>by simp [pad,G0w n,List.replicate_succ]
theorem Gvd : ∀ (V : List Nat),pad (Ghg V) V.length = V
 | []=>rfl
 | d :: V=>by
  have ih:=Gvd V
  rw [Ghg]
  cases ht : Ghg V with
  | nil =>
   rw [ht] at ih
   simp only
   by_cases hd : d = 0
   ·rw [if_pos hd,List.length_cons,pad]
    simp only [List.headD_nil,List.tail_nil]
    rw [ih,hd]
   ·rw [if_neg hd,List.length_cons,pad]
    simp only [List.headD_cons,List.tail_cons]
    rw [ih]
  | cons x xs =>
   rw [ht] at ih
   simp only [List.length_cons,pad,List.headD_cons,List.tail_cons]
   rw [ih]
theorem Gjs : ∀ (V : List Nat),(Ghg V).length≤V.length
 | []=>Nat.le_refl _
 | d :: V=>by
  have ih:=Gjs V
  rw [Ghg]
  split
  ·split <;> simp
  ·rename_i x xs h
   rw [h] at ih
   simp only [List.length_cons] at ih ⊢
   omega
theorem Gt5 : ∀ {V : List Nat},Dig V→Dig (Ghg V)
 | [],h=>h
 | d :: V,h=>by
  have ih:=Gt5 (V:=V) (fun x hx=>h x (by simp [hx]))
  rw [Ghg]
  split
  ·split
   ·intro x hx; simp at hx
   ·intro x hx; simp at hx; subst hx; exact h _ (by simp)
  ·rename_i x xs ht
   rw [ht] at ih
   intro y hy
   rcases List.mem_cons.1 hy with rfl | hy
   ·exact h _ (by simp)
   ·exact ih y hy
def Gb3 (a : AE) (D : List Nat) : Prop:=val a.ds≤val (pad D a.ds.length)∧val (pad D a.ds.length) < val a.ds + a.size
theorem Gb3.take {a : AE} {D : List Nat} (h : Gb3 a D) {m : Nat} (hm : a.ds.length≤m) : Gb3 a (D.take m):=by
 unfold Gb3; rw [Gwp D hm]; exact h
theorem Gfd {a : AE} {D : List Nat} (h : Gb3 a.norm D) (hD : Dig D) : Gb3 a D:=by
 unfold AE.norm at h
 split at h
 ·unfold Gb3 at h ⊢
  simp only [List.length_append,List.length_cons,List.length_nil,val_append,val] at h
  rw [Gji,val_append] at h
  simp only [List.length_cons,List.length_nil,val] at h
  have hb : (D.drop a.ds.length).headD 0 < 256:=by
   cases hx : D.drop a.ds.length with
   | nil=>simp
   | cons x r=>exact hD x (List.mem_of_mem_drop (by rw [hx]; simp))
  generalize (D.drop a.ds.length).headD 0 = y at *
  omega
 ·exact h
theorem Gtn {a : AE} (ha : a.Ok) {c bit : Nat} (hc : c < a.p.length) {D : List Nat} (hD : Dig D) (h : Gb3 (a.put c bit) D) : Gb3 a D:=by
 obtain ⟨r1,r2⟩:=AE.split_rng ha hc
 unfold AE.put at h
 simp only at h
 by_cases hb : bit = 0
 ·simp only [hb,if_true] at h
  have h2 : Gb3 { a with size:=a.split c } D:=Gfd h hD
  unfold Gb3 at h2 ⊢
  simp only at h2
  omega
 ·simp only [hb,if_false] at h
  have h2 : Gb3 { a with ds:=(Gde a.ds (a.split c)).2,size:=a.size - a.split c } D:=Gfd h hD
  unfold Gb3 at h2 ⊢
  simp only [Gb7] at h2
  rw [AE.add_val ha (by omega)] at h2
  omega
structure Gin (a : AE) (d : AD) (D : List Nat) : Prop where
 p : d.p = a.p
 rest : d.rest = D.drop a.ds.length
 value : val a.ds + d.value = val (pad D a.ds.length)
 size : d.size = a.size
theorem Grk {p D : List Nat} (h : Gb3 (AE.begin p) D) : Gin (AE.begin p) (AD.start p D) D:=by
 unfold Gb3 AE.begin at h
 simp only [List.length_cons,List.length_nil,val] at h
 refine ⟨rfl,rfl,?_,rfl⟩
 simp only [AE.begin,AD.start,List.length_cons,List.length_nil,val]
 simp only [Nat.zero_add,Nat.zero_mul,Nat.add_zero,Nat.reduceAdd] at h ⊢
 omega
theorem Gld {a : AE} {d : AD} {D : List Nat} (h : Gin a d D) : Gin a.norm d.norm D:=by
 unfold AE.norm AD.norm
 rw [h.size]
 split
 ·refine ⟨h.p,?_,?_,?_⟩
  ·simp [h.rest]
  ·simp only [List.length_append,List.length_cons,List.length_nil,val_append,val]
   rw [Gji,val_append,h.rest]
   simp only [List.length_cons,List.length_nil,val]
   have:=h.value
   omega
  ·simp
 ·exact h
theorem Gsi {a : AE} (ha : a.Ok) {d : AD} {D : List Nat} (h : Gin a d D) {c bit : Nat} (hc : c < a.p.length) (hbit : bit < 2) (hD : Dig D) (hw : Gb3 (a.put c bit) D) :
  d.bit c = bit∧Gin (a.put c bit) (d.next c) D:=by
 obtain ⟨r1,r2⟩:=AE.split_rng ha hc
 have hsp : d.split c = a.split c:=by unfold AD.split AE.split; rw [h.size,h.p]
 have hv:=h.value
 unfold AE.put at hw ⊢
 simp only at hw ⊢
 unfold AD.next AD.bit
 rw [hsp]
 by_cases hb : bit = 0
 ·subst hb
  simp only [if_true] at hw ⊢
  have h2 : Gb3 { a with size:=a.split c } D:=Gfd hw hD
  unfold Gb3 at h2
  simp only at h2
  have hlt : d.value < a.split c:=by omega
  simp only [hlt,if_true]
  have hf : Gin { a with size:=a.split c } { d with size:=a.split c } D:=⟨h.p,h.rest,h.value,rfl⟩
  have hn:=Gld hf
  refine ⟨trivial,⟨?_,hn.rest,hn.value,hn.size⟩⟩
  simp only [h.p]
 ·obtain rfl : bit = 1:=by omega
  simp only [hb,if_false] at hw ⊢
  have h2 : Gb3 { a with ds:=(Gde a.ds (a.split c)).2,size:=a.size - a.split c } D:=Gfd hw hD
  unfold Gb3 at h2
  simp only [Gb7] at h2
  rw [AE.add_val ha (by omega)] at h2
  have hlt : ¬ d.value < a.split c:=by omega
  simp only [hlt,if_false]
  have hf : Gin { a with ds:=(Gde a.ds (a.split c)).2,size:=a.size - a.split c } { d with value:=d.value - a.split c,size:=d.size - a.split c } D :=
   ⟨h.p,by simp only [Gb7]; exact h.rest,by simp only [Gb7]; rw [AE.add_val ha (by omega)]; omega,by simp only [h.size]⟩
  have hn:=Gld hf
  refine ⟨trivial,⟨?_,hn.rest,hn.value,hn.size⟩⟩
  simp only [h.p]
theorem Gs0 {a : AE} (ha : a.Ok) {out : List Nat} {low : Nat} (hds : a.ds = out++Gdz low) (hlow : low < 4294967296) : Gb3 a (Ghg (Gf7 out low a.size)):=by
 have hdig:=ha.dig
 have htop:=ha.top
 have hl:=ha.len
 rw [hds] at hdig htop hl
 have hout : Dig out:=fun d hd=>hdig d (by simp [hd])
 have hvo : val (out++Gdz low) = val out * 4294967296 + low:=by rw [val_append,Gfa,Ges]
 have h1:=ha.s1
 have h2:=ha.s2
 have hlt : (Gf7 out low a.size).length = a.ds.length:=by
  unfold Gf7; rw [hds]; split <;> simp [Gb7,Gdz]
 unfold Gb3
 rw [← hlt,Gvd,hds,hvo]
 unfold Gf7
 rw [val_append,Gfa,Ges]
 unfold Gch
 by_cases c0 : low = 0
 ·simp [c0]; omega
 by_cases c1 : low + a.size > 4294967296
 ·have hv:=Gjp out 1
  have hc0 : (Gde out 1).1 = 0:=by
   apply Classical.byContradiction
   intro hn
   have h3:=Nat.mul_le_mul_right (256 ^ out.length) (show 1≤(Gde out 1).1 by omega)
   have e : (out++Gdz low).length - 4 = out.length:=by simp [Gdz]
   rw [hvo,e] at htop
   have : 0 < 256 ^ out.length:=Nat.pow_pos (by decide)
   generalize 256 ^ out.length = q at *
   omega
  rw [hc0] at hv
  simp [c0,c1]; omega
 simp only [c0,c1,if_false]
 split
 ·simp only [Bool.false_eq_true,if_false]; omega
 split
 ·simp only [Bool.false_eq_true,if_false]; omega
 split
 ·simp only [Bool.false_eq_true,if_false]; omega
 ·simp only [Bool.false_eq_true,if_false]; omega
theorem AD.start_ok {p D : List Nat} (hp : Gp1 p) (hD : Dig D) : (AD.start p D).Ok :=
 ⟨hp,hD.drop 4,by simp only [AD.start]; omega,by simp [AD.start],by simp [AD.start]⟩
theorem AD.split_rng {d : AD} (h : d.Ok) {c : Nat} (hc : c < d.p.length) : 65536≤d.split c∧d.split c + 65536≤d.size:=by
 obtain ⟨p1,p2⟩:=h.ps.getD hc
 have h1:=h.s1
 have h2:=h.s2
 unfold AD.split
 generalize d.p.getD c 0 = p at *
 have hq : 4096≤d.size / 4096:=by omega
 have hm:=Nat.mul_le_mul hq p1
 have hu:=Nat.mul_le_mul_left (d.size / 4096) p2
 have hd:=Nat.div_mul_le_self d.size 4096
 generalize d.size / 4096 = q at *
 omega
theorem Ghs {r : List Nat} (h : Dig r) : r.headD 0 < 256:=by
 cases r with
 | nil=>simp
 | cons x r=>exact h x (by simp)
theorem Dig.tail {r : List Nat} (h : Dig r) : Dig r.tail:=fun x hx=>h x (List.mem_of_mem_tail hx)
theorem AD.next_ok {d : AD} (h : d.Ok) {c : Nat} (hc : c < d.p.length) : (d.next c).Ok:=by
 obtain ⟨r1,r2⟩:=AD.split_rng h hc
 have hh:=Ghs h.dig
 have hv:=h.v
 have h1:=h.s1
 have h2:=h.s2
 have hps : Gp1 (d.p.set c (Gcw (d.p.getD c 0) (d.bit c))):=h.ps.set (Grr (h.ps.getD hc))
 unfold AD.next AD.norm
 simp only
 split
 ·simp only
  split
  ·exact ⟨hps,h.dig.tail,by simp only; omega,by simp only; omega,by simp only; omega⟩
  ·exact ⟨hps,h.dig,by simp only; omega,by simp only; omega,by simp only; omega⟩
 ·simp only
  split
  ·exact ⟨hps,h.dig.tail,by simp only; omega,by simp only; omega,by simp only; omega⟩
  ·exact ⟨hps,h.dig,by simp only; omega,by simp only; omega,by simp only; omega⟩
def nI (xs : List Nat) : List Value:=xs.map fun (x : Nat)=>.int .i64 x
def nU (xs : List Nat) : List Value:=xs.map fun (x : Nat)=>.int .u8 x
theorem Gul (xs : List Nat) : (nI xs).length = xs.length:=by simp [nI]
theorem Gwy (xs : List Nat) : (nU xs).length = xs.length:=by simp [nU]
theorem Gpx {xs : List Nat} {i : Nat} (h : i < xs.length) : (nI xs)[i]? = some (.int .i64 (xs.getD i 0 : Nat)):=by simp [nI,h]
theorem Gmw {xs : List Nat} {i : Nat} (h : i < xs.length) : (nU xs)[i]? = some (.int .u8 (xs.getD i 0 : Nat)):=by simp [nU,h]
theorem G6w {xs : List Nat} {i v : Nat} : (nI xs).set i (.int .i64 (v : Nat)) = nI (xs.set i v):=by simp [nI,List.map_set]
theorem nU_set {xs : List Nat} {i v : Nat} : (nU xs).set i (.int .u8 (v : Nat)) = nU (xs.set i v):=by simp [nU,List.map_set]
theorem Ge6 {α : Type} {C : List α} {i : Nat} {v : α} (h : C[i]? = some v) : ∀ hh : i < C.length,C[i]'hh = v:=fun hh=>by
 rw [List.getElem?_eq_getElem hh] at h; exact Option.some.inj h
structure EP (h : Gag) (e pb : Nat) (o : Value) (p out : List Nat) (low size : Nat) (begun : Bool) : Prop where
 blk : blk? h e = some ⟨false,[.slice (some ⟨pb,0,none⟩) p.length 1,o,.int .i64 (low : Nat),.int .i64 (size : Nat),.bool begun]⟩
 pblk : blk? h pb = some ⟨false,nI p⟩
 own : Ga7 h 1 o out.length (nU out)
 ne1 : e ≠ pb
 ne2 : sid o ≠ some e
 ne3 : sid o ≠ some pb
structure EF (h h' : Gag) (e pb : Nat) (o o' : Value) : Prop where
 len : h.length≤h'.length
 same : ∀ id,id < h.length→id ≠ e→id ≠ pb→sid o ≠ some id→blk? h' id = blk? h id
 fresh : ∀ id,sid o' = some id→sid o = some id∨(h.length≤id∧id < h'.length)
theorem EF.refl (h : Gag) (e pb : Nat) (o : Value) : EF h h e pb o o:=⟨Nat.le_refl _,fun _ _ _ _ _=>rfl,fun _ h=>.inl h⟩
theorem EF.trans {h1 h2 h3 : Gag} {e pb : Nat} {o1 o2 o3 : Value} (a : EF h1 h2 e pb o1 o2) (b : EF h2 h3 e pb o2 o3) : EF h1 h3 e pb o1 o3:=by
 refine ⟨Nat.le_trans a.len b.len,fun id h0 h1' h2' h3'=>?_,fun id hid=>?_⟩
 ·rw [b.same id (by have:=a.len; omega) h1' h2' (fun hx=>?_),a.same id h0 h1' h2' h3']
  rcases a.fresh id hx with h | h
  ·exact h3' h
  ·omega
 ·rcases b.fresh id hid with h | h
  ·rcases a.fresh id h with h' | h'
   ·exact .inl h'
   ·have:=b.len; exact .inr ⟨h'.1,by omega⟩
  ·have:=a.len; exact .inr ⟨by omega,h.2⟩
section
variable {h : Gag} {R : RP} {e pb : Nat} {o : Value} {p out : List Nat} {low size : Nat} {begun : Bool}
theorem Ghd (I : EP h e pb o p out low size begun) (hp : 0 < p.length) : Ret tab 83 [ptr e] h R = R (.bool true) h:=by
 have h1:=I.blk
 rw [Qbf,B83]
 simp [Gaa,h1,hp,fin83]
theorem Qd9 {q : Nat} {cs : List Value} {n c : Nat} {z : Nat} (h1 : blk? h q = some ⟨false,.slice (some ⟨z,0,none⟩) n 1 :: cs⟩) : Ret tab 234 [ptr q,.int .i64 (c : Nat)] h R = R (.bool (decide (c < n))) h:=by
 rw [Gur,Qe8]
 by_cases hc : c < n
 ·simp [Gaa,h1,hc,Gwv]
 ·simp [Gaa,h1,hc,Gwv]
theorem Gyz {q : Nat} {cs : List Value} {c : Nat} {z size : Nat} (h1 : blk? h q = some ⟨false,.slice (some ⟨z,0,none⟩) p.length 1 :: cs⟩) (h2 : blk? h z = some ⟨false,nI p⟩) (hc : c < p.length) (hpc : p.getD c 0≤4096) (hs : size < 4294967296) :
  Ret tab 235 [ptr q,.int .i64 (c : Nat),.int .i64 (size : Nat)] h R = R (.int .i64 (size / 4096 * p.getD c 0 : Nat)) h:=by
 have g:=Gpx hc
 have d : ((size : Int)).tdiv 4096 = ((size / 4096 : Nat) : Int):=by rw [Int.tdiv_eq_ediv_of_nonneg (by omega)]; omega
 have w1 : IntKind.i64.wrap ((size / 4096 : Nat) : Int) = ((size / 4096 : Nat) : Int):=Gbc (by omega)
 have hm:=Nat.mul_le_mul (show size / 4096≤1048576 by omega) hpc
 generalize hx : p.getD c 0 = x at *
 have w2 : IntKind.i64.wrap (((size / 4096 : Nat) : Int) * (x : Int)) = ((size / 4096 * x : Nat) : Int):=by
  rw [← Int.natCast_mul]; exact Gbc (by omega)
 generalize ((size / 4096 * x : Nat) : Int) = y at *
 generalize hz : ((size / 4096 : Nat) : Int) = z' at *
 generalize nI p = C at *
 rw [G4n,B235]
 simp [-Int.natCast_ediv,h1,h2,hc,g,d,w1,w2,fin235]
theorem G56 {x b : Nat} (hx : POk x) (hb : b < 2) : Ret tab 237 [.int .i64 (x : Nat),.int .i64 (b : Nat)] h R = R (.int .i64 (Gcw x b : Nat)) h:=by
 obtain ⟨h1,h2⟩:=hx
 have n1 : ¬ ((x : Int) < 0):=by omega
 have n2 : ¬ ((4096 : Int) < x):=by omega
 rw [G4g,B237]
 unfold Gcw
 by_cases hb0 : b = 0
 ·subst hb0
  have w1 : IntKind.i64.wrap (4096 - (x : Int)) = 4096 - (x : Int):=Gan (by omega) (by omega)
  have d : (4096 - (x : Int)).tdiv 32 = (4096 - (x : Int)) / 32:=Int.tdiv_eq_ediv_of_nonneg (by omega)
  have w2 : IntKind.i64.wrap ((4096 - (x : Int)) / 32) = (4096 - (x : Int)) / 32:=Gan (by omega) (by omega)
  have w3 : IntKind.i64.wrap ((x : Int) + (4096 - (x : Int)) / 32) = ((x + (4096 - x) / 32 : Nat) : Int):=by rw [Gan (by omega) (by omega)]; omega
  rw [if_pos rfl]
  generalize ((x + (4096 - x) / 32 : Nat) : Int) = y at *
  simp [Gaa,n1,n2,w1,d,w2,w3,G7d]
 ·obtain rfl : b = 1:=by omega
  have d : ((x : Int)).tdiv 32 = (x : Int) / 32:=Int.tdiv_eq_ediv_of_nonneg (by omega)
  have w2 : IntKind.i64.wrap ((x : Int) / 32) = (x : Int) / 32:=Gan (by omega) (by omega)
  have w3 : IntKind.i64.wrap ((x : Int) - (x : Int) / 32) = ((x - x / 32 : Nat) : Int):=by rw [Gan (by omega) (by omega)]; omega
  rw [if_neg (by omega)]
  generalize ((x - x / 32 : Nat) : Int) = y at *
  simp [Gaa,n1,n2,d,w2,w3,G7d]
theorem Gza {q : Nat} {cs : List Value} {c b : Nat} {z : Nat} (h1 : blk? h q = some ⟨false,.slice (some ⟨z,0,none⟩) p.length 1 :: cs⟩) (h2 : blk? h z = some ⟨false,nI p⟩) (hne : q ≠ z) (hc : c < p.length) (hp : Gp1 p) (hb : b < 2) :
  Ret tab 236 [ptr q,.int .i64 (c : Nat),.int .i64 (b : Nat)] h R = R (.tuple #[]) (h.set z (some ⟨false,nI (p.set c (Gcw (p.getD c 0) b))⟩)):=by
 have g:=Gpx hc
 have ha:=fun H R=>G56 (h:=H) (R:=R) (hp.getD hc) hb
 have hs:=G6w (xs:=p) (i:=c) (v:=Gcw (p.getD c 0) b)
 have hl : c + 1≤(nI p).length:=by rw [Gul]; exact hc
 have hz:=blk?_lt h2
 have hl1 : blk? (h.set z (some ⟨false,nI (p.set c (Gcw (p.getD c 0) b))⟩)) q = some ⟨false,.slice (some ⟨z,0,none⟩) p.length 1 :: cs⟩:=by rw [blk?_set_ne (Ne.symm hne)]; exact h1
 have g':=Ge6 g
 generalize p.set c (Gcw (p.getD c 0) b) = p' at *
 generalize Gcw (p.getD c 0) b = v at *
 generalize p.getD c 0 = x at *
 generalize nI p = C at *
 rw [G37,B236]
 simp [book,Gd0,Gb5,Ghw,Gbq,Gcg,h1,h2,hc,g,g',ha,hl,hs,hl1,fin236]
theorem Gny : ∀ (n : Nat),Gde (List.replicate n 255) 1 = (1,List.replicate n 0)
 | 0=>rfl
 | n + 1=>by rw [List.replicate_succ,Gde,Gny n,List.replicate_succ]; simp
theorem Gxh {id n : Nat} {xs : List Nat} (hd : Dig xs) (hid : id < h.length) (hl : xs.length < 1000000000) {k : List Ga1} {res : Prop}
  (hr : R (.tuple #[]) (h.set id (some ⟨false,nU (Gde xs 1).2⟩)) = res)
  (hk : ∀ K1 K2 K3 K4 K5 K6 K7 K8 K9 Ka Kb Kc Kd Ke Kf Kg Kh Ki Kj Kk : Value,Ok tab Qbe k #[.slice (some ⟨id,0,none⟩) xs.length 1,K1,K2,K3,K4,K5,K6,K7,K8,K9,Ka,Kb,Kc,Kd,Ke,Kf,Kg,Kh,Ki,Kj,Kk] (h.set id (some ⟨false,nU (Gde xs 1).2⟩)) R = res) :
  ∀ (i m : Nat) (K1 K3 K4 K5 K6 K7 K8 K9 Ka Kb Kc Kd Ke Kf Kg Kh Ki Kj Kk : Value),i + m = xs.length→xs.drop i = List.replicate m 255 →
   Ok tab Qbe (.inLoop Gvj :: .inBlock 0 :: k) #[.slice (some ⟨id,0,none⟩) xs.length 1,K1,.int .i64 ((i : Int) - 1),K3,K4,K5,K6,K7,K8,K9,Ka,Kb,Kc,Kd,Ke,Kf,Kg,Kh,Ki,Kj,Kk] (h.set id (some ⟨false,nU (xs.take i++List.replicate m 0)⟩)) R = res:=by
 intro i
 induction i with
 | zero =>
  intro m;intros;rename_i him hdr
  rw [List.drop_zero] at hdr
  have e : (Gde xs 1).2 = List.replicate m 0:=by rw [hdr,Gny]
  have hk':=fun K1 K2 K3 K4 K5 K6 K7 K8 K9 Ka Kb Kc Kd Ke Kf Kg Kh Ki Kj Kk=>hk K1 K2 K3 K4 K5 K6 K7 K8 K9 Ka Kb Kc Kd Ke Kf Kg Kh Ki Kj Kk
  rw [e] at hk'
  rw [Gad,Gtu,Gh6,Gjx]
  simp [hk']
 | succ i ih =>
  intro m;intros;rename_i him hdr
  have hi : i < xs.length:=by omega
  have hx : xs.drop i = xs[i] :: xs.drop (i + 1):=List.drop_eq_getElem_cons hi
  have hlt : xs[i] < 256:=hd _ (List.getElem_mem hi)
  have hbk : blk? (h.set id (some ⟨false,nU (xs.take (i + 1)++List.replicate m 0)⟩)) id = some ⟨false,nU (xs.take (i + 1)++List.replicate m 0)⟩:=blk?_set_eq hid
  have hcl : (xs.take (i + 1)++List.replicate m 0).length = xs.length:=by simp; omega
  have hil : i < (xs.take (i + 1)++List.replicate m 0).length:=by omega
  have hg : (nU (xs.take (i + 1)++List.replicate m 0))[i]? = some (.int .u8 (xs[i] : Nat)):=by
   rw [Gmw hil,List.getD_eq_getElem?_getD,List.getElem?_append_left (by simp; omega),List.getElem?_take,if_pos (by omega),List.getElem?_eq_getElem hi]; rfl
  have c1 : (((i + 1 : Nat) : Int) - 1) = (i : Int):=by omega
  have w1 : IntKind.i64.wrap ((i : Int) - 1) = (i : Int) - 1:=Gan (by omega) (by omega)
  have wu : IntKind.u8.wrap ((xs[i] : Int) + 1) = (((xs[i] + 1) % 256 : Nat) : Int):=by
   rw [IntKind.wrap_u8]; omega
  have hil2 : i + 1≤(nU (xs.take (i + 1)++List.replicate m 0)).length:=by rw [Gwy]; exact hil
  have hst:=nU_set (xs:=xs.take (i + 1)++List.replicate m 0) (i:=i) (v:=(xs[i] + 1) % 256)
  have hlist : (xs.take (i + 1)++List.replicate m 0).set i ((xs[i] + 1) % 256) = xs.take i++((xs[i] + 1) % 256) :: List.replicate m 0:=by
   rw [List.take_succ_eq_append_getElem hi,List.append_assoc,List.set_append_right _ _ (by simp; omega)]
   simp [Nat.min_eq_left (show i≤xs.length by omega)]
  rw [hlist] at hst
  rw [c1]
  by_cases h255 : xs[i] = 255
  ·have hz : (xs[i] + 1) % 256 = 0:=by omega
   rw [hz] at hst wu
   have ih':=fun K1 K3 K4 K5 K6 K7 K8 K9 Ka Kb Kc Kd Ke Kf Kg Kh Ki Kj Kk=>ih (m + 1) K1 K3 K4 K5 K6 K7 K8 K9 Ka Kb Kc Kd Ke Kf Kg Kh Ki Kj Kk (by omega) (by rw [hx,hdr,h255,List.replicate_succ])
   rw [List.replicate_succ] at ih'
   generalize hA : xs.take i++0 :: List.replicate m 0 = A at *
   have hbk2 : blk? (h.set id (some ⟨false,nU A⟩)) id = some ⟨false,nU A⟩:=blk?_set_eq hid
   have hg2 : (nU A)[i]? = some (.int .u8 0):=by
    rw [Gmw (by rw [← hA]; simp; omega),← hA,List.getD_eq_getElem?_getD,List.getElem?_append_right (by simp; omega)]
    simp [Nat.min_eq_left (show i≤xs.length by omega)]
   generalize nU (xs.take (i + 1)++List.replicate m 0) = C at *
   generalize nU A = C2 at *
   have wu' : IntKind.u8.wrap ((xs[i] : Int) + 1) = 0:=wu
   have hst' : C.set i (.int .u8 0) = C2:=hst
   rw [Gad,Gtu,Gh6,Gjx]
   have g1:=Ge6 hg
   have g2:=Ge6 hg2
   have hlc : i < C2.length:=by rw [← hst',List.length_set]; omega
   generalize ((xs[i] : Nat) : Int) = xi at *
   simp [hi,hbk,hg,g1,wu',hil2,hst',hbk2,hg2,g2,w1,ih']
  ·have hz : (xs[i] + 1) % 256 = xs[i] + 1:=by omega
   rw [hz] at hst wu
   have e : (Gde xs 1).2 = xs.take i++(xs[i] + 1) :: List.replicate m 0:=by
    have hxs : xs = xs.take i++xs[i] :: List.replicate m 255:=by rw [← hdr,← hx,List.take_append_drop]
    have h1 : Gde (xs[i] :: List.replicate m 255) 1 = (0,(xs[i] + 1) :: List.replicate m 0):=by
     rw [Gde,Gny]
     simp only
     rw [Nat.add_comm 1,Nat.div_eq_of_lt (by omega),Nat.mod_eq_of_lt (by omega)]
    have hdt : Dig (xs.take i):=hd.take i
    have h2 : Gde xs 1 = Gde (xs.take i++xs[i] :: List.replicate m 255) 1:=congrArg (Gde · 1) hxs
    rw [h2,Gg5,h1]
    simp only
    rw [Gke hdt]
   have hk2:=hr
   rw [e] at hk2
   generalize hA : xs.take i++(xs[i] + 1) :: List.replicate m 0 = A at *
   have hbk2 : blk? (h.set id (some ⟨false,nU A⟩)) id = some ⟨false,nU A⟩:=blk?_set_eq hid
   have hg2 : (nU A)[i]? = some (.int .u8 ((xs[i] + 1 : Nat) : Int)):=by
    rw [Gmw (by rw [← hA]; simp; omega),← hA,List.getD_eq_getElem?_getD,List.getElem?_append_right (by simp; omega)]
    simp [Nat.min_eq_left (show i≤xs.length by omega)]
   have hnz : ((xs[i] + 1 : Nat) : Int) ≠ 0:=by omega
   have hnz' : (((xs[i] + 1 : Nat) : Int) != 0) = true:=by simp; omega
   generalize ((xs[i] + 1 : Nat) : Int) = v1 at *
   generalize nU (xs.take (i + 1)++List.replicate m 0) = C at *
   generalize nU A = C2 at *
   rw [Gad,Gtu,Gh6,Gjx]
   have g1:=Ge6 hg
   have g2:=Ge6 hg2
   have hlc : i < C2.length:=by rw [← hst,List.length_set]; omega
   generalize ((xs[i] : Nat) : Int) = xi at *
   simp [hi,hbk,hg,g1,wu,hil2,hst,hbk2,hg2,g2,hnz,hnz',hk2,Gzz]
theorem Gyx {o : Value} {xs : List Nat} (ho : Ga7 h 1 o xs.length (nU xs)) (hd : Dig xs) (hl : xs.length < 1000000000) :
  ∃ h',(∀ R,Ret tab 233 [o] h R = R (.tuple #[]) h')∧Ga7 h' 1 o xs.length (nU (Gde xs 1).2)∧h'.length = h.length∧∀ id,sid o ≠ some id→blk? h' id = blk? h id:=by
 rcases ho.2 with ⟨rfl,h0⟩ | ⟨id,rfl,hb⟩
 ·have hx : xs = []:=List.eq_nil_of_length_eq_zero h0
  subst hx
  refine ⟨h,fun R=>?_,Ga7.nil _ _,rfl,fun _ _=>rfl⟩
  rw [Gt3,Qe9]
  have w0 : IntKind.i64.wrap (-1) = -1:=Gan (by omega) (by omega)
  simp [Gad,Gtu,Gh6,w0,Gzz]
 ·have hid:=blk?_lt hb
  have e0 : h.set id (some ⟨false,nU (xs.take xs.length++List.replicate 0 0)⟩) = h:=by
   rw [List.take_length,List.replicate_zero,List.append_nil]
   unfold blk? at hb
   split at hb
   ·rename_i b hx
    injection hb with hb
    subst hb
    obtain ⟨hlt,hg⟩:=List.getElem?_eq_some_iff.1 hx
    rw [← hg,List.set_getElem_self]
   ·cases hb
  refine ⟨h.set id (some ⟨false,nU (Gde xs 1).2⟩),fun R=>?_,⟨by rw [Gwy,Gb7,Nat.mul_one],.inr ⟨id,rfl,blk?_set_eq hid⟩⟩,by simp,fun j hj=>blk?_set_ne (fun e=>hj (by rw [e]; rfl))⟩
  have hL:=fun K1 K3 K4 K5 K6 K7 K8 K9 Ka Kb Kc Kd Ke Kf Kg Kh Ki Kj Kk=>Gxh (R:=R) (id:=id) (n:=0) hd hid hl (k:=[]) (res:=R (.tuple #[]) (h.set id (some ⟨false,nU (Gde xs 1).2⟩))) rfl
   (fun K1 K2 K3 K4 K5 K6 K7 K8 K9 Ka Kb Kc Kd Ke Kf Kg Kh Ki Kj Kk=>by simp [Gzz]) xs.length 0 K1 K3 K4 K5 K6 K7 K8 K9 Ka Kb Kc Kd Ke Kf Kg Kh Ki Kj Kk (by omega) (by rw [List.drop_length]; rfl)
  rw [e0] at hL
  have w1 : IntKind.i64.wrap ((xs.length : Int) - 1) = (xs.length : Int) - 1:=Gan (by omega) (by omega)
  rw [Gt3,Qe9]
  simp [w1,hL]
end
structure EA (h : Gag) (e pb : Nat) (o : Value) (out : List Nat) (low : Nat) (a : AE) : Prop where
 ep : EP h e pb o a.p out low a.size a.begun
 ds : a.ds = out++Gdz low
 lt : low < 4294967296
 ok : a.Ok
 pos : 0 < a.p.length
theorem EA.dig {h : Gag} {e pb : Nat} {o : Value} {out : List Nat} {low : Nat} {a : AE} (I : EA h e pb o out low a) : Dig out:=by
 have:=I.ok.dig
 rw [I.ds] at this
 exact fun d hd=>this d (by simp [hd])
section
variable {h : Gag} {R : RP} {e pb : Nat} {o : Value} {p out : List Nat} {low size : Nat} {begun : Bool}
theorem EP.set (I : EP h e pb o p out low size begun) (low' size' : Nat) (begun' : Bool) :
  EP (h.set e (some ⟨false,[.slice (some ⟨pb,0,none⟩) p.length 1,o,.int .i64 (low' : Nat),.int .i64 (size' : Nat),.bool begun']⟩)) e pb o p out low' size' begun' ∧
  EF h (h.set e (some ⟨false,[.slice (some ⟨pb,0,none⟩) p.length 1,o,.int .i64 (low' : Nat),.int .i64 (size' : Nat),.bool begun']⟩)) e pb o o:=by
 have he:=blk?_lt I.blk
 refine ⟨⟨blk?_set_eq he,by rw [blk?_set_ne I.ne1]; exact I.pblk,I.own.of_blk fun id hid hb=>by rw [blk?_set_ne (fun x=>I.ne2 (by rw [x]; exact hid))]; exact hb,I.ne1,I.ne2,I.ne3⟩,
  ⟨by simp,fun id _ h1 _ _=>blk?_set_ne (Ne.symm h1),fun id hid=>.inl hid⟩⟩
theorem G95 {n : Nat} (h0 : n < 4294967296) : Gxo .i64 (n : Int) 24 = ((n / 16777216 : Nat) : Int)∧IntKind.u8.wrap ((n / 16777216 : Nat) : Int) = ((n / 16777216 : Nat) : Int) ∧
  Qa7 .i64 (Gmf .i64 (n : Int) 8) 4294967295 = ((n * 256 % 4294967296 : Nat) : Int):=by
 refine ⟨?_,?_,?_⟩
 ·have:=G8g (i:=.i64) (a:=n) (b:=24) (by decide)
  simpa using this
 ·rw [IntKind.wrap_u8]; omega
 ·have e1 : Gmf .i64 (n : Int) 8 = ((n * 256 : Nat) : Int):=by
   unfold Gmf
   have : min (8 : Int).toNat IntKind.i64.bits = 8:=by decide
   rw [this]
   have e2 : ((n : Int) * 2 ^ 8) = ((n * 256 : Nat) : Int):=by omega
   rw [e2]; exact Gbc (by omega)
  rw [e1]
  unfold Qa7
  have e3 : (BitVec.ofInt IntKind.i64.bits ((n * 256 : Nat) : Int) &&& BitVec.ofInt IntKind.i64.bits 4294967295).toNat = n * 256 % 4294967296:=by
   rw [BitVec.toNat_and]
   have a1 : (BitVec.ofInt IntKind.i64.bits ((n * 256 : Nat) : Int)).toNat = n * 256:=by
    rw [BitVec.ofInt_natCast,BitVec.toNat_ofNat]
    exact Nat.mod_eq_of_lt (by show n * 256 < 2 ^ 64; omega)
   have a2 : (BitVec.ofInt IntKind.i64.bits 4294967295).toNat = 2 ^ 32 - 1:=by decide
   rw [a1,a2,Nat.and_two_pow_sub_one_eq_mod]
  rw [e3]
  exact Gbc (by omega)
theorem app1v {H : Gag} {s v : Value} {n bytes : Nat} {cs : List Value} (ho : Ga7 H 1 s n cs) (hn : n + 1≤Gaq) (hb : bytes≤4096) :
  ∃ H1,Gb0 (H++[some ⟨false,[v]⟩]) 1 bytes s (.slice (some ⟨H.length,0,none⟩) 1 1) = some (.slice (some ⟨H.length + 1,0,none⟩) (n + 1) 1,H1) ∧
   blk? H1 (H.length + 1) = some ⟨false,cs++[v]⟩∧H1.length = H.length + 2∧∀ id,id < H.length→sid s ≠ some id→blk? H1 id = blk? H id:=by
 have ho' : Ga7 (H++[some ⟨false,[v]⟩]) 1 s n cs:=ho.of_blk fun id hid hb=>by rw [blk?_push_lt (blk?_lt hb)]; exact hb
 have ht : Sl (H++[some ⟨false,[v]⟩]) 1 (.slice (some ⟨H.length,0,none⟩) 1 1) 1 [v]:=⟨rfl,.inr ⟨H.length,0,rfl,.inr ⟨_,blk?_push_eq,by simp,by simp⟩⟩⟩
 obtain ⟨H1,e,hb,hl,hk⟩:=Gbs ho' ht hn hb (by omega)
 have hlen : (H++[some (⟨false,[v]⟩ : Blk)]).length = H.length + 1:=by simp
 rw [hlen] at e hb hl hk
 exact ⟨H1,e,hb,hl,fun id hid hne=>by rw [hk id (by omega) hne,blk?_push_lt hid]⟩
theorem Gw7 {low : Nat} (h : low < 4294967296) : low / 16777216 :: Gdz (low * 256 % 4294967296) = Gdz low++[0]:=by
 have a1 : low * 256 % 4294967296 / 16777216 = low / 65536 % 256:=by omega
 have a2 : low * 256 % 4294967296 / 65536 % 256 = low / 256 % 256:=by omega
 have a3 : low * 256 % 4294967296 / 256 % 256 = low % 256:=by omega
 have a4 : low * 256 % 4294967296 % 256 = 0:=by omega
 simp only [Gdz,List.cons_append,List.nil_append,a1,a2,a3,a4]
theorem norm_c (I : EP h e pb o p out low size begun) (hl : low < 4294967296) (h1 : 65536≤size) (h2 : size < 4294967296) (hol : out.length < 1000000000) {v1 v2 : Value} :
  ∃ h' o' out' low' size',EP h' e pb o' p out' low' size' begun∧EF h h' e pb o o'∧low' < 4294967296∧out'.length≤out.length + 1 ∧
   out'++Gdz low' = (if size < 16777216 then out++Gdz low++[0] else out++Gdz low)∧size' = (if size < 16777216 then size * 256 else size) ∧
   ∀ (k : List Ga1) (K3 K4 K5 K6 K7 K8 K9 Ka Kb Kc Kd Ke Kf Kg Kh Ki Kj Kk Kl Km Kn Ko Kp Kq Kr Ks Kt Ku Kv Kw Kx Ky Kz J0 J1 J2 J3 J4 J5 J6 J7 J8 J9 Ja Jb Jc Jd Je Jf Jg Jh Ji Jj Jk Jl Jm Jn Jo Jp Jq Jr Js Jt Ju Jv Jw Jx Jy Jz Y0 Y1 Y2 Y3 Y4 Y5 Y6 Y7 Y8 Y9 Ya Yb Yc Yd Ye Yf Yg Yh Yi Yj Yk Yl Ym Yn Yo Yp Yq Yr Ys Yt Yu Yv Yw Yx Yy Yz Z0 Z1 Z2 Z3 Z4 Z5 Z6 Z7 Z8 Z9 : Value),(∀ K3 K4 K5 K6 K7 K8 K9 Ka Kb Kc Kd Ke Kf Kg Kh Ki Kj Kk Kl Km Kn Ko Kp Kq Kr Ks Kt Ku Kv Kw Kx Ky Kz J0 J1 J2 J3 J4 J5 J6 J7 J8 J9 Ja Jb Jc Jd Je Jf Jg Jh Ji Jj Jk Jl Jm Jn Jo Jp Jq Jr Js Jt Ju Jv Jw Jx Jy Jz Y0 Y1 Y2 Y3 Y4 Y5 Y6 Y7 Y8 Y9 Ya Yb Yc Yd Ye Yf Yg Yh Yi Yj Yk Yl Ym Yn Yo Yp Yq Yr Ys Yt Yu Yv Yw Yx Yy Yz Z0 Z1 Z2 Z3 Z4 Z5 Z6 Z7 Z8 Z9 : Value,Ok tab G2i k #[ptr e,v1,v2,K3,K4,K5,K6,K7,K8,K9,Ka,Kb,Kc,Kd,Ke,Kf,Kg,Kh,Ki,Kj,Kk,Kl,Km,Kn,Ko,Kp,Kq,Kr,Ks,Kt,Ku,Kv,Kw,Kx,Ky,Kz,J0,J1,J2,J3,J4,J5,J6,J7,J8,J9,Ja,Jb,Jc,Jd,Je,Jf,Jg,Jh,Ji,Jj,Jk,Jl,Jm,Jn,Jo,Jp,Jq,Jr,Js,Jt,Ju,Jv,Jw,Jx,Jy,Jz,Y0,Y1,Y2,Y3,Y4,Y5,Y6,Y7,Y8,Y9,Ya,Yb,Yc,Yd,Ye,Yf,Yg,Yh,Yi,Yj,Yk,Yl,Ym,Yn,Yo,Yp,Yq,Yr,Ys,Yt,Yu,Yv,Yw,Yx,Yy,Yz,Z0,Z1,Z2,Z3,Z4,Z5,Z6,Z7,Z8,Z9] h' R) →
    Ok tab G2i (.inLoop Gq2 :: .inBlock 0 :: k) #[ptr e,v1,v2,K3,K4,K5,K6,K7,K8,K9,Ka,Kb,Kc,Kd,Ke,Kf,Kg,Kh,Ki,Kj,Kk,Kl,Km,Kn,Ko,Kp,Kq,Kr,Ks,Kt,Ku,Kv,Kw,Kx,Ky,Kz,J0,J1,J2,J3,J4,J5,J6,J7,J8,J9,Ja,Jb,Jc,Jd,Je,Jf,Jg,Jh,Ji,Jj,Jk,Jl,Jm,Jn,Jo,Jp,Jq,Jr,Js,Jt,Ju,Jv,Jw,Jx,Jy,Jz,Y0,Y1,Y2,Y3,Y4,Y5,Y6,Y7,Y8,Y9,Ya,Yb,Yc,Yd,Ye,Yf,Yg,Yh,Yi,Yj,Yk,Yl,Ym,Yn,Yo,Yp,Yq,Yr,Ys,Yt,Yu,Yv,Yw,Yx,Yy,Yz,Z0,Z1,Z2,Z3,Z4,Z5,Z6,Z7,Z8,Z9] h R:=by
 have hb:=I.blk
 by_cases hs : size < 16777216
 ·obtain ⟨q1,q2,q3⟩:=G95 hl
  obtain ⟨H1,ha,hb1,hlen1,hk1⟩:=app1v (v:=.int .u8 ((low / 16777216 : Nat) : Int)) (bytes:=1) I.own (by unfold Gaq; omega) (by omega)
  have he:=blk?_lt I.blk
  have heH : e < H1.length:=by omega
  have hbe : blk? H1 e = some ⟨false,[.slice (some ⟨pb,0,none⟩) p.length 1,o,.int .i64 (low : Nat),.int .i64 (size : Nat),.bool begun]⟩:=by rw [hk1 e he I.ne2]; exact hb
  have hse : ∀ x,blk? (H1.set e x) e = x:=fun x=>blk?_set_eq heH
  have hS : Gmf .i64 (size : Int) 8 = ((size * 256 : Nat) : Int):=by
   unfold Gmf
   have : min (8 : Int).toNat IntKind.i64.bits = 8:=by decide
   rw [this]
   have e2 : ((size : Int) * 2 ^ 8) = ((size * 256 : Nat) : Int):=by omega
   rw [e2]; exact Gbc (by omega)
  have hlt : ((size : Int) < 16777216):=by omega
  have hge : ¬ (((size * 256 : Nat) : Int) < 16777216):=by omega
  refine ⟨H1.set e (some ⟨false,[.slice (some ⟨pb,0,none⟩) p.length 1,.slice (some ⟨h.length + 1,0,none⟩) (out.length + 1) 1,.int .i64 ((low * 256 % 4294967296 : Nat) : Int),.int .i64 ((size * 256 : Nat) : Int),.bool begun]⟩),.slice (some ⟨h.length + 1,0,none⟩) (out.length + 1) 1,out++[low / 16777216],low * 256 % 4294967296,size * 256,?_,?_,Nat.mod_lt _ (by decide),by simp,?_,by rw [if_pos hs],?_⟩
  ·have hpb:=blk?_lt I.pblk
   refine ⟨hse _,by rw [blk?_set_ne I.ne1,hk1 pb hpb I.ne3]; exact I.pblk,⟨by simp [nU],.inr ⟨h.length + 1,by simp,?_⟩⟩,I.ne1,by simp [sid]; omega,by simp [sid]; omega⟩
   rw [blk?_set_ne (by omega),hb1]; simp [nU]
  ·refine ⟨by simp; omega,fun id hid h3 h4 h5=>by rw [blk?_set_ne (Ne.symm h3),hk1 id hid h5],fun id hid=>?_⟩
   simp [sid] at hid
   subst hid
   right; simp; omega
  ·rw [if_pos hs,List.append_assoc,List.singleton_append,Gw7 hl,List.append_assoc]
  ·intro k;intros;rename_i hk
   generalize ((low * 256 % 4294967296 : Nat) : Int) = low' at *
   generalize ((size * 256 : Nat) : Int) = size' at *
   generalize ((low / 16777216 : Nat) : Int) = top at *
   rw [Gad,Gzu,Gjz,Gkb]
   simp [Gd4,hb,hlt,q1,q2,q3,ha,hbe,hse,hS]
   rw [Gad,Gzu,Gjz,Gkb]
   simp [hse,hge]
   exact hk ..
 ·have hlt : ¬ ((size : Int) < 16777216):=by omega
  refine ⟨h,o,out,low,size,I,EF.refl _ _ _ _,hl,by omega,by rw [if_neg hs],by rw [if_neg hs],?_⟩
  intro k;intros;rename_i hk
  rw [Gad,Gzu,Gjz,Gkb]
  simp [hb,hlt]
  exact hk ..
end
set_option maxRecDepth 4000
section
variable {h : Gag} {R : RP} {e pb : Nat} {o : Value} {p out : List Nat} {low size : Nat} {begun : Bool} {a : AE}
theorem EP.setp (I : EP h e pb o p out low size begun) (p' : List Nat) (hl : p'.length = p.length) :
  EP (h.set pb (some ⟨false,nI p'⟩)) e pb o p' out low size begun∧EF h (h.set pb (some ⟨false,nI p'⟩)) e pb o o:=by
 have hpb:=blk?_lt I.pblk
 refine ⟨⟨by rw [blk?_set_ne (Ne.symm I.ne1),hl]; exact I.blk,blk?_set_eq hpb,I.own.of_blk fun id hid hb=>by rw [blk?_set_ne (fun x=>I.ne3 (by rw [x]; exact hid))]; exact hb,I.ne1,I.ne2,I.ne3⟩,
  ⟨by simp,fun id _ _ h2 _=>blk?_set_ne (Ne.symm h2),fun id hid=>.inl hid⟩⟩
theorem G3h (I : EP h e pb o p out low size begun) (hp : Gp1 p) {c bit : Nat} (hc : c < p.length) (hb : bit < 2) :
  ∃ h',EP h' e pb o (p.set c (Gcw (p.getD c 0) bit)) out low size true∧EF h h' e pb o o ∧
   ∀ (R : RP) (K3 K4 K5 K6 K7 K8 K9 Ka Kb Kc Kd Ke Kf Kg Kh Ki Kj Kk Kl Km Kn Ko Kp Kq Kr Ks Kt Ku Kv Kw Kx Ky Kz J0 J1 J2 J3 J4 J5 J6 J7 J8 J9 Ja Jb Jc Jd Je Jf Jg Jh Ji Jj Jk Jl Jm Jn Jo Jp Jq Jr Js Jt Ju Jv Jw Jx Jy Jz Y0 Y1 Y2 Y3 Y4 Y5 Y6 Y7 Y8 Y9 Ya Yb Yc Yd Ye Yf Yg Yh Yi Yj Yk Yl Ym Yn Yo Yp Yq Yr Ys Yt Yu Yv Yw Yx Yy Yz Z0 Z1 Z2 Z3 Z4 Z5 Z6 Z7 Z8 Z9 : Value),R (.int .i64 0) h'→Ok tab G2i [.code (tlC 6 Gpt)] #[ptr e,.int .i64 (c : Nat),.int .i64 (bit : Nat),K3,K4,K5,K6,K7,K8,K9,Ka,Kb,Kc,Kd,Ke,Kf,Kg,Kh,Ki,Kj,Kk,Kl,Km,Kn,Ko,Kp,Kq,Kr,Ks,Kt,Ku,Kv,Kw,Kx,Ky,Kz,J0,J1,J2,J3,J4,J5,J6,J7,J8,J9,Ja,Jb,Jc,Jd,Je,Jf,Jg,Jh,Ji,Jj,Jk,Jl,Jm,Jn,Jo,Jp,Jq,Jr,Js,Jt,Ju,Jv,Jw,Jx,Jy,Jz,Y0,Y1,Y2,Y3,Y4,Y5,Y6,Y7,Y8,Y9,Ya,Yb,Yc,Yd,Ye,Yf,Yg,Yh,Yi,Yj,Yk,Yl,Ym,Yn,Yo,Yp,Yq,Yr,Ys,Yt,Yu,Yv,Yw,Yx,Yy,Yz,Z0,Z1,Z2,Z3,Z4,Z5,Z6,Z7,Z8,Z9] h R:=by
 obtain ⟨I1,F1⟩:=I.set low size true
 obtain ⟨I2,F2⟩:=I1.setp (p.set c (Gcw (p.getD c 0) bit)) (by simp)
 refine ⟨_,I2,F1.trans F2,fun R K3 K4 K5 K6 K7 K8 K9 Ka Kb Kc Kd Ke Kf Kg Kh Ki Kj Kk Kl Km Kn Ko Kp Kq Kr Ks Kt Ku Kv Kw Kx Ky Kz J0 J1 J2 J3 J4 J5 J6 J7 J8 J9 Ja Jb Jc Jd Je Jf Jg Jh Ji Jj Jk Jl Jm Jn Jo Jp Jq Jr Js Jt Ju Jv Jw Jx Jy Jz Y0 Y1 Y2 Y3 Y4 Y5 Y6 Y7 Y8 Y9 Ya Yb Yc Yd Ye Yf Yg Yh Yi Yj Yk Yl Ym Yn Yo Yp Yq Yr Ys Yt Yu Yv Yw Yx Yy Yz Z0 Z1 Z2 Z3 Z4 Z5 Z6 Z7 Z8 Z9 hR=>?_⟩
 have hb1:=I.blk
 have ha:=fun R=>Gza (R:=R) I1.blk I1.pblk I1.ne1 hc hp hb
 show Ok tab G2i [.code (.seq (Gau 6 Gpt) (.seq (Gau 7 Gpt) (tlC 8 Gpt)))] _ h R
 simp only [Gau,tlC,Gd5,Gpt]
 simp [hb1,ha,fin231]
 exact hR
theorem put_c {c bit : Nat} (I : EA h e pb o out low a) (hc : c < a.p.length) (hb : bit < 2) (hol : out.length < 1000000000) :
  ∃ h' o' out' low',(∀ R,Ret tab 231 [ptr e,.int .i64 (c : Nat),.int .i64 (bit : Nat)] h R = R (.int .i64 0) h')∧EA h' e pb o' out' low' (a.put c bit)∧EF h h' e pb o o'∧out'.length≤out.length + 1:=by
 have key : ∀ R0 : RP,(∀ h' o' out' low',EA h' e pb o' out' low' (a.put c bit)→EF h h' e pb o o'→out'.length≤out.length + 1→R0 (.int .i64 0) h')→Ret tab 231 [ptr e,.int .i64 (c : Nat),.int .i64 (bit : Nat)] h R0:=by
  intro R0 hR0
  have hE:=I.ep
  have hlow:=I.lt
  have hdig:=I.dig
  obtain ⟨r1,r2⟩:=AE.split_rng I.ok hc
  have s2:=I.ok.s2
  have hok:=AE.put_ok I.ok hc (bit:=bit)
  have hval:=fun H R (x : EP H e pb o a.p out low a.size a.begun)=>Ghd (R:=R) x I.pos
  have hv:=fun R=>Ghd (R:=R) hE I.pos
  have hh:=fun R=>Qd9 (R:=R) (c:=c) hE.blk
  rw [decide_eq_true hc] at hh
  have hpo:=I.ok.ps.getD hc
  have hsp:=fun R=>Gyz (R:=R) hE.blk hE.pblk hc (by have:=hpo.2; omega) s2
  have hpl : (a.put c bit).p = a.p.set c (Gcw (a.p.getD c 0) bit):=by unfold AE.put; rfl
  have hblk:=hE.blk
  have rest : ∀ (H : Gag) (o1 : Value) (out1 : List Nat) (low1 size1 : Nat),EP H e pb o1 a.p out1 low1 size1 a.begun→EF h H e pb o o1→low1 < 4294967296→65536≤size1→size1 < 4294967296→out1.length = out.length →
    (∀ ds2 size2,ds2 = (if size1 < 16777216 then out1++Gdz low1++[0] else out1++Gdz low1)→size2 = (if size1 < 16777216 then size1 * 256 else size1)→(a.put c bit).ds = ds2∧(a.put c bit).size = size2) →
    ∀ K3 K4 K5 K6 K7 K8 K9 Ka Kb Kc Kd Ke Kf Kg Kh Ki Kj Kk Kl Km Kn Ko Kp Kq Kr Ks Kt Ku Kv Kw Kx Ky Kz J0 J1 J2 J3 J4 J5 J6 J7 J8 J9 Ja Jb Jc Jd Je Jf Jg Jh Ji Jj Jk Jl Jm Jn Jo Jp Jq Jr Js Jt Ju Jv Jw Jx Jy Jz Y0 Y1 Y2 Y3 Y4 Y5 Y6 Y7 Y8 Y9 Ya Yb Yc Yd Ye Yf Yg Yh Yi Yj Yk Yl Ym Yn Yo Yp Yq Yr Ys Yt Yu Yv Yw Yx Yy Yz Z0 Z1 Z2 Z3 Z4 Z5 Z6 Z7 Z8 Z9 : Value,Ok tab G2i [.inLoop Gq2,.inBlock 0,.code (tlC 6 Gpt)] #[ptr e,.int .i64 (c : Nat),.int .i64 (bit : Nat),K3,K4,K5,K6,K7,K8,K9,Ka,Kb,Kc,Kd,Ke,Kf,Kg,Kh,Ki,Kj,Kk,Kl,Km,Kn,Ko,Kp,Kq,Kr,Ks,Kt,Ku,Kv,Kw,Kx,Ky,Kz,J0,J1,J2,J3,J4,J5,J6,J7,J8,J9,Ja,Jb,Jc,Jd,Je,Jf,Jg,Jh,Ji,Jj,Jk,Jl,Jm,Jn,Jo,Jp,Jq,Jr,Js,Jt,Ju,Jv,Jw,Jx,Jy,Jz,Y0,Y1,Y2,Y3,Y4,Y5,Y6,Y7,Y8,Y9,Ya,Yb,Yc,Yd,Ye,Yf,Yg,Yh,Yi,Yj,Yk,Yl,Ym,Yn,Yo,Yp,Yq,Yr,Ys,Yt,Yu,Yv,Yw,Yx,Yy,Yz,Z0,Z1,Z2,Z3,Z4,Z5,Z6,Z7,Z8,Z9] H R0:=by
   intro H o1 out1 low1 size1 I1 F1 hl1 hs1 hs2 hlen1 hds;intros
   obtain ⟨h2,o2,out2,low2,size2,I2,F2,hl2,hlen2,hds2,hsz2,hL⟩:=norm_c (v1:=.int .i64 (c : Nat)) (v2:=.int .i64 (bit : Nat)) I1 hl1 hs1 hs2 (by omega)
   obtain ⟨h3,I3,F3,hT⟩:=G3h I2 I.ok.ps hc hb
   obtain ⟨d1,d2⟩:=hds _ _ hds2 hsz2
   refine hL _ _ _ _ _ _ _ _ _ _ _ _ _ _ _ _ _ _ _ _ _ _ _ _ _ _ _ _ _ _ _ _ _ _ _ _ _ _ _ _ _ _ _ _ _ _ _ _ _ _ _ _ _ _ _ _ _ _ _ _ _ _ _ _ _ _ _ _ _ _ _ _ _ _ _ _ _ _ _ _ _ _ _ _ _ _ _ _ _ _ _ _ _ _ _ _ _ _ _ _ _ _ _ _ _ _ _ _ _ _ _ _ _ _ _ _ fun K3 K4 K5 K6 K7 K8 K9 Ka Kb Kc Kd Ke Kf Kg Kh Ki Kj Kk Kl Km Kn Ko Kp Kq Kr Ks Kt Ku Kv Kw Kx Ky Kz J0 J1 J2 J3 J4 J5 J6 J7 J8 J9 Ja Jb Jc Jd Je Jf Jg Jh Ji Jj Jk Jl Jm Jn Jo Jp Jq Jr Js Jt Ju Jv Jw Jx Jy Jz Y0 Y1 Y2 Y3 Y4 Y5 Y6 Y7 Y8 Y9 Ya Yb Yc Yd Ye Yf Yg Yh Yi Yj Yk Yl Ym Yn Yo Yp Yq Yr Ys Yt Yu Yv Yw Yx Yy Yz Z0 Z1 Z2 Z3 Z4 Z5 Z6 Z7 Z8 Z9=>hT _ _ _ _ _ _ _ _ _ _ _ _ _ _ _ _ _ _ _ _ _ _ _ _ _ _ _ _ _ _ _ _ _ _ _ _ _ _ _ _ _ _ _ _ _ _ _ _ _ _ _ _ _ _ _ _ _ _ _ _ _ _ _ _ _ _ _ _ _ _ _ _ _ _ _ _ _ _ _ _ _ _ _ _ _ _ _ _ _ _ _ _ _ _ _ _ _ _ _ _ _ _ _ _ _ _ _ _ _ _ _ _ _ _ _ _ (hR0 h3 o2 out2 low2 ⟨?_,d1,hl2,hok,by rw [hpl]; simpa using I.pos⟩ ((F1.trans F2).trans F3) (by omega))
   rw [hpl,d2]
   exact I3
  rw [G2x,show Gpt = .seq (Gau 0 Gpt) (.seq (Gau 1 Gpt) (.seq (Gau 2 Gpt) (.seq (Gau 3 Gpt) (.seq (Gau 4 Gpt) (.seq (Gau 5 Gpt) (tlC 6 Gpt)))))) from rfl]
  generalize hT6 : tlC 6 Gpt = T6 at *
  simp only [Gau,tlC,Gd5,Gpt]
  have hS : a.size / 4096 * a.p.getD c 0 = a.split c:=rfl
  rw [hS] at hsp
  by_cases hb0 : bit = 0
  ·subst hb0
   obtain ⟨I1,F1⟩:=hE.set low (a.split c) a.begun
   have hfin:=rest _ o out low (a.split c) I1 F1 I.lt r1 (by omega) rfl (by
    intro ds2 size2 e1 e2
    unfold AE.put AE.norm
    simp only [if_true]
    rw [e1,e2,← I.ds]
    split <;> exact ⟨rfl,rfl⟩)
   simp [Gaa,hv,hh,hsp,hblk]
   exact hfin ..
  ·obtain rfl : bit = 1:=by omega
   have w1 : IntKind.i64.wrap ((low : Int) + (a.split c : Int)) = ((low + a.split c : Nat) : Int):=Gbc (n:=low + a.split c) (by omega)
   have w2 : IntKind.i64.wrap ((a.size : Int) - (a.split c : Int)) = ((a.size - a.split c : Nat) : Int):=by rw [Gan (by omega) (by omega)]; omega
   have he:=blk?_lt hblk
   have hse : ∀ x,blk? (h.set e x) e = x:=fun x=>blk?_set_eq he
   have hds:=G5v hdig I.lt (show a.split c < 4294967296 by omega)
   rw [← I.ds] at hds
   by_cases hcar : low + a.split c < 4294967296
   ·rw [if_pos hcar] at hds
    obtain ⟨I1,F1⟩:=hE.set (low + a.split c) (a.size - a.split c) a.begun
    have hfin:=rest _ o out _ _ I1 F1 hcar (by omega) (by omega) rfl (by
     intro ds2 size2 e1 e2
     unfold AE.put AE.norm
     simp only [Nat.one_ne_zero,if_false]
     rw [e1,e2,hds]
     split <;> exact ⟨rfl,rfl⟩)
    have n1 : ¬ ((4294967295 : Int) < ((low + a.split c : Nat) : Int)):=by omega
    generalize ((low + a.split c : Nat) : Int) = L at *
    generalize ((a.size - a.split c : Nat) : Int) = S at *
    simp [Gaa,hv,hh,hsp,hblk,w1,w2,hse,n1]
    exact hfin ..
   ·rw [if_neg hcar] at hds
    obtain ⟨I1,F1⟩:=hE.set (low + a.split c - 4294967296) (a.size - a.split c) a.begun
    obtain ⟨h2,hcr,ho2,hl2,hk2⟩:=Gyx I1.own hdig (by omega)
    have I2 : EP h2 e pb o a.p (Gde out 1).2 (low + a.split c - 4294967296) (a.size - a.split c) a.begun :=
     ⟨by rw [hk2 _ I1.ne2]; exact I1.blk,by rw [hk2 _ I1.ne3]; exact I1.pblk,by rw [Gb7]; exact ho2,I1.ne1,I1.ne2,I1.ne3⟩
    have F2 : EF h h2 e pb o o:=⟨by rw [hl2]; simp,fun id h1 h3 h4 h5=>by rw [hk2 id h5]; exact F1.same id h1 h3 h4 h5,fun id hid=>.inl hid⟩
    have hfin:=rest _ o _ _ _ I2 F2 (by omega) (by omega) (by omega) (Gb7 _ _) (by
     intro ds2 size2 e1 e2
     unfold AE.put AE.norm
     simp only [Nat.one_ne_zero,if_false]
     rw [e1,e2,hds]
     split <;> exact ⟨rfl,rfl⟩)
    have n1 : ((4294967295 : Int) < ((low + a.split c : Nat) : Int)):=by omega
    have w3 : IntKind.i64.wrap (((low + a.split c : Nat) : Int) - 4294967296) = ((low + a.split c - 4294967296 : Nat) : Int):=by rw [Gan (by omega) (by omega)]; omega
    generalize ((low + a.split c - 4294967296 : Nat) : Int) = L2 at *
    generalize ((low + a.split c : Nat) : Int) = L at *
    generalize ((a.size - a.split c : Nat) : Int) = S at *
    simp [Gaa,hv,hh,hsp,hblk,w1,w2,w3,hse,n1,hcr]
    exact hfin ..
 obtain ⟨v,h',ee,rfl,o',out',low',A,B,C⟩:=Gck (key (fun v h'=>v = .int .i64 0∧∃ o' out' low',EA h' e pb o' out' low' (a.put c bit)∧EF h h' e pb o o'∧out'.length≤out.length + 1) (fun h' o' out' low' A B C=>⟨rfl,o',out',low',A,B,C⟩))
 exact ⟨h',o',out',low',ee,A,B,C⟩
end
theorem Gkr : ∀ xs : List Nat,Ghg xs = xs.take (Ghg xs).length∧(∀ i,(Ghg xs).length≤i→xs.getD i 0 = 0)∧(∀ n,(Ghg xs).length = n + 1→xs.getD n 0 ≠ 0)
 | []=>by simp [Ghg]
 | d :: xs=>by
  obtain ⟨h1,h2,h3⟩:=Gkr xs
  rw [Ghg]
  cases ht : Ghg xs with
  | nil =>
   rw [ht] at h1 h2
   simp only
   by_cases hd : d = 0
   ·rw [if_pos hd]
    refine ⟨by simp,fun i _=>?_,fun n hn=>by simp at hn⟩
    cases i with
    | zero=>simpa using hd
    | succ i=>simpa using h2 i (by simp)
   ·rw [if_neg hd]
    refine ⟨by simp,fun i hi=>?_,fun n hn=>?_⟩
    ·cases i with
     | zero=>simp at hi
     | succ i=>simpa using h2 i (by simp)
    ·simp at hn; subst hn; simpa using hd
  | cons x ys =>
   rw [ht] at h1 h2 h3
   simp only
   refine ⟨by simp at h1 ⊢; exact h1,fun i hi=>?_,fun n hn=>?_⟩
   ·cases i with
    | zero=>simp at hi
    | succ i=>simpa using h2 i (by simp at hi ⊢; omega)
   ·cases n with
    | zero=>simp at hn
    | succ n=>simpa using h3 n (by simp at hn ⊢; omega)
section
variable {h : Gag} {R : RP} {e pb : Nat} {o : Value} {p out : List Nat} {low size : Nat} {begun : Bool} {a : AE}
theorem G84 (I : EA h e pb o out low a) (hl : out.length < 1000000000) : Ret tab 230 [ptr e] h R = R (.int .i64 ((if a.begun = true then a.ds.length else 0 : Nat) : Int)) h:=by
 have h1:=I.ep.blk
 have hv:=fun R=>Ghd (R:=R) I.ep I.pos
 obtain ⟨oa,oc,ho⟩:=I.ep.own.sl.shape
 have hlen : a.ds.length = out.length + 4:=by rw [I.ds]; simp [Gdz]
 have w1 : IntKind.i64.wrap ((out.length : Int) + 4) = (out.length : Int) + 4:=Gbc (n:=out.length + 4) (by omega)
 rw [hlen]
 rw [ho] at h1
 rw [G6m,B230]
 cases hbg : a.begun with
 | false =>
  rw [hbg] at h1
  simp [Gaa,hv,h1,G65]
 | true =>
  rw [hbg] at h1
  simp [Gaa,hv,h1,w1,G65]
theorem Grl {q z : Nat} {cs : List Value} {n : Nat} (h1 : blk? h q = some ⟨false,.slice (some ⟨z,0,none⟩) n 1 :: cs⟩) (hz : z < h.length) (hne : q ≠ z) (hl : p.length = n) (hn : n < 1000000) {k : List Ga1} {res : Prop}
  (hk : ∀ K1 K2 K3 K4 K5 K6 K7 K8 K9 Ka Kb Kc Kd Ke Kf Kg Kh : Value,Ok tab R84 k #[ptr q,K1,K2,K3,K4,K5,K6,K7,K8,K9,Ka,Kb,Kc,Kd,Ke,Kf,Kg,Kh] (h.set z (some ⟨false,nI (List.replicate n 2048)⟩)) R = res) :
  ∀ (m i : Nat) (K1 K2 K3 K4 K5 K6 K9 Ka Kb Kc Kd Ke Kf Kg Kh : Value),i + m = n →
   Ok tab R84 (.inLoop G2l :: .inBlock 0 :: k) #[ptr q,K1,K2,K3,K4,K5,K6,.int .i64 (n : Nat),.int .i64 (i : Nat),K9,Ka,Kb,Kc,Kd,Ke,Kf,Kg,Kh] (h.set z (some ⟨false,nI (List.replicate i 2048++p.drop i)⟩)) R = res:=by
 intro m
 induction m with
 | zero =>
  intro i;intros;rename_i him
  obtain rfl : i = n:=by omega
  have hlt : ¬ ((i : Int) < (i : Int)):=by omega
  rw [List.drop_of_length_le (by omega),List.append_nil]
  rw [Gad,Qca,Gt2,Gv9]
  simp [hk]
 | succ m ih =>
  intro i;intros;rename_i him
  have hlt : ((i : Int) < n):=by omega
  have hin : i < n:=by omega
  have hw : IntKind.i64.wrap ((i : Int) + 1) = ((i + 1 : Nat) : Int):=Gbc (n:=i + 1) (by omega)
  have ih':=fun K1 K2 K3 K4 K5 K6 K9 Ka Kb Kc Kd Ke Kf Kg Kh=>ih (i + 1) K1 K2 K3 K4 K5 K6 K9 Ka Kb Kc Kd Ke Kf Kg Kh (by omega)
  have hq : ∀ x,blk? (h.set z x) q = some ⟨false,.slice (some ⟨z,0,none⟩) n 1 :: cs⟩:=fun x=>by rw [blk?_set_ne (Ne.symm hne)]; exact h1
  have hzz : ∀ x,blk? (h.set z x) z = x:=fun x=>blk?_set_eq hz
  have hst:=G6w (xs:=List.replicate i 2048++p.drop i) (i:=i) (v:=2048)
  have hlist : (List.replicate i 2048++p.drop i).set i 2048 = List.replicate (i + 1) 2048++p.drop (i + 1):=by
   rw [List.set_append_right _ _ (by simp),List.length_replicate,Nat.sub_self,List.drop_eq_getElem_cons (show i < p.length by omega),List.set_cons_zero,List.replicate_succ',List.append_assoc]; rfl
  rw [hlist] at hst
  have hcl : i + 1≤(nI (List.replicate i 2048++p.drop i)).length:=by rw [Gul]; simp; omega
  have hst' : (nI (List.replicate i 2048++p.drop i)).set i (.int .i64 2048) = nI (List.replicate (i + 1) 2048++p.drop (i + 1)):=hst
  generalize nI (List.replicate i 2048++p.drop i) = C at *
  generalize nI (List.replicate (i + 1) 2048++p.drop (i + 1)) = C2 at *
  generalize ((i + 1 : Nat) : Int) = i1 at *
  rw [Gad,Qca,Gt2,Gv9]
  simp [hlt,hin,hq,hzz,hcl,hst',hw,ih']
theorem Glq {q z : Nat} {cs : List Value} (h1 : blk? h q = some ⟨false,.slice (some ⟨z,0,none⟩) p.length 1 :: cs⟩) (h2 : blk? h z = some ⟨false,nI p⟩) (hne : q ≠ z) (hn : p.length < 1000000) :
  Ret tab 84 [ptr q] h R = R (.tuple #[]) (h.set z (some ⟨false,nI (List.replicate p.length 2048)⟩)):=by
 have hz:=blk?_lt h2
 have e0 : h.set z (some ⟨false,nI (List.replicate 0 2048++p.drop 0)⟩) = h:=by
  rw [List.replicate_zero,List.nil_append,List.drop_zero]
  unfold blk? at h2
  split at h2
  ·rename_i b hx
   injection h2 with h2
   subst h2
   obtain ⟨hlt,hg⟩:=List.getElem?_eq_some_iff.1 hx
   rw [← hg,List.set_getElem_self]
  ·cases h2
 have hL:=fun K1 K2 K3 K4 K5 K6 K9 Ka Kb Kc Kd Ke Kf Kg Kh=>Grl (R:=R) h1 hz hne rfl hn (k:=[]) (res:=R (.tuple #[]) (h.set z (some ⟨false,nI (List.replicate p.length 2048)⟩))) (fun K1 K2 K3 K4 K5 K6 K7 K8 K9 Ka Kb Kc Kd Ke Kf Kg Kh=>by simp [fin84]) p.length 0 K1 K2 K3 K4 K5 K6 K9 Ka Kb Kc Kd Ke Kf Kg Kh (by omega)
 rw [e0] at hL
 simp only [Int.cast_ofNat_Int] at hL
 rw [G9i,B84]
 simp [h1,hL]
theorem Gu5 (I : EA h e pb o out low a) (hn : a.p.length < 1000000) :
  ∃ h',(∀ R,Ret tab 41 [ptr e] h R = R (.tuple #[]) h')∧EA h' e pb o out low { a with p:=AE.base a.p.length }∧EF h h' e pb o o:=by
 obtain ⟨I1,F1⟩:=I.ep.setp (AE.base a.p.length) (by simp [AE.base])
 refine ⟨_,fun R=>?_,⟨I1,I.ds,I.lt,⟨Gfw _,I.ok.dig,I.ok.len,I.ok.s1,I.ok.s2,I.ok.top⟩,by simpa [AE.base] using I.pos⟩,F1⟩
 have hv:=fun R=>Ghd (R:=R) I.ep I.pos
 have hr:=fun R=>Glq (R:=R) I.ep.blk I.ep.pblk I.ep.ne1 hn
 have hb:=I.ep.blk
 rw [Qbp,B41]
 simp [hv,hb,hr,fin41,AE.base]
theorem G0u : ∀ n : Nat,Gd4 [.int .i64 0] n = nI (List.replicate n 0)
 | 0=>rfl
 | n + 1=>by rw [Gd4,G0u n,List.replicate_succ]; rfl
theorem Glo {n : Nat} (h1 : 1≤n) (h2 : n≤64) : ∃ h',(∀ R,Ret tab 81 [.int .i64 (n : Nat)] h R = R (.agg #[.slice (some ⟨h.length + 1,0,none⟩) n 1]) h')∧blk? h' (h.length + 1) = some ⟨false,nI (AE.base n)⟩ ∧
  h'.length = h.length + 3∧∀ id,id < h.length→blk? h' id = blk? h id:=by
 generalize hH : h++[some (⟨false,[.slice none 0 0]⟩ : Blk),some ⟨false,nI (List.replicate n 0)⟩,some ⟨false,[.slice (some ⟨h.length + 1,0,none⟩) n 1]⟩] = H
 have b0 : blk? H h.length = some ⟨false,[.slice none 0 0]⟩:=by rw [← hH,Gbe]; rfl
 have b1 : blk? H (h.length + 1) = some ⟨false,nI (List.replicate n 0)⟩:=by rw [← hH,Ga0]; rfl
 have b2 : blk? H (h.length + 2) = some ⟨false,[.slice (some ⟨h.length + 1,0,none⟩) n 1]⟩:=by rw [← hH,Ga0]; rfl
 have hlen : H.length = h.length + 3:=by rw [← hH]; simp
 have hr:=fun R=>Glq (h:=H) (R:=R) (q:=h.length + 2) (z:=h.length + 1) (p:=List.replicate n 0) (cs:=[]) (by simpa using b2) b1 (by omega) (by simp; omega)
 simp only [List.length_replicate] at hr
 have l2 : blk? (H.set (h.length + 1) (some ⟨false,nI (List.replicate n 2048)⟩)) (h.length + 2) = some ⟨false,[.slice (some ⟨h.length + 1,0,none⟩) n 1]⟩:=by rw [blk?_set_ne (by omega)]; exact b2
 have l0 : blk? (H.set (h.length + 1) (some ⟨false,nI (List.replicate n 2048)⟩)) h.length = some ⟨false,[.slice none 0 0]⟩:=by rw [blk?_set_ne (by omega)]; exact b0
 refine ⟨(H.set (h.length + 1) (some ⟨false,nI (List.replicate n 2048)⟩)).set h.length (some ⟨false,[.slice (some ⟨h.length + 1,0,none⟩) n 1]⟩),fun R=>?_,?_,by simp [hlen],fun id hid=>?_⟩
 ·have hroom : ((n : Nat) : Int)≤(Gaq : Int):=by unfold Gaq; omega
  have hs0 : h.length < (H.set (h.length + 1) (some ⟨false,nI (List.replicate n 2048)⟩)).length:=by simp [hlen]
  have l3 : ∀ x,blk? ((H.set (h.length + 1) (some ⟨false,nI (List.replicate n 2048)⟩)).set h.length x) h.length = x:=fun x=>blk?_set_eq hs0
  have hset : (h++[some (⟨false,[.slice none 0 0]⟩ : Blk),some ⟨false,nI (List.replicate n 0)⟩,some ⟨false,[.slice none 0 0]⟩]).set (h.length + 2) (some ⟨false,[.slice (some ⟨h.length + 1,0,none⟩) n 1]⟩) = H:=by rw [← hH,Gnj]; rfl
  have b3 : blk? (h++[some (⟨false,[.slice none 0 0]⟩ : Blk),some ⟨false,nI (List.replicate n 0)⟩,some ⟨false,[.slice none 0 0]⟩]) (h.length + 2) = some ⟨false,[.slice none 0 0]⟩:=by rw [Ga0]; rfl
  rw [G8r,B81]
  simp [hroom,G0u,b3,hset,hr,l2,l0]
  simp [Gae,R81,Gbu,Gpk,l3]
 ·rw [blk?_set_ne (by omega),blk?_set_eq (by omega)]; rfl
 ·rw [blk?_set_ne (by omega),blk?_set_ne (by omega),← hH]; exact Gbf hid
theorem G6q {n : Nat} (h1 : 1≤n) (h2 : n≤64) : ∃ h' e pb,(∀ R,Ret tab 36 [.int .i64 (n : Nat)] h R = R (.tuple #[ptr e,.int .i64 0]) h')∧EA h' e pb (.slice none 0 0) [] 0 (AE.begin (AE.base n))∧h.length≤e∧h.length≤pb ∧
  h.length≤h'.length∧∀ id,id < h.length→blk? h' id = blk? h id:=by
 obtain ⟨H,hm,hb,hl,hk⟩:=Glo (h:=h) h1 h2
 refine ⟨H++[some ⟨false,[.slice (some ⟨h.length + 1,0,none⟩) n 1,.slice none 0 0,.int .i64 0,.int .i64 4294967295,.bool false]⟩],H.length,h.length + 1,fun R=>?_,⟨⟨?_,?_,Ga7.nil _ _,by omega,by simp [sid],by simp [sid]⟩,rfl,by omega,Ghf (Gfw n),by simp [AE.begin,AE.base]; omega⟩,by omega,by omega,by simp; omega,fun id hid=>by rw [blk?_push_lt (by omega)]; exact hk id hid⟩
 ·have n1 : ¬ ((n : Int) < 1):=by omega
  have n2 : ¬ ((64 : Int) < n):=by omega
  rw [G90,B36]
  simp [Gaa,n1,n2,hm,fin36]
 ·rw [blk?_push_eq]; simp [AE.begin,AE.base]
 ·rw [blk?_push_lt (by omega)]; exact hb
end
theorem Qdd {q k : Nat} (hk : k≤32) (hq : q * 2 ^ k < 9223372036854775808) : Gmf .i64 (q : Int) (k : Int) = ((q * 2 ^ k : Nat) : Int):=by
 unfold Gmf
 rw [Int.toNat_natCast]
 have : min k IntKind.i64.bits = k:=by show min k 64 = k; omega
 rw [this]
 have e2 : ((q : Int) * 2 ^ k) = ((q * 2 ^ k : Nat) : Int):=by simp
 rw [e2]; exact Gbc hq
section
variable {h : Gag} {R : RP} {e pb : Nat} {o : Value} {p out : List Nat} {low size : Nat} {begun : Bool} {a : AE}
theorem Gfl {low M k v : Nat} (hl : low < 4294967296) (hk : k≤24) (hM : M = 2 ^ k) (hv : v = (low + (M - 1)) / M * M) :
  ∃ p q z : Int,Gmf .i64 1 (k : Int) = (M : Int)∧IntKind.i64.wrap ((low : Int) + (M : Int)) = p∧IntKind.i64.wrap (p - 1) = q ∧
  Gxo .i64 q (k : Int) = z∧Gmf .i64 z (k : Int) = (v : Int):=by
 have hp : 2 ^ k≤2 ^ 24:=Nat.pow_le_pow_right (by decide) hk
 have hp1 : 1≤2 ^ k:=Nat.one_le_two_pow
 have hdm:=Nat.div_mul_le_self (low + (M - 1)) M
 refine ⟨((low + M : Nat) : Int),((low + (M - 1) : Nat) : Int),(((low + (M - 1)) / M : Nat) : Int),?_,Gbc (by omega),by rw [Gan (by omega) (by omega)]; omega,?_,?_⟩
 ·have:=Qdd (q:=1) (k:=k) (by omega) (by omega)
  rw [Nat.one_mul,← hM] at this
  exact this
 ·rw [hM]; exact G8g (i:=.i64) (show k≤64 by omega)
 ·have:=Qdd (q:=(low + (M - 1)) / M) (k:=k) (by omega) (by rw [← hM]; omega)
  rw [← hM,← hv] at this
  exact this
theorem Gya {low size : Nat} (hl : low < 4294967296) (hs : size < 4294967296) (v1 v2 v3 : Nat) (hv1 : v1 = (low + 16777215) / 16777216 * 16777216) (hv2 : v2 = (low + 65535) / 65536 * 65536) (hv3 : v3 = (low + 255) / 256 * 256)
  (r : Nat × Bool) (hr : r = if low = 0 then (0,false) else if low + size > 4294967296 then (0,true) else if v1 < low + size then (v1,false) else if v2 < low + size then (v2,false) else if v3 < low + size then (v3,false) else (low,false)) :
  Ret tab 232 [.int .i64 (low : Nat),.int .i64 (size : Nat)] h R = R (.tuple #[.int .i64 (r.1 : Nat),.bool r.2]) h:=by
 rw [G3p,B232,hr]
 clear hr
 have ws : IntKind.i64.wrap ((low : Int) + (size : Int)) = ((low + size : Nat) : Int):=Gbc (by omega)
 obtain ⟨p1,q1,z1,a1,a2,a3,a4,a5⟩:=Gfl (k:=24) (M:=16777216) hl (by omega) (by decide) hv1
 obtain ⟨p2,q2,z2,b1,b2,b3,b4,b5⟩:=Gfl (k:=16) (M:=65536) hl (by omega) (by decide) hv2
 obtain ⟨p3,q3,z3,c1,c2,c3,c4,c5⟩:=Gfl (k:=8) (M:=256) hl (by omega) (by decide) hv3
 obtain ⟨p4,q4,z4,d1,d2,d3,d4,d5⟩:=Gfl (k:=0) (M:=1) (v:=low) hl (by omega) (by decide) (by simp)
 clear hv1 hv2 hv3
 simp only [Int.cast_ofNat_Int] at a1 a2 a3 a4 a5 b1 b2 b3 b4 b5 c1 c2 c3 c4 c5 d1 d2 d3 d4 d5
 have u1 : IntKind.u64.wrap 16 = 16:=by decide
 have u2 : IntKind.u64.wrap 8 = 8:=by decide
 have u3 : IntKind.u64.wrap 0 = 0:=by decide
 by_cases h0 : low = 0
 ·subst h0
  simp [Gkq]
 have h0' : ((low : Int) == 0) = false:=by simp; omega
 rw [if_neg h0]
 by_cases h1 : low + size > 4294967296
 ·have h1' : (4294967296 : Int) < ((low + size : Nat) : Int):=by omega
  rw [if_pos h1]
  generalize ((low + size : Nat) : Int) = ls at *
  simp [h0',h0,ws,h1',Gkq]
 have h1' : ¬ (4294967296 : Int) < ((low + size : Nat) : Int):=by omega
 rw [if_neg h1]
 have e1 : (v1 : Int) < ((low + size : Nat) : Int) ↔ v1 < low + size:=Int.ofNat_lt
 have e2 : (v2 : Int) < ((low + size : Nat) : Int) ↔ v2 < low + size:=Int.ofNat_lt
 have e3 : (v3 : Int) < ((low + size : Nat) : Int) ↔ v3 < low + size:=Int.ofNat_lt
 generalize ((low + size : Nat) : Int) = ls at *
 by_cases k1 : v1 < low + size
 ·rw [if_pos k1]
  have k1' : (v1 : Int) < ls:=e1.2 k1
  simp [h0',h0,ws,h1']
  rw [Gad,Ggr,Gdx,Gdw]
  simp [Gaa,ws,a1,a2,a3,a4,a5,k1',Gkq]
 rw [if_neg k1]
 have k1' : ¬ (v1 : Int) < ls:=fun x=>k1 (e1.1 x)
 by_cases k2 : v2 < low + size
 ·rw [if_pos k2]
  have k2' : (v2 : Int) < ls:=e2.2 k2
  simp [h0',h0,ws,h1']
  rw [Gad,Ggr,Gdx,Gdw]
  simp [Gaa,ws,a1,a2,a3,a4,a5,k1',u1]
  rw [Gad,Ggr,Gdx,Gdw]
  simp [Gaa,ws,b1,b2,b3,b4,b5,k2',Gkq]
 rw [if_neg k2]
 have k2' : ¬ (v2 : Int) < ls:=fun x=>k2 (e2.1 x)
 by_cases k3 : v3 < low + size
 ·rw [if_pos k3]
  have k3' : (v3 : Int) < ls:=e3.2 k3
  simp [h0',h0,ws,h1']
  rw [Gad,Ggr,Gdx,Gdw]
  simp [Gaa,ws,a1,a2,a3,a4,a5,k1',u1]
  rw [Gad,Ggr,Gdx,Gdw]
  simp [Gaa,ws,b1,b2,b3,b4,b5,k2',u2]
  rw [Gad,Ggr,Gdx,Gdw]
  simp [Gaa,ws,c1,c2,c3,c4,c5,k3',Gkq]
 rw [if_neg k3]
 have k3' : ¬ (v3 : Int) < ls:=fun x=>k3 (e3.1 x)
 simp [h0',h0,ws,h1']
 rw [Gad,Ggr,Gdx,Gdw]
 simp [Gaa,ws,a1,a2,a3,a4,a5,k1',u1]
 rw [Gad,Ggr,Gdx,Gdw]
 simp [Gaa,ws,b1,b2,b3,b4,b5,k2',u2]
 rw [Gad,Ggr,Gdx,Gdw]
 simp [Gaa,ws,c1,c2,c3,c4,c5,k3',u3]
 rw [Gad,Ggr,Gdx,Gdw]
 by_cases k4 : (low : Int) < ls
 ·simp [Gaa,ws,d1,d2,d3,d4,d5,k4,Gkq]
 ·simp [Gaa,ws,d1,d2,d3,d4,d5,k4,Gkq]
theorem G22 {low size : Nat} (hl : low < 4294967296) (hs : size < 4294967296) : Ret tab 232 [.int .i64 (low : Nat),.int .i64 (size : Nat)] h R = R (.tuple #[.int .i64 ((Gch low size).1 : Nat),.bool (Gch low size).2]) h :=
 Gya hl hs _ _ _ rfl rfl rfl _ rfl
theorem copy_c {t : Value} {n : Nat} {cs : List Value} (ht : Sl h 1 t n cs) (hn : n≤Gaq) :
  ∃ b H,Gb0 h 1 1 (.slice none 0 0) t = some (b,H)∧Ga7 H 1 b n cs∧h.length≤H.length∧(∀ id,id < h.length→blk? H id = blk? h id)∧∀ id,sid b = some id→h.length≤id:=by
 by_cases h0 : n = 0
 ·subst h0
  have hc : cs = []:=List.eq_nil_of_length_eq_zero (by have:=ht.1; omega)
  subst hc
  refine ⟨.slice none 0 0,h,?_,Ga7.nil _ _,Nat.le_refl _,fun _ _=>rfl,fun id hid=>by simp [sid] at hid⟩
  unfold Gb0
  simp [ht.lenV,ht.firstC]
 ·obtain ⟨H,e,hb,hl,hk⟩:=Gbs (Ga7.nil h 1) ht (bytes:=1) (by omega) (by omega) h0
  refine ⟨_,H,e,⟨by have:=ht.1; omega,.inr ⟨h.length,by simp,by simpa using hb⟩⟩,by omega,fun id hid=>hk id hid (by simp [sid]),fun id hid=>by simp [sid] at hid; omega⟩
theorem G15 {id : Nat} {xs : List Nat} (hb : blk? h id = some ⟨false,nU xs⟩) (hl : xs.length < 1000000000) {k : List Ga1} {res : Prop} {v0 : Value}
  (hk : ∀ K1 K2 K4 K5 K6 K7 K8 K9 Ka Kb Kc Kd Ke Kf Kg Kh Ki Kj Kk Kl Km Kn Ko Kp Kq Kr Ks Kt Ku Kv Kw Kx Ky Kz J0 J1 J2 J3 J4 J5 J6 J7 J8 J9 Ja Jb Jc Jd Je Jf Jg Jh Ji Jj Jk Jl Jm Jn Jo Jp Jq Jr Js Jt Ju Jv Jw Jx Jy Jz Y0 : Value,Ok tab G7g k #[v0,K1,K2,.slice (some ⟨id,0,none⟩) (Ghg xs).length 1,K4,K5,K6,K7,K8,K9,Ka,Kb,Kc,Kd,Ke,Kf,Kg,Kh,Ki,Kj,Kk,Kl,Km,Kn,Ko,Kp,Kq,Kr,Ks,Kt,Ku,Kv,Kw,Kx,Ky,Kz,J0,J1,J2,J3,J4,J5,J6,J7,J8,J9,Ja,Jb,Jc,Jd,Je,Jf,Jg,Jh,Ji,Jj,Jk,Jl,Jm,Jn,Jo,Jp,Jq,Jr,Js,Jt,Ju,Jv,Jw,Jx,Jy,Jz,Y0] h R = res) :
  ∀ (d m : Nat) (K1 K2 K4 K5 K6 K7 K8 K9 Ka Kb Kc Kd Ke Kf Kg Kh Ki Kj Kk Kl Km Kn Ko Kp Kq Kr Ks Kt Ku Kv Kw Kx Ky Kz J0 J1 J2 J3 J4 J5 J6 J7 J8 J9 Ja Jb Jc Jd Je Jf Jg Jh Ji Jj Jk Jl Jm Jn Jo Jp Jq Jr Js Jt Ju Jv Jw Jx Jy Jz Y0 : Value),m = (Ghg xs).length + d→m≤xs.length →
   Ok tab G7g (.inLoop Gt6 :: .inBlock 0 :: k) #[v0,K1,K2,.slice (some ⟨id,0,none⟩) m 1,K4,K5,K6,K7,K8,K9,Ka,Kb,Kc,Kd,Ke,Kf,Kg,Kh,Ki,Kj,Kk,Kl,Km,Kn,Ko,Kp,Kq,Kr,Ks,Kt,Ku,Kv,Kw,Kx,Ky,Kz,J0,J1,J2,J3,J4,J5,J6,J7,J8,J9,Ja,Jb,Jc,Jd,Je,Jf,Jg,Jh,Ji,Jj,Jk,Jl,Jm,Jn,Jo,Jp,Jq,Jr,Js,Jt,Ju,Jv,Jw,Jx,Jy,Jz,Y0] h R = res:=by
 obtain ⟨t1,t2,t3⟩:=Gkr xs
 intro d
 induction d with
 | zero =>
  intro m;intros;rename_i hm hi
  obtain rfl : m = (Ghg xs).length:=by omega
  rw [Gad,G7l,Gpj,Go5]
  cases hx : (Ghg xs).length with
  | zero =>
   rw [hx] at hk
   simp [Gaa,hk]
  | succ n =>
   rw [hx] at hk hi
   have w1 : IntKind.i64.wrap (n : Int) = (n : Int):=Gbc (by omega)
   have hg:=Gmw (xs:=xs) (i:=n) (by omega)
   have hnz:=t3 n hx
   have hnz' : (((xs.getD n 0 : Nat) : Int) == 0) = false:=beq_eq_false_iff_ne.2 (by omega)
   have hnl : n < n + 1:=by omega
   have hpos : (0 : Int) < (n : Int) + 1:=by omega
   have hlt : (n : Int) < (n : Int) + 1:=by omega
   have hnz2 : ¬ ((xs.getD n 0 : Nat) : Int) = 0:=by omega
   generalize ((xs.getD n 0 : Nat) : Int) = x at *
   generalize nU xs = C at *
   have hk':=fun K1 K2 K4 K5 K6 K7 K8 K9 Ka Kb Kc Kd Ke Kf Kg Kh Ki Kj Kk Kl Km Kn Ko Kp Kq Kr Ks Kt Ku Kv Kw Kx Ky Kz J0 J1 J2 J3 J4 J5 J6 J7 J8 J9 Ja Jb Jc Jd Je Jf Jg Jh Ji Jj Jk Jl Jm Jn Jo Jp Jq Jr Js Jt Ju Jv Jw Jx Jy Jz Y0=>hk K1 K2 K4 K5 K6 K7 K8 K9 Ka Kb Kc Kd Ke Kf Kg Kh Ki Kj Kk Kl Km Kn Ko Kp Kq Kr Ks Kt Ku Kv Kw Kx Ky Kz J0 J1 J2 J3 J4 J5 J6 J7 J8 J9 Ja Jb Jc Jd Je Jf Jg Jh Ji Jj Jk Jl Jm Jn Jo Jp Jq Jr Js Jt Ju Jv Jw Jx Jy Jz Y0
   simp [Gaa,hpos,w1,hlt,hb,hg,hnz',hnz2,hk']
 | succ d ih =>
  intro m;intros;rename_i hm hi
  obtain ⟨n,rfl⟩ : ∃ n,m = n + 1:=⟨m - 1,by omega⟩
  have w1 : IntKind.i64.wrap (n : Int) = (n : Int):=Gbc (by omega)
  have hg:=Gmw (xs:=xs) (i:=n) (by omega)
  rw [t2 n (by omega)] at hg
  have hg' : (nU xs)[n]? = some (.int .u8 0):=hg
  have hpos : (0 : Int) < (n : Int) + 1:=by omega
  have hlt : (n : Int) < (n : Int) + 1:=by omega
  have ih':=fun K1 K2 K4 K5 K6 K7 K8 K9 Ka Kb Kc Kd Ke Kf Kg Kh Ki Kj Kk Kl Km Kn Ko Kp Kq Kr Ks Kt Ku Kv Kw Kx Ky Kz J0 J1 J2 J3 J4 J5 J6 J7 J8 J9 Ja Jb Jc Jd Je Jf Jg Jh Ji Jj Jk Jl Jm Jn Jo Jp Jq Jr Js Jt Ju Jv Jw Jx Jy Jz Y0=>ih n K1 K2 K4 K5 K6 K7 K8 K9 Ka Kb Kc Kd Ke Kf Kg Kh Ki Kj Kk Kl Km Kn Ko Kp Kq Kr Ks Kt Ku Kv Kw Kx Ky Kz J0 J1 J2 J3 J4 J5 J6 J7 J8 J9 Ja Jb Jc Jd Je Jf Jg Jh Ji Jj Jk Jl Jm Jn Jo Jp Jq Jr Js Jt Ju Jv Jw Jx Jy Jz Y0 (by omega) (by omega)
  have hsl : ∀ c,Gc8 1 (.slice (some ⟨id,0,none⟩) (n + 1) 1) none (some (.int .i64 (n : Int))) = some c ↔ c = .slice (some ⟨id,0,none⟩) n 1:=by
   intro c
   have : (n : Int)≤(n : Int) + 1:=by omega
   simp [Gc8,Gl5,bnd,this]
   exact ⟨Eq.symm,Eq.symm⟩
  have hsl':=(hsl _).2 rfl
  generalize nU xs = C at *
  rw [Gad,G7l,Gpj,Go5]
  simp [Gaa,hpos,w1,hlt,hb,hg',hsl',ih']
theorem Qbk (I : EA h e pb o out low a) (hl : out.length < 100000000) :
  ∃ h' s,(∀ R,Ret tab 229 [ptr e] h R = R s h')∧EA h' e pb (.slice none 0 0) [] 0 (AE.begin a.p)∧EF h h' e pb o (.slice none 0 0) ∧
   Sl h' 1 s (Ghg (Gf7 out low a.size)).length (nU (Ghg (Gf7 out low a.size)))∧(∀ id,sid s = some id→h.length≤id∧id < h'.length):=by
 have hE:=I.ep
 have hblk:=hE.blk
 have hdig:=I.dig
 have s2:=I.ok.s2
 obtain ⟨b,H1,e1,o1,l1,k1,g1⟩:=copy_c hE.own.sl (by unfold Gaq; omega)
 have hv:=fun R=>Ghd (R:=R) hE I.pos
 have hch:=fun H R=>G22 (h:=H) (R:=R) I.lt s2
 have step2 : ∃ H2,(∀ (R : RP),(Gch low a.size).2 = true→Ret tab 233 [b] H1 R = R (.tuple #[]) H2)∧((Gch low a.size).2 = false→H2 = H1)∧Ga7 H2 1 b out.length (nU (if (Gch low a.size).2 = true then (Gde out 1).2 else out))∧H2.length = H1.length∧∀ id,sid b ≠ some id→blk? H2 id = blk? H1 id:=by
  cases hov : (Gch low a.size).2 with
  | false=>exact ⟨H1,fun _ h=>by simp at h,fun _=>rfl,by simpa using o1,rfl,fun _ _=>rfl⟩
  | true =>
   obtain ⟨H2,c1,c2,c3,c4⟩:=Gyx o1 hdig (by omega)
   exact ⟨H2,fun R _=>c1 R,fun h=>by simp at h,by simpa using c2,c3,c4⟩
 obtain ⟨H2,c1,c2,c3,c4,c5⟩:=step2
 have hcv : (Gch low a.size).1 < 4294967296:=by
  have hlow:=I.lt
  unfold Gch
  split
  ·simp
  ·split
   ·simp
   ·split
    ·simp only; omega
    ·split
     ·simp only; omega
     ·split
      ·simp only; omega
      ·simp only; omega
 have hterm : Gf7 out low a.size = (if (Gch low a.size).2 = true then (Gde out 1).2 else out)++Gdz (Gch low a.size).1:=rfl
 generalize (Gch low a.size).1 = v at *
 generalize hov : (Gch low a.size).2 = over at *
 have hol : (if over = true then (Gde out 1).2 else out).length = out.length:=by split <;> simp [Gb7]
 generalize (if over = true then (Gde out 1).2 else out) = out2 at *
 have q24 : IntKind.u8.wrap (Gxo .i64 (v : Int) 24) = ((v / 16777216 : Nat) : Int):=by
  have:=G8g (i:=.i64) (a:=v) (b:=24) (by decide)
  simp only [Int.cast_ofNat_Int] at this
  rw [this,show (2 : Nat) ^ 24 = 16777216 from rfl,IntKind.wrap_u8]; omega
 have q16 : IntKind.u8.wrap (Gxo .i64 (v : Int) 16) = ((v / 65536 % 256 : Nat) : Int):=by
  have:=G8g (i:=.i64) (a:=v) (b:=16) (by decide)
  simp only [Int.cast_ofNat_Int] at this
  rw [this,show (2 : Nat) ^ 16 = 65536 from rfl,IntKind.wrap_u8]; omega
 have q8 : IntKind.u8.wrap (Gxo .i64 (v : Int) 8) = ((v / 256 % 256 : Nat) : Int):=by
  have:=G8g (i:=.i64) (a:=v) (b:=8) (by decide)
  simp only [Int.cast_ofNat_Int] at this
  rw [this,show (2 : Nat) ^ 8 = 256 from rfl,IntKind.wrap_u8]; omega
 have q0 : IntKind.u8.wrap (v : Int) = ((v % 256 : Nat) : Int):=by rw [IntKind.wrap_u8]; omega
 have hfour : [.int .u8 ((v / 16777216 : Nat) : Int),.int .u8 ((v / 65536 % 256 : Nat) : Int),.int .u8 ((v / 256 % 256 : Nat) : Int),.int .u8 ((v % 256 : Nat) : Int)] = nU (Gdz v):=rfl
 have ht4 : Sl (H2++[some ⟨false,nU (Gdz v)⟩]) 1 (.slice (some ⟨H2.length,0,none⟩) 4 1) 4 (nU (Gdz v)):=⟨rfl,.inr ⟨H2.length,0,rfl,.inr ⟨_,blk?_push_eq,by simp [nU,Gdz],by simp [nU,Gdz]⟩⟩⟩
 have c3' : Ga7 (H2++[some ⟨false,nU (Gdz v)⟩]) 1 b out.length (nU out2):=c3.of_blk fun id hid hb=>by rw [blk?_push_lt (blk?_lt hb)]; exact hb
 obtain ⟨H3,e3,b3,l3,k3⟩:=Gbs c3' ht4 (bytes:=1) (by unfold Gaq; omega) (by omega) (by omega)
 have hlp : (H2++[some (⟨false,nU (Gdz v)⟩ : Blk)]).length = H2.length + 1:=by simp
 rw [hlp] at e3 b3 l3 k3
 have happ : nU out2++nU (Gdz v) = nU (out2++Gdz v):=by simp [nU]
 rw [happ] at b3
 rw [← hterm] at b3
 have hxl : (Gf7 out low a.size).length = out.length + 4:=by rw [hterm]; simp [hol,Gdz]
 rw [hterm] at hxl
 generalize hX : Gf7 out low a.size = X at *
 have hXl : X.length = out.length + 4:=by rw [hterm]; exact hxl
 have he:=blk?_lt hblk
 have keep : ∀ id,id < h.length→blk? H3 id = blk? h id:=fun id hid=>by
  rw [k3 id (by omega) (fun x=>by have:=g1 id x; omega),blk?_push_lt (by omega),c5 id (fun x=>by have:=g1 id x; omega),k1 id hid]
 have hb3e : blk? H3 e = some ⟨false,[.slice (some ⟨pb,0,none⟩) a.p.length 1,o,.int .i64 (low : Nat),.int .i64 (a.size : Nat),.bool a.begun]⟩:=by rw [keep e he]; exact hblk
 have hpbl:=blk?_lt hE.pblk
 have heH3 : e < H3.length:=by omega
 generalize hfinH : H3.set e (some ⟨false,[.slice (some ⟨pb,0,none⟩) a.p.length 1,.slice none 0 0,.int .i64 0,.int .i64 4294967295,.bool false]⟩) = H4
 have hb4 : blk? H4 e = some ⟨false,[.slice (some ⟨pb,0,none⟩) a.p.length 1,.slice none 0 0,.int .i64 0,.int .i64 4294967295,.bool false]⟩:=by rw [← hfinH]; exact blk?_set_eq heH3
 have hne4 : ∀ id,id ≠ e→blk? H4 id = blk? H3 id:=fun id hid=>by rw [← hfinH]; exact blk?_set_ne (Ne.symm hid)
 have hl4 : H4.length = H3.length:=by rw [← hfinH]; simp
 refine ⟨H4,.slice (some ⟨H2.length + 1,0,none⟩) (Ghg X).length 1,fun R=>?_,⟨⟨hb4,by rw [hne4 pb (Ne.symm hE.ne1),keep pb hpbl]; exact hE.pblk,Ga7.nil _ _,hE.ne1,by simp [sid],by simp [sid]⟩,rfl,by omega,Ghf I.ok.ps,I.pos⟩,
  ⟨by omega,fun id i1 i2 i3 i4=>by rw [hne4 id i2,keep id i1],fun id hid=>by simp [sid] at hid⟩,?_,fun id hid=>by simp [sid] at hid; omega⟩
 ·have hL:=fun K1 K2 K4 K5 K6 K7 K8 K9 Ka Kb Kc Kd Ke Kf Kg Kh Ki Kj Kk Kl Km Kn Ko Kp Kq Kr Ks Kt Ku Kv Kw Kx Ky Kz J0 J1 J2 J3 J4 J5 J6 J7 J8 J9 Ja Jb Jc Jd Je Jf Jg Jh Ji Jj Jk Jl Jm Jn Jo Jp Jq Jr Js Jt Ju Jv Jw Jx Jy Jz Y0=>G15 (R:=R) (h:=H3) (id:=H2.length + 1) (xs:=X) b3 (by omega) (v0:=ptr e) (k:=[.code (tlC 7 Gqe)]) (res:=R (.slice (some ⟨H2.length + 1,0,none⟩) (Ghg X).length 1) H4)
   (fun K1 K2 K4 K5 K6 K7 K8 K9 Ka Kb Kc Kd Ke Kf Kg Kh Ki Kj Kk Kl Km Kn Ko Kp Kq Kr Ks Kt Ku Kv Kw Kx Ky Kz J0 J1 J2 J3 J4 J5 J6 J7 J8 J9 Ja Jb Jc Jd Je Jf Jg Jh Ji Jj Jk Jl Jm Jn Jo Jp Jq Jr Js Jt Ju Jv Jw Jx Jy Jz Y0=>by
    have hse : ∀ x,blk? (H3.set e x) e = x:=fun x=>blk?_set_eq heH3
    show Ok tab G7g [.code (.seq (Gau 7 Gqe) (tlC 8 Gqe))] _ H3 R = _
    simp only [Gau,tlC,Gd5,Gqe]
    simp [hb3e,hse,hfinH,fin229]) (X.length - (Ghg X).length) X.length K1 K2 K4 K5 K6 K7 K8 K9 Ka Kb Kc Kd Ke Kf Kg Kh Ki Kj Kk Kl Km Kn Ko Kp Kq Kr Ks Kt Ku Kv Kw Kx Ky Kz J0 J1 J2 J3 J4 J5 J6 J7 J8 J9 Ja Jb Jc Jd Je Jf Jg Jh Ji Jj Jk Jl Jm Jn Jo Jp Jq Jr Js Jt Ju Jv Jw Jx Jy Jz Y0 (by have:=Gjs X; omega) (Nat.le_refl _)
  rw [hXl] at hL
  rw [G3s,show Gqe = .seq (Gau 0 Gqe) (.seq (Gau 1 Gqe) (.seq (Gau 2 Gqe) (.seq (Gau 3 Gqe) (.seq (Gau 4 Gqe) (.seq (Gau 5 Gqe) (.seq (Gau 6 Gqe) (tlC 7 Gqe))))))) from rfl]
  generalize hT7 : tlC 7 Gqe = T7 at *
  simp only [Gau,tlC,Gd5,Gqe]
  have kb1 : blk? H1 e = some ⟨false,[.slice (some ⟨pb,0,none⟩) a.p.length 1,o,.int .i64 (low : Nat),.int .i64 (a.size : Nat),.bool a.begun]⟩:=by rw [k1 e he]; exact hblk
  generalize ((v / 16777216 : Nat) : Int) = y1 at *
  generalize ((v / 65536 % 256 : Nat) : Int) = y2 at *
  generalize ((v / 256 % 256 : Nat) : Int) = y3 at *
  generalize ((v % 256 : Nat) : Int) = y4 at *
  cases over with
  | false =>
   have c2':=c2 rfl
   subst c2'
   simp [Gd4,hv,hblk,e1,kb1,hch,q24,q16,q8,q0,hfour,e3,hL]
  | true =>
   have c1':=fun R=>c1 R rfl
   simp [Gd4,hv,hblk,e1,kb1,hch,c1',q24,q16,q8,q0,hfour,e3,hL]
 ·obtain ⟨t1,_,_⟩:=Gkr X
  have htl:=Gjs X
  refine ⟨by rw [Gwy,Nat.mul_one],.inr ⟨H2.length + 1,0,rfl,.inr ⟨⟨false,nU X⟩,by rw [hne4 _ (by omega)]; exact b3,by simp only [Gwy]; omega,?_⟩⟩⟩
  simp only [List.drop_zero,Nat.mul_one]
  rw [nU,← List.map_take,← t1]; rfl
end
structure PW (h : Gag) (p : Nat) (s : Value) (bs : List Nat) : Prop where
 blk : blk? h p = some ⟨false,[.bool true,s,.int .i64 bs.length]⟩
 own : Ga7 h 1 s (pack bs).length (nU (pack bs))
 ne : sid s ≠ some p
 bits : Gc5 bs
structure Fr (h h' : Gag) (p : Nat) (s s' : Value) : Prop where
 len : h.length≤h'.length
 same : ∀ id,id < h.length→id ≠ p→sid s ≠ some id→blk? h' id = blk? h id
 fresh : ∀ id,sid s' = some id→sid s = some id∨(h.length≤id∧id < h'.length)
theorem new15 (h : Gag) : ∃ h',(∀ R : RP,Ret tab 40 [] h R = R (ptr h.length) h')∧PW h' h.length (.slice none 0 0) []∧h'.length = h.length + 1∧∀ id,id < h.length→blk? h' id = blk? h id:=by
 refine ⟨h++[some ⟨false,[.bool true,.slice none 0 0,.int .i64 0]⟩],fun R=>?_,⟨blk?_push_eq,Ga7.nil _ _,by simp [sid],fun b hb=>by cases hb⟩,by simp,fun id hid=>blk?_push_lt hid⟩
 rw [G8o,B40]
 simp [fin40]
theorem size22 {h : Gag} {p : Nat} {s : Value} {bs : List Nat} (hb : PW h p s bs) (R : RP) :
  Ret tab 238 [ptr p] h R = R (.int .i64 ((bs.length + 7) / 8 : Nat)) h:=by
 have hp:=hb.blk
 obtain ⟨a,c,rfl⟩:=hb.own.sl.shape
 rw [G3q,B238]
 simp [Gaa,hp,fin238,Gbb]
theorem or_bit : ∀ (x : Fin 256) (j : Fin 8) (b : Fin 2),x.1 % 2 ^ (j.1 + 1) = 0 →
  orI .u8 (x.1 : Int) (IntKind.u8.wrap (Gmf .i64 (b.1 : Int) (j.1 : Int))) = ((x.1 + b.1 * 2 ^ j.1 : Nat) : Int):=by decide +kernel
theorem Gwl {h : Gag} {p id : Nat} {xs : List Nat} {n b : Nat} (hp : blk? h p = some ⟨false,[.bool true,.slice (some ⟨id,0,none⟩) xs.length 1,.int .i64 n]⟩) (hid : blk? h id = some ⟨false,nU xs⟩) (hne : p ≠ id)
  (hi : n / 8 < xs.length) (hx : xs[n / 8] < 256) (hz : xs[n / 8] % 2 ^ (8 - n % 8) = 0) (hb : b≤1) (hn : n < 1000000) {ys : List Nat} (hy : xs.set (n / 8) (xs[n / 8] + b * 2 ^ (7 - n % 8)) = ys) (K2 K3 K4 K5 K6 K7 K8 K9 Ka Kb Kc Kd Ke Kf Kg Kh Ki Kj Kk Kl Km Kn Ko Kp Kq Kr Ks Kt Ku Kv Kw Kx Ky Kz J0 J1 J2 J3 J4 J5 J6 J7 J8 J9 Ja Jb Jc : Value) (R : RP) :
  Ok tab Qb4 [.code (tlC 1 Gty)] #[ptr p,.int .i64 b,K2,K3,K4,K5,K6,K7,K8,K9,Ka,Kb,Kc,Kd,Ke,Kf,Kg,Kh,Ki,Kj,Kk,Kl,Km,Kn,Ko,Kp,Kq,Kr,Ks,Kt,Ku,Kv,Kw,Kx,Ky,Kz,J0,J1,J2,J3,J4,J5,J6,J7,J8,J9,Ja,Jb,Jc] h R =
   R (.tuple #[]) ((h.set id (some ⟨false,nU ys⟩)).set p (some ⟨false,[.bool true,.slice (some ⟨id,0,none⟩) xs.length 1,.int .i64 ((n : Int) + 1)]⟩)):=by
 simp only [tlC,Gty]
 have hw : IntKind.i64.wrap ((n : Int) + 1) = (n : Int) + 1:=Gbc (n:=n + 1) (by omega)
 have hq : IntKind.i64.wrap ((n : Int) / 8) = (n : Int) / 8:=Gbc (n:=n / 8) (by omega)
 have h2 : (0 : Int)≤(n : Int) / 8∧(n : Int) / 8 < xs.length:=by omega
 have h3 : ((n : Int) / 8).toNat = n / 8:=by omega
 have h5 : IntKind.u64.wrap (IntKind.i64.wrap (7 - (n : Int).tmod 8)) = ((7 - n % 8 : Nat) : Int):=by
  rw [show (n : Int).tmod 8 = ((n % 8 : Nat) : Int) from rfl,Gan (by omega) (by omega),IntKind.wrap_u64]; omega
 have h6 : ¬ ((7 - n % 8 : Nat) : Int) < 0:=by omega
 have hlp:=blk?_lt hp
 have hli:=blk?_lt hid
 have h7:=or_bit ⟨xs[n / 8],hx⟩ ⟨7 - n % 8,by omega⟩ ⟨b,by omega⟩ (by simp only; rw [show 7 - n % 8 + 1 = 8 - n % 8 by omega]; exact hz)
 simp only at h7
 have hg : (nU xs)[n / 8]? = some (.int .u8 xs[n / 8]):=by simp [nU,hi]
 have hlen : (nU xs).length = xs.length:=by simp [nU]
 have hset : ∀ y : Nat,(nU xs).set (n / 8) (.int .u8 y) = nU (xs.set (n / 8) y):=fun y=>by simp [nU,List.map_set]
 have h8 : n / 8 + 1≤xs.length:=hi
 generalize xs[n / 8] + b * 2 ^ (7 - n % 8) = y at h7 hy
 simp [hp,hid,hlp,hli,hw,hq,h2,h3,h5,h6,h7,h8,hg,hlen,hset,blk?_set_eq,blk?_set_ne hne,blk?_set_ne (Ne.symm hne),fin244,hy]
theorem Gy9 {bs : List Nat} (hi : bs.length / 8 < (pack bs).length) : (pack bs)[bs.length / 8] = Gc7 bs (bs.length / 8):=by
 have:=Ghh bs (bs.length / 8)
 rw [List.getD_eq_getElem?_getD,List.getElem?_eq_getElem hi] at this
 exact this
theorem put48 {h : Gag} {p : Nat} {s : Value} {bs : List Nat} {b : Nat} (hw : PW h p s bs) (hb : b≤1) (hl : bs.length < 1000000) :
  ∃ s' h',(∀ R : RP,Ret tab 244 [ptr p,.int .i64 b] h R = R (.tuple #[]) h')∧PW h' p s' (bs++[b])∧Fr h h' p s s':=by
 obtain ⟨hp,ho,hne,hbits⟩:=hw
 have hlp:=blk?_lt hp
 have hpl:=Gbb bs
 by_cases h8 : bs.length % 8 = 0
 ·-- a byte more
  have h0 : ((bs.length : Int).tmod 8 == 0) = true:=by
   rw [show (bs.length : Int).tmod 8 = ((bs.length % 8 : Nat) : Int) from rfl,h8]; rfl
  have hsl : Sl (h++[some ⟨false,[.int .u8 0]⟩]) 1 (.slice (some ⟨h.length,0,none⟩) 1 1) 1 [.int .u8 0] :=
   ⟨by simp,.inr ⟨h.length,0,rfl,.inr ⟨_,blk?_push_eq,by simp,by simp⟩⟩⟩
  have ho' : Ga7 (h++[some ⟨false,[.int .u8 0]⟩]) 1 s (pack bs).length (nU (pack bs)):=ho.of_blk fun id _ hb=>blk?_push hb
  obtain ⟨H,ha,hK,hHl,hHs⟩:=Gbs (bytes:=1) ho' hsl (by unfold Gaq; omega) (by omega) (by omega)
  simp only [List.length_append,List.length_singleton] at ha hK hHl hHs
  have hHp : blk? H p = some ⟨false,[.bool true,s,.int .i64 bs.length]⟩:=by
   rw [hHs p (by omega) hne,blk?_push_lt hlp]; exact hp
  have hlpH:=blk?_lt hHp
  have hlen1 : (pack bs++[0]).length = (pack bs).length + 1:=by simp
  have hq : bs.length / 8 = (pack bs).length:=by omega
  have hys : (pack bs++[0]).set (bs.length / 8) ((pack bs++[0])[bs.length / 8]'(by omega) + b * 2 ^ (7 - bs.length % 8)) = pack (bs++[b]):=by
   rw [Gmd h8,h8]
   simp [hq]
  have hlen2 : (pack (bs++[b])).length = (pack bs).length + 1:=by rw [Gmd h8]; simp
  generalize hH1 : H.set p (some ⟨false,[.bool true,.slice (some ⟨h.length + 1,0,none⟩) ((pack bs).length + 1) 1,.int .i64 bs.length]⟩) = H1
  have hH1l : H1.length = h.length + 2:=by rw [← hH1]; simp [hHl]
  have hon:=Gwl (h:=H1) (p:=p) (id:=h.length + 1) (xs:=pack bs++[0]) (n:=bs.length) (b:=b)
   (by rw [← hH1,blk?_set_eq hlpH,hlen1]) (by rw [← hH1,blk?_set_ne (by omega),hK]; simp [nU]) (by omega) (by omega) (by simp [hq]) (by simp [hq]) hb hl hys
  refine ⟨.slice (some ⟨h.length + 1,0,none⟩) ((pack bs).length + 1) 1,(H1.set (h.length + 1) (some ⟨false,nU (pack (bs++[b]))⟩)).set p (some ⟨false,[.bool true,.slice (some ⟨h.length + 1,0,none⟩) ((pack bs).length + 1) 1,.int .i64 ((bs.length : Int) + 1)]⟩),fun R=>?_,⟨?_,?_,?_,hbits.push hb⟩,⟨?_,?_,?_⟩⟩
  ·rw [Gvv,show Gty = .seq (Gau 0 Gty) (tlC 1 Gty) from rfl,Gbm]
   generalize hT : tlC 1 Gty = tl
   simp only [Gau,tlC,Gd5,Gty]
   simp [hp,h0,ha,hHp,hlpH,hH1,Gd4]
   rw [← hT,hon,hlen1]
  ·rw [blk?_set_eq (by simp; omega)]; simp
  ·refine ⟨by simp [nU],.inr ⟨h.length + 1,by rw [hlen2],?_⟩⟩
   rw [blk?_set_ne (by omega),blk?_set_eq (by omega)]
  ·simp [sid]; omega
  ·simp; omega
  ·intro id hid hidp hids
   rw [blk?_set_ne (Ne.symm hidp),blk?_set_ne (by omega),← hH1,blk?_set_ne (Ne.symm hidp),hHs id (by omega) hids,blk?_push_lt hid]
  ·intro id hid
   simp [sid] at hid
   exact .inr (by simp; omega)
 ·-- the byte goes on
  obtain ⟨id,rfl,hid⟩:=ho.ne_nil (by omega)
  have h0 : ((bs.length : Int).tmod 8 == 0) = false:=by
   rw [show (bs.length : Int).tmod 8 = ((bs.length % 8 : Nat) : Int) from rfl]
   simp; omega
  have hq : bs.length / 8 < (pack bs).length:=by omega
  have hne' : p ≠ id:=fun e=>hne (by rw [e]; rfl)
  have hby:=Gy9 hq
  have hon:=Gwl (p:=p) (id:=id) (xs:=pack bs) (n:=bs.length) (b:=b) hp hid hne' hq (by rw [hby]; exact Grw hbits _) (by rw [hby]; exact Gxp bs) hb hl (ys:=pack (bs++[b])) (by rw [hby,Gmr h8])
  have hlen2 : (pack (bs++[b])).length = (pack bs).length:=by rw [Gmr h8]; simp
  have hli:=blk?_lt hid
  refine ⟨.slice (some ⟨id,0,none⟩) (pack bs).length 1,(h.set id (some ⟨false,nU (pack (bs++[b]))⟩)).set p (some ⟨false,[.bool true,.slice (some ⟨id,0,none⟩) (pack bs).length 1,.int .i64 ((bs.length : Int) + 1)]⟩),fun R=>?_,⟨?_,?_,?_,hbits.push hb⟩,⟨?_,?_,?_⟩⟩
  ·rw [Gvv,show Gty = .seq (Gau 0 Gty) (tlC 1 Gty) from rfl,Gbm]
   generalize hT : tlC 1 Gty = tl
   simp only [Gau,tlC,Gd5,Gty]
   simp [hp,h0]
   rw [← hT,hon]
  ·rw [blk?_set_eq (by simp; omega)]; simp
  ·refine ⟨by simp [nU],.inr ⟨id,by rw [hlen2],?_⟩⟩
   rw [blk?_set_ne (by omega),blk?_set_eq (by omega)]
  ·exact hne
  ·simp
  ·intro j hj hjp hjs
   rw [blk?_set_ne (Ne.symm hjp),blk?_set_ne (fun e=>hjs (by rw [e]; rfl))]
  ·intro j hj
   exact .inl hj
theorem put20 {h : Gag} {p : Nat} {s : Value} {bs : List Nat} {b : Nat} (hw : PW h p s bs) (hb : b≤1) (hl : bs.length < 1000000) :
  ∃ s' h',(∀ R : RP,Ret tab 243 [ptr p,.int .i64 b] h R = R (.int .i64 0) h')∧PW h' p s' (bs++[b])∧Fr h h' p s s':=by
 obtain ⟨s',h',e,w,f⟩:=put48 hw hb hl
 refine ⟨s',h',fun R=>?_,w,f⟩
 have hp:=hw.blk
 rw [G4a,B243]
 have : b = 0∨b = 1:=by omega
 rcases this with rfl | rfl <;> simp at e <;> simp [Gaa,hp,fin243,e]
theorem loop18 {h : Gag} {id e p : Nat} {xs : List Nat} (hid : blk? h id = some ⟨false,nU xs⟩) (ht : Trim xs e) (hl : xs.length < 1000000) {k : List Ga1} {R : RP} {X : Prop}
  (hk : ∀ (K1 K2 K4 K5 K6 K7 K8 K9 Ka Kb Kc Kd Ke Kf Kg Kh Ki Kj Kk Kl Km Kn Ko Kp Kq Kr Ks Kt Ku Kv Kw Kx Ky Kz J0 J1 J2 J3 J4 J5 J6 J7 J8 : Value),(Ok tab Qbv k #[ptr p,K1,K2,.slice (some ⟨id,0,none⟩) e 1,K4,K5,K6,K7,K8,K9,Ka,Kb,Kc,Kd,Ke,Kf,Kg,Kh,Ki,Kj,Kk,Kl,Km,Kn,Ko,Kp,Kq,Kr,Ks,Kt,Ku,Kv,Kw,Kx,Ky,Kz,J0,J1,J2,J3,J4,J5,J6,J7,J8] h R ↔ X)) :
  ∀ (d m : Nat) (K1 K2 K4 K5 K6 K7 K8 K9 Ka Kb Kc Kd Ke Kf Kg Kh Ki Kj Kk Kl Km Kn Ko Kp Kq Kr Ks Kt Ku Kv Kw Kx Ky Kz J0 J1 J2 J3 J4 J5 J6 J7 J8 : Value),m = e + d→m≤xs.length→(Ok tab Qbv (.inLoop Gwr :: .inBlock 0 :: k) #[ptr p,K1,K2,.slice (some ⟨id,0,none⟩) m 1,K4,K5,K6,K7,K8,K9,Ka,Kb,Kc,Kd,Ke,Kf,Kg,Kh,Ki,Kj,Kk,Kl,Km,Kn,Ko,Kp,Kq,Kr,Ks,Kt,Ku,Kv,Kw,Kx,Ky,Kz,J0,J1,J2,J3,J4,J5,J6,J7,J8] h R ↔ X):=by
 intro d
 have hw : ∀ m : Nat,0 < m→m≤xs.length→IntKind.i64.wrap ((m : Int) - 1) = ((m - 1 : Nat) : Int):=fun m h0 h1=>by rw [Gan (by omega) (by omega)]; omega
 have hg : ∀ m : Nat,m < xs.length→(nU xs)[m]? = some (.int .u8 (xs.getD m 0 : Nat)):=fun m hm=>by
  simp [nU,hm]
 induction d with
 | zero =>
  intro m;intros;rename_i hm hi
  obtain rfl : m = e:=by omega
  rw [Gad,Gzd,Glb,Gkk]
  rcases Nat.eq_zero_or_pos m with h0 | h0
  ·subst h0
   simp [Gaa]
   apply hk
  ·have h1 : (0 : Int) < m:=by omega
   have h2 : (0 : Int)≤((m - 1 : Nat) : Int)∧((m - 1 : Nat) : Int) < m:=by omega
   have h3:=ht.2.2.resolve_left (by omega)
   have h4 : (((xs.getD (m - 1) 0 : Nat) : Int) == 0) = false:=by simpa using h3
   generalize hv : ((xs.getD (m - 1) 0 : Nat) : Int) = v at h4
   have hg':=hg (m - 1) (by omega)
   rw [hv] at hg'
   simp [Gaa,h0,h1,hw m h0 hi,h2,hid,hg',h4]
   apply hk
 | succ d ih =>
  intro m;intros;rename_i hm hi
  rw [Gad,Gzd,Glb,Gkk]
  have h0 : 0 < m:=by omega
  have h1 : (0 : Int) < m:=by omega
  have h2 : (0 : Int)≤((m - 1 : Nat) : Int)∧((m - 1 : Nat) : Int) < m:=by omega
  have h3:=ht.2.1 (m - 1) (by omega)
  have hg':=hg (m - 1) (by omega)
  rw [h3] at hg'
  have h5 : ((m - 1 : Nat) : Int)≤(m : Int):=by omega
  simp [Gaa,h0,h1,hw m h0 hi,h2,hid,hg',Gc8,Gl5,bnd,h5]
  exact ih (m - 1) _ _ _ _ _ _ _ _ _ _ _ _ _ _ _ _ _ _ _ _ _ _ _ _ _ _ _ _ _ _ _ _ _ _ _ _ _ _ _ _ _ _ _ (by omega) (by omega)
theorem term18 {h : Gag} {p : Nat} {s : Value} {bs : List Nat} (hw : PW h p s bs) (hl : bs.length < 1000000) :
  ∃ t h',(∀ R : RP,Ret tab 242 [ptr p] h R = R t h')∧Sl h' 1 t (Gjc bs).length (nU (Gjc bs))∧PW h' p (.slice none 0 0) []∧h'.length = h.length∧(∀ id,id ≠ p→blk? h' id = blk? h id)∧(∀ id,sid t = some id→sid s = some id):=by
 obtain ⟨hp,ho,hne,hbits⟩:=hw
 have hlp:=blk?_lt hp
 have hpl:=Gbb bs
 have hsl : (Gjc bs).length = Gf9 bs bs.length:=by
  rw [Gjc,List.length_take]; have:=(Ghj hbits).1; omega
 rcases ho.2 with ⟨rfl,h0⟩ | ⟨id,rfl,hid⟩
 ·-- nothing was written
  have he : (Gjc bs).length = 0:=by rw [hsl]; have:=(Ghj hbits).1; omega
  have he' : Gjc bs = []:=List.eq_nil_of_length_eq_zero he
  refine ⟨.slice none 0 0,h.set p (some ⟨false,[.bool true,.slice none 0 0,.int .i64 0]⟩),fun R=>?_,?_,⟨?_,Ga7.nil _ _,by simp [sid],fun b hb=>by cases hb⟩,by simp,fun id hid=>blk?_set_ne (Ne.symm hid),fun id h=>h⟩
  ·rw [Gwc,Qe0]
   simp [Gaa,hp]
   rw [Gad,Gzd,Glb,Gkk]
   simp [Gaa,hp,hlp,blk?_set_eq,G6s]
  ·rw [he']; exact (Ga7.nil _ _).sl
  ·rw [blk?_set_eq hlp]; rfl
 ·have hne' : p ≠ id:=fun e=>hne (by rw [e]; rfl)
  refine ⟨.slice (some ⟨id,0,none⟩) (Gf9 bs bs.length) 1,h.set p (some ⟨false,[.bool true,.slice none 0 0,.int .i64 0]⟩),fun R=>?_,?_,⟨?_,Ga7.nil _ _,by simp [sid],fun b hb=>by cases hb⟩,by simp,fun id hid=>blk?_set_ne (Ne.symm hid),fun id h=>h⟩
  ·rw [Gwc,Qe0]
   simp [Gaa,hp]
   have ht:=Ghj hbits
   refine loop18 (p:=p) (e:=Gf9 bs bs.length) hid ht (by omega) ?_ ((pack bs).length - Gf9 bs bs.length) (pack bs).length _ _ _ _ _ _ _ _ _ _ _ _ _ _ _ _ _ _ _ _ _ _ _ _ _ _ _ _ _ _ _ _ _ _ _ _ _ _ _ _ _ _ _ (by have:=ht.1; omega) (Nat.le_refl _)
   intros
   simp [hp,hlp,blk?_set_eq,G6s]
  ·refine ⟨by simp [nU],.inr ⟨id,0,by rw [hsl],.inr ⟨⟨false,nU (pack bs)⟩,by rw [blk?_set_ne hne']; exact hid,?_,?_⟩⟩⟩
   ·have:=(Ghj hbits).1
    show 0 + (Gjc bs).length * 1≤(nU (pack bs)).length
    simp [nU]; omega
   ·rw [List.drop_zero,Nat.mul_one,hsl]
    show List.take (Gf9 bs bs.length) (nU (pack bs)) = nU ((pack bs).take (Gf9 bs bs.length))
    simp [nU,List.map_take]
  ·rw [blk?_set_eq hlp]; rfl
structure Cell where
 v : Int
 s : Bool
 t : Bool
 r : Bool
def Cell.zero : Cell:=⟨0,false,false,false⟩
def Cell.enc (c : Cell) : List Value:=[.int .i64 c.v,.bool c.s,.bool c.t,.bool c.r]
def Gco : List Cell→List Value
 | []=>[]
 | c :: r=>c.enc++Gco r
theorem Gfi : ∀ l : List Cell,(Gco l).length = l.length * 4
 | []=>rfl
 | c :: r=>by rw [Gco,List.length_append,Gfi r]; simp [Cell.enc]; omega
theorem Gfc : ∀ (l : List Cell) (i j : Nat),j < 4→(Gco l)[i * 4 + j]? = (l[i]?).bind fun c=>c.enc[j]?
 | [],i,j,_=>by simp [Gco]
 | c :: r,0,j,hj=>by
  rw [Gco,List.getElem?_append_left (by simp [Cell.enc]; omega)]; simp
 | c :: r,i + 1,j,hj=>by
  rw [Gco,List.getElem?_append_right (by simp [Cell.enc]; omega)]
  have:=Gfc r i j hj
  rw [show (i + 1) * 4 + j - c.enc.length = i * 4 + j by simp [Cell.enc]; omega,this]
  simp
theorem Ght : ∀ (l : List Cell) (i : Nat) (c : Cell),i < l.length→Gco (l.set i c) = writeAt (Gco l) (i * 4) c.enc
 | [],i,c,h=>by simp at h
 | x :: r,0,c,_=>by simp [Gco,Cell.enc]
 | x :: r,i + 1,c,h=>by
  have ih:=Ght r i c (by simpa using h)
  rw [List.set_cons_succ,Gco,ih,Gco]
  rw [Gd6 _ _ _ (by rw [Gfi]; simp [Cell.enc]; simp at h; omega),Gd6 _ _ _ (by rw [List.length_append,Gfi]; simp [Cell.enc]; simp at h; omega)]
  rw [show (i + 1) * 4 = x.enc.length + i * 4 by simp [Cell.enc]; omega,List.take_length_add_append,show x.enc.length + i * 4 + c.enc.length = x.enc.length + (i * 4 + c.enc.length) by omega,List.drop_length_add_append]
  simp
theorem Gj7 (n : Nat) : ∀ l : List Cell,Gat n (Gco l) = true
 | []=>by simp [Gco]
 | c :: r=>by simp [Gco,Cell.enc,Gj7 n r]
theorem set_self {l : List Value} {i : Nat} {v : Value} (h : l[i]? = some v) : l.set i v = l:=by
 obtain ⟨hi,rfl⟩:=List.getElem?_eq_some_iff.1 h
 simp
theorem G0v {l : List Cell} {i : Nat} (h : i < l.length) {v : Int} : (Gco l).set (i * 4) (.int .i64 v) = Gco (l.set i { l[i] with v:=v }):=by
 have g:=Gfc l i
 have h0 : l[i]? = some l[i]:=List.getElem?_eq_getElem h
 rw [Ght _ _ _ h]
 simp only [Cell.enc,Ggf,Ghr]
 have g1 : (Gco l)[i * 4 + 1]? = some (.bool l[i].s):=by rw [g 1 (by omega),h0]; rfl
 have g2 : (Gco l)[i * 4 + 2]? = some (.bool l[i].t):=by rw [g 2 (by omega),h0]; rfl
 have g3 : (Gco l)[i * 4 + 3]? = some (.bool l[i].r):=by rw [g 3 (by omega),h0]; rfl
 rw [set_self (l:=(Gco l).set (i * 4) _) (by rw [List.getElem?_set_ne (by omega)]; exact g1)]
 rw [set_self (l:=(Gco l).set (i * 4) _) (by rw [List.getElem?_set_ne (by omega)]; exact g2)]
 rw [set_self (l:=(Gco l).set (i * 4) _) (by rw [List.getElem?_set_ne (by omega)]; exact g3)]
theorem Gyv {l : List Cell} {i : Nat} (h : i < l.length) {b : Bool} : (Gco l).set (i * 4 + 1) (.bool b) = Gco (l.set i { l[i] with s:=b }):=by
 have g:=Gfc l i
 have h0 : l[i]? = some l[i]:=List.getElem?_eq_getElem h
 rw [Ght _ _ _ h]
 simp only [Cell.enc,Ggf,Ghr]
 have g0 : (Gco l)[i * 4]? = some (.int .i64 l[i].v):=by have:=g 0 (by omega); rw [Nat.add_zero] at this; rw [this,h0]; rfl
 have g2 : (Gco l)[i * 4 + 2]? = some (.bool l[i].t):=by rw [g 2 (by omega),h0]; rfl
 have g3 : (Gco l)[i * 4 + 3]? = some (.bool l[i].r):=by rw [g 3 (by omega),h0]; rfl
 rw [set_self g0]
 rw [set_self (l:=(Gco l).set (i * 4 + 1) _) (by rw [List.getElem?_set_ne (by omega)]; exact g2)]
 rw [set_self (l:=(Gco l).set (i * 4 + 1) _) (by rw [List.getElem?_set_ne (by omega)]; exact g3)]
theorem G2a {l : List Cell} {i : Nat} (h : i < l.length) {b : Bool} : (Gco l).set (i * 4 + 2) (.bool b) = Gco (l.set i { l[i] with t:=b }):=by
 have g:=Gfc l i
 have h0 : l[i]? = some l[i]:=List.getElem?_eq_getElem h
 rw [Ght _ _ _ h]
 simp only [Cell.enc,Ggf,Ghr]
 have g0 : (Gco l)[i * 4]? = some (.int .i64 l[i].v):=by have:=g 0 (by omega); rw [Nat.add_zero] at this; rw [this,h0]; rfl
 have g1 : (Gco l)[i * 4 + 1]? = some (.bool l[i].s):=by rw [g 1 (by omega),h0]; rfl
 have g3 : (Gco l)[i * 4 + 3]? = some (.bool l[i].r):=by rw [g 3 (by omega),h0]; rfl
 rw [set_self g0,set_self g1]
 rw [set_self (l:=(Gco l).set (i * 4 + 2) _) (by rw [List.getElem?_set_ne (by omega)]; exact g3)]
theorem G1y {l : List Cell} {i : Nat} (h : i < l.length) {b : Bool} : (Gco l).set (i * 4 + 3) (.bool b) = Gco (l.set i { l[i] with r:=b }):=by
 have g:=Gfc l i
 have h0 : l[i]? = some l[i]:=List.getElem?_eq_getElem h
 rw [Ght _ _ _ h]
 simp only [Cell.enc,Ggf,Ghr]
 have g0 : (Gco l)[i * 4]? = some (.int .i64 l[i].v):=by have:=g 0 (by omega); rw [Nat.add_zero] at this; rw [this,h0]; rfl
 have g1 : (Gco l)[i * 4 + 1]? = some (.bool l[i].s):=by rw [g 1 (by omega),h0]; rfl
 have g2 : (Gco l)[i * 4 + 2]? = some (.bool l[i].t):=by rw [g 2 (by omega),h0]; rfl
 rw [set_self g0,set_self g1,set_self g2]
structure BS where
 w : Nat
 h : Nat
 cs : List Cell
structure BS.Ok (b : BS) : Prop where
 w1 : 1≤b.w
 w2 : b.w≤64
 h1 : 1≤b.h
 h2 : b.h≤64
 len : b.cs.length = b.w * b.h
def BS.inb (b : BS) (x y : Int) : Prop:=0≤x∧x < b.w∧0≤y∧y < b.h
instance (b : BS) (x y : Int) : Decidable (b.inb x y):=by unfold BS.inb; exact inferInstance
def BS.idx (b : BS) (x y : Int) : Nat:=(y * b.w + x).toNat
def BS.get (b : BS) (x y : Int) : Cell:=if b.inb x y then b.cs.getD (b.idx x y) .zero else .zero
def BS.upd (b : BS) (x y : Int) (f : Cell→Cell) : BS:={ b with cs:=b.cs.set (b.idx x y) (f (b.get x y)) }
theorem Gwb {a b c d : Nat} (h1 : a≤c) (h2 : b≤d) : a * b≤c * d:=Nat.mul_le_mul h1 h2
theorem BS.idx_lt {b : BS} (ho : b.Ok) {x y : Int} (hi : b.inb x y) : b.idx x y < b.cs.length:=by
 obtain ⟨h1,h2,h3,h4⟩:=hi
 rw [ho.len]
 obtain ⟨n,rfl⟩:=Int.eq_ofNat_of_zero_le h1
 obtain ⟨m,rfl⟩:=Int.eq_ofNat_of_zero_le h3
 have e : b.idx n m = m * b.w + n:=by
  unfold BS.idx
  rw [show ((m : Int) * b.w + n) = ((m * b.w + n : Nat) : Int) by simp]; rfl
 rw [e]
 have hm : m + 1≤b.h:=by omega
 have:=Nat.mul_le_mul_right b.w hm
 rw [Nat.add_mul] at this
 rw [Nat.mul_comm b.w]
 omega
theorem BS.idx_int {b : BS} (ho : b.Ok) {x y : Int} (hi : b.inb x y) : y * b.w + x = (b.idx x y : Int)∧b.idx x y < 4096∧0≤y * (b.w : Int)∧y * (b.w : Int)≤4096:=by
 have hl:=BS.idx_lt ho hi
 obtain ⟨h1,h2,h3,h4⟩:=hi
 have h0 : 0≤y * (b.w : Int):=Int.mul_nonneg h3 (by omega)
 have hm:=Gwb ho.w2 ho.h2
 rw [← ho.len] at hm
 have he : y * b.w + x = (b.idx x y : Int):=by unfold BS.idx; rw [Int.toNat_of_nonneg (by omega)]
 refine ⟨he,by omega,h0,by omega⟩
theorem BS.get_in {b : BS} (ho : b.Ok) {x y : Int} (hi : b.inb x y) : b.cs[b.idx x y]? = some (b.get x y):=by
 unfold BS.get
 rw [if_pos hi,List.getD_eq_getElem?_getD,List.getElem?_eq_getElem (BS.idx_lt ho hi)]; rfl
theorem BS.getElem_in {b : BS} (ho : b.Ok) {x y : Int} (hi : b.inb x y) : b.cs[b.idx x y]'(BS.idx_lt ho hi) = b.get x y:=by
 have:=BS.get_in ho hi
 rw [List.getElem?_eq_getElem (BS.idx_lt ho hi)] at this
 exact Option.some.inj this
theorem BS.get_out {b : BS} {x y : Int} (hi : ¬ b.inb x y) : b.get x y = .zero:=by
 unfold BS.get; rw [if_neg hi]
theorem BS.Ok.upd {b : BS} (ho : b.Ok) (x y : Int) (f : Cell→Cell) : (b.upd x y f).Ok:=⟨ho.w1,ho.w2,ho.h1,ho.h2,by simp [BS.upd,ho.len]⟩
theorem BS.idx_inj {b : BS} (ho : b.Ok) {x y x' y' : Int} (hi : b.inb x y) (hi' : b.inb x' y') (he : b.idx x y = b.idx x' y') : x = x'∧y = y':=by
 have h1:=(BS.idx_int ho hi).1
 have h2:=(BS.idx_int ho hi').1
 rw [← he,← h1] at h2
 obtain ⟨a1,a2,a3,a4⟩:=hi
 obtain ⟨b1,b2,b3,b4⟩:=hi'
 have hy : y = y':=by
  rcases Int.lt_trichotomy y y' with h | h | h
  ·have:=Int.mul_le_mul_of_nonneg_right (show y + 1≤y' by omega) (show (0 : Int)≤b.w by omega)
   rw [Int.add_mul] at this; omega
  ·exact h
  ·have:=Int.mul_le_mul_of_nonneg_right (show y' + 1≤y by omega) (show (0 : Int)≤b.w by omega)
   rw [Int.add_mul] at this; omega
 subst hy
 exact ⟨by omega,rfl⟩
theorem BS.get_upd {b : BS} (ho : b.Ok) {x y : Int} (hi : b.inb x y) (f : Cell→Cell) (x' y' : Int) : (b.upd x y f).get x' y' = if x' = x∧y' = y then f (b.get x y) else b.get x' y':=by
 have hinb : (b.upd x y f).inb x' y' ↔ b.inb x' y':=Iff.rfl
 have hidx : (b.upd x y f).idx x' y' = b.idx x' y':=rfl
 by_cases hi' : b.inb x' y'
 ·have hl:=BS.idx_lt ho hi
  have e : (b.upd x y f).get x' y' = ((b.cs.set (b.idx x y) (f (b.get x y)))[b.idx x' y']?).getD .zero:=by
   unfold BS.get
   rw [if_pos (hinb.2 hi'),List.getD_eq_getElem?_getD]; rfl
  rw [e]
  by_cases hx : x' = x∧y' = y
  ·obtain ⟨rfl,rfl⟩:=hx
   rw [if_pos ⟨rfl,rfl⟩,List.getElem?_set_self hl]; rfl
  ·rw [if_neg hx,List.getElem?_set_ne (fun h=>hx (by have:=BS.idx_inj ho hi hi' h; exact ⟨this.1.symm,this.2.symm⟩)),BS.get_in ho hi']; rfl
 ·rw [BS.get_out (fun h=>hi' (hinb.1 h)),BS.get_out hi',if_neg]
  rintro ⟨rfl,rfl⟩
  exact hi' hi
def one (b : BS) (x y : Int) : Nat:=if (b.get x y).s = true then 1 else 0
def nbH (b : BS) (x y : Int) : Nat:=one b (x - 1) y + one b (x + 1) y
def nbV (b : BS) (x y : Int) (causal : Bool) : Nat:=one b x (y - 1) + if (!causal || y % 4 != 3) = true then one b x (y + 1) else 0
def nbD (b : BS) (x y : Int) (causal : Bool) : Nat:=one b (x - 1) (y - 1) + one b (x + 1) (y - 1) + if (!causal || y % 4 != 3) = true then one b (x - 1) (y + 1) + one b (x + 1) (y + 1) else 0
def sgn (b : BS) (x y : Int) : Int:=if (b.get x y).s = true then (if (b.get x y).v < 0 then -1 else 1) else 0
def Ggv (s t : Int) : Int:=min (max (s + t) (-1)) 1
def sgH (b : BS) (x y : Int) : Int:=Ggv (sgn b (x - 1) y) (sgn b (x + 1) y)
def sgV (b : BS) (x y : Int) (causal : Bool) : Int:=Ggv (sgn b x (y - 1)) (if (!causal || y % 4 != 3) = true then sgn b x (y + 1) else 0)
structure CB (h : Gag) (f : Bool) (p c : Nat) (b : BS) : Prop where
 blkp : blk? h p = some ⟨f,[.int .i64 b.w,.int .i64 b.h,.slice (some ⟨c,0,none⟩) (b.w * b.h) 4]⟩
 blkc : blk? h c = some ⟨f,Gco b.cs⟩
 ok : b.Ok
theorem CB.frz {h : Gag} {f : Bool} {p c : Nat} {b : BS} (hb : CB h f p c b) : CB (frz h) true p c b :=
 ⟨Glf hb.blkp (by simp [blk?_lt hb.blkc]),Glf hb.blkc (Gj7 _ _),hb.ok⟩
theorem CB.ne {h : Gag} {f : Bool} {p c : Nat} {b : BS} (hb : CB h f p c b) : p ≠ c:=by
 intro e
 have h1:=hb.blkp
 rw [e,hb.blkc] at h1
 have h2:=congrArg (fun o : Option Blk=>o.map (fun b=>b.cells[2]?)) h1
 simp only [Option.map_some,Option.some.injEq] at h2
 have h3:=Gfc b.cs 0 2 (by omega)
 rw [show 0 * 4 + 2 = 2 by rfl] at h3
 rw [h3] at h2
 cases hx : b.cs[0]? with
 | none=>rw [hx] at h2; simp at h2
 | some x=>rw [hx] at h2; simp [Cell.enc] at h2
theorem CB.set {h : Gag} {p c : Nat} {b b' : BS} (hb : CB h false p c b) (hw : b'.w = b.w) (hh : b'.h = b.h) (ho : b'.Ok) : CB (h.set c (some ⟨false,Gco b'.cs⟩)) false p c b' :=
 ⟨by rw [blk?_set_ne (Ne.symm hb.ne),hw,hh]; exact hb.blkp,blk?_set_eq (blk?_lt hb.blkc),ho⟩
section
variable {h : Gag} {f : Bool} {p c : Nat} {b : BS} {x y : Int} {R : RP}
theorem CB.at (hb : CB h f p c b) (hi : b.inb x y) :
  IntKind.i64.wrap (IntKind.i64.wrap (y * (b.w : Int)) + x) = (b.idx x y : Int)∧(b.idx x y : Int) < ((b.w * b.h : Nat) : Int)∧b.idx x y < b.cs.length∧b.idx x y < b.w * b.h:=by
 obtain ⟨h1,h2,h3,h4⟩:=BS.idx_int hb.ok hi
 have hl:=BS.idx_lt hb.ok hi
 have hm:=Gwb hb.ok.w2 hb.ok.h2
 have:=hb.ok.len
 rw [Gan (n:=y * (b.w : Int)) (by omega) (by omega),h1,Gan (by omega) (by omega)]
 exact ⟨rfl,by omega,hl,by omega⟩
theorem Gi3 (hb : CB h f p c b) (hi : b.inb x y) : Ret tab 113 [ptr p,.int .i64 x,.int .i64 y] h R = R (.pointer (some ⟨c,b.idx x y * 4,none⟩)) h:=by
 have hp:=hb.frz.blkp
 have hlp:=blk?_lt hb.blkp
 have hlc:=blk?_lt hb.blkc
 obtain ⟨a1,a2,a3,a4⟩:=hb.at hi
 obtain ⟨h1,h2,h3,h4⟩:=hi
 have n1 : ¬ x < 0:=by omega
 have n2 : ¬ (b.w : Int)≤x:=by omega
 have n3 : ¬ y < 0:=by omega
 have n4 : ¬ (b.h : Int)≤y:=by omega
 rw [Int.natCast_mul] at a2
 rw [Gvi,Qfc]
 simp [Gaa,hp,hlp,hlc,n1,n2,n3,n4,a1,a2,Gp4]
theorem Gp7 (hb : CB h f p c b) (hi : ¬ b.inb x y) : Ret tab 113 [ptr p,.int .i64 x,.int .i64 y] h R = R (.pointer none) h:=by
 have hp:=hb.frz.blkp
 have hlp:=blk?_lt hb.blkp
 rw [Gvi,Qfc]
 by_cases n1 : x < 0
 ·simp [Gaa,hp,hlp,n1,Gp4]
 by_cases n2 : (b.w : Int)≤x
 ·simp [Gaa,hp,hlp,n1,n2,Gp4]
 by_cases n3 : y < 0
 ·simp [Gaa,hp,hlp,n1,n2,n3,Gp4]
 by_cases n4 : (b.h : Int)≤y
 ·simp [Gaa,hp,hlp,n1,n2,n3,n4,Gp4]
 ·exact absurd ⟨by omega,by omega,by omega,by omega⟩ hi
theorem CB.cells (hb : CB h f p c b) (hi : b.inb x y) : (Gco b.cs)[b.idx x y * 4]? = some (.int .i64 (b.get x y).v)∧(Gco b.cs)[b.idx x y * 4 + 1]? = some (.bool (b.get x y).s) ∧
  (Gco b.cs)[b.idx x y * 4 + 2]? = some (.bool (b.get x y).t)∧(Gco b.cs)[b.idx x y * 4 + 3]? = some (.bool (b.get x y).r):=by
 have g:=Gfc b.cs (b.idx x y)
 have h0:=BS.get_in hb.ok hi
 have g0:=g 0 (by omega)
 rw [Nat.add_zero] at g0
 exact ⟨by rw [g0,h0]; rfl,by rw [g 1 (by omega),h0]; rfl,by rw [g 2 (by omega),h0]; rfl,by rw [g 3 (by omega),h0]; rfl⟩
theorem G63 (hb : CB h f p c b) : Ret tab 108 [ptr p] h R = R (.tuple #[.int .i64 b.w,.int .i64 b.h]) h:=by
 have hp:=hb.frz.blkp
 have hlp:=blk?_lt hb.blkp
 rw [G4q,B108]
 simp [hp,hlp,fin108]
theorem Gn8 (hb : CB h f p c b) : Ret tab 64 [ptr p,.int .i64 x,.int .i64 y] h R = R (.int .i64 (b.get x y).v) h:=by
 have hlp:=blk?_lt hb.blkp
 have hc:=hb.frz.blkc
 rw [G8n,B64]
 by_cases hi : b.inb x y
 ·obtain ⟨c1,c2,c3,c4⟩:=hb.cells hi
  simp [hlp,Gi3 hb.frz hi,hc,c1,Qdl]
 ·simp [hlp,Gp7 hb.frz hi,Qdl,BS.get_out hi,Cell.zero]
theorem Gay (hb : CB h f p c b) : Ret tab 140 [ptr p,.int .i64 x,.int .i64 y] h R = R (.bool (b.get x y).s) h:=by
 have hlp:=blk?_lt hb.blkp
 have hc:=hb.frz.blkc
 rw [G47,B140]
 by_cases hi : b.inb x y
 ·obtain ⟨c1,c2,c3,c4⟩:=hb.cells hi
  simp [Gaa,hlp,Gi3 hb.frz hi,hc,c2,G8f]
 ·simp [Gaa,hlp,Gp7 hb.frz hi,G8f,BS.get_out hi,Cell.zero]
theorem Gcf (hb : CB h f p c b) : Ret tab 65 [ptr p,.int .i64 x,.int .i64 y] h R = R (.bool (b.get x y).t) h:=by
 have hlp:=blk?_lt hb.blkp
 have hc:=hb.frz.blkc
 rw [G9h,B65]
 by_cases hi : b.inb x y
 ·obtain ⟨c1,c2,c3,c4⟩:=hb.cells hi
  simp [Gaa,hlp,Gi3 hb.frz hi,hc,c3,Qet]
 ·simp [Gaa,hlp,Gp7 hb.frz hi,Qet,BS.get_out hi,Cell.zero]
theorem Gra (hb : CB h f p c b) : Ret tab 145 [ptr p,.int .i64 x,.int .i64 y] h R = R (.bool (b.get x y).r) h:=by
 have hlp:=blk?_lt hb.blkp
 have hc:=hb.frz.blkc
 rw [G27,B145]
 by_cases hi : b.inb x y
 ·obtain ⟨c1,c2,c3,c4⟩:=hb.cells hi
  simp [Gaa,hlp,Gi3 hb.frz hi,hc,c4,G8e]
 ·simp [Gaa,hlp,Gp7 hb.frz hi,G8e,BS.get_out hi,Cell.zero]
theorem one_c (hb : CB h f p c b) : Ret tab 191 [ptr p,.int .i64 x,.int .i64 y] h R = R (.int .i64 (one b x y)) h:=by
 have hlp:=blk?_lt hb.blkp
 rw [G4r,B191]
 cases hs : (b.get x y).s <;> simp [hlp,Gay hb.frz,hs,fin191,one]
theorem sign_c (hb : CB h f p c b) : Ret tab 195 [ptr p,.int .i64 x,.int .i64 y] h R = R (.int .i64 (sgn b x y)) h:=by
 have hlp:=blk?_lt hb.blkp
 have hc:=hb.frz.blkc
 rw [G4h,B195]
 by_cases hi : b.inb x y
 ·obtain ⟨c1,c2,c3,c4⟩:=hb.cells hi
  cases hs : (b.get x y).s
  ·simp [Gaa,hlp,Gi3 hb.frz hi,hc,c1,c2,hs,Gzp,sgn]
  ·by_cases hv : (b.get x y).v < 0 <;> simp [Gaa,hlp,Gi3 hb.frz hi,hc,c1,c2,hs,hv,Gzp,sgn]
 ·simp [Gaa,hlp,Gp7 hb.frz hi,Gzp,sgn,BS.get_out hi,Cell.zero]
end
theorem Ggb (b : BS) (x y : Int) : sgn b x y = -1∨sgn b x y = 0∨sgn b x y = 1:=by
 unfold sgn; split <;> (try split) <;> simp
theorem Gij (b : BS) (x y : Int) : one b x y≤1:=by
 unfold one; split <;> omega
theorem tmod4 {y : Int} (h : 0≤y) : y.tmod 4 = y % 4:=Int.tmod_eq_emod_of_nonneg h
section
variable {h : Gag} {f : Bool} {p c : Nat} {b : BS} {x y : Int} {R : RP}
theorem Guq (b : BS) (x y : Int) : (one b (x - 1) y≤1∧one b (x + 1) y≤1∧one b x (y - 1)≤1∧one b x (y + 1)≤1)∧(one b (x - 1) (y - 1)≤1∧one b (x + 1) (y - 1)≤1∧one b (x - 1) (y + 1)≤1∧one b (x + 1) (y + 1)≤1) :=
 ⟨⟨Gij _ _ _,Gij _ _ _,Gij _ _ _,Gij _ _ _⟩,⟨Gij _ _ _,Gij _ _ _,Gij _ _ _,Gij _ _ _⟩⟩
theorem Gfq {a b : Nat} (h : a + b < 9223372036854775808) : IntKind.i64.wrap ((a : Int) + (b : Int)) = ((a + b : Nat) : Int):=by
 rw [← Int.natCast_add]; exact Gbc h
theorem BS.inb_range {b : BS} (ho : b.Ok) (hi : b.inb x y) : 0≤x∧x < 64∧0≤y∧y < 64:=by
 obtain ⟨h1,h2,h3,h4⟩:=hi
 have:=ho.w2; have:=ho.h2
 omega
theorem BS.wraps {b : BS} (ho : b.Ok) (hi : b.inb x y) : IntKind.i64.wrap (x - 1) = x - 1∧IntKind.i64.wrap (x + 1) = x + 1∧IntKind.i64.wrap (y - 1) = y - 1∧IntKind.i64.wrap (y + 1) = y + 1∧y.tmod 4 = y % 4:=by
 obtain ⟨h1,h2,h3,h4⟩:=BS.inb_range ho hi
 exact ⟨Gan (by omega) (by omega),Gan (by omega) (by omega),Gan (by omega) (by omega),Gan (by omega) (by omega),tmod4 h3⟩
theorem Gte {s t : Int} (hs : s = -1∨s = 0∨s = 1) (ht : t = -1∨t = 0∨t = 1) : Ret tab 196 [.int .i64 s,.int .i64 t] h R = R (.int .i64 (Ggv s t)) h:=by
 rw [G5o,B196]
 rcases hs with rfl | rfl | rfl <;> rcases ht with rfl | rfl | rfl <;> (simp [Gci,Gcq,Gfo,Gh1,Gan,fin196,Ggv]; try exact Iff.rfl)
theorem Gfg (hb : CB h f p c b) (hi : b.inb x y) (q : Bool) : Ret tab 177 [ptr p,.int .i64 x,.int .i64 y,.bool q] h R = R (.tuple #[.int .i64 (nbH b x y : Nat),.int .i64 (nbV b x y q : Nat),.int .i64 (nbD b x y q : Nat)]) h:=by
 have hlp:=blk?_lt hb.blkp
 have hlc:=blk?_lt hb.blkc
 obtain ⟨w1,w2,w3,w4,w5⟩:=BS.wraps hb.ok hi
 have hn : ∀ x y R,Ret tab 191 [ptr p,.int .i64 x,.int .i64 y] (frz h) R = R (.int .i64 (one b x y)) (frz h):=fun x y R=>one_c hb.frz
 have ha:=fun R=>Gi3 hb.frz hi (R:=R)
 obtain ⟨⟨a1,a2,a3,a4⟩,⟨b1,b2,b3,b4⟩⟩:=Guq b x y
 have s1 : IntKind.i64.wrap ((one b (x - 1) y : Int) + (one b (x + 1) y : Int)) = ((one b (x - 1) y + one b (x + 1) y : Nat) : Int):=Gfq (by omega)
 have s2 : IntKind.i64.wrap ((one b (x - 1) (y - 1) : Int) + (one b (x + 1) (y - 1) : Int)) = ((one b (x - 1) (y - 1) + one b (x + 1) (y - 1) : Nat) : Int):=Gfq (by omega)
 have s3 : IntKind.i64.wrap ((one b x (y - 1) : Int) + (one b x (y + 1) : Int)) = ((one b x (y - 1) + one b x (y + 1) : Nat) : Int):=Gfq (by omega)
 have s4 : IntKind.i64.wrap (((one b (x - 1) (y - 1) + one b (x + 1) (y - 1) : Nat) : Int) + (one b (x - 1) (y + 1) : Int)) = ((one b (x - 1) (y - 1) + one b (x + 1) (y - 1) + one b (x - 1) (y + 1) : Nat) : Int):=Gfq (by omega)
 have s5 : IntKind.i64.wrap (((one b (x - 1) (y - 1) + one b (x + 1) (y - 1) + one b (x - 1) (y + 1) : Nat) : Int) + (one b (x + 1) (y + 1) : Int)) = ((one b (x - 1) (y - 1) + one b (x + 1) (y - 1) + one b (x - 1) (y + 1) + one b (x + 1) (y + 1) : Nat) : Int):=Gfq (by omega)
 have s6 : IntKind.i64.wrap ((one b (x - 1) (y + 1) : Int) + (one b (x + 1) (y + 1) : Int)) = ((one b (x - 1) (y + 1) + one b (x + 1) (y + 1) : Nat) : Int):=Gfq (by omega)
 have s7 : IntKind.i64.wrap (((one b (x - 1) (y - 1) + one b (x + 1) (y - 1) : Nat) : Int) + ((one b (x - 1) (y + 1) + one b (x + 1) (y + 1) : Nat) : Int)) = ((one b (x - 1) (y - 1) + one b (x + 1) (y - 1) + (one b (x - 1) (y + 1) + one b (x + 1) (y + 1)) : Nat) : Int):=Gfq (by omega)
 have hassoc : one b (x - 1) (y - 1) + one b (x + 1) (y - 1) + one b (x - 1) (y + 1) + one b (x + 1) (y + 1) = one b (x - 1) (y - 1) + one b (x + 1) (y - 1) + (one b (x - 1) (y + 1) + one b (x + 1) (y + 1)):=by omega
 have hg : nbH b x y = one b (x - 1) y + one b (x + 1) y:=rfl
 rw [G2w,B177]
 generalize e1 : one b (x - 1) y = o1 at *
 generalize e2 : one b (x + 1) y = o2 at *
 generalize e3 : one b x (y - 1) = o3 at *
 generalize e4 : one b x (y + 1) = o4 at *
 generalize e5 : one b (x - 1) (y - 1) = o5 at *
 generalize e6 : one b (x + 1) (y - 1) = o6 at *
 generalize e7 : one b (x - 1) (y + 1) = o7 at *
 generalize e8 : one b (x + 1) (y + 1) = o8 at *
 rw [hassoc] at s5
 cases q
 ·simp [-Int.natCast_add,Gaa,hlp,hlc,ha,hn,w1,w2,w3,w4,w5,e1,e2,e3,e4,e5,e6,e7,e8,s1,s2,s3,s4,s5,s6,s7,G0t,nbH,nbV,nbD]
 ·by_cases hy : y % 4 = 3
  ·have hy' : (y % 4 != 3) = false:=by simp [hy]
   simp [-Int.natCast_add,Gaa,hlp,hlc,ha,hn,w1,w2,w3,w4,w5,e1,e2,e3,e4,e5,e6,e7,e8,s1,s2,s3,s4,s5,s6,s7,hy,hy',G0t,nbH,nbV,nbD]
  ·have hy' : (y % 4 != 3) = true:=by simp [hy]
   simp [-Int.natCast_add,Gaa,hlp,hlc,ha,hn,w1,w2,w3,w4,w5,e1,e2,e3,e4,e5,e6,e7,e8,s1,s2,s3,s4,s5,s6,s7,hy,hy',G0t,nbH,nbV,nbD]
theorem Gyl (hb : CB h f p c b) (hi : b.inb x y) (q : Bool) : Ret tab 180 [ptr p,.int .i64 x,.int .i64 y,.bool q] h R = R (.tuple #[.int .i64 (sgH b x y),.int .i64 (sgV b x y q)]) h:=by
 have hlp:=blk?_lt hb.blkp
 have hlc:=blk?_lt hb.blkc
 obtain ⟨w1,w2,w3,w4,w5⟩:=BS.wraps hb.ok hi
 have hn : ∀ x y R,Ret tab 195 [ptr p,.int .i64 x,.int .i64 y] (frz h) R = R (.int .i64 (sgn b x y)) (frz h):=fun x y R=>sign_c hb.frz
 have ha:=fun R=>Gi3 hb.frz hi (R:=R)
 have j1 : ∀ R,Ret tab 196 [.int .i64 (sgn b (x - 1) y),.int .i64 (sgn b (x + 1) y)] (frz h) R = R (.int .i64 (Ggv (sgn b (x - 1) y) (sgn b (x + 1) y))) (frz h):=fun R=>Gte (Ggb _ _ _) (Ggb _ _ _)
 have j2 : ∀ R,Ret tab 196 [.int .i64 (sgn b x (y - 1)),.int .i64 (sgn b x (y + 1))] (frz h) R = R (.int .i64 (Ggv (sgn b x (y - 1)) (sgn b x (y + 1)))) (frz h):=fun R=>Gte (Ggb _ _ _) (Ggb _ _ _)
 have j3 : ∀ R,Ret tab 196 [.int .i64 (sgn b x (y - 1)),.int .i64 0] (frz h) R = R (.int .i64 (Ggv (sgn b x (y - 1)) 0)) (frz h):=fun R=>Gte (Ggb _ _ _) (.inr (.inl rfl))
 rw [G3j,B180]
 cases q
 ·simp [Gaa,hlp,hlc,ha,hn,w1,w2,w3,w4,w5,j1,j2,j3,Gy1,sgH,sgV]
 ·by_cases hy : y % 4 = 3
  ·have hy' : (y % 4 != 3) = false:=by simp [hy]
   have hy2 : (y % 4 == 3) = true:=by simp [hy]
   simp [Gaa,hlp,hlc,ha,hn,w1,w2,w3,w4,w5,hy,hy',hy2,j1,j2,j3,Gy1,sgH,sgV]
  ·have hy' : (y % 4 != 3) = true:=by simp [hy]
   have hy2 : (y % 4 == 3) = false:=by simp [hy]
   simp [Gaa,hlp,hlc,ha,hn,w1,w2,w3,w4,w5,hy,hy',hy2,j1,j2,j3,Gy1,sgH,sgV]
theorem Qab (hb : CB h false p c b) (hi : b.inb x y) {v : Int} (hv : -1152921504606846976 < v∧v < 1152921504606846976) : Ret tab 79 [ptr p,.int .i64 x,.int .i64 y,.int .i64 v] h R = R (.int .i64 0) (h.set c (some ⟨false,Gco (b.upd x y fun z=>{ z with v:=v }).cs⟩)):=by
 have hlp:=blk?_lt hb.blkp
 have hc:=hb.blkc
 have hl:=BS.idx_lt hb.ok hi
 have hg:=BS.getElem_in hb.ok hi
 have h4 : b.idx x y * 4 + 1≤(Gco b.cs).length:=by rw [Gfi]; omega
 have hset:=G0v hl (v:=v)
 rw [hg] at hset
 rw [Qae,B79]
 simp [Gaa,hlp,Gi3 hb hi,hc,h4,hset,show ¬ 1152921504606846975 < v by omega,show ¬ v < -1152921504606846975 by omega,fin79,BS.upd]
theorem G62 (hb : CB h false p c b) (hi : b.inb x y) : Ret tab 181 [ptr p,.int .i64 x,.int .i64 y] h R = R (.int .i64 0) (h.set c (some ⟨false,Gco (b.upd x y fun z=>{ z with s:=true }).cs⟩)):=by
 have hlp:=blk?_lt hb.blkp
 have hc:=hb.blkc
 have hl:=BS.idx_lt hb.ok hi
 have hg:=BS.getElem_in hb.ok hi
 have h4 : b.idx x y * 4 + 2≤(Gco b.cs).length:=by rw [Gfi]; omega
 have hset:=Gyv hl (b:=true)
 rw [hg] at hset
 rw [G4y,B181]
 simp [Gaa,hlp,Gi3 hb hi,hc,h4,hset,fin181,BS.upd]
theorem Ghy (hb : CB h false p c b) (hi : b.inb x y) {v : Bool} : Ret tab 143 [ptr p,.int .i64 x,.int .i64 y,.bool v] h R = R (.int .i64 0) (h.set c (some ⟨false,Gco (b.upd x y fun z=>{ z with t:=v }).cs⟩)):=by
 have hlp:=blk?_lt hb.blkp
 have hc:=hb.blkc
 have hl:=BS.idx_lt hb.ok hi
 have hg:=BS.getElem_in hb.ok hi
 have h4 : b.idx x y * 4 + 3≤(Gco b.cs).length:=by rw [Gfi]; omega
 have hset:=G2a hl (b:=v)
 rw [hg] at hset
 rw [G5w,B143]
 simp [Gaa,hlp,Gi3 hb hi,hc,h4,hset,fin143,BS.upd]
theorem Gvu (hb : CB h false p c b) (hi : b.inb x y) : Ret tab 147 [ptr p,.int .i64 x,.int .i64 y] h R = R (.int .i64 0) (h.set c (some ⟨false,Gco (b.upd x y fun z=>{ z with r:=true }).cs⟩)):=by
 have hlp:=blk?_lt hb.blkp
 have hc:=hb.blkc
 have hl:=BS.idx_lt hb.ok hi
 have hg:=BS.getElem_in hb.ok hi
 have h4 : b.idx x y * 4 + 4≤(Gco b.cs).length:=by rw [Gfi]; omega
 have hset:=G1y hl (b:=true)
 rw [hg] at hset
 rw [G2s,B147]
 simp [Gaa,hlp,Gi3 hb hi,hc,h4,hset,fin147,BS.upd]
end
section
variable {h : Gag} {f : Bool} {p c : Nat} {b : BS} {x y : Int} {R : RP}
theorem Gye {v lo hi : Int} : Ret tab 192 [.int .i64 v,.int .i64 lo,.int .i64 hi] h R = R (.int .i64 (min (max v lo) hi)) h:=by
 rw [G3k,B192]
 simp [Gci,Gcq,Gfo,Gh1,fin192]
 refine Iff.of_eq (congrArg (fun n=>R (.int .i64 n) h) ?_)
 split <;> split <;> omega
end
def Qb2 (p s d : Nat) : Nat:=if p = 2 then 8 else if p = 1 then (if 0 < s then 7 else 5 + min d 1) else if 0 < s then 2 + s else min d 2
def Qc3 (n d : Nat) : Nat:=if 3≤d then 8 else if d = 2 then 6 + min n 1 else 3 * d + min n 2
def Grc (o h v d : Nat) : Nat:=if o = 3 then Qc3 (h + v) d else if o = 1 then Qb2 v h d else Qb2 h v d
def Gct (h v : Int) : Nat:=if h < 0∨h = 0∧v < 0 then (9 - 3 * h - v).toNat else (9 + 3 * h + v).toNat
def Gce (h v : Int) : Nat:=if h < 0∨h = 0∧v < 0 then 1 else 0
def Gd7 (first Gg8 : Bool) : Nat:=if first = true then (if Gg8 = true then 15 else 14) else 16
section
variable {h : Gag} {R : RP}
theorem le2 {n : Nat} (h : n≤2) : n = 0∨n = 1∨n = 2:=by omega
theorem le4 {n : Nat} (h : n≤4) : n = 0∨n = 1∨n = 2∨n = 3∨n = 4:=by omega
theorem Qd3 {d : Nat} (hd : d≤2) : min (d : Int) 2 = (d : Int):=by omega
theorem lim04 {d : Nat} (hd : d≤4) : min (d : Int) 4 = (d : Int):=by omega
theorem mm1 : min (-1 : Int) 1 = -1:=by decide
theorem mm2 : max (0 : Int) (-1) = 0:=by decide
theorem mm3 : max (1 : Int) (-1) = 1:=by decide
theorem mm4 : min (0 : Int) 1 = 0:=by decide
theorem Gna {p s d : Nat} (hp : p≤2) (hs : s≤2) (hd : d≤4) : Ret tab 194 [.int .i64 p,.int .i64 s,.int .i64 d] h R = R (.int .i64 (Qb2 p s d)) h:=by
 rw [G26,B194]
 rcases le2 hp with rfl | rfl | rfl <;> rcases le2 hs with rfl | rfl | rfl <;> rcases le4 hd with rfl | rfl | rfl | rfl | rfl <;> (simp [Gaa,Gci,Gcq,Gfo,Gan,fin194,Qb2]; try exact Iff.rfl)
theorem Gxq {n d : Nat} (hn : n≤4) (hd : d≤4) : Ret tab 193 [.int .i64 n,.int .i64 d] h R = R (.int .i64 (Qc3 n d)) h:=by
 have hls : ∀ x : Option Blk,((frz h)++[x]).length = h.length + 1:=fun x=>by simp
 have hnn : ∀ y : Blk,blk? (frz h++[some y]) h.length = some y:=fun y=>by
  have:=blk?_push_eq (h:=frz h) (x:=some y)
  rwa [Ghx] at this
 rw [G5c,B193]
 rcases le4 hn with rfl | rfl | rfl | rfl | rfl <;> rcases le4 hd with rfl | rfl | rfl | rfl | rfl <;> (simp [hls,hnn,Gci,Gcq,Gfo,Gan,fin193,Qc3]; try exact Iff.rfl)
theorem Ggq {o a b d : Nat} (ho : o≤3) (ha : a≤2) (hb : b≤2) (hd : d≤4) : Ret tab 178 [.int .i64 o,.int .i64 a,.int .i64 b,.int .i64 d] h R = R (.int .i64 (Grc o a b d)) h:=by
 have hs : IntKind.i64.wrap ((a : Int) + (b : Int)) = ((a + b : Nat) : Int):=Gfq (by omega)
 have hdg:=fun R=>Gxq (h:=frz h) (R:=R) (n:=a + b) (d:=d) (by omega) hd
 have ho' : o = 0∨o = 1∨o = 2∨o = 3:=by omega
 rw [G30,B178]
 rcases ho' with rfl | rfl | rfl | rfl <;> simp [-Int.natCast_add,Gye,Qd3 ha,Qd3 hb,lim04 hd,hs,hdg,Gna ha hb hd,Gna hb ha hd,fin178,Grc]
theorem Gp5 {s t : Int} (hs : s = -1∨s = 0∨s = 1) (ht : t = -1∨t = 0∨t = 1) : Ret tab 179 [.int .i64 s,.int .i64 t] h R = R (.tuple #[.int .i64 (Gct s t),.int .i64 (Gce s t)]) h:=by
 have hls : ∀ x : Option Blk,((frz h)++[x]).length = h.length + 1:=fun x=>by simp
 have hnn : ∀ y : Blk,blk? (frz h++[some y]) h.length = some y:=fun y=>by
  have:=blk?_push_eq (h:=frz h) (x:=some y)
  rwa [Ghx] at this
 rw [G2m,B179]
 rcases hs with rfl | rfl | rfl <;> rcases ht with rfl | rfl | rfl <;> (simp [Gaa,Gah,hls,hnn,Gye,mm1,mm2,mm3,mm4,Gan,fin179,Gct,Gce]; try exact Iff.rfl)
theorem Gk2 {a b : Bool} : Ret tab 144 [.bool a,.bool b] h R = R (.int .i64 (Gd7 a b)) h:=by
 rw [G23,B144]
 cases a <;> cases b <;> simp [fin144,Gd7]
end
def Gbn (v : Int) (s : Nat) : Nat:=v.natAbs / 2 ^ s % 2
def Gg8 (b : BS) (x y : Int) (q : Bool) : Bool:=decide (0 < nbH b x y + nbV b x y q + nbD b x y q)
structure PP where
 s : Nat
 o : Nat
 cz : Bool
 rw : Bool
structure PP.Ok (P : PP) : Prop where
 s1 : P.s≤59
 o1 : P.o≤3
structure ES where
 b : BS
 out : List (Int × Nat)
def ES.emit (P : PP) (σ : ES) (ctx : Int) (bit : Nat) : ES:=⟨σ.b,σ.out++[(if P.rw = true then -1 else ctx,bit)]⟩
def Gp3 (v : Int) : Nat:=if v < 0 then 1 else 0
def Gdd (P : PP) (b : BS) (x y : Int) : Nat:=(Gp3 (b.get x y).v + if P.rw = true then 0 else Gce (sgH b x y) (sgV b x y P.cz)) % 2
def mark (c : Cell) : Cell:={ c with s:=true }
def Gbz (v : Bool) (c : Cell) : Cell:={ c with t:=v }
def Gbv (c : Cell) : Cell:={ c with r:=true }
def ES.map (σ : ES) (x y : Int) (f : Cell→Cell) : ES:=⟨σ.b.upd x y f,σ.out⟩
def ES.sign (P : PP) (σ : ES) (x y : Int) : ES:=(σ.emit P (Gct (sgH σ.b x y) (sgV σ.b x y P.cz)) (Gdd P σ.b x y)).map x y mark
def Gf1 (P : PP) (b : BS) (x y : Int) : Nat:=Grc P.o (nbH b x y) (nbV b x y P.cz) (nbD b x y P.cz)
def ES.code (P : PP) (σ : ES) (x y : Int) : ES :=
 if Gbn (σ.b.get x y).v P.s = 1 then (σ.emit P (Gf1 P σ.b x y) (Gbn (σ.b.get x y).v P.s)).sign P x y else σ.emit P (Gf1 P σ.b x y) (Gbn (σ.b.get x y).v P.s)
def ES.sig1 (P : PP) (σ : ES) (x y : Int) : ES :=
 if (σ.b.get x y).s = false∧Gg8 σ.b x y P.cz = true then (σ.code P x y).map x y (Gbz true) else σ
def ES.ref1 (P : PP) (σ : ES) (x y : Int) : ES :=
 if (σ.b.get x y).s = false∨(σ.b.get x y).t = true then σ
 else ((σ.emit P (Gd7 (!(σ.b.get x y).r) (Gg8 σ.b x y P.cz)) (Gbn (σ.b.get x y).v P.s)).map x y Gbv).map x y (Gbz true)
def ES.cln1 (P : PP) (σ : ES) (x y : Int) : ES :=
 if (σ.b.get x y).s = false∧(σ.b.get x y).t = false then σ.code P x y else σ
def still (b : BS) (x y : Int) (q : Bool) : Bool:=!(b.get x y).s && !(b.get x y).t && !Gg8 b x y q
def Ga8 (b : BS) (x y : Int) (q : Bool) : Nat→Bool
 | 0=>true
 | n + 1=>still b x y q && Ga8 b x (y + 1) q n
def quiet (b : BS) (x top : Int) (q : Bool) : Bool:=decide (top + 4≤b.h) && Ga8 b x top q 4
def Gbo (b : BS) (s : Nat) (x y : Int) : Nat→Option Nat
 | 0=>none
 | n + 1=>if Gbn (b.get x y).v s = 1 then some 0 else (Gbo b s x (y + 1) n).map (· + 1)
def ES.run (P : PP) (σ : ES) (x top : Int) : ES × Int :=
 match Gbo σ.b P.s x top 4 with
 | some k=>((((σ.emit P 17 1).emit P 18 (k / 2)).emit P 18 (k % 2)).sign P x (top + k),top + k + 1)
 | none=>(σ.emit P 17 0,top + 4)
def ES.rows (P : PP) (σ : ES) (x y : Int) : Nat→ES
 | 0=>σ
 | n + 1=>(σ.cln1 P x y).rows P x (y + 1) n
def ES.col (P : PP) (σ : ES) (x top : Int) : ES :=
 if quiet σ.b x top P.cz = true then ((σ.run P x top).1).rows P x (σ.run P x top).2 (min (top + 4) σ.b.h - (σ.run P x top).2).toNat
 else σ.rows P x top (min (top + 4) σ.b.h - top).toNat
def ES.cols (P : PP) (σ : ES) (x top : Int) : Nat→ES
 | 0=>σ
 | n + 1=>(σ.col P x top).cols P (x + 1) top n
def ES.stripes (P : PP) (σ : ES) (top : Int) : Nat→ES
 | 0=>σ
 | n + 1=>(σ.cols P 0 top σ.b.w).stripes P (top + 4) n
def Gcz (x y : Int) : Nat→List (Int × Int)
 | 0=>[]
 | n + 1=>(x,y) :: Gcz x (y + 1) n
def Ga3 (h : Nat) (x top : Int) : Nat→List (Int × Int)
 | 0=>[]
 | n + 1=>Gcz x top (min (top + 4) h - top).toNat++Ga3 h (x + 1) top n
def Gbw (w h : Nat) (top : Int) : Nat→List (Int × Int)
 | 0=>[]
 | n + 1=>Ga3 h 0 top w++Gbw w h (top + 4) n
def Gai (h : Nat) : Nat:=(h + 3) / 4
def scan (w h : Nat) : List (Int × Int):=Gbw w h 0 (Gai h)
def ES.sigs (P : PP) (σ : ES) (l : List (Int × Int)) : ES:=l.foldl (fun σ p=>σ.sig1 P p.1 p.2) σ
def ES.refs (P : PP) (σ : ES) (l : List (Int × Int)) : ES:=l.foldl (fun σ p=>σ.ref1 P p.1 p.2) σ
def ES.clear (σ : ES) (l : List (Int × Int)) : ES:=l.foldl (fun σ p=>σ.map p.1 p.2 (Gbz false)) σ
def ES.check (P : PP) (σ : ES) (on : Bool) : ES:=if on = true then (((σ.emit P 18 1).emit P 18 0).emit P 18 1).emit P 18 0 else σ
def ES.clean (P : PP) (σ : ES) (on : Bool) : ES:=((σ.stripes P 0 (Gai σ.b.h)).clear (scan σ.b.w σ.b.h)).check P on
def BS.Rng (b : BS) : Prop:=∀ x y,-1152921504606846976 < (b.get x y).v∧(b.get x y).v < 1152921504606846976
structure BS.Good (b : BS) : Prop where
 ok : b.Ok
 rng : b.Rng
def Gkv (f : Cell→Cell) : Prop:=∀ c,(f c).v = c.v
theorem BS.Good.upd {b : BS} (hg : b.Good) {x y : Int} (hi : b.inb x y) {f : Cell→Cell} (hf : Gkv f) : (b.upd x y f).Good:=by
 refine ⟨hg.ok.upd x y f,fun x' y'=>?_⟩
 rw [BS.get_upd hg.ok hi]
 split
 ·rw [hf]; exact hg.rng x y
 ·exact hg.rng x' y'
theorem Gkh : Gkv mark:=fun _=>rfl
theorem Gbh (v : Bool) : Gkv (Gbz v):=fun _=>rfl
theorem Gcr : Gkv Gbv:=fun _=>rfl
theorem ES.emit_b (P : PP) (σ : ES) (c : Int) (n : Nat) : (σ.emit P c n).b = σ.b:=rfl
theorem ES.map_b (σ : ES) (x y : Int) (f : Cell→Cell) : (σ.map x y f).b = σ.b.upd x y f:=rfl
structure ES.Le (σ τ : ES) (n : Nat) : Prop where
 w : τ.b.w = σ.b.w
 h : τ.b.h = σ.b.h
 good : τ.b.Good
 len : τ.out.length≤σ.out.length + n
 v : ∀ x y,(τ.b.get x y).v = (σ.b.get x y).v
theorem ES.Le.refl {σ : ES} (hg : σ.b.Good) (n : Nat) : σ.Le σ n:=⟨rfl,rfl,hg,by omega,fun _ _=>rfl⟩
theorem ES.Le.trans {σ τ υ : ES} {n m : Nat} (h : σ.Le τ n) (k : τ.Le υ m) : σ.Le υ (n + m):=⟨k.w.trans h.w,k.h.trans h.h,k.good,by have:=h.len; have:=k.len; omega,fun x y=>(k.v x y).trans (h.v x y)⟩
theorem ES.Le.mono {σ τ : ES} {n m : Nat} (h : σ.Le τ n) (hm : n≤m) : σ.Le τ m:=⟨h.w,h.h,h.good,by have:=h.len; omega,h.v⟩
theorem ES.Le.inb {σ τ : ES} {n : Nat} (h : σ.Le τ n) {x y : Int} (hi : σ.b.inb x y) : τ.b.inb x y:=by
 obtain ⟨a,b,c,d⟩:=hi
 exact ⟨a,by rw [h.w]; exact b,c,by rw [h.h]; exact d⟩
theorem Gf5 {P : PP} {σ : ES} (hg : σ.b.Good) (c : Int) (n : Nat) : σ.Le (σ.emit P c n) 1:=⟨rfl,rfl,hg,by simp [ES.emit],fun _ _=>rfl⟩
theorem Gis {σ : ES} (hg : σ.b.Good) {x y : Int} (hi : σ.b.inb x y) {f : Cell→Cell} (hf : Gkv f) : σ.Le (σ.map x y f) 0:=by
 refine ⟨rfl,rfl,hg.upd hi hf,by simp [ES.map],fun x' y'=>?_⟩
 show ((σ.b.upd x y f).get x' y').v = _
 rw [BS.get_upd hg.ok hi]
 split
 ·rename_i e; obtain ⟨rfl,rfl⟩:=e; exact hf _
 ·rfl
theorem G1u {P : PP} {σ : ES} (hg : σ.b.Good) {x y : Int} (hi : σ.b.inb x y) : σ.Le (σ.sign P x y) 1:=by
 have h1:=Gf5 (P:=P) hg (Gct (sgH σ.b x y) (sgV σ.b x y P.cz)) (Gdd P σ.b x y)
 exact h1.trans (Gis h1.good (h1.inb hi) Gkh)
theorem Gpn {P : PP} {σ : ES} (hg : σ.b.Good) {x y : Int} (hi : σ.b.inb x y) : σ.Le (σ.code P x y) 2:=by
 unfold ES.code
 have h1:=Gf5 (P:=P) hg (Gf1 P σ.b x y) (Gbn (σ.b.get x y).v P.s)
 split
 ·exact h1.trans (G1u h1.good (h1.inb hi))
 ·exact h1.mono (by omega)
theorem Gzg {P : PP} {σ : ES} (hg : σ.b.Good) {x y : Int} (hi : σ.b.inb x y) : σ.Le (σ.sig1 P x y) 2:=by
 unfold ES.sig1
 split
 ·have h1:=Gpn (P:=P) hg hi
  exact h1.trans (Gis h1.good (h1.inb hi) (Gbh _))
 ·exact ES.Le.refl hg 2
theorem Gsf {P : PP} {σ : ES} (hg : σ.b.Good) {x y : Int} (hi : σ.b.inb x y) : σ.Le (σ.ref1 P x y) 2:=by
 unfold ES.ref1
 split
 ·exact ES.Le.refl hg 2
 ·have h1:=Gf5 (P:=P) hg (Gd7 (!(σ.b.get x y).r) (Gg8 σ.b x y P.cz)) (Gbn (σ.b.get x y).v P.s)
  have h2:=h1.trans (Gis h1.good (h1.inb hi) Gcr)
  exact (h2.trans (Gis h2.good (h2.inb hi) (Gbh true))).mono (by omega)
theorem Gzr {P : PP} {σ : ES} (hg : σ.b.Good) {x y : Int} (hi : σ.b.inb x y) : σ.Le (σ.cln1 P x y) 2:=by
 unfold ES.cln1
 split
 ·exact Gpn hg hi
 ·exact ES.Le.refl hg 2
theorem Gff {b : BS} {s : Nat} {x : Int} : ∀ {n : Nat} {y : Int} {k : Nat},Gbo b s x y n = some k→k < n
 | 0,_,_,h=>by simp [Gbo] at h
 | n + 1,y,k,h=>by
  simp only [Gbo] at h
  split at h
  ·injection h with h; omega
  ·rw [Option.map_eq_some_iff] at h
   obtain ⟨j,hj,rfl⟩:=h
   have:=Gff hj
   omega
theorem G6y {P : PP} {σ : ES} (hg : σ.b.Good) {x top : Int} (h0 : σ.b.inb x top) (h1 : top + 4≤σ.b.h) : σ.Le (σ.run P x top).1 4∧top < (σ.run P x top).2∧(σ.run P x top).2≤top + 4:=by
 unfold ES.run
 split
 ·rename_i k hk
  have hlt:=Gff hk
  have a1:=Gf5 (P:=P) hg 17 1
  have a2:=a1.trans (Gf5 (P:=P) a1.good 18 (k / 2))
  have a3:=a2.trans (Gf5 (P:=P) a2.good 18 (k % 2))
  refine ⟨a3.trans (G1u a3.good (a3.inb ?_)),by simp only; omega,by simp only; omega⟩
  obtain ⟨a,b,c,d⟩:=h0
  exact ⟨a,b,by omega,by omega⟩
 ·exact ⟨(Gf5 hg 17 0).mono (by omega),by simp only; omega,by simp only; omega⟩
theorem Gr3 {P : PP} : ∀ {n : Nat} {σ : ES} {x y : Int},σ.b.Good→0≤x→x < σ.b.w→0≤y→y + n≤σ.b.h→σ.Le (σ.rows P x y n) (2 * n)
 | 0,σ,x,y,hg,_,_,_,_=>ES.Le.refl hg _
 | n + 1,σ,x,y,hg,h1,h2,h3,h4=>by
  have a:=Gzr (P:=P) hg (x:=x) (y:=y) ⟨h1,h2,h3,by omega⟩
  have b:=Gr3 (P:=P) (n:=n) (x:=x) (y:=y + 1) a.good h1 (by rw [a.w]; exact h2) (by omega) (by rw [a.h]; omega)
  exact (a.trans b).mono (by omega)
theorem G7o {P : PP} {σ : ES} (hg : σ.b.Good) {x top : Int} (hi : σ.b.inb x top) : σ.Le (σ.col P x top) 12:=by
 obtain ⟨h1,h2,h3,h4⟩:=hi
 unfold ES.col
 split
 ·rename_i hq
  simp only [quiet,Bool.and_eq_true,decide_eq_true_eq] at hq
  obtain ⟨a,b,c⟩:=G6y (P:=P) hg (x:=x) (top:=top) ⟨h1,h2,h3,h4⟩ hq.1
  refine (a.trans (Gr3 (P:=P) (n:=(min (top + 4) σ.b.h - (σ.run P x top).2).toNat) a.good h1 (by rw [a.w]; exact h2) (by omega) (by rw [a.h]; omega))).mono (by omega)
 ·exact (Gr3 hg h1 h2 h3 (by omega)).mono (by omega)
theorem Gsq {P : PP} : ∀ {n : Nat} {σ : ES} {x top : Int},σ.b.Good→0≤x→x + n≤σ.b.w→0≤top→top < σ.b.h→σ.Le (σ.cols P x top n) (12 * n)
 | 0,σ,x,top,hg,_,_,_,_=>ES.Le.refl hg _
 | n + 1,σ,x,top,hg,h1,h2,h3,h4=>by
  have a:=G7o (P:=P) hg (x:=x) (top:=top) ⟨h1,by omega,h3,h4⟩
  have b:=Gsq (P:=P) (n:=n) (x:=x + 1) (top:=top) a.good (by omega) (by rw [a.w]; omega) h3 (by rw [a.h]; exact h4)
  exact (a.trans b).mono (by omega)
theorem Ggn {P : PP} : ∀ {n : Nat} {σ : ES} {top : Int},σ.b.Good→0≤top→top + 4 * n≤σ.b.h + 3→σ.Le (σ.stripes P top n) (12 * σ.b.w * n)
 | 0,σ,top,hg,_,_=>ES.Le.refl hg _
 | n + 1,σ,top,hg,h1,h2=>by
  have a:=Gsq (P:=P) (n:=σ.b.w) hg (x:=0) (top:=top) (by omega) (by omega) h1 (by omega)
  have b:=Ggn (P:=P) (n:=n) (top:=top + 4) a.good (by omega) (by rw [a.h]; omega)
  rw [a.w] at b
  exact (a.trans b).mono (by rw [Nat.mul_add]; omega)
def Gca (b : BS) (l : List (Int × Int)) : Prop:=∀ p ∈ l,b.inb p.1 p.2
theorem Gca.le {σ τ : ES} {n : Nat} {l : List (Int × Int)} (h : Gca σ.b l) (k : σ.Le τ n) : Gca τ.b l:=fun p hp=>k.inb (h p hp)
theorem Gqr {b : BS} : ∀ {n : Nat} {x y : Int},0≤x→x < b.w→0≤y→y + n≤b.h→Gca b (Gcz x y n)
 | 0,x,y,_,_,_,_=>fun p hp=>by simp [Gcz] at hp
 | n + 1,x,y,h1,h2,h3,h4=>fun p hp=>by
  simp only [Gcz,List.mem_cons] at hp
  rcases hp with rfl | hp
  ·exact ⟨h1,h2,h3,by simp only; omega⟩
  ·exact Gqr h1 h2 (by omega) (by omega) p hp
theorem Giw {b : BS} : ∀ {n : Nat} {x top : Int},0≤x→x + n≤b.w→0≤top→Gca b (Ga3 b.h x top n)
 | 0,x,top,_,_,_=>fun p hp=>by simp [Ga3] at hp
 | n + 1,x,top,h1,h2,h3=>fun p hp=>by
  simp only [Ga3,List.mem_append] at hp
  rcases hp with hp | hp
  ·by_cases ht : top≤b.h
   ·exact Gqr h1 (by omega) h3 (by omega) p hp
   ·rw [show (min (top + 4) (b.h : Int) - top).toNat = 0 by omega] at hp
    simp [Gcz] at hp
  ·exact Giw (by omega) (by omega) h3 p hp
theorem Gm9 {b : BS} : ∀ {n : Nat} {top : Int},0≤top→Gca b (Gbw b.w b.h top n)
 | 0,top,_=>fun p hp=>by simp [Gbw] at hp
 | n + 1,top,h=>fun p hp=>by
  simp only [Gbw,List.mem_append] at hp
  rcases hp with hp | hp
  ·exact Giw (by omega) (by omega) h p hp
  ·exact Gm9 (by omega) p hp
theorem Gc3 (b : BS) : Gca b (scan b.w b.h):=Gm9 (by omega)
theorem Ggg : ∀ (n : Nat) (x y : Int),(Gcz x y n).length = n
 | 0,_,_=>rfl
 | n + 1,x,y=>by rw [Gcz,List.length_cons,Ggg n]
theorem Gfb (h : Nat) : ∀ (n : Nat) (x top : Int),(Ga3 h x top n).length≤4 * n
 | 0,_,_=>by simp [Ga3]
 | n + 1,x,top=>by
  rw [Ga3,List.length_append,Ggg]
  have:=Gfb h n (x + 1) top
  omega
theorem Gfn (w h : Nat) : ∀ (n : Nat) (top : Int),(Gbw w h top n).length≤4 * w * n
 | 0,_=>by simp [Gbw]
 | n + 1,top=>by
  rw [Gbw,List.length_append]
  have:=Gfb h w 0 top
  have:=Gfn w h n (top + 4)
  rw [Nat.mul_add]; omega
theorem Gnv {f : ES→Int × Int→ES} {m : Nat} (hf : ∀ (σ : ES) (p : Int × Int),σ.b.Good→σ.b.inb p.1 p.2→σ.Le (f σ p) m) : ∀ {l : List (Int × Int)} {σ : ES},σ.b.Good→Gca σ.b l→σ.Le (l.foldl f σ) (m * l.length)
 | [],σ,hg,_=>ES.Le.refl hg _
 | p :: l,σ,hg,ha=>by
  have a:=hf σ p hg (ha p (by simp))
  have b:=Gnv hf (l:=l) (σ:=f σ p) a.good (Gca.le (fun q hq=>ha q (by simp [hq])) a)
  rw [List.foldl_cons,List.length_cons]
  exact (a.trans b).mono (by rw [Nat.mul_add]; omega)
theorem G0r {P : PP} {σ : ES} {l : List (Int × Int)} (hg : σ.b.Good) (ha : Gca σ.b l) : σ.Le (σ.sigs P l) (2 * l.length):=Gnv (fun _ _ hg hi=>Gzg hg hi) hg ha
theorem G1a {P : PP} {σ : ES} {l : List (Int × Int)} (hg : σ.b.Good) (ha : Gca σ.b l) : σ.Le (σ.refs P l) (2 * l.length):=Gnv (fun _ _ hg hi=>Gsf hg hi) hg ha
theorem Gn1 {σ : ES} {l : List (Int × Int)} (hg : σ.b.Good) (ha : Gca σ.b l) : σ.Le (σ.clear l) 0:=(Gnv (m:=0) (fun _ _ hg hi=>Gis hg hi (Gbh false)) hg ha).mono (by omega)
theorem G02 (b : BS) (x y : Int) (k : Bool) : Gg8 b x y k = decide (0 < nbH b x y + nbV b x y k + nbD b x y k):=rfl
theorem G08 (b : BS) (x y : Int) (k : Bool) : nbH b x y≤2∧nbV b x y k≤2∧nbD b x y k≤4:=by
 obtain ⟨⟨a1,a2,a3,a4⟩,⟨b1,b2,b3,b4⟩⟩:=Guq b x y
 unfold nbH nbV nbD
 refine ⟨by omega,?_,?_⟩ <;> split <;> omega
structure PR (h : Gag) (f : Bool) (q p c : Nat) (P : PP) (fv : Value) (b : BS) : Prop where
 blk : blk? h q = some ⟨f,[ptr p,.int .i64 b.w,.int .i64 b.h,.int .i64 P.s,.int .i64 P.o,.bool P.cz,.bool P.rw,fv]⟩
 cb : CB h f p c b
 fv : below h.length fv = true
 pok : P.Ok
 rng : b.Rng
theorem PR.frz {h : Gag} {f : Bool} {q p c : Nat} {P : PP} {fv : Value} {b : BS} (hr : PR h f q p c P fv b) : PR (frz h) true q p c P fv b :=
 ⟨Glf hr.blk (by simp [hr.fv,blk?_lt hr.cb.blkp]),hr.cb.frz,by rw [Ghx]; exact hr.fv,hr.pok,hr.rng⟩
theorem and1 {a : Nat} (h : a < 9223372036854775808) : Qa7 .i64 (a : Int) 1 = ((a % 2 : Nat) : Int):=by
 unfold Qa7
 have h1 : (BitVec.ofInt IntKind.i64.bits (a : Int)).toNat = a:=ofInt_u64 a (by omega)
 rw [BitVec.toNat_and,h1,show (BitVec.ofInt IntKind.i64.bits 1).toNat = 1 from rfl,nat_mask1]
 exact Gbc (by omega)
theorem Gr7 {v : Int} (h1 : v < 0) (h2 : -9223372036854775808≤v) : IntKind.u64.wrap (0 - IntKind.u64.wrap v) = (v.natAbs : Int):=by
 rw [IntKind.wrap_u64,IntKind.wrap_u64]; omega
theorem Grm {v : Int} (h1 : ¬ v < 0) (h2 : v < 9223372036854775808) : IntKind.u64.wrap v = (v.natAbs : Int):=by
 rw [IntKind.wrap_u64]; omega
theorem G9n {n : Nat} (h : n < 18446744073709551616) : IntKind.u64.wrap (n : Int) = n:=by
 rw [IntKind.wrap_u64]; omega
theorem shr_le {a s : Nat} : a / 2 ^ s≤a:=Nat.div_le_self _ _
section
variable {h : Gag} {f : Bool} {q p c : Nat} {P : PP} {fv : Value} {b : BS} {x y : Int} {R : RP}
theorem Gkm {v : Int} (h1 : -9223372036854775808≤v) (h2 : v < 9223372036854775808) : Ret tab 82 [.int .i64 v] h R = R (.int .u64 (v.natAbs : Nat)) h:=by
 rw [G86,B82]
 by_cases hv : v < 0
 ·have:=Gr7 hv h1
  rw [Int.zero_sub] at this
  simp [hv,this,Qc7]
 ·simp [hv,Grm hv h2,Qc7]
theorem Qa9 (hr : PR h f q p c P fv b) : Ret tab 164 [ptr q,.int .i64 x,.int .i64 y] h R = R (.int .i64 (Gbn (b.get x y).v P.s)) h:=by
 have hq:=hr.frz.blk
 have hlq:=blk?_lt hr.blk
 obtain ⟨r1,r2⟩:=hr.rng x y
 have hm:=fun R=>Gkm (h:=Go.Sim.frz h) (R:=R) (v:=(b.get x y).v) (by omega) (by omega)
 have hs:=hr.pok.s1
 have hw : IntKind.u64.wrap (P.s : Int) = (P.s : Int):=G9n (by omega)
 have hs' : ¬ (P.s : Int) < 0:=by omega
 have hsh : Gxo .u64 ((b.get x y).v.natAbs : Int) (P.s : Int) = (((b.get x y).v.natAbs / 2 ^ P.s : Nat) : Int):=G8g (show P.s≤64 by omega)
 have hle : (b.get x y).v.natAbs / 2 ^ P.s≤(b.get x y).v.natAbs:=shr_le
 have h63 : (b.get x y).v.natAbs < 9223372036854775808:=by omega
 have hwi : IntKind.i64.wrap (((b.get x y).v.natAbs / 2 ^ P.s : Nat) : Int) = (((b.get x y).v.natAbs / 2 ^ P.s : Nat) : Int):=Gbc (by omega)
 have ha:=and1 (a:=(b.get x y).v.natAbs / 2 ^ P.s) (by omega)
 rw [G4z,B164]
 unfold Gbn
 have hv : ∀ R,Ret tab 64 [ptr p,.int .i64 x,.int .i64 y] (Go.Sim.frz h) R = R (.int .i64 (b.get x y).v) (Go.Sim.frz h):=fun R=>Gn8 hr.frz.cb
 generalize hn : (b.get x y).v.natAbs / 2 ^ P.s = n at *
 generalize (b.get x y).v.natAbs = na at *
 simp [-Int.natCast_ediv,-Int.natCast_emod,hq,hlq,hv,hm,hw,hs',hsh,hwi,ha,fin164,book,Gd0,Gb5,Ghw,Gbq,Gcg]
theorem Gfm (hr : PR h f q p c P fv b) (hi : b.inb x y) : Ret tab 162 [ptr q,.int .i64 x,.int .i64 y] h R = R (.bool (Gg8 b x y P.cz)) h:=by
 have hq:=hr.frz.blk
 have hlq:=blk?_lt hr.blk
 obtain ⟨n1,n2,n3⟩:=G08 b x y P.cz
 have s1 : IntKind.i64.wrap ((nbH b x y : Int) + (nbV b x y P.cz : Int)) = ((nbH b x y + nbV b x y P.cz : Nat) : Int):=Gfq (by omega)
 have s2 : IntKind.i64.wrap (((nbH b x y + nbV b x y P.cz : Nat) : Int) + (nbD b x y P.cz : Int)) = ((nbH b x y + nbV b x y P.cz + nbD b x y P.cz : Nat) : Int):=Gfq (by omega)
 have s3 : decide ((0 : Int) < ((nbH b x y + nbV b x y P.cz + nbD b x y P.cz : Nat) : Int)) = Gg8 b x y P.cz:=by
  rw [G02]; congr 1; exact propext Int.natCast_pos
 rw [G49,B162]
 generalize hn : Gg8 b x y P.cz = nn at *
 simp [-Int.natCast_add,-Int.natCast_pos,hq,hlq,Gfg hr.frz.cb hi,s1,s2,s3,fin162]
theorem Gw9 (hr : PR h true q p c P fv b) {x : Int} (hx : 0≤x∧x < b.w) {top : Int} (ht : 0≤top∧top + 4≤b.h) {k : List Ga1} {R : RP} {v6 : Value}
  (hk : ∀ K3 K4 K5 K7 K8 K9 Ka Kb Kc Kd Ke Kf Kg Kh Ki Kj Kk Kl Km Kn Ko Kp Kq Kr Ks Kt Ku Kv Kw Kx Ky Kz J0 J1 J2 J3 J4 J5 J6 J7 : Value,Ok tab Qa0 k #[ptr q,.int .i64 x,.int .i64 top,K3,K4,K5,v6,K7,K8,K9,Ka,Kb,Kc,Kd,Ke,Kf,Kg,Kh,Ki,Kj,Kk,Kl,Km,Kn,Ko,Kp,Kq,Kr,Ks,Kt,Ku,Kv,Kw,Kx,Ky,Kz,J0,J1,J2,J3,J4,J5,J6,J7] h R = R (.bool true) h) :
  ∀ (n : Nat) (y : Int) (K3 K4 K5 K8 K9 Ka Kb Kc Kd Ke Kf Kg Kh Ki Kj Kk Kl Km Kn Ko Kp Kq Kr Ks Kt Ku Kv Kw Kx Ky Kz J0 J1 J2 J3 J4 J5 J6 J7 : Value),y + n = top + 4→top≤y →
   Ok tab Qa0 (.inLoop Gvb :: .inBlock 0 :: k) #[ptr q,.int .i64 x,.int .i64 top,K3,K4,K5,v6,.int .i64 y,K8,K9,Ka,Kb,Kc,Kd,Ke,Kf,Kg,Kh,Ki,Kj,Kk,Kl,Km,Kn,Ko,Kp,Kq,Kr,Ks,Kt,Ku,Kv,Kw,Kx,Ky,Kz,J0,J1,J2,J3,J4,J5,J6,J7] h R = R (.bool (Ga8 b x y P.cz n)) h:=by
 intro n
 induction n with
 | zero =>
  intro y;intros;rename_i hy hty
  have hw : IntKind.i64.wrap (top + 4) = top + 4:=Gan (by have:=hr.cb.ok.h2; omega) (by have:=hr.cb.ok.h2; omega)
  have hlt : ¬ y < top + 4:=by omega
  rw [Gad,G6x,Go7,Gog]
  simp [hw,hlt,hk,Ga8]
 | succ n ih =>
  intro y;intros;rename_i hy hty
  have hb2:=hr.cb.ok.h2
  have hw : IntKind.i64.wrap (top + 4) = top + 4:=Gan (by omega) (by omega)
  have hw1 : IntKind.i64.wrap (y + 1) = y + 1:=Gan (by omega) (by omega)
  have hlt : y < top + 4:=by omega
  have hi : b.inb x y:=⟨hx.1,hx.2,by omega,by omega⟩
  have hq:=hr.blk
  have ih':=fun K3 K4 K5 K8 K9 Ka Kb Kc Kd Ke Kf Kg Kh Ki Kj Kk Kl Km Kn Ko Kp Kq Kr Ks Kt Ku Kv Kw Kx Ky Kz J0 J1 J2 J3 J4 J5 J6 J7=>ih (y + 1) K3 K4 K5 K8 K9 Ka Kb Kc Kd Ke Kf Kg Kh Ki Kj Kk Kl Km Kn Ko Kp Kq Kr Ks Kt Ku Kv Kw Kx Ky Kz J0 J1 J2 J3 J4 J5 J6 J7 (by omega) (by omega)
  rw [Gad,G6x,Go7,Gog]
  cases hs : (b.get x y).s
  ·cases ht : (b.get x y).t
   ·cases hn : Gg8 b x y P.cz
    ·simp [Gaa,hw,hw1,hlt,hq,Gay hr.cb,Gcf hr.cb,Gfm hr hi,hs,ht,hn,ih',Ga8,still]
    ·simp [Gaa,hw,hw1,hlt,hq,Gay hr.cb,Gcf hr.cb,Gfm hr hi,hs,ht,hn,Ga8,still,Grt]
   ·simp [Gaa,Gah,hw,hw1,hlt,hq,Gay hr.cb,Gcf hr.cb,hs,ht,Ga8,still,Grt]
  ·simp [Gaa,Gah,hw,hw1,hlt,hq,Gay hr.cb,hs,Ga8,still,Grt]
theorem G9l (hr : PR h f q p c P fv b) {x top : Int} (hx : 0≤x∧x < b.w) (ht : 0≤top∧top < b.h) : Ret tab 165 [ptr q,.int .i64 x,.int .i64 top] h R = R (.bool (quiet b x top P.cz)) h:=by
 have hq:=hr.frz.blk
 have hlq:=blk?_lt hr.blk
 have hb2:=hr.cb.ok.h2
 have hw : IntKind.i64.wrap (top + 4) = top + 4:=Gan (by omega) (by omega)
 rw [G32,B165]
 by_cases h4 : top + 4≤b.h
 ·have h4' : ¬ (b.h : Int) < top + 4:=by omega
  have:=fun K3 K4 K5 K8 K9 Ka Kb Kc Kd Ke Kf Kg Kh Ki Kj Kk Kl Km Kn Ko Kp Kq Kr Ks Kt Ku Kv Kw Kx Ky Kz J0 J1 J2 J3 J4 J5 J6 J7 v6 R hk=>Gw9 (R:=R) (v6:=v6) hr.frz hx ⟨ht.1,h4⟩ (k:=[.code ((RCode.region [⟨some 6,.mov (.const (.bool true)),none⟩] []).seq .ret)]) hk 4 top K3 K4 K5 K8 K9 Ka Kb Kc Kd Ke Kf Kg Kh Ki Kj Kk Kl Km Kn Ko Kp Kq Kr Ks Kt Ku Kv Kw Kx Ky Kz J0 J1 J2 J3 J4 J5 J6 J7 (by omega) (by omega)
  simp [hq,hlq,hw,h4']
  rw [this]
  ·simp [quiet,h4]
  ·intros
   simp [Grt]
 ·have h4' : (b.h : Int) < top + 4:=by omega
  simp [hq,hlq,hw,h4',quiet,h4,Grt]
end
def Ggt : List (Int × Nat)→List Value
 | []=>[]
 | p :: l=>.int .i64 p.1 :: .int .i64 p.2 :: Ggt l
theorem Gg3 : ∀ a b,Ggt (a++b) = Ggt a++Ggt b
 | [],b=>rfl
 | p :: a,b=>by rw [List.cons_append,Ggt,Ggt,Gg3 a b]; rfl
theorem Gn0 : ∀ a,(Ggt a).length = a.length * 2
 | []=>rfl
 | p :: a=>by rw [Ggt,List.length_cons,List.length_cons,Gn0 a,List.length_cons]; omega
structure PE (h : Gag) (q p c pb ob : Nat) (P : PP) (sv : Value) (σ : ES) : Prop where
 pr : PR h false q p c P (.func (.func 123) #[] #[ptr pb,ptr ob]) σ.b
 pbk : blk? h pb = some ⟨false,[ptr q]⟩
 obk : blk? h ob = some ⟨false,[sv]⟩
 own : Ga7 h 2 sv σ.out.length (Ggt σ.out)
 n1 : c ≠ q∧c ≠ pb∧c ≠ ob∧c ≠ p
 n2 : ob ≠ q∧ob ≠ pb∧ob ≠ p
 n3 : sid sv ≠ some q∧sid sv ≠ some p∧sid sv ≠ some c∧sid sv ≠ some pb∧sid sv ≠ some ob
structure Stp (h h' : Gag) (c ob : Nat) (sv sv' : Value) : Prop where
 len : h.length≤h'.length
 same : ∀ id,id < h.length→id ≠ c→id ≠ ob→sid sv ≠ some id→blk? h' id = blk? h id
 fresh : ∀ id,sid sv' = some id→sid sv = some id∨(h.length≤id∧id < h'.length)
theorem Stp.refl (h : Gag) (c ob : Nat) (sv : Value) : Stp h h c ob sv sv:=⟨Nat.le_refl _,fun _ _ _ _ _=>rfl,fun _ h=>.inl h⟩
theorem Stp.trans {h h1 h2 : Gag} {c ob : Nat} {sv sv1 sv2 : Value} (a : Stp h h1 c ob sv sv1) (b : Stp h1 h2 c ob sv1 sv2) : Stp h h2 c ob sv sv2:=by
 refine ⟨Nat.le_trans a.len b.len,fun id h1 h2 h3 h4=>?_,fun id hid=>?_⟩
 ·rw [b.same id (Nat.lt_of_lt_of_le h1 a.len) h2 h3 (fun e=>?_),a.same id h1 h2 h3 h4]
  rcases a.fresh id e with h | h
  ·exact h4 h
  ·omega
 ·rcases b.fresh id hid with h | h
  ·rcases a.fresh id h with h | h
   ·exact .inl h
   ·exact .inr ⟨h.1,Nat.lt_of_lt_of_le h.2 b.len⟩
  ·exact .inr ⟨Nat.le_trans a.len h.1,h.2⟩
theorem Stp.push (h : Gag) (x : Option Blk) (c ob : Nat) (sv : Value) : Stp h (h++[x]) c ob sv sv:=⟨by simp,fun id h1 _ _ _=>blk?_push_lt h1,fun _ h=>.inl h⟩
theorem PR.keep {h h' : Gag} {q p c : Nat} {P : PP} {fv : Value} {b : BS} (hr : PR h false q p c P fv b) (hk : ∀ id,id = q∨id = p∨id = c→blk? h' id = blk? h id) (hf : below h'.length fv = true) : PR h' false q p c P fv b :=
 ⟨by rw [hk q (.inl rfl)]; exact hr.blk,⟨by rw [hk p (.inr (.inl rfl))]; exact hr.cb.blkp,by rw [hk c (.inr (.inr rfl))]; exact hr.cb.blkc,hr.cb.ok⟩,hf,hr.pok,hr.rng⟩
section
variable {h : Gag} {q p c pb ob : Nat} {P : PP} {sv : Value} {σ : ES}
theorem PE.lts (he : PE h q p c pb ob P sv σ) : q < h.length∧p < h.length∧c < h.length∧pb < h.length∧ob < h.length :=
 ⟨blk?_lt he.pr.blk,blk?_lt he.pr.cb.blkp,blk?_lt he.pr.cb.blkc,blk?_lt he.pbk,blk?_lt he.obk⟩
theorem PE.push (he : PE h q p c pb ob P sv σ) (x : Option Blk) : PE (h++[x]) q p c pb ob P sv σ:=by
 obtain ⟨l1,l2,l3,l4,l5⟩:=he.lts
 refine ⟨he.pr.keep (fun id hid=>?_) (by simp; omega),blk?_push he.pbk,blk?_push he.obk,he.own.of_blk (fun id _ hb=>blk?_push hb),he.n1,he.n2,he.n3⟩
 rcases hid with rfl | rfl | rfl <;> exact blk?_push_lt (by assumption)
theorem PE.map (he : PE h q p c pb ob P sv σ) {x y : Int} (hi : σ.b.inb x y) {f : Cell→Cell} (hf : Gkv f) :
  PE (h.set c (some ⟨false,Gco (σ.b.upd x y f).cs⟩)) q p c pb ob P sv (σ.map x y f)∧Stp h (h.set c (some ⟨false,Gco (σ.b.upd x y f).cs⟩)) c ob sv sv:=by
 obtain ⟨l1,l2,l3,l4,l5⟩:=he.lts
 obtain ⟨m1,m2,m3,m4⟩:=he.n1
 have hg : (σ.b.upd x y f).Good:=BS.Good.upd ⟨he.pr.cb.ok,he.pr.rng⟩ hi hf
 refine ⟨⟨⟨?_,?_,by have:=he.pr.fv; simpa using this,he.pr.pok,hg.rng⟩,?_,?_,he.own.of_blk (fun id hid hb=>?_),he.n1,he.n2,he.n3⟩,⟨by simp,fun id _ hc _ _=>blk?_set_ne (Ne.symm hc),fun _ h=>.inl h⟩⟩
 ·rw [blk?_set_ne m1]; exact he.pr.blk
 ·exact he.pr.cb.set rfl rfl hg.ok
 ·rw [blk?_set_ne m2]; exact he.pbk
 ·rw [blk?_set_ne m3]; exact he.obk
 ·rw [blk?_set_ne (fun e=>he.n3.2.2.1 (by rw [e]; exact hid))]; exact hb
theorem Giu (he : PE h q p c pb ob P sv σ) (hn : σ.out.length < 1000000) (ctx : Int) (bit : Nat) :
  ∃ sv' h',(∀ R,Ret tab 123 [.int .i64 ctx,.int .i64 bit,ptr pb,ptr ob] h R = R (.tuple #[]) h')∧PE h' q p c pb ob P sv' (σ.emit P ctx bit)∧Stp h h' c ob sv sv':=by
 obtain ⟨l1,l2,l3,l4,l5⟩:=he.lts
 obtain ⟨m1,m2,m3,m4⟩:=he.n1
 obtain ⟨m5,m6,m7⟩:=he.n2
 obtain ⟨m8,m9,m10,m11,m12⟩:=he.n3
 generalize hcx : (if P.rw = true then (-1 : Int) else ctx) = cx
 have hsl : Sl (h++[some ⟨false,[.int .i64 cx,.int .i64 bit]⟩]) 2 (.slice (some ⟨h.length,0,none⟩) 1 2) 1 [.int .i64 cx,.int .i64 bit] :=
  ⟨by simp,.inr ⟨h.length,0,rfl,.inr ⟨_,blk?_push_eq,by simp,by simp⟩⟩⟩
 have hp:=he.push (some ⟨false,[.int .i64 cx,.int .i64 bit]⟩)
 obtain ⟨H,ha,hK,hHl,hHs⟩:=Gbs (bytes:=16) hp.own hsl (by unfold Gaq; omega) (by omega) (by omega)
 simp only [List.length_append,List.length_singleton] at ha hK hHl hHs
 have hk : ∀ id,id < h.length→sid sv ≠ some id→blk? H id = blk? h id:=fun id hid hne=>by rw [hHs id (by omega) hne,blk?_push_lt hid]
 have hHo : blk? H ob = some ⟨false,[sv]⟩:=by rw [hk ob l5 m12]; exact he.obk
 have hloH:=blk?_lt hHo
 refine ⟨.slice (some ⟨h.length + 1,0,none⟩) (σ.out.length + 1) 2,H.set ob (some ⟨false,[.slice (some ⟨h.length + 1,0,none⟩) (σ.out.length + 1) 2]⟩),fun R=>?_,⟨he.pr.keep (fun id hid=>?_) ?_,?_,?_,?_,he.n1,he.n2,?_⟩,⟨?_,?_,?_⟩⟩
 ·have hpb:=he.pbk
  have hpq:=he.pr.blk
  have hob:=he.obk
  rw [G4w,B123]
  cases hrw : P.rw
  ·simp only [hrw,Bool.false_eq_true,if_false] at hcx
   subst hcx
   rw [hrw] at hpq
   simp [hpb,hpq,hob,Gd4,ha,hHo,G7a]
  ·simp only [hrw,if_true] at hcx
   subst hcx
   rw [hrw] at hpq
   simp [hpb,hpq,hob,Gd4,ha,hHo,G7a]
 ·rcases hid with rfl | rfl | rfl
  ·rw [blk?_set_ne m5,hk _ l1 m8]
  ·rw [blk?_set_ne m7,hk _ l2 m9]
  ·rw [blk?_set_ne (Ne.symm m3),hk _ l3 m10]
 ·simp; omega
 ·rw [blk?_set_ne m6,hk _ l4 m11]; exact he.pbk
 ·rw [blk?_set_eq hloH]
 ·refine ⟨by rw [Gn0],.inr ⟨h.length + 1,by simp [ES.emit],?_⟩⟩
  rw [blk?_set_ne (by omega),hK]
  simp [ES.emit,Gg3,Ggt,hcx]
 ·simp [sid]; omega
 ·simp; omega
 ·intro id hid _ h3 h4
  rw [blk?_set_ne (Ne.symm h3),hk id hid h4]
 ·intro id hid
  simp [sid] at hid
  exact .inr (by simp; omega)
theorem Qdg {a b : Nat} (ha : a≤1) (hb : b≤1) : Qbx .i64 (a : Int) (b : Int) = (((a + b) % 2 : Nat) : Int):=by
 have h1 : a = 0∨a = 1:=by omega
 have h2 : b = 0∨b = 1:=by omega
 rcases h1 with rfl | rfl <;> rcases h2 with rfl | rfl <;> decide
theorem Guw (v : Int) : Gp3 v≤1:=by unfold Gp3; split <;> omega
theorem Gk4 (a b : Int) : Gce a b≤1:=by unfold Gce; split <;> omega
theorem Gfj (s t : Int) : Ggv s t = -1∨Ggv s t = 0∨Ggv s t = 1:=by unfold Ggv; omega
theorem G8j (he : PE h q p c pb ob P sv σ) (hn : σ.out.length < 1000000) {x y : Int} (hi : σ.b.inb x y) :
  ∃ sv' h',(∀ R,Ret tab 186 [ptr q,.int .i64 x,.int .i64 y] h R = R (.tuple #[]) h')∧PE h' q p c pb ob P sv' (σ.sign P x y)∧Stp h h' c ob sv sv':=by
 obtain ⟨sv1,h1,e1,p1,s1⟩:=Giu he hn (Gct (sgH σ.b x y) (sgV σ.b x y P.cz)) (Gdd P σ.b x y)
 obtain ⟨p2,s2⟩:=p1.map (x:=x) (y:=y) hi Gkh
 refine ⟨sv1,_,fun R=>?_,p2,s1.trans s2⟩
 have hq:=he.pr.blk
 have hq1:=p1.pr.blk
 have hm:=fun R=>G62 (R:=R) p1.pr.cb (x:=x) (y:=y) hi
 have hc:=fun R=>Gp5 (h:=h) (R:=R) (Gfj (sgn σ.b (x - 1) y) (sgn σ.b (x + 1) y)) (Gfj (sgn σ.b x (y - 1)) (if (!P.cz || y % 4 != 3) = true then sgn σ.b x (y + 1) else 0))
 change ∀ R,Ret tab _ [.int .i64 (sgH σ.b x y),.int .i64 (sgV σ.b x y P.cz)] h R = R (.tuple #[.int .i64 (Gct (sgH σ.b x y) (sgV σ.b x y P.cz)),.int .i64 (Gce (sgH σ.b x y) (sgV σ.b x y P.cz))]) h at hc
 have hv:=fun R=>Gn8 (R:=R) (x:=x) (y:=y) he.pr.cb
 have hs:=fun R=>Gyl (R:=R) he.pr.cb hi P.cz
 have hx:=Qdg (Guw (σ.b.get x y).v) (Gk4 (sgH σ.b x y) (sgV σ.b x y P.cz))
 have hx0:=Qdg (Guw (σ.b.get x y).v) (Nat.zero_le 1)
 have hmm : (fun z : Cell=>({ z with s:=true } : Cell)) = mark:=rfl
 rw [hmm] at hm
 rw [G2r,B186]
 unfold Gdd at e1
 simp only [ES.emit_b] at *
 generalize sgH σ.b x y = H at *
 generalize sgV σ.b x y P.cz = V at *
 by_cases hneg : (σ.b.get x y).v < 0
 ·have hno : Gp3 (σ.b.get x y).v = 1:=by simp [Gp3,hneg]
  rw [hno] at hx hx0 e1
  simp only [Int.natCast_one,Int.natCast_zero] at hx hx0
  cases hrw : P.rw
  ·simp only [hrw,Bool.false_eq_true,if_false] at e1
   rw [hrw] at hq
   simp [-Int.natCast_emod,-Int.natCast_add] at e1
   simp [-Int.natCast_emod,-Int.natCast_add,hq,hq1,hv,hneg,hs,hc,hx,e1,hm,Gvy]
  ·simp only [hrw,if_true] at e1
   rw [hrw] at hq
   simp [-Int.natCast_emod,-Int.natCast_add] at e1
   simp [-Int.natCast_emod,-Int.natCast_add,hq,hq1,hv,hneg,hs,hc,hx0,e1,hm,Gvy]
 ·have hno : Gp3 (σ.b.get x y).v = 0:=by simp [Gp3,hneg]
  rw [hno] at hx hx0 e1
  simp only [Int.natCast_one,Int.natCast_zero] at hx hx0
  cases hrw : P.rw
  ·simp only [hrw,Bool.false_eq_true,if_false] at e1
   rw [hrw] at hq
   simp [-Int.natCast_emod,-Int.natCast_add] at e1
   simp [-Int.natCast_emod,-Int.natCast_add,hq,hq1,hv,hneg,hs,hc,hx,e1,hm,Gvy]
  ·simp only [hrw,if_true] at e1
   rw [hrw] at hq
   simp [-Int.natCast_emod,-Int.natCast_add] at e1
   simp [-Int.natCast_emod,-Int.natCast_add,hq,hq1,hv,hneg,hs,hc,hx0,e1,hm,Gvy]
end
def AE.bytes (a : AE) : List Nat:=Ghg (Gf7 (a.ds.take (a.ds.length - 4)) (val (a.ds.drop (a.ds.length - 4))) a.size)
theorem Gws {a : AE} {out : List Nat} {low : Nat} (h : a.ds = out++Gdz low) : a.bytes = Ghg (Gf7 out low a.size):=by
 unfold AE.bytes
 have e : a.ds.length - 4 = out.length:=by rw [h]; simp [Gdz]
 rw [e,h,List.take_left,List.drop_left,Gfa]
def AE.setBack (a : AE) : AE:={ a with p:=AE.base a.p.length }
structure S2 where
 a : AE
 raw : Option (List Nat)
def S2.put (st : S2) (s : Int × Nat) : S2 :=
 match st.raw with
 | none=>⟨st.a.put s.1.toNat s.2,none⟩
 | some bs=>⟨st.a,some (bs++[s.2])⟩
def S2.size (st : S2) : Nat :=
 match st.raw with
 | none=>if st.a.begun = true then st.a.ds.length else 0
 | some bs=>(bs.length + 7) / 8
def S2.bytes (st : S2) : List Nat :=
 match st.raw with
 | none=>st.a.bytes
 | some bs=>Gjc bs
def S2.back (st : S2) : S2:=⟨st.a.setBack,st.raw⟩
def S2.after (st : S2) : AE :=
 match st.raw with
 | none=>AE.begin st.a.p
 | some _=>st.a
def Gem (raw : Option (List Nat)) (s : Int × Nat) : Prop:=s.2 < 2∧(raw = none→0≤s.1∧s.1 < 19)
abbrev ifE (e : Nat) : Value:=.iface 78 (.agg #[ptr e])
abbrev ifR (p : Nat) : Value:=.iface 85 (.agg #[ptr p])
abbrev tbW : Array Value:=#[.int .i64 78,.func (.func 228) #[] #[],.int .i64 85,.func (.func 241) #[] #[]]
abbrev tbS : Array Value:=#[.int .i64 78,.func (.func 227) #[] #[],.int .i64 85,.func (.func 240) #[] #[]]
abbrev tbE : Array Value:=#[.int .i64 78,.func (.func 226) #[] #[],.int .i64 85,.func (.func 239) #[] #[]]
def Gf6 (e pb : Nat) (o : Value) (id : Nat) : Prop:=id = e∨id = pb∨sid o = some id
def Gvt (p : Nat) (s : Value) (id : Nat) : Prop:=id = p∨sid s = some id
inductive Snk (h : Gag) (e : Nat) : Value→(Nat→Prop)→S2→Nat→Prop
 | enc {pb : Nat} {o : Value} {out : List Nat} {low N : Nat} {a : AE} (I : EA h e pb o out low a) (h19 : a.p.length = 19) (hn : out.length≤N) : Snk h e (ifE e) (Gf6 e pb o) ⟨a,none⟩ N
 | raw {pb : Nat} {o : Value} {out : List Nat} {low N p : Nat} {s : Value} {a : AE} {bs : List Nat} (I : EA h e pb o out low a) (h19 : a.p.length = 19) (hn : out.length≤N) (J : PW h p s bs) (hb : bs.length≤N)
   (hd : ∀ id,Gf6 e pb o id→¬ Gvt p s id) : Snk h e (ifR p) (fun id=>Gf6 e pb o id∨Gvt p s id) ⟨a,some bs⟩ N
structure SF (h h' : Gag) (own own' : Nat→Prop) : Prop where
 len : h.length≤h'.length
 same : ∀ id,id < h.length→¬ own id→blk? h' id = blk? h id
 fresh : ∀ id,own' id→own id∨(h.length≤id∧id < h'.length)
theorem SF.refl (h : Gag) (own : Nat→Prop) : SF h h own own:=⟨Nat.le_refl _,fun _ _ _=>rfl,fun _ h=>.inl h⟩
theorem SF.trans {h1 h2 h3 : Gag} {o1 o2 o3 : Nat→Prop} (a : SF h1 h2 o1 o2) (b : SF h2 h3 o2 o3) : SF h1 h3 o1 o3:=by
 refine ⟨Nat.le_trans a.len b.len,fun id h0 hn=>?_,fun id hid=>?_⟩
 ·rw [b.same id (by have:=a.len; omega) (fun hx=>?_),a.same id h0 hn]
  rcases a.fresh id hx with h | h
  ·exact hn h
  ·omega
 ·rcases b.fresh id hid with h | h
  ·rcases a.fresh id h with h' | h'
   ·exact .inl h'
   ·have:=b.len; exact .inr ⟨h'.1,by omega⟩
  ·have:=a.len; exact .inr ⟨by omega,h.2⟩
section
variable {h h' : Gag} {R : RP} {e pb : Nat} {o : Value} {p out : List Nat} {low size : Nat} {begun : Bool} {a : AE}
theorem EA.keep (I : EA h e pb o out low a) (hk : ∀ id,Gf6 e pb o id→blk? h' id = blk? h id) : EA h' e pb o out low a :=
 ⟨⟨by rw [hk e (.inl rfl)]; exact I.ep.blk,by rw [hk pb (.inr (.inl rfl))]; exact I.ep.pblk,I.ep.own.of_blk fun id hid hb=>by rw [hk id (.inr (.inr hid))]; exact hb,I.ep.ne1,I.ep.ne2,I.ep.ne3⟩,I.ds,I.lt,I.ok,I.pos⟩
theorem EA.own_lt (I : EA h e pb o out low a) {id : Nat} (hid : Gf6 e pb o id) : id < h.length:=by
 rcases hid with rfl | rfl | hid
 ·exact blk?_lt I.ep.blk
 ·exact blk?_lt I.ep.pblk
 ·exact I.ep.own.lt hid
theorem PW.keep {q : Nat} {s : Value} {bs : List Nat} (J : PW h q s bs) (hk : ∀ id,Gvt q s id→blk? h' id = blk? h id) : PW h' q s bs :=
 ⟨by rw [hk q (.inl rfl)]; exact J.blk,J.own.of_blk fun id hid hb=>by rw [hk id (.inr hid)]; exact hb,J.ne,J.bits⟩
theorem PW.own_lt {q : Nat} {s : Value} {bs : List Nat} (J : PW h q s bs) {id : Nat} (hid : Gvt q s id) : id < h.length:=by
 rcases hid with rfl | hid
 ·exact blk?_lt J.blk
 ·exact J.own.lt hid
theorem Snk.own_lt {v : Value} {own : Nat→Prop} {st : S2} {N : Nat} (K : Snk h e v own st N) {id : Nat} (hid : own id) : id < h.length:=by
 cases K with
 | enc I _ _=>exact I.own_lt hid
 | raw I _ _ J _ _ =>
  rcases hid with hid | hid
  ·exact I.own_lt hid
  ·exact J.own_lt hid
theorem Snk.keep {v : Value} {own : Nat→Prop} {st : S2} {N : Nat} (K : Snk h e v own st N) (hk : ∀ id,own id→blk? h' id = blk? h id) : Snk h' e v own st N:=by
 cases K with
 | enc I h1 h2=>exact .enc (I.keep hk) h1 h2
 | raw I h1 h2 J h3 h4=>exact .raw (I.keep fun id hid=>hk id (.inl hid)) h1 h2 (J.keep fun id hid=>hk id (.inr hid)) h3 h4
theorem G9w {v : Value} {own : Nat→Prop} {st : S2} {N : Nat} (K : Snk h e v own st N) (hN : N < 900000) {c : Int} {b : Nat} (hs : Gem st.raw (c,b)) :
  ∃ h' own',(∀ R,Gc0 tbW [v,.agg #[.int .i64 c,.int .i64 (b : Nat)]] tab h R = R (.tuple #[]) h')∧Snk h' e v own' (st.put (c,b)) (N + 1)∧SF h h' own own':=by
 cases K with
 | @enc pb o out low _ a I h19 hn =>
  obtain ⟨hb,hc⟩:=hs
  obtain ⟨c0,c1⟩:=hc rfl
  obtain ⟨c,rfl⟩:=Int.eq_ofNat_of_zero_le c0
  have lt : ∀ id,Gf6 e pb o id→id < h.length:=fun id hid=>I.own_lt hid
  have I1 : EA (h++[some ⟨false,[ptr e]⟩,some ⟨false,[.int .i64 (c : Nat),.int .i64 (b : Nat)]⟩]) e pb o out low a:=I.keep fun id hid=>Gbf (lt id hid)
  obtain ⟨h',o',out',low',e1,I2,F,hl⟩:=put_c I1 (c:=c) (bit:=b) (by omega) hb (by omega)
  refine ⟨h',Gf6 e pb o',fun R=>?_,?_,⟨?_,fun id hid hno=>?_,fun id hid=>?_⟩⟩
  ·simp [Gc0,Gfu]
   rw [G5y,B228]
   simp at e1
   simp [Gbe,Ga0,Gb8,Gc4,e1,fin228]
  ·have:=Snk.enc (N:=N + 1) I2 (by unfold AE.put; simpa using h19) (by omega)
   simpa [S2.put] using this
  ·have:=F.len; simp at this; omega
  ·rw [F.same id (by simp; omega) (fun x=>hno (.inl x)) (fun x=>hno (.inr (.inl x))) (fun x=>hno (.inr (.inr x))),Gbf hid]
  ·rcases hid with hid | hid | hid
   ·exact .inl (.inl hid)
   ·exact .inl (.inr (.inl hid))
   ·rcases F.fresh id hid with hx | hx
    ·exact .inl (.inr (.inr hx))
    ·right; simp at hx; omega
 | @raw pb o out low _ q s a bs I h19 hn J hbl hd =>
  obtain ⟨hb,_⟩:=hs
  simp only at hb
  have J1 : PW (h++[some ⟨false,[ptr q]⟩,some ⟨false,[.int .i64 c,.int .i64 (b : Nat)]⟩]) q s bs:=J.keep fun id hid=>Gbf (J.own_lt hid)
  obtain ⟨s',h',e1,J2,F⟩:=put20 J1 (b:=b) (by omega) (by omega)
  have hl2:=F.len
  simp at hl2
  have notown : ∀ id,Gf6 e pb o id→blk? h' id = blk? h id:=fun id hid=>by
   have hlt:=I.own_lt hid
   rw [F.same id (by simp; omega) (fun x=>hd id hid (.inl x)) (fun x=>hd id hid (.inr x)),Gbf hlt]
  have fr : ∀ id,Gvt q s' id→Gvt q s id∨(h.length≤id∧id < h'.length):=fun id hid=>by
   rcases hid with hid | hid
   ·exact .inl (.inl hid)
   ·rcases F.fresh id hid with hx | hx
    ·exact .inl (.inr hx)
    ·right; simp at hx; omega
  refine ⟨h',fun id=>Gf6 e pb o id∨Gvt q s' id,fun R=>?_,?_,⟨by omega,fun id hid hno=>?_,fun id hid=>?_⟩⟩
  ·simp [Gc0,Gfu]
   rw [G3t,B241]
   simp at e1
   simp [Gbe,Ga0,Gb8,Gc4,e1,fin241]
  ·refine .raw (I.keep notown) h19 (by omega) J2 (by simp; omega) (fun id h1 h2=>?_)
   rcases fr id h2 with hx | hx
   ·exact hd id h1 hx
   ·have:=I.own_lt h1; omega
  ·rw [F.same id (by simp; omega) (fun x=>hno (.inr (.inl x))) (fun x=>hno (.inr (.inr x))),Gbf hid]
  ·rcases hid with hid | hid
   ·exact .inl (.inl hid)
   ·rcases fr id hid with hx | hx
    ·exact .inl (.inr hx)
    ·exact .inr hx
theorem G3n {v : Value} {own : Nat→Prop} {st : S2} {N : Nat} (K : Snk h e v own st N) (hN : N≤900000) :
  ∃ h',(∀ R,Gc0 tbS [v] tab h R = R (.int .i64 (st.size : Nat)) h')∧Snk h' e v own st N∧SF h h' own own:=by
 cases K with
 | @enc pb o out low _ a I h19 hn =>
  have I1 : EA (h++[some ⟨false,[ptr e]⟩]) e pb o out low a:=I.keep fun id hid=>Gbf (I.own_lt hid)
  have hz:=fun R=>G84 (R:=R) I1 (by omega)
  refine ⟨h++[some ⟨false,[ptr e]⟩],fun R=>?_,.enc I1 h19 hn,⟨by simp,fun id hid _=>Gbf hid,fun id hid=>.inl hid⟩⟩
  unfold S2.size
  generalize (if a.begun = true then a.ds.length else 0) = z at *
  simp [Gc0,Gfu]
  rw [G4e,B227]
  simp [Gbe,Gb8,hz,fin227]
 | @raw pb o out low _ q s a bs I h19 hn J hbl hd =>
  have I1 : EA (h++[some ⟨false,[ptr q]⟩]) e pb o out low a:=I.keep fun id hid=>Gbf (I.own_lt hid)
  have J1 : PW (h++[some ⟨false,[ptr q]⟩]) q s bs:=J.keep fun id hid=>Gbf (J.own_lt hid)
  have hz:=fun R=>size22 J1 R
  refine ⟨h++[some ⟨false,[ptr q]⟩],fun R=>?_,.raw I1 h19 hn J1 hbl hd,⟨by simp,fun id hid _=>Gbf hid,fun id hid=>.inl hid⟩⟩
  show Gc0 tbS [ifR q] tab h R = R (.int .i64 (((bs.length + 7) / 8 : Nat) : Int)) _
  generalize (((bs.length + 7) / 8 : Nat) : Int) = z at *
  simp [Gc0,Gfu]
  rw [G3f,B240]
  simp [Gbe,Gb8,hz,fin240]
theorem G45 {v : Value} {own : Nat→Prop} {st : S2} {N : Nat} (K : Snk h e v own st N) :
  ∃ h',(∀ R,Ret tab 41 [ptr e] h R = R (.tuple #[]) h')∧Snk h' e v own st.back N∧SF h h' own own:=by
 cases K with
 | @enc pb o out low _ a I h19 hn =>
  obtain ⟨h',e1,I1,F⟩:=Gu5 I (by omega)
  exact ⟨h',e1,.enc I1 (by simpa [AE.base,AE.setBack] using h19) hn,⟨F.len,fun id hid hno=>F.same id hid (fun x=>hno (.inl x)) (fun x=>hno (.inr (.inl x))) (fun x=>hno (.inr (.inr x))),fun id hid=>.inl hid⟩⟩
 | @raw pb o out low _ q s a bs I h19 hn J hbl hd =>
  obtain ⟨h',e1,I1,F⟩:=Gu5 I (by omega)
  have hk : ∀ id,Gvt q s id→blk? h' id = blk? h id:=fun id hid=>by
   have hn : ¬ Gf6 e pb o id:=fun x=>hd id x hid
   exact F.same id (J.own_lt hid) (fun x=>hn (.inl x)) (fun x=>hn (.inr (.inl x))) (fun x=>hn (.inr (.inr x)))
  exact ⟨h',e1,.raw I1 (by simpa [AE.base,AE.setBack] using h19) hn (J.keep hk) hbl hd,⟨F.len,fun id hid hno=>F.same id hid (fun x=>hno (.inl (.inl x))) (fun x=>hno (.inl (.inr (.inl x)))) (fun x=>hno (.inl (.inr (.inr x)))),fun id hid=>.inl hid⟩⟩
theorem Qad {v : Value} {own : Nat→Prop} {st : S2} {N : Nat} (K : Snk h e v own st N) (hN : N≤900000) :
  ∃ h' s pb' o' out' low',(∀ R,Gc0 tbE [v] tab h R = R s h')∧EA h' e pb' o' out' low' st.after∧out'.length≤N∧st.after.p.length = 19∧SF h h' own (Gf6 e pb' o') ∧
   Sl h' 1 s st.bytes.length (nU st.bytes)∧(∀ id,sid s = some id→own id∨h.length≤id):=by
 cases K with
 | @enc pb o out low _ a I h19 hn =>
  have I1 : EA (h++[some ⟨false,[ptr e]⟩]) e pb o out low a:=I.keep fun id hid=>Gbf (I.own_lt hid)
  obtain ⟨h',s,e1,I2,F,hs,hf⟩:=Qbk I1 (by omega)
  have hl2:=F.len
  simp at hl2
  refine ⟨h',s,pb,.slice none 0 0,[],0,fun R=>?_,I2,by simp,by simpa [S2.after,AE.begin] using h19,⟨by omega,fun id hid hno=>?_,fun id hid=>?_⟩,?_,fun id hid=>?_⟩
  ·simp [Gc0,Gfu]
   rw [G5r,B226]
   simp at e1
   simp [Gbe,Gb8,e1,fin226]
  ·rw [F.same id (by simp; omega) (fun x=>hno (.inl x)) (fun x=>hno (.inr (.inl x))) (fun x=>hno (.inr (.inr x))),Gbf hid]
  ·rcases hid with hid | hid | hid
   ·exact .inl (.inl hid)
   ·exact .inl (.inr (.inl hid))
   ·simp [sid] at hid
  ·have : S2.bytes ⟨a,none⟩ = Ghg (Gf7 out low a.size):=Gws I.ds
   rw [this]; exact hs
  ·have:=hf id hid
   simp at this; right; omega
 | @raw pb o out low _ q s a bs I h19 hn J hbl hd =>
  have J1 : PW (h++[some ⟨false,[ptr q]⟩]) q s bs:=J.keep fun id hid=>Gbf (J.own_lt hid)
  obtain ⟨t,h',e1,hs,J2,hl2,hsame,hf⟩:=term18 J1 (by omega)
  simp at hl2
  have hk : ∀ id,Gf6 e pb o id→blk? h' id = blk? h id:=fun id hid=>by
   rw [hsame id (fun x=>hd id hid (.inl x)),Gbf (I.own_lt hid)]
  refine ⟨h',t,pb,o,out,low,fun R=>?_,I.keep hk,hn,h19,⟨by omega,fun id hid hno=>?_,fun id hid=>.inl (.inl hid)⟩,hs,fun id hid=>?_⟩
  ·simp [Gc0,Gfu]
   rw [G5d,B239]
   simp at e1
   simp [Gbe,Gb8,e1,fin239]
  ·rw [hsame id (fun x=>hno (.inr (.inl x))),Gbf hid]
  ·exact .inl (.inr (.inr (hf id hid)))
theorem Gz3 {N : Nat} {v : Value} {own : Nat→Prop} {st : S2} (K : Snk h e v own st N) : st.bytes.length≤N + 4:=by
 cases K with
 | @enc pb o out low _ a I h19 hn =>
  have : S2.bytes ⟨a,none⟩ = Ghg (Gf7 out low a.size):=Gws I.ds
  rw [this]
  have h1:=Gjs (Gf7 out low a.size)
  have h2 : (Gf7 out low a.size).length = out.length + 4:=by unfold Gf7; split <;> simp [Gb7,Gdz]
  omega
 | @raw pb o out low _ q s a bs I h19 hn J hbl hd =>
  show (Gjc bs).length≤N + 4
  unfold Gjc
  rw [List.length_take,Gbb]
  omega
theorem Gso {N : Nat} {v : Value} {own : Nat→Prop} {st : S2} (K : Snk h e v own st N) : st.size≤N + 4:=by
 cases K with
 | @enc pb o out low _ a I h19 hn =>
  show (if a.begun = true then a.ds.length else 0)≤N + 4
  have : a.ds.length = out.length + 4:=by rw [I.ds]; simp [Gdz]
  split <;> omega
 | @raw pb o out low _ q s a bs I h19 hn J hbl hd =>
  show (bs.length + 7) / 8≤N + 4
  omega
end
end Go.Proofs.YtjpjohchdfoeaaaGreat
