/-
  'same': two blocks that carry the same.
  Two blocks that carry the same.
  'build': two blocks with the same values and flags.
  'build'.
  The two sources of DecpassRuns: some bits, and 0 beyond them; what was asked for is noted.
-/
import Derived.Test.YtjpjohchdfoeaaaSm
import Derived.Test.YtjpjohchdfoeaaaRd4
/-! 'same': two blocks that carry the same. -/
namespace Go.Proofs.Ytjpjohchdfoeaaa
open Go.Sim
open Go.RowKit
set_option linter.unusedVariables false
set_option linter.unusedSimpArgs false
section
variable {h : Heap} {R : Value → Heap → Prop} {f : Bool} {p c p' c' : Nat} {b : BS}
theorem same_in (hb : CB h f p c b) (hb' : CB h f p' c' b) {w hh y : Int} (hw : w ≤ 64) {v8 : Value} {k : List RItem}
    (hk : ∀ K4 K5 K6 K7 Ka Kb Kc Kd Ke Kf Kg Kh Ki Kj Kk Kl Km Kn Ko Kp Kq Kr Ks Kt Ku Kv Kw Kx Ky Kz J0 J1 J2 J3 J4 J5 J6 J7 J8 J9 Ja Jb Jc Jd Je Jf Jg Jh Ji Jj Jk Jl Jm Jn Jo Jp Jq : Value, Ok tab R28 k #[ptr p,ptr p',.int .i64 w,.int .i64 hh,K4,K5,K6,K7,v8,.int .i64 y,Ka,Kb,Kc,Kd,Ke,Kf,Kg,Kh,Ki,Kj,Kk,Kl,Km,Kn,Ko,Kp,Kq,Kr,Ks,Kt,Ku,Kv,Kw,Kx,Ky,Kz,J0,J1,J2,J3,J4,J5,J6,J7,J8,J9,Ja,Jb,Jc,Jd,Je,Jf,Jg,Jh,Ji,Jj,Jk,Jl,Jm,Jn,Jo,Jp,Jq] h R) :
    ∀ (n : Nat) (x : Int) (K4 K5 K6 K7 Kb Kc Kd Ke Kf Kg Kh Ki Kj Kk Kl Km Kn Ko Kp Kq Kr Ks Kt Ku Kv Kw Kx Ky Kz J0 J1 J2 J3 J4 J5 J6 J7 J8 J9 Ja Jb Jc Jd Je Jf Jg Jh Ji Jj Jk Jl Jm Jn Jo Jp Jq : Value), n = (w - x).toNat → 0 ≤ x →
      Ok tab R28 (.inLoop L28_0 :: .inBlock 2 :: k) #[ptr p,ptr p',.int .i64 w,.int .i64 hh,K4,K5,K6,K7,v8,.int .i64 y,.int .i64 x,Kb,Kc,Kd,Ke,Kf,Kg,Kh,Ki,Kj,Kk,Kl,Km,Kn,Ko,Kp,Kq,Kr,Ks,Kt,Ku,Kv,Kw,Kx,Ky,Kz,J0,J1,J2,J3,J4,J5,J6,J7,J8,J9,Ja,Jb,Jc,Jd,Je,Jf,Jg,Jh,Ji,Jj,Jk,Jl,Jm,Jn,Jo,Jp,Jq] h R := by
  intro n
  induction n with
  | zero =>
    intro x K4 K5 K6 K7 Kb Kc Kd Ke Kf Kg Kh Ki Kj Kk Kl Km Kn Ko Kp Kq Kr Ks Kt Ku Kv Kw Kx Ky Kz J0 J1 J2 J3 J4 J5 J6 J7 J8 J9 Ja Jb Jc Jd Je Jf Jg Jh Ji Jj Jk Jl Jm Jn Jo Jp Jq hn hx
    have hlt : ¬ (x < w) := by omega
    rw [ok_round, l28_0, L28_0a, L28_0b]
    simp [hlt]
    exact hk _ _ _ _ _ _ _ _ _ _ _ _ _ _ _ _ _ _ _ _ _ _ _ _ _ _ _ _ _ _ _ _ _ _ _ _ _ _ _ _ _ _ _ _ _ _ _ _ _ _ _ _ _ _ _ _ _
  | succ n ih =>
    intro x K4 K5 K6 K7 Kb Kc Kd Ke Kf Kg Kh Ki Kj Kk Kl Km Kn Ko Kp Kq Kr Ks Kt Ku Kv Kw Kx Ky Kz J0 J1 J2 J3 J4 J5 J6 J7 J8 J9 Ja Jb Jc Jd Je Jf Jg Jh Ji Jj Jk Jl Jm Jn Jo Jp Jq hn hx
    have hlt : x < w := by omega
    have hw1 : IntKind.i64.wrap (x + 1) = x + 1 := wrapI (by omega) (by omega)
    have ih' := fun K4 K5 K6 K7 Kb Kc Kd Ke Kf Kg Kh Ki Kj Kk Kl Km Kn Ko Kp Kq Kr Ks Kt Ku Kv Kw Kx Ky Kz J0 J1 J2 J3 J4 J5 J6 J7 J8 J9 Ja Jb Jc Jd Je Jf Jg Jh Ji Jj Jk Jl Jm Jn Jo Jp Jq => ih (x + 1) K4 K5 K6 K7 Kb Kc Kd Ke Kf Kg Kh Ki Kj Kk Kl Km Kn Ko Kp Kq Kr Ks Kt Ku Kv Kw Kx Ky Kz J0 J1 J2 J3 J4 J5 J6 J7 J8 J9 Ja Jb Jc Jd Je Jf Jg Jh Ji Jj Jk Jl Jm Jn Jo Jp Jq (by omega) (by omega)
    rw [ok_round, l28_0, L28_0a, L28_0b]
    simp [hlt, value_c hb, value_r hb', significant_c hb, significant_r hb', touched_c hb, touched_r hb', refined_c hb, refined_r hb', hw1, k_guard, k_guardU]
    exact ih' _ _ _ _ _ _ _ _ _ _ _ _ _ _ _ _ _ _ _ _ _ _ _ _ _ _ _ _ _ _ _ _ _ _ _ _ _ _ _ _ _ _ _ _ _ _ _ _ _ _ _ _ _ _ _ _
theorem same_out (hb : CB h f p c b) (hb' : CB h f p' c' b) {w hh : Int} (hw : w ≤ 64) (hhh : hh ≤ 64) {v8 : Value} {k : List RItem}
    (hk : ∀ K4 K5 K6 K7 K9 Ka Kb Kc Kd Ke Kf Kg Kh Ki Kj Kk Kl Km Kn Ko Kp Kq Kr Ks Kt Ku Kv Kw Kx Ky Kz J0 J1 J2 J3 J4 J5 J6 J7 J8 J9 Ja Jb Jc Jd Je Jf Jg Jh Ji Jj Jk Jl Jm Jn Jo Jp Jq : Value, Ok tab R28 k #[ptr p,ptr p',.int .i64 w,.int .i64 hh,K4,K5,K6,K7,v8,K9,Ka,Kb,Kc,Kd,Ke,Kf,Kg,Kh,Ki,Kj,Kk,Kl,Km,Kn,Ko,Kp,Kq,Kr,Ks,Kt,Ku,Kv,Kw,Kx,Ky,Kz,J0,J1,J2,J3,J4,J5,J6,J7,J8,J9,Ja,Jb,Jc,Jd,Je,Jf,Jg,Jh,Ji,Jj,Jk,Jl,Jm,Jn,Jo,Jp,Jq] h R) :
    ∀ (n : Nat) (y : Int) (K4 K5 K6 K7 Ka Kb Kc Kd Ke Kf Kg Kh Ki Kj Kk Kl Km Kn Ko Kp Kq Kr Ks Kt Ku Kv Kw Kx Ky Kz J0 J1 J2 J3 J4 J5 J6 J7 J8 J9 Ja Jb Jc Jd Je Jf Jg Jh Ji Jj Jk Jl Jm Jn Jo Jp Jq : Value), n = (hh - y).toNat → 0 ≤ y →
      Ok tab R28 (.inLoop L28_1 :: .inBlock 0 :: k) #[ptr p,ptr p',.int .i64 w,.int .i64 hh,K4,K5,K6,K7,v8,.int .i64 y,Ka,Kb,Kc,Kd,Ke,Kf,Kg,Kh,Ki,Kj,Kk,Kl,Km,Kn,Ko,Kp,Kq,Kr,Ks,Kt,Ku,Kv,Kw,Kx,Ky,Kz,J0,J1,J2,J3,J4,J5,J6,J7,J8,J9,Ja,Jb,Jc,Jd,Je,Jf,Jg,Jh,Ji,Jj,Jk,Jl,Jm,Jn,Jo,Jp,Jq] h R := by
  intro n
  induction n with
  | zero =>
    intro y K4 K5 K6 K7 Ka Kb Kc Kd Ke Kf Kg Kh Ki Kj Kk Kl Km Kn Ko Kp Kq Kr Ks Kt Ku Kv Kw Kx Ky Kz J0 J1 J2 J3 J4 J5 J6 J7 J8 J9 Ja Jb Jc Jd Je Jf Jg Jh Ji Jj Jk Jl Jm Jn Jo Jp Jq hn hy
    have hlt : ¬ (y < hh) := by omega
    rw [ok_round, l28_1, L28_1a, L28_1b]
    simp [hlt]
    exact hk _ _ _ _ _ _ _ _ _ _ _ _ _ _ _ _ _ _ _ _ _ _ _ _ _ _ _ _ _ _ _ _ _ _ _ _ _ _ _ _ _ _ _ _ _ _ _ _ _ _ _ _ _ _ _ _ _ _
  | succ n ih =>
    intro y K4 K5 K6 K7 Ka Kb Kc Kd Ke Kf Kg Kh Ki Kj Kk Kl Km Kn Ko Kp Kq Kr Ks Kt Ku Kv Kw Kx Ky Kz J0 J1 J2 J3 J4 J5 J6 J7 J8 J9 Ja Jb Jc Jd Je Jf Jg Jh Ji Jj Jk Jl Jm Jn Jo Jp Jq hn hy
    have hlt : y < hh := by omega
    have hw1 : IntKind.i64.wrap (y + 1) = y + 1 := wrapI (by omega) (by omega)
    have ih' := fun K4 K5 K6 K7 Ka Kb Kc Kd Ke Kf Kg Kh Ki Kj Kk Kl Km Kn Ko Kp Kq Kr Ks Kt Ku Kv Kw Kx Ky Kz J0 J1 J2 J3 J4 J5 J6 J7 J8 J9 Ja Jb Jc Jd Je Jf Jg Jh Ji Jj Jk Jl Jm Jn Jo Jp Jq => ih (y + 1) K4 K5 K6 K7 Ka Kb Kc Kd Ke Kf Kg Kh Ki Kj Kk Kl Km Kn Ko Kp Kq Kr Ks Kt Ku Kv Kw Kx Ky Kz J0 J1 J2 J3 J4 J5 J6 J7 J8 J9 Ja Jb Jc Jd Je Jf Jg Jh Ji Jj Jk Jl Jm Jn Jo Jp Jq (by omega) (by omega)
    rw [ok_round, l28_1, L28_1a, L28_1b]
    simp [hlt]
    refine same_in hb hb' hw ?_ _ 0 _ _ _ _ _ _ _ _ _ _ _ _ _ _ _ _ _ _ _ _ _ _ _ _ _ _ _ _ _ _ _ _ _ _ _ _ _ _ _ _ _ _ _ _ _ _ _ _ _ _ _ _ _ _ _ _ rfl (by omega)
    intro K4 K5 K6 K7 Ka Kb Kc Kd Ke Kf Kg Kh Ki Kj Kk Kl Km Kn Ko Kp Kq Kr Ks Kt Ku Kv Kw Kx Ky Kz J0 J1 J2 J3 J4 J5 J6 J7 J8 J9 Ja Jb Jc Jd Je Jf Jg Jh Ji Jj Jk Jl Jm Jn Jo Jp Jq
    simp [hw1]
    exact ih' _ _ _ _ _ _ _ _ _ _ _ _ _ _ _ _ _ _ _ _ _ _ _ _ _ _ _ _ _ _ _ _ _ _ _ _ _ _ _ _ _ _ _ _ _ _ _ _ _ _ _ _ _ _ _ _ _
theorem same_eq (hb : CB h false p c b) (hb' : CB h false p' c' b) {w hh : Int} (hw : w ≤ 64) (hhh : hh ≤ 64) : Ret tab 28 [ptr p, ptr p', .int .i64 w, .int .i64 hh] h R = R (.bool true) h := by
  have key : Ret tab 28 [ptr p, ptr p', .int .i64 w, .int .i64 hh] h fun v h' => v = .bool true ∧ h' = h := by
    rw [enter28, B28]
    refine ⟨by exact by simp [blk?_lt hb.blkp, blk?_lt hb'.blkp], ?_⟩
    simp
    refine same_out hb.frz hb'.frz hw hhh ?_ _ 0 _ _ _ _ _ _ _ _ _ _ _ _ _ _ _ _ _ _ _ _ _ _ _ _ _ _ _ _ _ _ _ _ _ _ _ _ _ _ _ _ _ _ _ _ _ _ _ _ _ _ _ _ _ _ _ _ _ rfl (by omega)
    intro K4 K5 K6 K7 K9 Ka Kb Kc Kd Ke Kf Kg Kh Ki Kj Kk Kl Km Kn Ko Kp Kq Kr Ks Kt Ku Kv Kw Kx Ky Kz J0 J1 J2 J3 J4 J5 J6 J7 J8 J9 Ja Jb Jc Jd Je Jf Jg Jh Ji Jj Jk Jl Jm Jn Jo Jp Jq
    simp [fin28]
  obtain ⟨v, h', e, rfl, rfl⟩ := ret_ex key
  exact e R
end
structure TwoB (h0 H : Heap) (p c p' c' : Nat) (w hh : Nat) (b : BS) : Prop where
  cb : CB H false p c b
  cb' : CB H false p' c' b
  good : b.Good
  bw : b.w = w
  bh : b.h = hh
  d1 : c ≠ c'
  d2 : c ≠ p'
  d3 : c' ≠ p
  far : h0.length ≤ c ∧ h0.length ≤ c'
  low : ∀ id, id < h0.length → blk? H id = blk? h0 id
  len : h0.length ≤ H.length
section
variable {h0 H : Heap} {p c p' c' w hh : Nat} {b : BS}
theorem TwoB.mid (t : TwoB h0 H p c p' c' w hh b) (x : Option Blk) : CB (H.set c x) false p' c' b :=
  ⟨by rw [blk?_set_ne t.d2]; exact t.cb'.blkp, by rw [blk?_set_ne t.d1]; exact t.cb'.blkc, t.cb'.ok⟩
theorem TwoB.upd (t : TwoB h0 H p c p' c' w hh b) {x y : Int} (hi : b.inb x y) {f : Cell → Cell} (hg : (b.upd x y f).Good) :
    TwoB h0 ((H.set c (some ⟨false, encC (b.upd x y f).cs⟩)).set c' (some ⟨false, encC (b.upd x y f).cs⟩)) p c p' c' w hh (b.upd x y f) := by
  have h1 := t.cb.set (b' := b.upd x y f) rfl rfl hg.ok
  have h2 := (t.mid (some ⟨false, encC (b.upd x y f).cs⟩)).set (b' := b.upd x y f) rfl rfl hg.ok
  refine ⟨⟨by rw [blk?_set_ne t.d3]; exact h1.blkp, by rw [blk?_set_ne t.d1.symm]; exact h1.blkc, hg.ok⟩, h2, hg, t.bw, t.bh, t.d1, t.d2, t.d3, t.far, fun id hid => ?_, by simp; exact t.len⟩
  rw [blk?_set_ne (by have := t.far.2; omega), blk?_set_ne (by have := t.far.1; omega)]
  exact t.low id hid
end
theorem good_setV {b : BS} (hg : b.Good) {x y : Int} (hi : b.inb x y) {v : Int} (hv : inR v) : (b.upd x y fun z => { z with v := v }).Good := by
  refine ⟨hg.ok.upd x y _, fun x' y' => ?_⟩
  rw [BS.get_upd hg.ok hi]
  split
  · exact hv
  · exact hg.rng x' y'
section
variable {h0 : Heap} {R : Value → Heap → Prop}
set_option maxRecDepth 10000 in
set_option maxHeartbeats 4000000 in
theorem build_loop {B p c p' c' w hh : Nat} {s t v2 v3 o : Value} {xs zs : List Int} {m0 m1 m2 m3 m4 : Value} (hi : Ints h0 s xs) (ht : Sl h0 1 t zs.length (zs.map fun z => .int .u8 z)) (hbox : blk? h0 B = some ⟨false, [.int .i64 w, .int .i64 hh, s, t, o, m0, m1, m2, m3, m4]⟩)
    (w1 : 1 ≤ w) (w2 : w ≤ 64) (hh2 : hh ≤ 64) (hl : xs.length = w * hh) (hr : ∀ v ∈ xs, inR v) {k : List RItem}
    (hk : ∀ (H : Heap) (b : BS) (K0 K5 K7 K8 K9 Ka Kb Kc Kd Ke Kf Kg Kh Ki Kj Kk Kl Km Kn Ko Kp Kq Kr Ks Kt Ku Kv Kw Kx Ky Kz J0 J1 J2 J3 J4 J5 J6 J7 J8 J9 Ja Jb Jc Jd Je Jf Jg Jh Ji Jj Jk Jl Jm Jn Jo Jp Jq Jr Js Jt Ju Jv Jw Jx Jy Jz Y0 Y1 Y2 Y3 Y4 Y5 Y6 Y7 Y8 Y9 Ya Yb Yc Yd Ye Yf Yg Yh Yi Yj Yk Yl Ym Yn Yo Yp Yq Yr Ys Yt Yu Yv Yw Yx Yy Yz Z0 : Value), TwoB h0 H p c p' c' w hh b → Ok tab R22 k #[K0,ptr B,v2,v3,ptr p,K5,ptr p',K7,K8,K9,Ka,Kb,Kc,Kd,Ke,Kf,Kg,Kh,Ki,Kj,Kk,Kl,Km,Kn,Ko,Kp,Kq,Kr,Ks,Kt,Ku,Kv,Kw,Kx,Ky,Kz,J0,J1,J2,J3,J4,J5,J6,J7,J8,J9,Ja,Jb,Jc,Jd,Je,Jf,Jg,Jh,Ji,Jj,Jk,Jl,Jm,Jn,Jo,Jp,Jq,Jr,Js,Jt,Ju,Jv,Jw,Jx,Jy,Jz,Y0,Y1,Y2,Y3,Y4,Y5,Y6,Y7,Y8,Y9,Ya,Yb,Yc,Yd,Ye,Yf,Yg,Yh,Yi,Yj,Yk,Yl,Ym,Yn,Yo,Yp,Yq,Yr,Ys,Yt,Yu,Yv,Yw,Yx,Yy,Yz,Z0] H R) :
    ∀ (n i : Nat) (H : Heap) (b : BS) (K0 K5 K7 K8 K9 Ka Kb Kc Kd Ke Kf Kg Kh Ki Kj Kk Kl Km Kn Ko Kp Kq Kr Ks Kw Kx Ky Kz J0 J1 J2 J3 J4 J5 J6 J7 J8 J9 Ja Jb Jc Jd Je Jf Jg Jh Ji Jj Jk Jl Jm Jn Jo Jp Jq Jr Js Jt Ju Jv Jw Jx Jy Jz Y0 Y1 Y2 Y3 Y4 Y5 Y6 Y7 Y8 Y9 Ya Yb Yc Yd Ye Yf Yg Yh Yi Yj Yk Yl Ym Yn Yo Yp Yq Yr Ys Yt Yu Yv Yw Yx Yy Yz Z0 : Value), n = xs.length - i → i ≤ xs.length → TwoB h0 H p c p' c' w hh b →
      Ok tab R22 (.inLoop L22_0 :: .inBlock 0 :: k) #[K0,ptr B,v2,v3,ptr p,K5,ptr p',K7,K8,K9,Ka,Kb,Kc,Kd,Ke,Kf,Kg,Kh,Ki,Kj,Kk,Kl,Km,Kn,Ko,Kp,Kq,Kr,Ks,s,.int .i64 xs.length,.int .i64 i,Kw,Kx,Ky,Kz,J0,J1,J2,J3,J4,J5,J6,J7,J8,J9,Ja,Jb,Jc,Jd,Je,Jf,Jg,Jh,Ji,Jj,Jk,Jl,Jm,Jn,Jo,Jp,Jq,Jr,Js,Jt,Ju,Jv,Jw,Jx,Jy,Jz,Y0,Y1,Y2,Y3,Y4,Y5,Y6,Y7,Y8,Y9,Ya,Yb,Yc,Yd,Ye,Yf,Yg,Yh,Yi,Yj,Yk,Yl,Ym,Yn,Yo,Yp,Yq,Yr,Ys,Yt,Yu,Yv,Yw,Yx,Yy,Yz,Z0] H R := by
  intro n
  have hm : w * hh ≤ 64 * 64 := Nat.mul_le_mul w2 hh2
  induction n with
  | zero =>
    intro i H b K0 K5 K7 K8 K9 Ka Kb Kc Kd Ke Kf Kg Kh Ki Kj Kk Kl Km Kn Ko Kp Kq Kr Ks Kw Kx Ky Kz J0 J1 J2 J3 J4 J5 J6 J7 J8 J9 Ja Jb Jc Jd Je Jf Jg Jh Ji Jj Jk Jl Jm Jn Jo Jp Jq Jr Js Jt Ju Jv Jw Jx Jy Jz Y0 Y1 Y2 Y3 Y4 Y5 Y6 Y7 Y8 Y9 Ya Yb Yc Yd Ye Yf Yg Yh Yi Yj Yk Yl Ym Yn Yo Yp Yq Yr Ys Yt Yu Yv Yw Yx Yy Yz Z0 hn hi' tb
    have hlt : ¬ ((i : Int) < xs.length) := by omega
    rw [ok_round, l22_0, L22_0a, L22_0b]
    simp [hlt]
    exact hk H b _ _ _ _ _ _ _ _ _ _ _ _ _ _ _ _ _ _ _ _ _ _ _ _ _ _ _ _ _ _ _ _ _ _ _ _ _ _ _ _ _ _ _ _ _ _ _ _ _ _ _ _ _ _ _ _ _ _ _ _ _ _ _ _ _ _ _ _ _ _ _ _ _ _ _ _ _ _ _ _ _ _ _ _ _ _ _ _ _ _ _ _ _ _ _ _ _ _ _ _ _ _ _ _ tb
  | succ n ih =>
    intro i H b K0 K5 K7 K8 K9 Ka Kb Kc Kd Ke Kf Kg Kh Ki Kj Kk Kl Km Kn Ko Kp Kq Kr Ks Kw Kx Ky Kz J0 J1 J2 J3 J4 J5 J6 J7 J8 J9 Ja Jb Jc Jd Je Jf Jg Jh Ji Jj Jk Jl Jm Jn Jo Jp Jq Jr Js Jt Ju Jv Jw Jx Jy Jz Y0 Y1 Y2 Y3 Y4 Y5 Y6 Y7 Y8 Y9 Ya Yb Yc Yd Ye Yf Yg Yh Yi Yj Yk Yl Ym Yn Yo Yp Yq Yr Ys Yt Yu Yv Yw Yx Yy Yz Z0 hn hi' tb
    have hlt : ((i : Int) < xs.length) := by omega
    have hil : i < xs.length := by omega
    have hw : IntKind.i64.wrap ((i : Int) + 1) = ((i + 1 : Nat) : Int) := wrapN (n := i + 1) (by omega)
    obtain ⟨a0, c0, hsh⟩ := hi.sl.shape
    obtain ⟨ta, tc, hth⟩ := ht.shape
    obtain ⟨id, off, bk, hs, hbk, hc⟩ := hi.get hil
    have low : ∀ {H : Heap} {b : BS}, TwoB h0 H p c p' c' w hh b → ∀ {id : Nat} {x : Blk}, blk? h0 id = some x → blk? H id = some x := fun t _ _ hx => by rw [t.low _ (blk?_lt hx)]; exact hx
    have hbk0 := low tb hbk
    have hbox0 := low tb hbox
    have hmod : (i : Int).tmod (w : Int) = ((i % w : Nat) : Int) := rfl
    have hdiv : (i : Int).tdiv (w : Int) = ((i / w : Nat) : Int) := rfl
    have hdw : IntKind.i64.wrap ((i / w : Nat) : Int) = ((i / w : Nat) : Int) := wrapN (by have := Nat.div_le_self i w; omega)
    have hw0 : ¬ w = 0 := by omega
    have inb : ∀ {b : BS}, b.w = w → b.h = hh → b.inb ((i % w : Nat) : Int) ((i / w : Nat) : Int) := by
      intro b e1 e2
      obtain ⟨a1, a2, a3, a4⟩ := inb_divmod (i := i) (h := hh) (w := w) (by omega) (by omega) b.cs
      exact ⟨a1, by rw [e1]; exact a2, a3, by rw [e2]; exact a4⟩
    have ih' := fun H b K0 K5 K7 K8 K9 Ka Kb Kc Kd Ke Kf Kg Kh Ki Kj Kk Kl Km Kn Ko Kp Kq Kr Ks Kw Kx Ky Kz J0 J1 J2 J3 J4 J5 J6 J7 J8 J9 Ja Jb Jc Jd Je Jf Jg Jh Ji Jj Jk Jl Jm Jn Jo Jp Jq Jr Js Jt Ju Jv Jw Jx Jy Jz Y0 Y1 Y2 Y3 Y4 Y5 Y6 Y7 Y8 Y9 Ya Yb Yc Yd Ye Yf Yg Yh Yi Yj Yk Yl Ym Yn Yo Yp Yq Yr Ys Yt Yu Yv Yw Yx Yy Yz Z0 => ih (i + 1) H b K0 K5 K7 K8 K9 Ka Kb Kc Kd Ke Kf Kg Kh Ki Kj Kk Kl Km Kn Ko Kp Kq Kr Ks Kw Kx Ky Kz J0 J1 J2 J3 J4 J5 J6 J7 J8 J9 Ja Jb Jc Jd Je Jf Jg Jh Ji Jj Jk Jl Jm Jn Jo Jp Jq Jr Js Jt Ju Jv Jw Jx Jy Jz Y0 Y1 Y2 Y3 Y4 Y5 Y6 Y7 Y8 Y9 Ya Yb Yc Yd Ye Yf Yg Yh Yi Yj Yk Yl Ym Yn Yo Yp Yq Yr Ys Yt Yu Yv Yw Yx Yy Yz Z0 (by omega) (by omega)
    have hin := hr _ (List.getElem_mem hil)
    have es1 := fun R => set_c (R := R) tb.cb (inb tb.bw tb.bh) hin
    have es2 := fun R => set_r (R := R) (tb.mid (some ⟨false, encC (b.upd ((i % w : Nat) : Int) ((i / w : Nat) : Int) fun z => { z with v := xs[i] }).cs⟩)) (inb tb.bw tb.bh) hin
    have tb1 := tb.upd (inb tb.bw tb.bh) (good_setV tb.good (inb tb.bw tb.bh) hin)
    have hbox1 := low tb1 hbox
    rw [ok_round, l22_0, L22_0a, L22_0b]
    generalize hX1 : (some (⟨false, encC (b.upd ((i % w : Nat) : Int) ((i / w : Nat) : Int) fun z => { z with v := xs[i] }).cs⟩ : Blk)) = X1 at *
    generalize (b.upd ((i % w : Nat) : Int) ((i / w : Nat) : Int) fun z => { z with v := xs[i] }) = b1 at *
    generalize hH1 : (H.set c X1).set c' X1 = H1 at *
    generalize xs[i] = v at *
    subst hs
    by_cases hfl : zs.length = xs.length
    · have hfl' : ((zs.length : Int) != xs.length) = false := by simp [hfl]
      have hzl : i < zs.length := by omega
      have hltz : ((i : Int) < zs.length) := by omega
      obtain ⟨idt, offt, bt, htsh, hbt, hct⟩ := ht.get hzl
      have hct := hct 0 (by omega)
      rw [show (zs.map fun z => Value.int .u8 z)[i * 1 + 0]? = some (.int .u8 zs[i]) by simp [hzl]] at hct
      simp only [Nat.mul_one, Nat.add_zero] at hct
      generalize zs[i] = z at *
      subst htsh
      have hbt1 := low tb1 hbt
      generalize ((i + 1 : Nat) : Int) = wi at *
      by_cases f0 : (andI .u8 z 1 != 0) = true
      · have ec2 := fun R => mark_c (R := R) tb1.cb (inb tb1.bw tb1.bh)
        have er2 := fun R => mark_r (R := R) (tb1.mid (some ⟨false, encC ((b1.upd ((i % w : Nat) : Int) ((i / w : Nat) : Int) (fun z => { z with s := true }))).cs⟩)) (inb tb1.bw tb1.bh)
        have tb2 : TwoB h0 _ p c p' c' w hh ((b1.upd ((i % w : Nat) : Int) ((i / w : Nat) : Int) (fun z => { z with s := true }))) := tb1.upd (inb tb1.bw tb1.bh) (tb1.good.upd (inb tb1.bw tb1.bh) kv_mark)
        have hbox2 := low tb2 hbox
        have hbt2 := low tb2 hbt
        generalize hX2 : (some (⟨false, encC ((b1.upd ((i % w : Nat) : Int) ((i / w : Nat) : Int) (fun z => { z with s := true }))).cs⟩ : Blk)) = X2 at *
        generalize ((b1.upd ((i % w : Nat) : Int) ((i / w : Nat) : Int) (fun z => { z with s := true }))) = b2 at *
        generalize hH2 : (H1.set c X2).set c' X2 = H2 at *
        by_cases f1 : (andI .u8 z 2 != 0) = true
        · have ec3 := fun R => touch_c (R := R) (v := true) tb2.cb (inb tb2.bw tb2.bh)
          have er3 := fun R => touch_r (R := R) (v := true) (tb2.mid (some ⟨false, encC ((b2.upd ((i % w : Nat) : Int) ((i / w : Nat) : Int) (fun z => { z with t := true }))).cs⟩)) (inb tb2.bw tb2.bh)
          have tb3 : TwoB h0 _ p c p' c' w hh ((b2.upd ((i % w : Nat) : Int) ((i / w : Nat) : Int) (fun z => { z with t := true }))) := tb2.upd (inb tb2.bw tb2.bh) (tb2.good.upd (inb tb2.bw tb2.bh) (kv_touch true))
          have hbox3 := low tb3 hbox
          have hbt3 := low tb3 hbt
          generalize hX3 : (some (⟨false, encC ((b2.upd ((i % w : Nat) : Int) ((i / w : Nat) : Int) (fun z => { z with t := true }))).cs⟩ : Blk)) = X3 at *
          generalize ((b2.upd ((i % w : Nat) : Int) ((i / w : Nat) : Int) (fun z => { z with t := true }))) = b3 at *
          generalize hH3 : (H2.set c X3).set c' X3 = H3 at *
          by_cases f2 : (andI .u8 z 4 != 0) = true
          · have ec4 := fun R => refine_c (R := R) tb3.cb (inb tb3.bw tb3.bh)
            have er4 := fun R => refine_r (R := R) (tb3.mid (some ⟨false, encC ((b3.upd ((i % w : Nat) : Int) ((i / w : Nat) : Int) (fun z => { z with r := true }))).cs⟩)) (inb tb3.bw tb3.bh)
            have tb4 : TwoB h0 _ p c p' c' w hh ((b3.upd ((i % w : Nat) : Int) ((i / w : Nat) : Int) (fun z => { z with r := true }))) := tb3.upd (inb tb3.bw tb3.bh) (tb3.good.upd (inb tb3.bw tb3.bh) kv_refine)
            have hbox4 := low tb4 hbox
            have hbt4 := low tb4 hbt
            generalize hX4 : (some (⟨false, encC ((b3.upd ((i % w : Nat) : Int) ((i / w : Nat) : Int) (fun z => { z with r := true }))).cs⟩ : Blk)) = X4 at *
            generalize ((b3.upd ((i % w : Nat) : Int) ((i / w : Nat) : Int) (fun z => { z with r := true }))) = b4 at *
            generalize hH4 : (H3.set c X4).set c' X4 = H4 at *
            simp [-Int.natCast_ediv, -Int.natCast_emod, hlt, hltz, hbk0, hc, hbox0, hmod, hdiv, hdw, hw0, es1, es2, hH1, hbox1, hbt1, hct, hfl', hw, f0, ec2, er2, hH2, hbox2, hbt2, f1, ec3, er3, hH3, hbox3, hbt3, f2, ec4, er4, hH4, hbox4, hbt4, k_guard]
            exact ih' H4 b4 _ _ _ _ _ _ _ _ _ _ _ _ _ _ _ _ _ _ _ _ _ _ _ _ _ _ _ _ _ _ _ _ _ _ _ _ _ _ _ _ _ _ _ _ _ _ _ _ _ _ _ _ _ _ _ _ _ _ _ _ _ _ _ _ _ _ _ _ _ _ _ _ _ _ _ _ _ _ _ _ _ _ _ _ _ _ _ _ _ _ _ _ _ _ _ _ _ _ _ _ _ tb4
          · rw [Bool.not_eq_true] at f2
            simp [-Int.natCast_ediv, -Int.natCast_emod, hlt, hltz, hbk0, hc, hbox0, hmod, hdiv, hdw, hw0, es1, es2, hH1, hbox1, hbt1, hct, hfl', hw, f0, ec2, er2, hH2, hbox2, hbt2, f1, ec3, er3, hH3, hbox3, hbt3, f2, k_guard]
            exact ih' H3 b3 _ _ _ _ _ _ _ _ _ _ _ _ _ _ _ _ _ _ _ _ _ _ _ _ _ _ _ _ _ _ _ _ _ _ _ _ _ _ _ _ _ _ _ _ _ _ _ _ _ _ _ _ _ _ _ _ _ _ _ _ _ _ _ _ _ _ _ _ _ _ _ _ _ _ _ _ _ _ _ _ _ _ _ _ _ _ _ _ _ _ _ _ _ _ _ _ _ _ _ _ _ tb3
        · rw [Bool.not_eq_true] at f1
          by_cases f2 : (andI .u8 z 4 != 0) = true
          · have ec4 := fun R => refine_c (R := R) tb2.cb (inb tb2.bw tb2.bh)
            have er4 := fun R => refine_r (R := R) (tb2.mid (some ⟨false, encC ((b2.upd ((i % w : Nat) : Int) ((i / w : Nat) : Int) (fun z => { z with r := true }))).cs⟩)) (inb tb2.bw tb2.bh)
            have tb4 : TwoB h0 _ p c p' c' w hh ((b2.upd ((i % w : Nat) : Int) ((i / w : Nat) : Int) (fun z => { z with r := true }))) := tb2.upd (inb tb2.bw tb2.bh) (tb2.good.upd (inb tb2.bw tb2.bh) kv_refine)
            have hbox4 := low tb4 hbox
            have hbt4 := low tb4 hbt
            generalize hX4 : (some (⟨false, encC ((b2.upd ((i % w : Nat) : Int) ((i / w : Nat) : Int) (fun z => { z with r := true }))).cs⟩ : Blk)) = X4 at *
            generalize ((b2.upd ((i % w : Nat) : Int) ((i / w : Nat) : Int) (fun z => { z with r := true }))) = b4 at *
            generalize hH4 : (H2.set c X4).set c' X4 = H4 at *
            simp [-Int.natCast_ediv, -Int.natCast_emod, hlt, hltz, hbk0, hc, hbox0, hmod, hdiv, hdw, hw0, es1, es2, hH1, hbox1, hbt1, hct, hfl', hw, f0, ec2, er2, hH2, hbox2, hbt2, f1, f2, ec4, er4, hH4, hbox4, hbt4, k_guard]
            exact ih' H4 b4 _ _ _ _ _ _ _ _ _ _ _ _ _ _ _ _ _ _ _ _ _ _ _ _ _ _ _ _ _ _ _ _ _ _ _ _ _ _ _ _ _ _ _ _ _ _ _ _ _ _ _ _ _ _ _ _ _ _ _ _ _ _ _ _ _ _ _ _ _ _ _ _ _ _ _ _ _ _ _ _ _ _ _ _ _ _ _ _ _ _ _ _ _ _ _ _ _ _ _ _ _ tb4
          · rw [Bool.not_eq_true] at f2
            simp [-Int.natCast_ediv, -Int.natCast_emod, hlt, hltz, hbk0, hc, hbox0, hmod, hdiv, hdw, hw0, es1, es2, hH1, hbox1, hbt1, hct, hfl', hw, f0, ec2, er2, hH2, hbox2, hbt2, f1, f2, k_guard]
            exact ih' H2 b2 _ _ _ _ _ _ _ _ _ _ _ _ _ _ _ _ _ _ _ _ _ _ _ _ _ _ _ _ _ _ _ _ _ _ _ _ _ _ _ _ _ _ _ _ _ _ _ _ _ _ _ _ _ _ _ _ _ _ _ _ _ _ _ _ _ _ _ _ _ _ _ _ _ _ _ _ _ _ _ _ _ _ _ _ _ _ _ _ _ _ _ _ _ _ _ _ _ _ _ _ _ tb2
      · rw [Bool.not_eq_true] at f0
        by_cases f1 : (andI .u8 z 2 != 0) = true
        · have ec3 := fun R => touch_c (R := R) (v := true) tb1.cb (inb tb1.bw tb1.bh)
          have er3 := fun R => touch_r (R := R) (v := true) (tb1.mid (some ⟨false, encC ((b1.upd ((i % w : Nat) : Int) ((i / w : Nat) : Int) (fun z => { z with t := true }))).cs⟩)) (inb tb1.bw tb1.bh)
          have tb3 : TwoB h0 _ p c p' c' w hh ((b1.upd ((i % w : Nat) : Int) ((i / w : Nat) : Int) (fun z => { z with t := true }))) := tb1.upd (inb tb1.bw tb1.bh) (tb1.good.upd (inb tb1.bw tb1.bh) (kv_touch true))
          have hbox3 := low tb3 hbox
          have hbt3 := low tb3 hbt
          generalize hX3 : (some (⟨false, encC ((b1.upd ((i % w : Nat) : Int) ((i / w : Nat) : Int) (fun z => { z with t := true }))).cs⟩ : Blk)) = X3 at *
          generalize ((b1.upd ((i % w : Nat) : Int) ((i / w : Nat) : Int) (fun z => { z with t := true }))) = b3 at *
          generalize hH3 : (H1.set c X3).set c' X3 = H3 at *
          by_cases f2 : (andI .u8 z 4 != 0) = true
          · have ec4 := fun R => refine_c (R := R) tb3.cb (inb tb3.bw tb3.bh)
            have er4 := fun R => refine_r (R := R) (tb3.mid (some ⟨false, encC ((b3.upd ((i % w : Nat) : Int) ((i / w : Nat) : Int) (fun z => { z with r := true }))).cs⟩)) (inb tb3.bw tb3.bh)
            have tb4 : TwoB h0 _ p c p' c' w hh ((b3.upd ((i % w : Nat) : Int) ((i / w : Nat) : Int) (fun z => { z with r := true }))) := tb3.upd (inb tb3.bw tb3.bh) (tb3.good.upd (inb tb3.bw tb3.bh) kv_refine)
            have hbox4 := low tb4 hbox
            have hbt4 := low tb4 hbt
            generalize hX4 : (some (⟨false, encC ((b3.upd ((i % w : Nat) : Int) ((i / w : Nat) : Int) (fun z => { z with r := true }))).cs⟩ : Blk)) = X4 at *
            generalize ((b3.upd ((i % w : Nat) : Int) ((i / w : Nat) : Int) (fun z => { z with r := true }))) = b4 at *
            generalize hH4 : (H3.set c X4).set c' X4 = H4 at *
            simp [-Int.natCast_ediv, -Int.natCast_emod, hlt, hltz, hbk0, hc, hbox0, hmod, hdiv, hdw, hw0, es1, es2, hH1, hbox1, hbt1, hct, hfl', hw, f0, f1, ec3, er3, hH3, hbox3, hbt3, f2, ec4, er4, hH4, hbox4, hbt4, k_guard]
            exact ih' H4 b4 _ _ _ _ _ _ _ _ _ _ _ _ _ _ _ _ _ _ _ _ _ _ _ _ _ _ _ _ _ _ _ _ _ _ _ _ _ _ _ _ _ _ _ _ _ _ _ _ _ _ _ _ _ _ _ _ _ _ _ _ _ _ _ _ _ _ _ _ _ _ _ _ _ _ _ _ _ _ _ _ _ _ _ _ _ _ _ _ _ _ _ _ _ _ _ _ _ _ _ _ _ tb4
          · rw [Bool.not_eq_true] at f2
            simp [-Int.natCast_ediv, -Int.natCast_emod, hlt, hltz, hbk0, hc, hbox0, hmod, hdiv, hdw, hw0, es1, es2, hH1, hbox1, hbt1, hct, hfl', hw, f0, f1, ec3, er3, hH3, hbox3, hbt3, f2, k_guard]
            exact ih' H3 b3 _ _ _ _ _ _ _ _ _ _ _ _ _ _ _ _ _ _ _ _ _ _ _ _ _ _ _ _ _ _ _ _ _ _ _ _ _ _ _ _ _ _ _ _ _ _ _ _ _ _ _ _ _ _ _ _ _ _ _ _ _ _ _ _ _ _ _ _ _ _ _ _ _ _ _ _ _ _ _ _ _ _ _ _ _ _ _ _ _ _ _ _ _ _ _ _ _ _ _ _ _ tb3
        · rw [Bool.not_eq_true] at f1
          by_cases f2 : (andI .u8 z 4 != 0) = true
          · have ec4 := fun R => refine_c (R := R) tb1.cb (inb tb1.bw tb1.bh)
            have er4 := fun R => refine_r (R := R) (tb1.mid (some ⟨false, encC ((b1.upd ((i % w : Nat) : Int) ((i / w : Nat) : Int) (fun z => { z with r := true }))).cs⟩)) (inb tb1.bw tb1.bh)
            have tb4 : TwoB h0 _ p c p' c' w hh ((b1.upd ((i % w : Nat) : Int) ((i / w : Nat) : Int) (fun z => { z with r := true }))) := tb1.upd (inb tb1.bw tb1.bh) (tb1.good.upd (inb tb1.bw tb1.bh) kv_refine)
            have hbox4 := low tb4 hbox
            have hbt4 := low tb4 hbt
            generalize hX4 : (some (⟨false, encC ((b1.upd ((i % w : Nat) : Int) ((i / w : Nat) : Int) (fun z => { z with r := true }))).cs⟩ : Blk)) = X4 at *
            generalize ((b1.upd ((i % w : Nat) : Int) ((i / w : Nat) : Int) (fun z => { z with r := true }))) = b4 at *
            generalize hH4 : (H1.set c X4).set c' X4 = H4 at *
            simp [-Int.natCast_ediv, -Int.natCast_emod, hlt, hltz, hbk0, hc, hbox0, hmod, hdiv, hdw, hw0, es1, es2, hH1, hbox1, hbt1, hct, hfl', hw, f0, f1, f2, ec4, er4, hH4, hbox4, hbt4, k_guard]
            exact ih' H4 b4 _ _ _ _ _ _ _ _ _ _ _ _ _ _ _ _ _ _ _ _ _ _ _ _ _ _ _ _ _ _ _ _ _ _ _ _ _ _ _ _ _ _ _ _ _ _ _ _ _ _ _ _ _ _ _ _ _ _ _ _ _ _ _ _ _ _ _ _ _ _ _ _ _ _ _ _ _ _ _ _ _ _ _ _ _ _ _ _ _ _ _ _ _ _ _ _ _ _ _ _ _ tb4
          · rw [Bool.not_eq_true] at f2
            simp [-Int.natCast_ediv, -Int.natCast_emod, hlt, hltz, hbk0, hc, hbox0, hmod, hdiv, hdw, hw0, es1, es2, hH1, hbox1, hbt1, hct, hfl', hw, f0, f1, f2, k_guard]
            exact ih' H1 b1 _ _ _ _ _ _ _ _ _ _ _ _ _ _ _ _ _ _ _ _ _ _ _ _ _ _ _ _ _ _ _ _ _ _ _ _ _ _ _ _ _ _ _ _ _ _ _ _ _ _ _ _ _ _ _ _ _ _ _ _ _ _ _ _ _ _ _ _ _ _ _ _ _ _ _ _ _ _ _ _ _ _ _ _ _ _ _ _ _ _ _ _ _ _ _ _ _ _ _ _ _ tb1
    · have hfl' : ((zs.length : Int) != xs.length) = true := by simp; omega
      generalize ((i + 1 : Nat) : Int) = wi at *
      simp [-Int.natCast_ediv, -Int.natCast_emod, hlt, hbk0, hc, hbox0, hmod, hdiv, hdw, hw0, es1, es2, hH1, hbox1, hth, hfl', hw, k_guard]
      exact ih' H1 b1 _ _ _ _ _ _ _ _ _ _ _ _ _ _ _ _ _ _ _ _ _ _ _ _ _ _ _ _ _ _ _ _ _ _ _ _ _ _ _ _ _ _ _ _ _ _ _ _ _ _ _ _ _ _ _ _ _ _ _ _ _ _ _ _ _ _ _ _ _ _ _ _ _ _ _ _ _ _ _ _ _ _ _ _ _ _ _ _ _ _ _ _ _ _ _ _ _ _ _ _ _ tb1
end
theorem newHeap_two (h : Heap) {w hh : Nat} (w1 : 1 ≤ w) (w2 : w ≤ 64) (h1 : 1 ≤ hh) (h2 : hh ≤ 64) :
    TwoB h (newHeap (newHeap h w hh) w hh) (h.length + 1) h.length (h.length + 3) (h.length + 2) w hh (newBS w hh) := by
  have a := newHeap_cb h w1 w2 h1 h2
  have b := newHeap_cb (newHeap h w hh) w1 w2 h1 h2
  rw [newHeap_len] at b
  have l1 := newHeap_len h w hh
  have lo := newHeap_low (newHeap h w hh) w hh
  refine ⟨⟨by rw [lo _ (by omega)]; exact a.blkp, by rw [lo _ (by omega)]; exact a.blkc, a.ok⟩, b, newBS_good w1 w2 h1 h2, rfl, rfl, by omega, by omega, by omega, ⟨by omega, by omega⟩, fun id hid => ?_, by rw [newHeap_len]; omega⟩
  rw [lo id (by omega), newHeap_low h w hh id hid]
section
variable {h : Heap}
set_option maxRecDepth 10000 in
set_option maxHeartbeats 1000000 in
theorem build_eq {w hh : Nat} {s t : Value} {o : Int} {m : MD} {xs zs : List Int} (hi : Ints h s xs) (ht : Sl h 1 t zs.length (zs.map fun z => .int .u8 z))
    (w1 : 1 ≤ w) (w2 : w ≤ 64) (h1 : 1 ≤ hh) (hh2 : hh ≤ 64) (hl : xs.length = w * hh) (hr : ∀ v ∈ xs, inR v) :
    ∃ p c p' c' b H, (∀ R, Ret tab 22 [.agg #[.int .i64 w, .int .i64 hh, s, t, .int .i64 o, .bool m.byp, .bool m.res, .bool m.rst, .bool m.cz, .bool m.sy]] h R = R (.tuple #[ptr p, ptr p']) H) ∧ TwoB h H p c p' c' w hh b := by
  have key : Ret tab 22 [.agg #[.int .i64 w, .int .i64 hh, s, t, .int .i64 o, .bool m.byp, .bool m.res, .bool m.rst, .bool m.cz, .bool m.sy]] h fun v H => ∃ p c p' c' b, v = .tuple #[ptr p, ptr p'] ∧ TwoB h H p c p' c' w hh b := by
    obtain ⟨a0, c0, hs0⟩ := hi.sl.shape
    generalize hH : h ++ [some (⟨false, [.int .i64 w, .int .i64 hh, s, t, .int .i64 o, .bool m.byp, .bool m.res, .bool m.rst, .bool m.cz, .bool m.sy]⟩ : Blk)] = H
    have hbox : blk? H h.length = some ⟨false, [.int .i64 w, .int .i64 hh, s, t, .int .i64 o, .bool m.byp, .bool m.res, .bool m.rst, .bool m.cz, .bool m.sy]⟩ := by rw [← hH]; exact blk?_push_eq
    have hlow : ∀ id, id < h.length → blk? H id = blk? h id := fun id hid => by rw [← hH]; exact blk?_push_lt hid
    have hlen : H.length = h.length + 1 := by rw [← hH]; simp
    have hiH : Ints H s xs := hi.keep (by omega) (fun id hid _ => hlow id hid)
    have htH : Sl H 1 t zs.length (zs.map fun z => .int .u8 z) := by rw [← hH]; exact ht.push _
    have en := fun R => new_c (h := H) (R := R) w1 w2 h1 hh2
    have er := fun R => new_r (h := newHeap H w hh) (R := R) w1 w2 h1 hh2
    rw [newHeap_len] at er
    have tb := newHeap_two H w1 w2 h1 hh2
    have hbox1 : blk? (newHeap H w hh) h.length = _ := (newHeap_low H w hh h.length (by omega)).trans hbox
    have hbox2 := (tb.low h.length (by omega)).trans hbox
    rw [enter22, B22]
    rw [hs0] at hH hbox hbox1 hbox2 hiH
    simp [hs0, hH, hbox, hbox1, hbox2, en, er]
    refine build_loop hiH htH hbox w1 w2 hh2 hl hr ?_ _ 0 _ _ _ _ _ _ _ _ _ _ _ _ _ _ _ _ _ _ _ _ _ _ _ _ _ _ _ _ _ _ _ _ _ _ _ _ _ _ _ _ _ _ _ _ _ _ _ _ _ _ _ _ _ _ _ _ _ _ _ _ _ _ _ _ _ _ _ _ _ _ _ _ _ _ _ _ _ _ _ _ _ _ _ _ _ _ _ _ _ _ _ _ _ _ _ _ _ _ _ _ _ _ _ rfl (Nat.zero_le _) tb
    intro H' b K0 K5 K7 K8 K9 Ka Kb Kc Kd Ke Kf Kg Kh Ki Kj Kk Kl Km Kn Ko Kp Kq Kr Ks Kt Ku Kv Kw Kx Ky Kz J0 J1 J2 J3 J4 J5 J6 J7 J8 J9 Ja Jb Jc Jd Je Jf Jg Jh Ji Jj Jk Jl Jm Jn Jo Jp Jq Jr Js Jt Ju Jv Jw Jx Jy Jz Y0 Y1 Y2 Y3 Y4 Y5 Y6 Y7 Y8 Y9 Ya Yb Yc Yd Ye Yf Yg Yh Yi Yj Yk Yl Ym Yn Yo Yp Yq Yr Ys Yt Yu Yv Yw Yx Yy Yz Z0 tb'
    simp [ptr, fin22]
    refine ⟨_, _, _, ⟨rfl, rfl⟩, _, b, tb'.cb, tb'.cb', tb'.good, tb'.bw, tb'.bh, tb'.d1, tb'.d2, tb'.d3, ⟨by have := tb'.far; omega, by have := tb'.far; omega⟩, fun id hid => ?_, by have := tb'.len; omega⟩
    rw [tb'.low id (by omega)]
    exact hlow id hid
  obtain ⟨v, H, e, p, c, p', c', b, rfl, tb⟩ := ret_ex key
  exact ⟨p, c, p', c', b, H, e, tb⟩
end
open Go Go.Sim
/-- The contexts that were asked for. -/
def ctxs (s : List (Int × Int)) : List Int := s.map (·.1)
theorem bit_get (bits : List Int) (n : Nat) : (n < bits.length → bits.getD n 0 = bits.getD n 0 ∧ bits[n]? = some (bits.getD n 0)) ∧ (¬ n < bits.length → bits.getD n 0 = 0) := by
  refine ⟨fun h => ⟨rfl, by simp [List.getD_eq_getElem?_getD, List.getElem?_eq_getElem h]⟩, fun h => by simp [List.getD_eq_getElem?_getD, List.getElem?_eq_none (show bits.length ≤ n by omega)]⟩
theorem bits_cell {h : Heap} {bv : Value} {bits : List Int} (hs : Sl h 1 bv bits.length (i64s bits)) {n : Nat} (hn : n < bits.length) :
    ∃ id off b, bv = .slice (some ⟨id, off, none⟩) bits.length 1 ∧ blk? h id = some b ∧ b.cells[off + n]? = some (.int .i64 (bits.getD n 0)) := by
  obtain ⟨id, off, b, e, hb, hc⟩ := hs.get hn
  have := hc 0 (by omega)
  refine ⟨id, off, b, e, hb, ?_⟩
  rw [Nat.mul_one, Nat.add_zero, Nat.add_zero] at this
  rw [this]; simp [i64s, List.getD_eq_getElem?_getD, List.getElem?_eq_getElem hn]

/-- The program's: the contexts at ga, the bits at gb. -/
structure RelA (c ga gb : Nat) (bv : Value) (bits : List Int) (h : Heap) (gv : Value) (s : List (Int × Int)) : Prop where
  blk : blk? h ga = some ⟨false, [gv]⟩
  bbk : blk? h gb = some ⟨false, [bv]⟩
  own : OwnS h 1 gv s.length (i64s (ctxs s))
  sl : Sl h 1 bv bits.length (i64s bits)
  bvf : ∀ id, sid bv = some id → id < h.length ∧ id ≠ c ∧ id ≠ ga ∧ sid gv ≠ some id
  gvf : ∀ id, sid gv = some id → id ≠ c ∧ id ≠ ga ∧ id ≠ gb
  ne : ga ≠ c ∧ gb ≠ c ∧ ga ≠ gb
  cl : c < h.length
def ownA (ga : Nat) (gv : Value) (id : Nat) : Prop := id = ga ∨ sid gv = some id
theorem RelA.keep {c ga gb : Nat} {bv : Value} {bits : List Int} {h h' : Heap} {gv : Value} {s : List (Int × Int)} (r : RelA c ga gb bv bits h gv s) (hl : h.length ≤ h'.length) (hk : ∀ id, id = ga ∨ id = gb ∨ sid gv = some id ∨ sid bv = some id → blk? h' id = blk? h id) : RelA c ga gb bv bits h' gv s :=
  ⟨by rw [hk _ (.inl rfl)]; exact r.blk, by rw [hk _ (.inr (.inl rfl))]; exact r.bbk, r.own.of_blk fun id hid hb => by rw [hk _ (.inr (.inr (.inl hid)))]; exact hb, r.sl.of_sid fun id b hid hb => by rw [hk _ (.inr (.inr (.inr hid)))]; exact hb, fun id hid => by obtain ⟨a, b⟩ := r.bvf id hid; exact ⟨by omega, b⟩, r.gvf, r.ne, by have := r.cl; omega⟩

theorem next_a {c ga gb : Nat} {bv : Value} {bits : List Int} {h : Heap} {gv : Value} {s : List (Int × Int)} (hr : RelA c ga gb bv bits h gv s) (hs : s.length < 1000000) (hbl : bits.length < 1000000) (x : Int) :
    ∃ gv' h', (∀ R, Ret tab 24 [.int .i64 x, ptr ga, ptr gb] h R = R (.int .i64 (bits.getD s.length 0)) h') ∧ RelA c ga gb bv bits h' gv' (s ++ [(x, bits.getD s.length 0)]) ∧ Stu h h' (ownA ga gv) (ownA ga gv') := by
  obtain ⟨hb, hbb, ho, hsl, hbf, hgf, ⟨n1, n2, n3⟩, hcl0⟩ := hr
  have hla := blk?_lt hb
  have hlb := blk?_lt hbb
  have hslA : Sl (h ++ [some ⟨false, [.int .i64 x]⟩]) 1 (.slice (some ⟨h.length, 0, none⟩) 1 1) 1 [.int .i64 x] := ⟨by simp, .inr ⟨h.length, 0, rfl, .inr ⟨_, blk?_push_eq, by simp, by simp⟩⟩⟩
  have hoA : OwnS (h ++ [some ⟨false, [.int .i64 x]⟩]) 1 gv s.length (i64s (ctxs s)) := ho.of_blk fun id _ hb => blk?_push hb
  obtain ⟨H, ha, hK, hHl, hHs⟩ := own_append (bytes := 8) hoA hslA (by unfold roomCells; omega) (by omega) (by omega)
  simp only [List.length_append, List.length_singleton] at ha hK hHl hHs
  have hk : ∀ id, id < h.length → sid gv ≠ some id → blk? H id = blk? h id := fun id hid hne => by rw [hHs id (by omega) hne, blk?_push_lt hid]
  have hga : sid gv ≠ some ga := fun e => (hgf _ e).2.1 rfl
  have hgb : sid gv ≠ some gb := fun e => (hgf _ e).2.2 rfl
  have hH1 := hk ga hla hga
  rw [hb] at hH1
  obtain ⟨a, cc, hsh⟩ := ho.sl.shape
  obtain ⟨ba, bc, hbsh⟩ := hsl.shape
  have hE : ∀ x : Blk, blk? (H.set ga (some x)) ga = some x := fun x => blk?_set_eq (by omega)
  refine ⟨.slice (some ⟨h.length + 1, 0, none⟩) (s.length + 1) 1, H.set ga (some ⟨false, [.slice (some ⟨h.length + 1, 0, none⟩) (s.length + 1) 1]⟩), fun R => ?_, ⟨hE _, ?_, ⟨by simp [i64s, ctxs], .inr ⟨h.length + 1, by simp, ?_⟩⟩, hsl.of_sid fun id b hid hb' => ?_, fun id hid => ?_, fun id hid => ?_, ⟨n1, n2, n3⟩, by simp; omega⟩, ⟨by simp; omega, fun id h1 h2 => ?_, fun id hid => ?_⟩⟩
  · obtain ⟨g1, g2⟩ := bit_get bits s.length
    rw [enter24, B24]
    by_cases hlt : s.length < bits.length
    · obtain ⟨id, off, b, hbv, hbk, hcl⟩ := bits_cell hsl hlt
      have hbf' := hbf id (by rw [hbv]; rfl)
      have hbk' : blk? (H.set ga (some ⟨false, [.slice (some ⟨h.length + 1, 0, none⟩) (s.length + 1) 1]⟩)) id = some b := by
        rw [blk?_set_ne (fun e => hbf'.2.2.1 e.symm), hk id hbf'.1 hbf'.2.2.2]; exact hbk
      have hans : ∀ R, Ret tab 25 [ptr ga, bv, .int .i64 x] h R = R (.int .i64 (bits.getD s.length 0)) (H.set ga (some ⟨false, [.slice (some ⟨h.length + 1, 0, none⟩) (s.length + 1) 1]⟩)) := by
        intro R
        have hltI : (s.length : Int) < bits.length := by omega
        rw [enter25, B25]
        generalize bits.getD s.length 0 = bit at *
        rw [hsh] at hb ha hH1
        rw [hbv]
        simp [hb, repL, ha, hH1, hE, hltI, hlt, hbk', hcl, fin25]
      simp [hbb, hans, fin24]
    · have hans : ∀ R, Ret tab 25 [ptr ga, bv, .int .i64 x] h R = R (.int .i64 (bits.getD s.length 0)) (H.set ga (some ⟨false, [.slice (some ⟨h.length + 1, 0, none⟩) (s.length + 1) 1]⟩)) := by
        intro R
        have hltI : ¬ (s.length : Int) < bits.length := by omega
        rw [g2 hlt]
        rw [enter25, B25]
        rw [hsh] at hb ha hH1
        rw [hbsh]
        simp [hb, repL, ha, hH1, hE, hltI, hlt, fin25]
      simp [hbb, hans, fin24]
  · rw [blk?_set_ne n3, hk gb hlb hgb]; exact hbb
  · rw [blk?_set_ne (by omega), hK]; simp [i64s, ctxs]
  · obtain ⟨f1, f2, f3, f4⟩ := hbf id hid
    rw [blk?_set_ne (fun e => f3 e.symm), hk id f1 f4]; exact hb'
  · obtain ⟨f1, f2, f3, f4⟩ := hbf id hid
    exact ⟨by simp; omega, f2, f3, by simp [sid]; omega⟩
  · simp [sid] at hid; subst hid
    omega
  · rw [blk?_set_ne (fun e => h2 (.inl e.symm)), hk id h1 (fun e => h2 (.inr e))]
  · rcases hid with rfl | hid
    · exact .inl (.inl rfl)
    · simp [sid] at hid; right; omega
/-- The program's source. -/
def srcA (c ga gb : Nat) (bv : Value) (bits : List Int) (hbl : bits.length < 1000000) : Src c (callF (.func (.func 24) #[] #[ptr ga, ptr gb])) where
  S := List (Int × Int)
  T := Value
  ask := askB bits
  rel := RelA c ga gb bv bits
  own := ownA ga
  size := List.length
  lt := fun h id e => by
    rcases e with rfl | e
    · exact blk?_lt h.blk
    · exact h.own.lt e
  stable := fun {h h' t s} hr hl hk => hr.keep hl fun id hid => by
    rcases hid with rfl | rfl | hid | hid
    · exact hk _ (blk?_lt hr.blk) hr.ne.1
    · exact hk _ (blk?_lt hr.bbk) hr.ne.2.1
    · exact hk _ (hr.own.lt hid) (hr.gvf _ hid).1
    · exact hk _ (hr.bvf _ hid).1 (hr.bvf _ hid).2.1
  size_ask := fun _ _ => by simp [askB]
  step := fun {h t s} hr hs x => by
    obtain ⟨gv', h', e, hr', st⟩ := next_a hr hs hbl x
    refine ⟨gv', h', _, fun R => ?_, rfl, hr', st⟩
    unfold callF
    rw [callK_func]
    exact e R
  c_own := fun {h t s} hr e => by
    rcases e with e | e
    · exact hr.ne.1 e.symm
    · exact (hr.gvf _ e).1 rfl

/-- The reference's: a source at sb. -/
structure RelR (c sb : Nat) (bv : Value) (bits : List Int) (h : Heap) (av : Value) (s : List (Int × Int)) : Prop where
  blk : blk? h sb = some ⟨false, [.pointer none, .pointer none, bv, av]⟩
  own : OwnS h 2 av s.length (encP s)
  sl : Sl h 1 bv bits.length (i64s bits)
  bvf : ∀ id, sid bv = some id → id < h.length ∧ id ≠ c ∧ id ≠ sb ∧ sid av ≠ some id
  avf : ∀ id, sid av = some id → id ≠ c ∧ id ≠ sb
  ne : sb ≠ c
  cl : c < h.length
theorem RelR.keep {c sb : Nat} {bv : Value} {bits : List Int} {h h' : Heap} {av : Value} {s : List (Int × Int)} (r : RelR c sb bv bits h av s) (hl : h.length ≤ h'.length) (hk : ∀ id, id = sb ∨ sid av = some id ∨ sid bv = some id → blk? h' id = blk? h id) : RelR c sb bv bits h' av s :=
  ⟨by rw [hk _ (.inl rfl)]; exact r.blk, r.own.of_blk fun id hid hb => by rw [hk _ (.inr (.inl hid))]; exact hb, r.sl.of_sid fun id b hid hb => by rw [hk _ (.inr (.inr hid))]; exact hb, fun id hid => by obtain ⟨a, b⟩ := r.bvf id hid; exact ⟨by omega, b⟩, r.avf, r.ne, by have := r.cl; omega⟩
theorem eq_ptr00 : eqV .ptr (.pointer none) (.pointer none) = some true := by simp [eqV]

theorem next_r {c sb : Nat} {bv : Value} {bits : List Int} {h : Heap} {av : Value} {s : List (Int × Int)} (hr : RelR c sb bv bits h av s) (hs : s.length < 1000000) (hbl : bits.length < 1000000) (x : Int) :
    ∃ av' h', (∀ R, Ret tab 164 [ptr sb, .int .i64 x] h R = R (.int .i64 (bits.getD s.length 0)) h') ∧ RelR c sb bv bits h' av' (s ++ [(x, bits.getD s.length 0)]) ∧ Stu h h' (ownA sb av) (ownA sb av') := by
  obtain ⟨hb, ho, hsl, hbf, hgf, n1, hcl0⟩ := hr
  have hla := blk?_lt hb
  generalize hbit : bits.getD s.length 0 = bit
  have hslA : Sl (h ++ [some ⟨false, [.int .i64 x, .int .i64 bit]⟩]) 2 (.slice (some ⟨h.length, 0, none⟩) 1 2) 1 [.int .i64 x, .int .i64 bit] := ⟨by simp, .inr ⟨h.length, 0, rfl, .inr ⟨_, blk?_push_eq, by simp, by simp⟩⟩⟩
  have hoA : OwnS (h ++ [some ⟨false, [.int .i64 x, .int .i64 bit]⟩]) 2 av s.length (encP s) := ho.of_blk fun id _ hb => blk?_push hb
  obtain ⟨H, ha, hK, hHl, hHs⟩ := own_append (bytes := 16) hoA hslA (by unfold roomCells; omega) (by omega) (by omega)
  simp only [List.length_append, List.length_singleton] at ha hK hHl hHs
  have hk : ∀ id, id < h.length → sid av ≠ some id → blk? H id = blk? h id := fun id hid hne => by rw [hHs id (by omega) hne, blk?_push_lt hid]
  have hga : sid av ≠ some sb := fun e => (hgf _ e).2 rfl
  have hH1 := hk sb hla hga
  rw [hb] at hH1
  obtain ⟨a, cc, hsh⟩ := ho.sl.shape
  obtain ⟨ba, bc, hbsh⟩ := hsl.shape
  have hE : ∀ x : Blk, blk? (H.set sb (some x)) sb = some x := fun x => blk?_set_eq (by omega)
  refine ⟨.slice (some ⟨h.length + 1, 0, none⟩) (s.length + 1) 2, H.set sb (some ⟨false, [.pointer none, .pointer none, bv, .slice (some ⟨h.length + 1, 0, none⟩) (s.length + 1) 2]⟩), fun R => ?_, ⟨hE _, ⟨encP_len _, .inr ⟨h.length + 1, by simp, ?_⟩⟩, hsl.of_sid fun id b hid hb' => ?_, fun id hid => ?_, fun id hid => ?_, n1, by simp; omega⟩, ⟨by simp; omega, fun id h1 h2 => ?_, fun id hid => ?_⟩⟩
  · obtain ⟨g1, g2⟩ := bit_get bits s.length
    rw [enter164, B164]
    by_cases hlt : s.length < bits.length
    · obtain ⟨id, off, b, hbv, hbk, hcl⟩ := bits_cell hsl hlt
      have hltI : (s.length : Int) < bits.length := by omega
      rw [hbit] at hcl
      rw [hsh] at hb ha hH1
      rw [hbv] at hb hH1 ⊢
      by_cases hx : 0 ≤ x
      · have hx' : ¬ x < 0 := by omega
        simp (maxSteps := 1000000) [k_guard, k_guardU, hx, hx', hb, eq_ptr00, hltI, hlt, hbk, hcl, repL, ha, hH1, fin164]
      · have hx' : x < 0 := by omega
        simp (maxSteps := 1000000) [k_guard, k_guardU, hx, hx', hb, eq_ptr00, hltI, hlt, hbk, hcl, repL, ha, hH1, fin164]
    · have hltI : ¬ (s.length : Int) < bits.length := by omega
      rw [g2 hlt] at hbit
      subst hbit
      rw [hsh] at hb ha hH1
      rw [hbsh] at hb hH1 ⊢
      by_cases hx : 0 ≤ x
      · have hx' : ¬ x < 0 := by omega
        simp (maxSteps := 1000000) [k_guard, k_guardU, hx, hx', hb, eq_ptr00, hltI, hlt, repL, ha, hH1, fin164]
      · have hx' : x < 0 := by omega
        simp (maxSteps := 1000000) [k_guard, k_guardU, hx, hx', hb, eq_ptr00, hltI, hlt, repL, ha, hH1, fin164]
  · rw [blk?_set_ne (by omega), hK, encP_append]; rfl
  · obtain ⟨f1, f2, f3, f4⟩ := hbf id hid
    rw [blk?_set_ne (fun e => f3 e.symm), hk id f1 f4]; exact hb'
  · obtain ⟨f1, f2, f3, f4⟩ := hbf id hid
    exact ⟨by simp; omega, f2, f3, by simp [sid]; omega⟩
  · simp [sid] at hid; subst hid
    omega
  · rw [blk?_set_ne (fun e => h2 (.inl e.symm)), hk id h1 (fun e => h2 (.inr e))]
  · rcases hid with rfl | hid
    · exact .inl (.inl rfl)
    · simp [sid] at hid; right; omega

/-- The reference's source. -/
def srcR (c sb : Nat) (bv : Value) (bits : List Int) (hbl : bits.length < 1000000) : Src c (callN sb) where
  S := List (Int × Int)
  T := Value
  ask := askB bits
  rel := RelR c sb bv bits
  own := ownA sb
  size := List.length
  lt := fun h id e => by
    rcases e with rfl | e
    · exact blk?_lt h.blk
    · exact h.own.lt e
  stable := fun {h h' t s} hr hl hk => hr.keep hl fun id hid => by
    rcases hid with rfl | hid | hid
    · exact hk _ (blk?_lt hr.blk) hr.ne
    · exact hk _ (hr.own.lt hid) (hr.avf _ hid).1
    · exact hk _ (hr.bvf _ hid).1 (hr.bvf _ hid).2.1
  size_ask := fun _ _ => by simp [askB]
  step := fun {h t s} hr hs x => by
    obtain ⟨av', h', e, hr', st⟩ := next_r hr hs hbl x
    exact ⟨av', h', _, e, rfl, hr', st⟩
  c_own := fun {h t s} hr e => by
    rcases e with e | e
    · exact hr.ne e.symm
    · exact (hr.avf _ e).1 rfl
end Go.Proofs.Ytjpjohchdfoeaaa
