/-
  Values: what it returns.
  The block decoder: the contracts of Decode and Sound.
  How much Decode answers.
  The curve of a block, plain.
  The curve of a block, followed: the distortion after n passes, the program's.
  The curve of a block, followed: the distortion after n passes, the program's contract.
  The curve of a block, followed: the points, one after the other.
  The curve of a block, followed: the program's contract.
  The reference's arithmetic encoder, followed: a bit is encoded.
  What the block encoder answers, plain: the ends of the passes ascend, the bytes are bytes.
  The reference's arithmetic encoder, followed: the end of a codeword.
  The reference's arithmetic encoder, followed: the next multiple.
  The reference's arithmetic encoder, followed: a new one, its size, a reset, the end.
  The reference's arithmetic encoder, followed: begin, initial, a new one, reset, size, terminate.
  The reference's arithmetic decoder follows the plain one.
  The reference's reader of raw bits, followed.
  What a pass of the decoder asks for: the contexts. Plain.
  The cleanup pass of the decoder's reference, plain: the same as the program's.
  The decoder's reference: what its passes read, questions, signs.
  The decoder's reference: significance, refinement.
  The decoder's reference: the cleanup pass.
  The decoder's reference: Run.
  The reference's source: some bits, and 0 beyond them; what was asked for is noted.
-/
import Derived.Test.YtjpjohchdfoeaaaGreatVals
import Derived.Test.YtjpjohchdfoeaaaGreatRr
namespace Go.Proofs.YtjpjohchdfoeaaaGreat
open Go Go.Sim
set_option maxHeartbeats 4000000
set_option maxRecDepth 10000
set_option linter.unusedSimpArgs false
set_option linter.unusedVariables false
structure VB (h0 H : Heap) (p c : Nat) (b : BS) (v1 v2 : Value) (xs ys : List Int) : Prop where
 low : ∀ id,id < h0.length → blk? H id = blk? h0 id
 len : h0.length ≤ H.length
 cb : CB H false p c b
 o1 : OwnS H 1 v1 xs.length (i64s xs)
 o2 : OwnS H 1 v2 ys.length (i64s ys)
 f1 : ∀ id,sid v1 = some id → h0.length ≤ id ∧ id ≠ c ∧ id ≠ p
 f2 : ∀ id,sid v2 = some id → h0.length ≤ id ∧ id ≠ c ∧ id ≠ p
 ne : ∀ id,sid v1 = some id → sid v2 ≠ some id
theorem VB.swap {h0 H : Heap} {p c : Nat} {b : BS} {v1 v2 : Value} {xs ys : List Int} (h : VB h0 H p c b v1 v2 xs ys) : VB h0 H p c b v2 v1 ys xs :=
 ⟨h.low,h.len,h.cb,h.o2,h.o1,h.f2,h.f1,fun id e e' => h.ne id e' e⟩
theorem VB.push1 {h0 H : Heap} {p c : Nat} {b : BS} {v1 v2 : Value} {xs ys : List Int} (h : VB h0 H p c b v1 v2 xs ys) (hl : xs.length < 100000) (v : Int) :
  ∃ H',appendV (H ++ [some ⟨false,[.int .i64 v]⟩]) 1 8 v1 (.slice (some ⟨H.length,0,none⟩) 1 1) = some (.slice (some ⟨H.length + 1,0,none⟩) (xs.length + 1) 1,H') ∧
   VB h0 H' p c b (.slice (some ⟨H.length + 1,0,none⟩) (xs.length + 1) 1) v2 (xs ++ [v]) ys := by
 have hsl : Sl (H ++ [some ⟨false,[.int .i64 v]⟩]) 1 (.slice (some ⟨H.length,0,none⟩) 1 1) 1 [.int .i64 v] :=
  ⟨by simp,.inr ⟨H.length,0,rfl,.inr ⟨_,blk?_push_eq,by simp,by simp⟩⟩⟩
 have ho : OwnS (H ++ [some ⟨false,[.int .i64 v]⟩]) 1 v1 xs.length (i64s xs) := h.o1.of_blk fun id _ hb => blk?_push hb
 obtain ⟨H',ha,hK,hHl,hHs⟩ := own_append (bytes := 8) ho hsl (by unfold roomCells; omega) (by omega) (by omega)
 simp only [List.length_append,List.length_singleton] at ha hK hHl hHs
 have hk : ∀ id,id < H.length → sid v1 ≠ some id → blk? H' id = blk? H id := fun id hid hne => by rw [hHs id (by omega) hne,blk?_push_lt hid]
 have hlen := h.len
 have lp := blk?_lt h.cb.blkp
 have lc := blk?_lt h.cb.blkc
 refine ⟨H',ha,fun id hid => ?_,by omega,⟨?_,?_,h.cb.ok⟩,?_,?_,fun id hid => ?_,h.f2,fun id hid e => ?_⟩
 ·rw [hk id (by omega) (fun e => by have := h.f1 id e; omega)]; exact h.low id hid
 ·rw [hk p lp (fun e => (h.f1 p e).2.2 rfl)]; exact h.cb.blkp
 ·rw [hk c lc (fun e => (h.f1 c e).2.1 rfl)]; exact h.cb.blkc
 ·refine ⟨by simp [i64s],.inr ⟨H.length + 1,by simp,?_⟩⟩
  rw [hK]; simp [i64s]
 ·refine h.o2.of_blk fun id hid hb => ?_
  rw [hk id (blk?_lt hb) (fun e => h.ne id e hid)]; exact hb
 ·simp [sid] at hid; omega
 ·simp [sid] at hid
  have := h.o2.lt e
  omega
theorem pass_neg {h : Heap} {R : RP} : Ret tab 62 [.int .i64 (-1)] h R = R (.tuple #[.int .i64 (-1),.int .i64 (-1)]) h := by
 rw [enter62,B62]
 simp [fin62]
theorem get_row {b : BS} (ho : b.Ok) {x y : Nat} (hx : x < b.w) (hy : y < b.h) : y * b.w + x < b.cs.length ∧ b.cs[y * b.w + x]? = some (b.get x y) := by
 have hi : b.inb x y := ⟨by omega,by omega,by omega,by omega⟩
 have h1 := BS.get_in ho hi
 have h2 := BS.idx_lt ho hi
 have e : b.idx x y = y * b.w + x := by
  unfold BS.idx
  rw [show ((y : Int) * b.w + x) = ((y * b.w + x : Nat) : Int) by simp]; rfl
 rw [e] at h1 h2
 exact ⟨h2,h1⟩
def valsTo (b : BS) (i : Nat) : List Int := (b.cs.take i).map (·.v)
def missTo (P : Int) (n : Nat) (b : BS) (i : Nat) : List Int := (b.cs.take i).map fun c => leftOf P n c.t
theorem valsTo_succ {b : BS} {i : Nat} {c : Cell} (h : b.cs[i]? = some c) : valsTo b (i + 1) = valsTo b i ++ [c.v] := by
 obtain ⟨hi,rfl⟩ := List.getElem?_eq_some_iff.1 h
 unfold valsTo
 rw [List.take_succ_eq_append_getElem hi,List.map_append]; rfl
theorem missTo_succ {P : Int} {n : Nat} {b : BS} {i : Nat} {c : Cell} (h : b.cs[i]? = some c) : missTo P n b (i + 1) = missTo P n b i ++ [leftOf P n c.t] := by
 obtain ⟨hi,rfl⟩ := List.getElem?_eq_some_iff.1 h
 unfold missTo
 rw [List.take_succ_eq_append_getElem hi,List.map_append]; rfl
theorem valsTo_len {b : BS} {i : Nat} (h : i ≤ b.cs.length) : (valsTo b i).length = i := by simp [valsTo]; omega
theorem missTo_len {P : Int} {n : Nat} {b : BS} {i : Nat} (h : i ≤ b.cs.length) : (missTo P n b i).length = i := by simp [missTo]; omega
section
variable {h0 : Heap} {p c : Nat} {b : BS} {P n : Nat} {pl kd : Int} {s v3 v4 v5 v11 v103 v104 : Value} {k : List RItem} {R : RP}
theorem valx_loop (hP : P ≤ 60) (hpl : -1 ≤ pl ∧ pl ≤ 100) (hleft : ∀ t,leftOf P n t = P - 1 - pl + if (decide (0 < n) && kd != 2 && !t) = true then 1 else 0) {y : Nat} (hy : y < b.h) :
  ∀ (m x : Nat) (H : Heap) (v1 v2 : Value) (K6 K7 K8 K9 Ka Ke Kg Kh Ki Kj Ko Kp Kq Kr Ks Kt Ku Kv Kw Kx Ky Kz J0 J1 J2 J3 J4 J5 J6 J7 J8 J9 Ja Jb Jc Jd Je Jf Jg Jh Ji Jj Jk Jl Jm Jn Jo Jp Jq Jr Js Jt Ju Jv Jw Jx Jy Jz Y0 Y1 Y2 Y3 Y4 Y5 Y6 Y7 Y8 Y9 Ya Yb Yc Yd Ye Yf Yg Yh Yi Yj Yk Yl Ym Yn Yo Yp Yq Yr Ys Yt Yu Yx Yy Z1 Z2 Z3 Z4 Z5 Z6 Z7 Z8 Z9 Za Zb Zc Zd Ze Zf Zg Zh Zi Zj Zk Zl Zm Zn Zo Zp Zq Zr Zs Zt Zu Zv Zw Zx Zy Zz K0q : Value),m = b.w - x → x ≤ b.w → VB h0 H p c b v1 v2 (valsTo b (y * b.w + x)) (missTo P n b (y * b.w + x)) →
   (∀ (H' : Heap) (v1' v2' : Value) (K6 K7 K8 K9 Ka Ke Kg Kh Ki Kj Ko Kp Kq Kr Ks Kt Ku Kv Kw Kx Ky Kz J0 J1 J2 J3 J4 J5 J6 J7 J8 J9 Ja Jb Jc Jd Je Jf Jg Jh Ji Jj Jk Jl Jm Jn Jo Jp Jq Jr Js Jt Ju Jv Jw Jx Jy Jz Y0 Y1 Y2 Y3 Y4 Y5 Y6 Y7 Y8 Y9 Ya Yb Yc Yd Ye Yf Yg Yh Yi Yj Yk Yl Ym Yn Yo Yp Yq Yr Ys Yt Yu Yx Yy Yz Z0 Z1 Z2 Z3 Z4 Z5 Z6 Z7 Z8 Z9 Za Zb Zc Zd Ze Zf Zg Zh Zi Zj Zk Zl Zm Zn Zo Zp Zq Zr Zs Zt Zu Zv Zw Zx Zy Zz K0q : Value),VB h0 H' p c b v1' v2' (valsTo b (y * b.w + b.w)) (missTo P n b (y * b.w + b.w)) →
    Ok tab R28 k #[s,.int .i64 P,.int .i64 b.w,v3,v4,v5,K6,K7,K8,K9,Ka,v11,v1',v2',Ke,ptr p,Kg,Kh,Ki,Kj,.int .i64 n,.int .i64 pl,.int .i64 kd,.int .i64 y,Ko,Kp,Kq,Kr,Ks,Kt,Ku,Kv,Kw,Kx,Ky,Kz,J0,J1,J2,J3,J4,J5,J6,J7,J8,J9,Ja,Jb,Jc,Jd,Je,Jf,Jg,Jh,Ji,Jj,Jk,Jl,Jm,Jn,Jo,Jp,Jq,Jr,Js,Jt,Ju,Jv,Jw,Jx,Jy,Jz,Y0,Y1,Y2,Y3,Y4,Y5,Y6,Y7,Y8,Y9,Ya,Yb,Yc,Yd,Ye,Yf,Yg,Yh,Yi,Yj,Yk,Yl,Ym,Yn,Yo,Yp,Yq,Yr,Ys,Yt,Yu,v103,v104,Yx,Yy,Yz,Z0,Z1,Z2,Z3,Z4,Z5,Z6,Z7,Z8,Z9,Za,Zb,Zc,Zd,Ze,Zf,Zg,Zh,Zi,Zj,Zk,Zl,Zm,Zn,Zo,Zp,Zq,Zr,Zs,Zt,Zu,Zv,Zw,Zx,Zy,Zz,K0q] H' R) →
   Ok tab R28 (.inLoop L28_1 :: .inBlock 4 :: k) #[s,.int .i64 P,.int .i64 b.w,v3,v4,v5,K6,K7,K8,K9,Ka,v11,v1,v2,Ke,ptr p,Kg,Kh,Ki,Kj,.int .i64 n,.int .i64 pl,.int .i64 kd,.int .i64 y,Ko,Kp,Kq,Kr,Ks,Kt,Ku,Kv,Kw,Kx,Ky,Kz,J0,J1,J2,J3,J4,J5,J6,J7,J8,J9,Ja,Jb,Jc,Jd,Je,Jf,Jg,Jh,Ji,Jj,Jk,Jl,Jm,Jn,Jo,Jp,Jq,Jr,Js,Jt,Ju,Jv,Jw,Jx,Jy,Jz,Y0,Y1,Y2,Y3,Y4,Y5,Y6,Y7,Y8,Y9,Ya,Yb,Yc,Yd,Ye,Yf,Yg,Yh,Yi,Yj,Yk,Yl,Ym,Yn,Yo,Yp,Yq,Yr,Ys,Yt,Yu,v103,v104,Yx,Yy,.int .i64 b.w,.int .i64 x,Z1,Z2,Z3,Z4,Z5,Z6,Z7,Z8,Z9,Za,Zb,Zc,Zd,Ze,Zf,Zg,Zh,Zi,Zj,Zk,Zl,Zm,Zn,Zo,Zp,Zq,Zr,Zs,Zt,Zu,Zv,Zw,Zx,Zy,Zz,K0q] H R := by
 intro m
 induction m with
 | zero =>
  intro x H v1 v2;intros;rename_i hm hx vb hk
  have hlt : ¬ ((x : Int) < b.w) := by omega
  obtain rfl : x = b.w := by omega
  rw [ok_round,l28_1,L28_1a,L28_1b]
  simp [hlt]
  exact hk H v1 v2 _ _ _ _ _ _ _ _ _ _ _ _ _ _ _ _ _ _ _ _ _ _ _ _ _ _ _ _ _ _ _ _ _ _ _ _ _ _ _ _ _ _ _ _ _ _ _ _ _ _ _ _ _ _ _ _ _ _ _ _ _ _ _ _ _ _ _ _ _ _ _ _ _ _ _ _ _ _ _ _ _ _ _ _ _ _ _ _ _ _ _ _ _ _ _ _ _ _ _ _ _ _ _ _ _ _ _ _ _ _ _ _ _ _ _ _ _ _ _ _ _ _ _ _ _ _ _ _ _ vb
 | succ m ih =>
  intro x H v1 v2;intros;rename_i hm hx vb hk
  have hxl : x < b.w := by omega
  have hlt : ((x : Int) < b.w) := by omega
  have hw2 := vb.cb.ok.w2
  have hh2 := vb.cb.ok.h2
  have hm64 : y * b.w ≤ 64 * 64 := Nat.mul_le_mul (by omega) hw2
  have hw : IntKind.i64.wrap ((x : Int) + 1) = ((x + 1 : Nat) : Int) := wrapN (n := x + 1) (by omega)
  obtain ⟨hil,hgi⟩ := get_row vb.cb.ok hxl hy
  have hwa : IntKind.i64.wrap ((P : Int) - 1) = (P : Int) - 1 := wrapI (by omega) (by omega)
  have hwb : IntKind.i64.wrap ((P : Int) - 1 - pl) = (P : Int) - 1 - pl := wrapI (by omega) (by omega)
  have hwc : IntKind.i64.wrap ((P : Int) - 1 - pl + 1) = (P : Int) - 1 - pl + 1 := wrapI (by omega) (by omega)
  have hv := fun R => value_c (R := R) (x := (x : Int)) (y := (y : Int)) vb.cb
  obtain ⟨H1,e1,vb1⟩ := vb.push1 (by rw [valsTo_len (by omega)]; omega) (b.get x y).v
  have ht := fun R => touched_c (R := R) (x := (x : Int)) (y := (y : Int)) vb1.cb
  obtain ⟨H2,e2,vb2⟩ := vb1.swap.push1 (by rw [missTo_len (by omega)]; omega) (leftOf P n (b.get x y).t)
  have vb3 := vb2.swap
  rw [← valsTo_succ hgi,← missTo_succ (P := P) (n := n) hgi] at vb3
  rw [Nat.add_assoc] at vb3
  have hl := hleft (b.get x y).t
  rw [valsTo_len (by omega)] at e1 vb3
  rw [missTo_len (by omega)] at e2 vb3
  generalize hnx : ((x + 1 : Nat) : Int) = xi at *
  have ih' := fun K6 K7 K8 K9 Ka Ke Kg Kh Ki Kj Ko Kp Kq Kr Ks Kt Ku Kv Kw Kx Ky Kz J0 J1 J2 J3 J4 J5 J6 J7 J8 J9 Ja Jb Jc Jd Je Jf Jg Jh Ji Jj Jk Jl Jm Jn Jo Jp Jq Jr Js Jt Ju Jv Jw Jx Jy Jz Y0 Y1 Y2 Y3 Y4 Y5 Y6 Y7 Y8 Y9 Ya Yb Yc Yd Ye Yf Yg Yh Yi Yj Yk Yl Ym Yn Yo Yp Yq Yr Ys Yt Yu Yx Yy Z1 Z2 Z3 Z4 Z5 Z6 Z7 Z8 Z9 Za Zb Zc Zd Ze Zf Zg Zh Zi Zj Zk Zl Zm Zn Zo Zp Zq Zr Zs Zt Zu Zv Zw Zx Zy Zz K0q => ih (x + 1) H2 _ _ K6 K7 K8 K9 Ka Ke Kg Kh Ki Kj Ko Kp Kq Kr Ks Kt Ku Kv Kw Kx Ky Kz J0 J1 J2 J3 J4 J5 J6 J7 J8 J9 Ja Jb Jc Jd Je Jf Jg Jh Ji Jj Jk Jl Jm Jn Jo Jp Jq Jr Js Jt Ju Jv Jw Jx Jy Jz Y0 Y1 Y2 Y3 Y4 Y5 Y6 Y7 Y8 Y9 Ya Yb Yc Yd Ye Yf Yg Yh Yi Yj Yk Yl Ym Yn Yo Yp Yq Yr Ys Yt Yu Yx Yy Z1 Z2 Z3 Z4 Z5 Z6 Z7 Z8 Z9 Za Zb Zc Zd Ze Zf Zg Zh Zi Zj Zk Zl Zm Zn Zo Zp Zq Zr Zs Zt Zu Zv Zw Zx Zy Zz K0q (by omega) (by omega) vb3 hk
  rw [hnx] at ih'
  rw [ok_round,l28_1,L28_1a,L28_1b]
  generalize leftOf P n (b.get x y).t = lf at *
  generalize (b.get x y).v = vv at *
  by_cases h1 : 0 < n
  ·have h1' : (0 : Int) < (n : Int) := by omega
   by_cases h2 : kd = 2
   ·have h2' : (kd != 2) = false := by simp [h2]
    simp [h2'] at hl
    subst hl
    simp [k_guard,k_guardU,hlt,hv,repL,e1,hwa,hwb,h1,h1',h2',e2,hw]
    exact ih' ..
   ·have h2' : (kd != 2) = true := by simp [h2]
    cases htt : (b.get x y).t
    ·simp [h1,h2',htt] at hl
     rw [htt] at ht
     subst hl
     simp [k_guard,k_guardU,hlt,hv,repL,e1,hwa,hwb,hwc,h1,h1',h2',ht,e2,hw]
     exact ih' ..
    ·simp [htt] at hl
     rw [htt] at ht
     subst hl
     simp [k_guard,k_guardU,hlt,hv,repL,e1,hwa,hwb,h1,h1',h2',ht,e2,hw]
     exact ih' ..
  ·have h1' : ¬ (0 : Int) < (n : Int) := by omega
   simp [h1] at hl
   subst hl
   simp [k_guard,k_guardU,hlt,hv,repL,e1,hwa,hwb,h1,h1',e2,hw]
   exact ih' ..
theorem valy_loop (hP : P ≤ 60) (hpl : -1 ≤ pl ∧ pl ≤ 100) (hleft : ∀ t,leftOf P n t = P - 1 - pl + if (decide (0 < n) && kd != 2 && !t) = true then 1 else 0) :
  ∀ (m y : Nat) (H : Heap) (v1 v2 : Value) (K6 K7 K8 K9 Ka Ke Kg Kh Ki Kj Kn Ko Kp Kq Kr Ks Kt Ku Kv Kw Kx Ky Kz J0 J1 J2 J3 J4 J5 J6 J7 J8 J9 Ja Jb Jc Jd Je Jf Jg Jh Ji Jj Jk Jl Jm Jn Jo Jp Jq Jr Js Jt Ju Jv Jw Jx Jy Jz Y0 Y1 Y2 Y3 Y4 Y5 Y6 Y7 Y8 Y9 Ya Yb Yc Yd Ye Yf Yg Yh Yi Yj Yk Yl Ym Yn Yo Yp Yq Yr Ys Yt Yu Yx Yy Yz Z0 Z1 Z2 Z3 Z4 Z5 Z6 Z7 Z8 Z9 Za Zb Zc Zd Ze Zf Zg Zh Zi Zj Zk Zl Zm Zn Zo Zp Zq Zr Zs Zt Zu Zv Zw Zx Zy Zz K0q : Value),m = b.h - y → y ≤ b.h → VB h0 H p c b v1 v2 (valsTo b (y * b.w)) (missTo P n b (y * b.w)) →
   (∀ (H' : Heap) (v1' v2' : Value) (K6 K7 K8 K9 Ka Ke Kg Kh Ki Kj Kn Ko Kp Kq Kr Ks Kt Ku Kv Kw Kx Ky Kz J0 J1 J2 J3 J4 J5 J6 J7 J8 J9 Ja Jb Jc Jd Je Jf Jg Jh Ji Jj Jk Jl Jm Jn Jo Jp Jq Jr Js Jt Ju Jv Jw Jx Jy Jz Y0 Y1 Y2 Y3 Y4 Y5 Y6 Y7 Y8 Y9 Ya Yb Yc Yd Ye Yf Yg Yh Yi Yj Yk Yl Ym Yn Yo Yp Yq Yr Ys Yt Yu Yv Yw Yx Yy Yz Z0 Z1 Z2 Z3 Z4 Z5 Z6 Z7 Z8 Z9 Za Zb Zc Zd Ze Zf Zg Zh Zi Zj Zk Zl Zm Zn Zo Zp Zq Zr Zs Zt Zu Zv Zw Zx Zy Zz K0q : Value),VB h0 H' p c b v1' v2' (valsTo b (b.h * b.w)) (missTo P n b (b.h * b.w)) →
    Ok tab R28 k #[s,.int .i64 P,.int .i64 b.w,v3,v4,v5,K6,K7,K8,K9,Ka,v11,v1',v2',Ke,ptr p,Kg,Kh,Ki,Kj,.int .i64 n,.int .i64 pl,.int .i64 kd,Kn,Ko,Kp,Kq,Kr,Ks,Kt,Ku,Kv,Kw,Kx,Ky,Kz,J0,J1,J2,J3,J4,J5,J6,J7,J8,J9,Ja,Jb,Jc,Jd,Je,Jf,Jg,Jh,Ji,Jj,Jk,Jl,Jm,Jn,Jo,Jp,Jq,Jr,Js,Jt,Ju,Jv,Jw,Jx,Jy,Jz,Y0,Y1,Y2,Y3,Y4,Y5,Y6,Y7,Y8,Y9,Ya,Yb,Yc,Yd,Ye,Yf,Yg,Yh,Yi,Yj,Yk,Yl,Ym,Yn,Yo,Yp,Yq,Yr,Ys,Yt,Yu,Yv,Yw,Yx,Yy,Yz,Z0,Z1,Z2,Z3,Z4,Z5,Z6,Z7,Z8,Z9,Za,Zb,Zc,Zd,Ze,Zf,Zg,Zh,Zi,Zj,Zk,Zl,Zm,Zn,Zo,Zp,Zq,Zr,Zs,Zt,Zu,Zv,Zw,Zx,Zy,Zz,K0q] H' R) →
   Ok tab R28 (.inLoop L28_2 :: .inBlock 2 :: k) #[s,.int .i64 P,.int .i64 b.w,v3,v4,v5,K6,K7,K8,K9,Ka,v11,v1,v2,Ke,ptr p,Kg,Kh,Ki,Kj,.int .i64 n,.int .i64 pl,.int .i64 kd,Kn,Ko,Kp,Kq,Kr,Ks,Kt,Ku,Kv,Kw,Kx,Ky,Kz,J0,J1,J2,J3,J4,J5,J6,J7,J8,J9,Ja,Jb,Jc,Jd,Je,Jf,Jg,Jh,Ji,Jj,Jk,Jl,Jm,Jn,Jo,Jp,Jq,Jr,Js,Jt,Ju,Jv,Jw,Jx,Jy,Jz,Y0,Y1,Y2,Y3,Y4,Y5,Y6,Y7,Y8,Y9,Ya,Yb,Yc,Yd,Ye,Yf,Yg,Yh,Yi,Yj,Yk,Yl,Ym,Yn,Yo,Yp,Yq,Yr,Ys,Yt,Yu,.int .i64 b.h,.int .i64 y,Yx,Yy,Yz,Z0,Z1,Z2,Z3,Z4,Z5,Z6,Z7,Z8,Z9,Za,Zb,Zc,Zd,Ze,Zf,Zg,Zh,Zi,Zj,Zk,Zl,Zm,Zn,Zo,Zp,Zq,Zr,Zs,Zt,Zu,Zv,Zw,Zx,Zy,Zz,K0q] H R := by
 intro m
 induction m with
 | zero =>
  intro y H v1 v2;intros;rename_i hm hy vb hk
  have hlt : ¬ ((y : Int) < b.h) := by omega
  obtain rfl : y = b.h := by omega
  rw [ok_round,l28_2,L28_2a,L28_2b]
  simp [hlt]
  exact hk H v1 v2 _ _ _ _ _ _ _ _ _ _ _ _ _ _ _ _ _ _ _ _ _ _ _ _ _ _ _ _ _ _ _ _ _ _ _ _ _ _ _ _ _ _ _ _ _ _ _ _ _ _ _ _ _ _ _ _ _ _ _ _ _ _ _ _ _ _ _ _ _ _ _ _ _ _ _ _ _ _ _ _ _ _ _ _ _ _ _ _ _ _ _ _ _ _ _ _ _ _ _ _ _ _ _ _ _ _ _ _ _ _ _ _ _ _ _ _ _ _ _ _ _ _ _ _ _ _ _ _ _ _ _ _ vb
 | succ m ih =>
  intro y H v1 v2;intros;rename_i hm hy vb hk
  have hlt : ((y : Int) < b.h) := by omega
  have hh2 := vb.cb.ok.h2
  have hw : IntKind.i64.wrap ((y : Int) + 1) = ((y + 1 : Nat) : Int) := wrapN (n := y + 1) (by omega)
  rw [ok_round,l28_2,L28_2a,L28_2b]
  simp [hlt]
  refine valx_loop hP hpl hleft (y := y) (by omega) b.w 0 H v1 v2 _ _ _ _ _ _ _ _ _ _ _ _ _ _ _ _ _ _ _ _ _ _ _ _ _ _ _ _ _ _ _ _ _ _ _ _ _ _ _ _ _ _ _ _ _ _ _ _ _ _ _ _ _ _ _ _ _ _ _ _ _ _ _ _ _ _ _ _ _ _ _ _ _ _ _ _ _ _ _ _ _ _ _ _ _ _ _ _ _ _ _ _ _ _ _ _ _ _ _ _ _ _ _ _ _ _ _ _ _ _ _ _ _ _ _ _ _ _ _ _ _ _ _ _ _ _ _ (by omega) (by omega) vb ?_
  intro H' v1' v2';intros;rename_i vb'
  have e : (y + 1) * b.w = y * b.w + b.w := by rw [Nat.add_mul]; omega
  rw [← e] at vb'
  have ih' := fun K6 K7 K8 K9 Ka Ke Kg Kh Ki Kj Kn Ko Kp Kq Kr Ks Kt Ku Kv Kw Kx Ky Kz J0 J1 J2 J3 J4 J5 J6 J7 J8 J9 Ja Jb Jc Jd Je Jf Jg Jh Ji Jj Jk Jl Jm Jn Jo Jp Jq Jr Js Jt Ju Jv Jw Jx Jy Jz Y0 Y1 Y2 Y3 Y4 Y5 Y6 Y7 Y8 Y9 Ya Yb Yc Yd Ye Yf Yg Yh Yi Yj Yk Yl Ym Yn Yo Yp Yq Yr Ys Yt Yu Yx Yy Yz Z0 Z1 Z2 Z3 Z4 Z5 Z6 Z7 Z8 Z9 Za Zb Zc Zd Ze Zf Zg Zh Zi Zj Zk Zl Zm Zn Zo Zp Zq Zr Zs Zt Zu Zv Zw Zx Zy Zz K0q => ih (y + 1) H' v1' v2' K6 K7 K8 K9 Ka Ke Kg Kh Ki Kj Kn Ko Kp Kq Kr Ks Kt Ku Kv Kw Kx Ky Kz J0 J1 J2 J3 J4 J5 J6 J7 J8 J9 Ja Jb Jc Jd Je Jf Jg Jh Ji Jj Jk Jl Jm Jn Jo Jp Jq Jr Js Jt Ju Jv Jw Jx Jy Jz Y0 Y1 Y2 Y3 Y4 Y5 Y6 Y7 Y8 Y9 Ya Yb Yc Yd Ye Yf Yg Yh Yi Yj Yk Yl Ym Yn Yo Yp Yq Yr Ys Yt Yu Yx Yy Yz Z0 Z1 Z2 Z3 Z4 Z5 Z6 Z7 Z8 Z9 Za Zb Zc Zd Ze Zf Zg Zh Zi Zj Zk Zl Zm Zn Zo Zp Zq Zr Zs Zt Zu Zv Zw Zx Zy Zz K0q (by omega) (by omega) vb' hk
  generalize ((y + 1 : Nat) : Int) = yi at *
  simp [hw]
  exact ih' ..
end
structure VOut (h h' : Heap) (v1 v2 : Value) (r : Int × List Int × List Int) : Prop where
 o1 : OwnS h' 1 v1 r.2.1.length (i64s r.2.1)
 o2 : OwnS h' 1 v2 r.2.2.length (i64s r.2.2)
 low : ∀ id,id < h.length → blk? h' id = blk? h id
 len : h.length ≤ h'.length
 fr : ∀ id,sid v1 = some id ∨ sid v2 = some id → h.length ≤ id
 ne : ∀ id,sid v1 = some id → sid v2 ≠ some id
theorem VOut.bad {h h' : Heap} (low : ∀ id,id < h.length → blk? h' id = blk? h id) (len : h.length ≤ h'.length) (e : Int) : VOut h h' (.slice none 0 0) (.slice none 0 0) (e,[],[]) := ⟨OwnS.nil _ _,OwnS.nil _ _,low,len,fun id hid => by simp [sid] at hid,fun id hid => by simp [sid] at hid⟩
theorem values_d {h : Heap} {s : Value} {vs : List Value} {ls : List (List (Int × Int))} (hp : PsI h s vs ls) (hl : ls.length < 100000) (P w hh o : Int) (hPr : -9223372036854775808 ≤ P ∧ P < 9223372036854775808) (m : MD) :
  ∃ v1 v2 h',(∀ R,Ret tab 28 [s,.int .i64 P,.int .i64 w,.int .i64 hh,.int .i64 o,m.val] h R = R (.tuple #[v1,v2,.int .i64 (valRes ls P w hh o m).1]) h') ∧ VOut h h' v1 v2 (valRes ls P w hh o m) := by
 have key : Ret tab 28 [s,.int .i64 P,.int .i64 w,.int .i64 hh,.int .i64 o,m.val] h fun v h' => ∃ v1 v2,v = .tuple #[v1,v2,.int .i64 (valRes ls P w hh o m).1] ∧ VOut h h' v1 v2 (valRes ls P w hh o m) := by
  obtain ⟨a,cc,hs⟩ := hp.sl.shape
  rw [hp.len] at hs
  rw [enter28,show B28 = .seq (nthC 0 B28) (.seq (nthC 1 B28) (.seq (nthC 2 B28) (.seq (nthC 3 B28) (.seq (nthC 4 B28) (tlC 5 B28))))) from rfl]
  generalize hT : tlC 5 B28 = tl
  simp only [nthC,tlC,fstC,B28]
  have hkp : ∀ x : Option Blk,∀ id,id < h.length → blk? (h ++ [x]) id = blk? h id := fun x id hid => blk?_push_lt hid
  have hbadr : ∀ e,valErr ls.length P w hh o = e → e ≠ 0 → valRes ls P w hh o m = (e,[],[]) := fun e he h0 => by unfold valRes; rw [he,if_pos h0]
  cases hsz : sized w hh
  ·have hr := hbadr 2 (by unfold valErr; rw [if_pos (.inl (by simp [hsz]))]) (by decide)
   rw [hr]
   simp [MD.val,new_bad hsz,k_guard,k_guardU,fin28]
   exact ⟨_,_,⟨rfl,rfl⟩,VOut.bad (hkp _) (by simp) _⟩
  have hsz' := hsz
  simp only [sized,decide_eq_true_eq] at hsz'
  obtain ⟨w,rfl⟩ := Int.eq_ofNat_of_zero_le (show 0 ≤ w by omega)
  obtain ⟨hh,rfl⟩ := Int.eq_ofNat_of_zero_le (show 0 ≤ hh by omega)
  have w1 : 1 ≤ w := by omega
  have w2 : w ≤ 64 := by omega
  have h1 : 1 ≤ hh := by omega
  have h2 : hh ≤ 64 := by omega
  have hm : w * hh ≤ 64 * 64 := Nat.mul_le_mul w2 h2
  have hnew := fun H R => new_c (h := H) (R := R) w1 w2 h1 h2
  have hls : ∀ H : Heap,(newHeap H w hh).length = H.length + 2 := fun H => newHeap_len H w hh
  have hlow : ∀ x : Option Blk,∀ id,id < h.length → blk? (newHeap (h ++ [x]) w hh) id = blk? h id := fun x id hid => by
   rw [newHeap_low _ _ _ id (by simp; omega)]; exact hkp x id hid
  by_cases hp1 : P < 0
  ·have hr := hbadr 2 (by unfold valErr; rw [if_pos (.inr (.inl hp1))]) (by decide)
   rw [hr]
   simp [MD.val,hnew,k_guard,k_guardU,hp1,fin28]
   exact ⟨_,_,⟨rfl,rfl⟩,VOut.bad (hlow _) (by rw [hls]; simp; omega) _⟩
  by_cases hp2 : 60 < P
  ·have hr := hbadr 2 (by unfold valErr; rw [if_pos (.inr (.inr hp2))]) (by decide)
   rw [hr]
   simp [MD.val,hnew,k_guard,k_guardU,hp1,hp2,fin28]
   exact ⟨_,_,⟨rfl,rfl⟩,VOut.bad (hlow _) (by rw [hls]; simp; omega) _⟩
  have hne2 : ¬ (¬ sized (w : Int) (hh : Int) = true ∨ P < 0 ∨ 60 < P) := by rw [hsz]; simp; omega
  have hm1 : IntKind.i64.wrap (3 * P) = 3 * P := wrapI (by omega) (by omega)
  have hm2 : IntKind.i64.wrap (3 * P - 2) = 3 * P - 2 := wrapI (by omega) (by omega)
  have hmx : fold1 max2V [.int .i64 0,.int .i64 (3 * P - 2)] = some (.int .i64 (max 0 (3 * P - 2))) := by
   simp only [fold1,foldO,max2V]
   congr 2
   split <;> omega
  by_cases hln : max 0 (3 * P - 2) < (ls.length : Int)
  ·have hr := hbadr 4 (by unfold valErr; rw [if_neg hne2,if_pos hln]) (by decide)
   rw [hr]
   simp [MD.val,hnew,k_guard,k_guardU,hp1,hp2,hs,hm1,hm2,hmx,hln,fin28]
   exact ⟨_,_,⟨rfl,rfl⟩,VOut.bad (hlow _) (by rw [hls]; simp; omega) _⟩
  by_cases ho1 : o < 0
  ·have hr := hbadr 3 (by unfold valErr; rw [if_neg hne2,if_neg hln,if_pos (.inl ho1)]) (by decide)
   rw [hr]
   simp [MD.val,hnew,k_guard,k_guardU,hp1,hp2,hs,hm1,hm2,hmx,hln,ho1,fin28]
   exact ⟨_,_,⟨rfl,rfl⟩,VOut.bad (hlow _) (by rw [hls]; simp; omega) _⟩
  by_cases ho2 : 3 < o
  ·have hr := hbadr 3 (by unfold valErr; rw [if_neg hne2,if_neg hln,if_pos (.inr ho2)]) (by decide)
   rw [hr]
   simp [MD.val,hnew,k_guard,k_guardU,hp1,hp2,hs,hm1,hm2,hmx,hln,ho1,ho2,fin28]
   exact ⟨_,_,⟨rfl,rfl⟩,VOut.bad (hlow _) (by rw [hls]; simp; omega) _⟩
  obtain ⟨P,rfl⟩ := Int.eq_ofNat_of_zero_le (show 0 ≤ P by omega)
  obtain ⟨o,rfl⟩ := Int.eq_ofNat_of_zero_le (show 0 ≤ o by omega)
  have herr : valErr ls.length (P : Int) w hh o = 0 := by unfold valErr; rw [if_neg hne2,if_neg hln,if_neg (by omega)]
  generalize hr : valRes ls (P : Int) w hh o m = r
  have hr' : r = if (vLoop m P o 0 (newBS w hh) ls).2 ≠ 0 then ((vLoop m P o 0 (newBS w hh) ls).2,[],[]) else (0,(vLoop m P o 0 (newBS w hh) ls).1.cs.map (·.v),(vLoop m P o 0 (newBS w hh) ls).1.cs.map fun c => leftOf P ls.length c.t) := by
   rw [← hr]; unfold valRes; rw [herr,if_neg (by simp)]; simp only [Int.toNat_natCast]
  simp [MD.val,hnew,k_guard,k_guardU,hp1,hp2,hs,hm1,hm2,hmx,hln,ho1,ho2]
  rw [← hT]
  simp only [tlC,B28]
  generalize hH : newHeap (h ++ [some (⟨false,[.bool m.byp,.bool m.res,.bool m.rst,.bool m.cz,.bool m.sy]⟩ : Blk)]) w hh = H
  have hlowH : ∀ id,id < h.length → blk? H id = blk? h id := by rw [← hH]; exact hlow _
  have hlenH : H.length = h.length + 3 := by rw [← hH,hls]; simp
  have vl : VLv h H h.length (h.length + 2) (h.length + 1) m w hh (newBS w hh) := by
   refine ⟨hlowH,by omega,?_,?_,newBS_good w1 w2 h1 h2,⟨by omega,by omega⟩,rfl,rfl,by omega⟩
   ·rw [← hH,newHeap_low _ _ _ _ (by simp)]; exact blk?_push_eq
   ·rw [← hH]
    have := newHeap_cb (h ++ [some (⟨false,[.bool m.byp,.bool m.res,.bool m.rst,.bool m.cz,.bool m.sy]⟩ : Blk)]) w1 w2 h1 h2
    simpa using this
  have hvn : (vLoop m P o 0 (newBS w hh) (ls.drop 0)) = vLoop m P o 0 (newBS w hh) ls := rfl
  simp
  rw [← hs]
  refine vals_loop (w := w) (hh := hh) hp (by omega) (by omega) (by omega) (by omega) ls.length 0 H (newBS w hh) _ _ _ _ _ _ _ _ _ _ _ _ _ _ _ _ _ _ _ _ _ _ _ _ _ _ _ _ _ _ _ _ _ _ _ _ _ _ _ _ _ _ _ _ _ _ _ _ _ _ _ _ _ _ _ _ _ _ _ _ _ _ _ _ _ _ _ _ _ _ _ _ _ _ _ _ _ _ _ _ _ _ _ _ _ _ _ _ _ _ _ _ _ _ _ _ _ _ _ _ _ _ _ _ _ _ _ _ _ _ _ _ _ _ _ _ _ _ _ _ _ _ _ _ _ _ _ _ _ _ _ _ _ _ rfl (by omega) vl ?_ ?_
  ·intro H1 b';intros;rename_i hv vl1
   rw [hvn] at hv
   rw [hv] at hr'
   simp only [ne_eq,not_true_eq_false,if_false] at hr'
   have hbw := vl1.bw
   have hbh := vl1.bh
   have hmwi : IntKind.i64.wrap ((w : Int) * (hh : Int)) = ((w * hh : Nat) : Int) := by rw [← Int.natCast_mul]; exact wrapN (by omega)
   have hroom : ((w * hh : Nat) : Int) ≤ (roomCells : Int) := by unfold roomCells; omega
   have hroom0 : (0 : Int) ≤ ((w * hh : Nat) : Int) := by omega
   generalize ((w * hh : Nat) : Int) = whi at hmwi hroom hroom0
   have lp := blk?_lt vl1.cb.blkp
   have lc := blk?_lt vl1.cb.blkc
   have hlen1 := vl1.len
   obtain ⟨dc,dM⟩ := vl1.d
   have dp := vl1.dp
   have hvb : VB h (H1 ++ [some ⟨false,[]⟩,some ⟨false,[]⟩]) (h.length + 2) (h.length + 1) b' (.slice (some ⟨H1.length,0,none⟩) 0 1) (.slice (some ⟨H1.length + 1,0,none⟩) 0 1) (valsTo b' (0 * b'.w)) (missTo P ls.length b' (0 * b'.w)) := by
    refine ⟨fun id hid => by rw [app_lt (by omega)]; exact vl1.low id hid,by simp; omega,⟨by rw [app_lt lp]; exact vl1.cb.blkp,by rw [app_lt lc]; exact vl1.cb.blkc,vl1.cb.ok⟩,⟨by simp [valsTo,i64s],.inr ⟨H1.length,by simp [valsTo],?_⟩⟩,⟨by simp [missTo,i64s],.inr ⟨H1.length + 1,by simp [missTo],?_⟩⟩,fun id hid => ?_,fun id hid => ?_,fun id hid e => ?_⟩
    ·rw [app_len]; simp [valsTo,i64s]; rfl
    ·rw [app_add]; simp [missTo,i64s]; rfl
    ·simp [sid] at hid; omega
    ·simp [sid] at hid; omega
    ·simp [sid] at hid e; omega
   have fin : ∀ (pl kd : Int) (K6 K7 K8 K9 Ka Ke Kg Kh Ki Kj Kn Ko Kp Kq Kr Ks Kt Ku Kv Kw Kx Ky Kz J0 J1 J2 J3 J4 J5 J6 J7 J8 J9 Ja Jb Jc Jd Je Jf Jg Jh Ji Jj Jk Jl Jm Jn Jo Jp Jq Jr Js Jt Ju Jv Jw Jx Jy Jz Y0 Y1 Y2 Y3 Y4 Y5 Y6 Y7 Y8 Y9 Ya Yb Yc Yd Ye Yf Yg Yh Yi Yj Yk Yl Ym Yn Yo Yp Yq Yr Ys Yt Yu Yx Yy Yz Z0 Z1 Z2 Z3 Z4 Z5 Z6 Z7 Z8 Z9 Za Zb Zc Zd Ze Zf Zg Zh Zi Zj Zk Zl Zm Zn Zo Zp Zq Zr Zs Zt Zu Zv Zw Zx Zy Zz K0q : Value),(-1 ≤ pl ∧ pl ≤ 100) → (∀ t,leftOf P ls.length t = P - 1 - pl + if (decide (0 < ls.length) && kd != 2 && !t) = true then 1 else 0) →
     Ok tab R28 (.inLoop L28_2 :: .inBlock 2 :: [.code (.seq (.region [⟨some 143,.mov (.tmp 12),none⟩,⟨some 144,.mov (.tmp 13),none⟩,⟨some 12,.mov (.tmp 143),none⟩,⟨some 13,.mov (.tmp 144),none⟩,⟨some 14,.mov (.const (.int .i64 0)),none⟩] []) .ret)]) #[s,.int .i64 P,.int .i64 w,.int .i64 hh,.int .i64 o,.agg #[.bool m.byp,.bool m.res,.bool m.rst,.bool m.cz,.bool m.sy],K6,K7,K8,K9,Ka,ptr h.length,.slice (some ⟨H1.length,0,none⟩) 0 1,.slice (some ⟨H1.length + 1,0,none⟩) 0 1,Ke,ptr (h.length + 2),Kg,Kh,Ki,Kj,.int .i64 ls.length,.int .i64 pl,.int .i64 kd,Kn,Ko,Kp,Kq,Kr,Ks,Kt,Ku,Kv,Kw,Kx,Ky,Kz,J0,J1,J2,J3,J4,J5,J6,J7,J8,J9,Ja,Jb,Jc,Jd,Je,Jf,Jg,Jh,Ji,Jj,Jk,Jl,Jm,Jn,Jo,Jp,Jq,Jr,Js,Jt,Ju,Jv,Jw,Jx,Jy,Jz,Y0,Y1,Y2,Y3,Y4,Y5,Y6,Y7,Y8,Y9,Ya,Yb,Yc,Yd,Ye,Yf,Yg,Yh,Yi,Yj,Yk,Yl,Ym,Yn,Yo,Yp,Yq,Yr,Ys,Yt,Yu,.int .i64 hh,.int .i64 0,Yx,Yy,Yz,Z0,Z1,Z2,Z3,Z4,Z5,Z6,Z7,Z8,Z9,Za,Zb,Zc,Zd,Ze,Zf,Zg,Zh,Zi,Zj,Zk,Zl,Zm,Zn,Zo,Zp,Zq,Zr,Zs,Zt,Zu,Zv,Zw,Zx,Zy,Zz,K0q] (H1 ++ [some ⟨false,[]⟩,some ⟨false,[]⟩])
      fun v h' => ∃ v1 v2,v = .tuple #[v1,v2,.int .i64 r.1] ∧ VOut h h' v1 v2 r := by
    intro pl kd;intros;rename_i hpl hleft
    rw [← hbw,← hbh]
    refine valy_loop (P := P) (n := ls.length) (by omega) hpl hleft b'.h 0 _ _ _ _ _ _ _ _ _ _ _ _ _ _ _ _ _ _ _ _ _ _ _ _ _ _ _ _ _ _ _ _ _ _ _ _ _ _ _ _ _ _ _ _ _ _ _ _ _ _ _ _ _ _ _ _ _ _ _ _ _ _ _ _ _ _ _ _ _ _ _ _ _ _ _ _ _ _ _ _ _ _ _ _ _ _ _ _ _ _ _ _ _ _ _ _ _ _ _ _ _ _ _ _ _ _ _ _ _ _ _ _ _ _ _ _ _ _ _ _ _ _ _ _ _ _ _ _ _ _ _ _ _ rfl (by omega) hvb ?_
    intro H' v1' v2';intros;rename_i vb
    have hfl : b'.h * b'.w = b'.cs.length := by rw [vl1.cb.ok.len,Nat.mul_comm]
    have ev : valsTo b' (b'.h * b'.w) = b'.cs.map (·.v) := by unfold valsTo; rw [List.take_of_length_le (by omega)]
    have em : missTo P ls.length b' (b'.h * b'.w) = b'.cs.map fun c => leftOf P ls.length c.t := by unfold missTo; rw [List.take_of_length_le (by omega)]
    rw [ev,em] at vb
    simp [fin28]
    rw [hr']
    exact ⟨v1',v2',⟨rfl,rfl,rfl⟩,by simpa using vb.o1,by simpa using vb.o2,vb.low,vb.len,fun id hid => hid.elim (fun x => (vb.f1 id x).1) fun x => (vb.f2 id x).1,vb.ne⟩
   by_cases hn0 : ls.length = 0
   ·have hw0 : IntKind.i64.wrap ((ls.length : Int) - 1) = -1 := by rw [hn0]; decide
    have hnn := fun h R => pass_neg (h := h) (R := R)
    have f := fin (-1) (-1)
    simp [hs,hmwi,hroom,hroom0,hw0,hnn]
    rw [← hs]
    exact f _ _ _ _ _ _ _ _ _ _ _ _ _ _ _ _ _ _ _ _ _ _ _ _ _ _ _ _ _ _ _ _ _ _ _ _ _ _ _ _ _ _ _ _ _ _ _ _ _ _ _ _ _ _ _ _ _ _ _ _ _ _ _ _ _ _ _ _ _ _ _ _ _ _ _ _ _ _ _ _ _ _ _ _ _ _ _ _ _ _ _ _ _ _ _ _ _ _ _ _ _ _ _ _ _ _ _ _ _ _ _ _ _ _ _ _ _ _ _ _ _ _ _ _ _ _ _ _ _ _ (by omega) (fun t => by unfold leftOf; rw [if_pos hn0]; simp [hn0])
   ·have hw0 : IntKind.i64.wrap ((ls.length : Int) - 1) = ((ls.length - 1 : Nat) : Int) := by rw [wrapI (by omega) (by omega)]; omega
    have hnn := fun h R => pass_c (h := h) (R := R) (n := ls.length - 1) (by omega)
    have hpo : planeOf (ls.length - 1) ≤ P - 1 := planeOf_le (by omega) (by omega)
    have f := fin (planeOf (ls.length - 1) : Nat) (kindOf (ls.length - 1) : Nat)
    have hlf : ∀ t,leftOf P ls.length t = P - 1 - ((planeOf (ls.length - 1) : Nat) : Int) + if (decide (0 < ls.length) && ((kindOf (ls.length - 1) : Nat) : Int) != 2 && !t) = true then 1 else 0 := by
     intro t
     rw [leftOf_pos hn0]
     have e1 : (((kindOf (ls.length - 1) : Nat) : Int) != 2) = (kindOf (ls.length - 1) != 2) := by
      rw [Bool.eq_iff_iff]; simp; omega
     have e2 : decide (0 < ls.length) = true := by simp; omega
     rw [e1,e2,Bool.true_and]
    have hpl2 : (-1 : Int) ≤ ((planeOf (ls.length - 1) : Nat) : Int) ∧ ((planeOf (ls.length - 1) : Nat) : Int) ≤ 100 := by omega
    generalize ((planeOf (ls.length - 1) : Nat) : Int) = pl at *
    generalize ((kindOf (ls.length - 1) : Nat) : Int) = kd at *
    generalize ((ls.length - 1 : Nat) : Int) = n1 at *
    simp [hs,hmwi,hroom,hroom0,hw0,hnn]
    rw [← hs]
    exact f _ _ _ _ _ _ _ _ _ _ _ _ _ _ _ _ _ _ _ _ _ _ _ _ _ _ _ _ _ _ _ _ _ _ _ _ _ _ _ _ _ _ _ _ _ _ _ _ _ _ _ _ _ _ _ _ _ _ _ _ _ _ _ _ _ _ _ _ _ _ _ _ _ _ _ _ _ _ _ _ _ _ _ _ _ _ _ _ _ _ _ _ _ _ _ _ _ _ _ _ _ _ _ _ _ _ _ _ _ _ _ _ _ _ _ _ _ _ _ _ _ _ _ _ _ _ _ _ _ _ hpl2 hlf
  ·intro H1 e he h0 low len
   rw [hvn] at he
   rw [he,if_pos h0] at hr'
   rw [hr']
   exact ⟨_,_,rfl,VOut.bad low len _⟩
 obtain ⟨v,h',e,v1,v2,rfl,rs⟩ := ret_ex key
 exact ⟨v1,v2,h',e,rs⟩
def toI (l : List (Int × Nat)) : List (Int × Int) := l.map fun p => (p.1,(p.2 : Int))
theorem encP_toI : ∀ l : List (Int × Nat),encP (toI l) = encS l
 | [] => rfl
 | p :: l => by
  have := encP_toI l
  simp only [toI,List.map_cons] at this ⊢
  simp only [encP,encS,this]
theorem RdV.psI {B : Nat} {h : Heap} {lv : Value} {ls : List (List (Int × Nat))} (r : RdV B h lv ls) : ∃ vs,PsI h lv vs (ls.map toI) := by
 obtain ⟨vs,a,b,c,_⟩ := r.ex
 refine ⟨vs,a.sl,by simp [b],fun i h1 h2 => ?_,fun i h1 id hid => (c i h1 (by omega)).lt hid⟩
 have h3 : i < ls.length := by simpa using h2
 have e : (ls.map toI)[i] = toI ls[i] := by simp
 rw [e,encP_toI,show (toI ls[i]).length = ls[i].length by simp [toI]]
 exact (c i h1 h3).sl
def decP (m : MD) (pl : Int) (ps : List Int) (ds : List Nat) (n w hh o : Int) : Int × List Int × List Int :=
 if checkP pl ps (ds.map Int.ofNat) n w hh o ≠ 0 then (checkP pl ps (ds.map Int.ofNat) n w hh o,[],[])
 else valRes ((readP m pl o ps ds n.toNat w.toNat hh.toNat).ls.map toI) pl w hh o m
theorem passesR_len (m : MD) (pl o : Int) : ∀ (q i : Nat) (s : Rdg),(passesR m pl o q i s).ls.length = s.ls.length + q
 | 0,_,s => rfl
 | q + 1,i,s => by simp only [passesR]; rw [passesR_len m pl o q]; simp; omega
theorem segsR_len (m : MD) (pl o : Int) (ps : List Int) (ds : List Nat) : ∀ (gs : List Nat) (beg : Nat) (s : Rdg),(segsR m pl o ps ds gs beg s).ls.length = s.ls.length + sumL gs
 | [],_,s => rfl
 | c :: cs,beg,s => by
  simp only [segsR,sumL]
  rw [segsR_len m pl o ps ds cs,passesR_len]
  split <;> simp <;> omega
theorem readP_len (m : MD) (pl o : Int) (ps : List Int) (ds : List Nat) {n w hh : Nat} (hn : n ≤ 178) : (readP m pl o ps ds n w hh).ls.length = n := by
 unfold readP
 rw [segsR_len,(segs_sum hn).1]; simp
section
variable {h : Heap} {pv dv : Value} {pl : Int} {ps : List Int} {ds : List Nat} {m : MD}
theorem check_ok {n w hh o : Int} (hc : checkP pl ps (ds.map Int.ofNat) n w hh o = 0) : validP pl ps (ds.map Int.ofNat) = 0 ∧ 0 ≤ n ∧ n ≤ ps.length ∧ 1 ≤ w ∧ w ≤ 64 ∧ 1 ≤ hh ∧ hh ≤ 64 ∧ 0 ≤ o ∧ o ≤ 3 := by
 unfold checkP at hc
 split at hc
 ·rename_i h1; exact absurd hc h1
 ·rename_i h1
  split at hc
  ·cases hc
  ·split at hc
   ·cases hc
   ·refine ⟨by simpa using h1,?_⟩; omega
theorem readC {n w hh o : Int} (hp : Rk .i64 h pv ps) (hd : Rk .u8 h dv (ds.map Int.ofNat)) (hds : ∀ x ∈ ds,x < 256) (hc : checkP pl ps (ds.map Int.ofNat) n w hh o = 0) :
  ∃ lv h',(∀ R : RP,Ret tab 27 [.agg #[.int .i64 pl,pv,dv],.int .i64 n,.int .i64 w,.int .i64 hh,.int .i64 o,m.val] h R = R (.tuple #[lv,.int .i64 (readP m pl o ps ds n.toNat w.toNat hh.toNat).snd,.int .i64 0]) h') ∧
   RdV h.length h' lv (readP m pl o ps ds n.toNat w.toNat hh.toNat).ls ∧ (∀ id,id < h.length → blk? h' id = blk? h id) ∧ h.length ≤ h'.length := by
 obtain ⟨hv,n0,n1,w1,w2,h1,h2,o0,o1⟩ := check_ok hc
 obtain ⟨p0,p1,p2,_,p4⟩ := valid_ends hv
 obtain ⟨z0,z1⟩ := valid_zE hv
 simp only [List.length_map] at z1 p4
 obtain ⟨n,rfl⟩ := Int.eq_ofNat_of_zero_le n0
 obtain ⟨w,rfl⟩ := Int.eq_ofNat_of_zero_le (show 0 ≤ w by omega)
 obtain ⟨hh,rfl⟩ := Int.eq_ofNat_of_zero_le (show 0 ≤ hh by omega)
 simp only [Int.toNat_natCast]
 exact read_c m hp hd z0 z1 (by omega) hds (by omega) (by omega) (by omega) (by omega) (by omega) (by omega)
theorem decode_c {n w hh o : Int} (hp : Rk .i64 h pv ps) (hd : Rk .u8 h dv (ds.map Int.ofNat)) (hds : ∀ x ∈ ds,x < 256) (hl : ps.length < 1000000) (hdl : ds.length < 1000000000) :
  ∃ v1 v2 h',(∀ R : RP,Ret tab 11 [.agg #[.int .i64 pl,pv,dv],.int .i64 n,.int .i64 w,.int .i64 hh,.int .i64 o,m.val] h R = R (.tuple #[v1,v2,.int .i64 (decP m pl ps ds n w hh o).1]) h') ∧ VOut h h' v1 v2 (decP m pl ps ds n w hh o) := by
 have key : ∀ R0 : RP,(∀ v1 v2 h',VOut h h' v1 v2 (decP m pl ps ds n w hh o) → R0 (.tuple #[v1,v2,.int .i64 (decP m pl ps ds n w hh o).1]) h') → Ret tab 11 [.agg #[.int .i64 pl,pv,dv],.int .i64 n,.int .i64 w,.int .i64 hh,.int .i64 o,m.val] h R0 := by
  intro R0 hR
  generalize hH : h ++ [some (⟨false,[.int .i64 pl,pv,dv]⟩ : Blk),some ⟨false,[.bool m.byp,.bool m.res,.bool m.rst,.bool m.cz,.bool m.sy]⟩] = H
  have lH : H.length = h.length + 2 := by rw [← hH]; simp
  have kH : ∀ id,id < h.length → blk? H id = blk? h id := fun id hid => by rw [← hH]; exact app_lt hid
  have b0 : blk? H h.length = some ⟨false,[.int .i64 pl,pv,dv]⟩ := by rw [← hH,app_len]; rfl
  have b1 : blk? H (h.length + 1) = some ⟨false,[.bool m.byp,.bool m.res,.bool m.rst,.bool m.cz,.bool m.sy]⟩ := by rw [← hH,app_add]; rfl
  have hpH : Rk .i64 H pv ps := by rw [← hH]; exact hp.push _
  have hdH : Rk .u8 H dv (ds.map Int.ofNat) := by rw [← hH]; exact hd.push _
  obtain ⟨H1,e1,k1,l1⟩ := check_c (m := m) (pl := pl) hpH hdH hl (by rw [List.length_map]; exact hdl) n w hh o
  have b01 : blk? H1 h.length = some ⟨false,[.int .i64 pl,pv,dv]⟩ := by rw [k1 _ (by omega)]; exact b0
  have b11 : blk? H1 (h.length + 1) = some ⟨false,[.bool m.byp,.bool m.res,.bool m.rst,.bool m.cz,.bool m.sy]⟩ := by rw [k1 _ (by omega)]; exact b1
  simp only [MD.val] at e1
  rw [enter11,B11]
  by_cases hc : checkP pl ps (ds.map Int.ofNat) n w hh o = 0
  case neg =>
   have hc' : (checkP pl ps (ds.map Int.ofNat) n w hh o != 0) = true := by simpa using hc
   have e : decP m pl ps ds n w hh o = (checkP pl ps (ds.map Int.ofNat) n w hh o,[],[]) := by unfold decP; rw [if_pos hc]
   rw [e] at hR
   simp [MD.val,hH,b0,b1,e1,hc',fin11]
   exact hR _ _ _ (VOut.bad (fun id hid => by rw [k1 id (by omega),kH id hid]) (by omega) _)
  have hc' : (checkP pl ps (ds.map Int.ofNat) n w hh o != 0) = false := by simpa using hc
  have e : decP m pl ps ds n w hh o = valRes ((readP m pl o ps ds n.toNat w.toNat hh.toNat).ls.map toI) pl w hh o m := by unfold decP; rw [if_neg (by simp [hc])]
  rw [e] at hR
  obtain ⟨hv,_⟩ := check_ok hc
  obtain ⟨p0,p1,p2,_,p4⟩ := valid_ends hv
  have hp1 : Rk .i64 H1 pv ps := hpH.keep l1 fun id hid _ => k1 id hid
  have hd1 : Rk .u8 H1 dv (ds.map Int.ofNat) := hdH.keep l1 fun id hid _ => k1 id hid
  obtain ⟨lv,H2,e2,r2,k2,l2⟩ := readC (m := m) hp1 hd1 hds hc
  obtain ⟨vs,q2⟩ := r2.psI
  have b02 : blk? H2 h.length = some ⟨false,[.int .i64 pl,pv,dv]⟩ := by rw [k2 _ (by omega)]; exact b01
  have b12 : blk? H2 (h.length + 1) = some ⟨false,[.bool m.byp,.bool m.res,.bool m.rst,.bool m.cz,.bool m.sy]⟩ := by rw [k2 _ (by omega)]; exact b11
  have hlen : (readP m pl o ps ds n.toNat w.toNat hh.toNat).ls.length < 100000 := by
   obtain ⟨_,c1,c2,_⟩ := check_ok hc
   rw [readP_len m pl o ps ds (by omega)]; omega
  obtain ⟨v1,v2,H3,e3,V3⟩ := values_d q2 (by simpa using hlen) pl w hh o (by omega) m
  simp only [MD.val] at e2 e3
  simp [MD.val,hH,b0,b1,e1,hc',b01,b11,e2,b02,b12,e3,fin11]
  exact hR _ _ _ ⟨V3.o1,V3.o2,fun id hid => by rw [V3.low id (by omega),k2 id (by omega),k1 id (by omega),kH id hid],by have := V3.len; omega,fun id hid => by have := V3.fr id hid; omega,V3.ne⟩
 obtain ⟨v,h',e,v1,v2,rfl,a⟩ := ret_ex (key (fun v h' => ∃ v1 v2,v = .tuple #[v1,v2,.int .i64 (decP m pl ps ds n w hh o).1] ∧ VOut h h' v1 v2 (decP m pl ps ds n w hh o)) fun v1 v2 h' a => ⟨v1,v2,rfl,a⟩)
 exact ⟨v1,v2,h',e,a⟩
end
theorem lv_play {α : Type} {Q : α → Prop} : ∀ {t : Tr α} {n : Nat} {l l' : List (Int × Int)} {a : α},t.Lv Q n → t.play l = some (a,l') → Q a
 | .ret a,n,l,l',a',h,hp => by
  simp only [Tr.play,Option.some.injEq,Prod.mk.injEq] at hp
  unfold Tr.Lv at h
  rw [← hp.1]; exact h
 | .ask c k,0,l,l',a,h,hp => by simp [Tr.Lv] at h
 | .ask c k,n + 1,[],l',a,h,hp => by simp [Tr.play] at hp
 | .ask c k,n + 1,p :: l,l',a,h,hp => by
  unfold Tr.Lv at h
  rw [Tr.play] at hp
  split at hp
  ·exact lv_play (h _) hp
  ·cases hp
theorem vLoop_le {m : MD} {planes o : Nat} (hpl : planes ≤ 60) (h1 : 1 ≤ planes) (ho : o ≤ 3) : ∀ (ls : List (List (Int × Int))) (n : Nat) (b : BS),b.Good → b.Le (vLoop m planes o n b ls).1
 | [],n,b,hg => BS.Le.refl hg
 | l :: ls,n,b,hg => by
  rw [vLoop]
  cases hp : (dRun m b n planes o).play l with
  | none => exact BS.Le.refl hg
  | some r =>
   obtain ⟨r,l'⟩ := r
   have hle : b.Le r.1 := lv_play (Q := fun r : BS × Bool => b.Le r.1) (lv_dRun (m := m) (n := n) hg (runPP_ok hpl h1 ho)) hp
   simp only
   split
   ·exact hle
   ·cases l' with
    | nil => exact hle.trans (vLoop_le hpl h1 ho ls (n + 1) r.1 hle.good)
    | cons x l' => exact hle
theorem decP_len (m : MD) (pl : Int) (ps : List Int) (ds : List Nat) (n w hh o : Int) : (decP m pl ps ds n w hh o).2.1.length ≤ 4096 ∧ (decP m pl ps ds n w hh o).2.2.length ≤ 4096 := by
 unfold decP
 split
 ·simp
 rename_i hc
 have hc : checkP pl ps (ds.map Int.ofNat) n w hh o = 0 := by simpa using hc
 obtain ⟨hv,n0,n1,w1,w2,h1,h2,o0,o1⟩ := check_ok hc
 obtain ⟨p0,p1,p2,_,p4⟩ := valid_ends hv
 generalize hls : (readP m pl o ps ds n.toNat w.toNat hh.toNat).ls.map toI = ls
 have hlen : ls.length = n.toNat := by rw [← hls,List.length_map,readP_len m pl o ps ds (by omega)]
 unfold valRes
 split
 ·simp
 ·have hg : (newBS w.toNat hh.toNat).Good := newBS_good (by omega) (by omega) (by omega) (by omega)
  have hle : (newBS w.toNat hh.toNat).Le (vLoop m pl.toNat o.toNat 0 (newBS w.toNat hh.toNat) ls).1 := by
   by_cases hp : pl = 0
   ·have : ls = [] := List.length_eq_zero_iff.1 (by omega)
    rw [this]; exact BS.Le.refl hg
   ·exact vLoop_le (by omega) (by omega) (by omega) ls 0 _ hg
  have hcl := hle.good.ok.len
  rw [hle.w,hle.h] at hcl
  have hm : w.toNat * hh.toNat ≤ 64 * 64 := Nat.mul_le_mul (by omega) (by omega)
  have e : (newBS w.toNat hh.toNat).w * (newBS w.toNat hh.toNat).h = w.toNat * hh.toNat := rfl
  simp only
  split
  ·simp
  ·simp only [List.length_map]
   constructor <;> omega
theorem Rk.nat {h : Heap} {s : Value} {ds : List Int} (hd : Rk .u8 h s ds) : ∃ dn : List Nat,ds = dn.map Int.ofNat ∧ ∀ x ∈ dn,x < 256 := by
 have hr : ∀ v ∈ ds,0 ≤ v ∧ v < 256 := fun v hv => by
  have := hd.rng v hv
  simp [Lit.wf,IntKind.min,IntKind.max,IntKind.signed,IntKind.bits] at this
  omega
 refine ⟨ds.map Int.toNat,?_,fun x hx => ?_⟩
 ·rw [List.map_map]
  have : ds.map (Int.ofNat ∘ Int.toNat) = ds.map id := List.map_congr_left fun v hv => by
   have := hr v hv
   simp; omega
  rw [this,List.map_id]
 ·obtain ⟨v,hv,rfl⟩ := List.mem_map.1 hx
  have := hr v hv
  omega
def uv (s : Int) (vs ks : List Int) : List Int := List.zipWith (fun v k => (unsP v k s).1) vs ks
def uk (s : Int) (vs ks : List Int) : List Int := List.zipWith (fun v k => (unsP v k s).2) vs ks
def aftP (m : MD) (pl : Int) (ps : List Int) (ds : List Nat) (w hh o : Int) (cs : List Int) (a b wt s : Int) (n : Nat) : Int × Int :=
 if (decP m pl ps ds n w hh o).1 ≠ 0 then (0,(decP m pl ps ds n w hh o).1) else totRes a b wt cs (uv s (decP m pl ps ds n w hh o).2.1 (decP m pl ps ds n w hh o).2.2) (uk s (decP m pl ps ds n w hh o).2.1 (decP m pl ps ds n w hh o).2.2)
def rateP (ps : List Int) (n : Nat) : Int := if n = 0 then 0 else ps.getD (n - 1) 0
def cLoop (aft : Nat → Int × Int) (ps : List Int) : Nat → Nat → List Int → List Int → Int × List Int × List Int
 | 0,_,r,d => (0,r,d)
 | k + 1,n,r,d => if (aft n).2 ≠ 0 then ((aft n).2,[],[]) else cLoop aft ps k (n + 1) (r ++ [rateP ps n]) (d ++ [(aft n).1])
def curP (m : MD) (pl : Int) (ps : List Int) (ds : List Nat) (w hh o : Int) (cs : List Int) (a b wt s : Int) : Int × List Int × List Int :=
 if (decP m pl ps ds 0 w hh o).1 ≠ 0 then ((decP m pl ps ds 0 w hh o).1,[],[]) else if (cs.length : Int) ≠ w * hh then (4,[],[])
 else if ¬ QOk a b ∨ wt < 0 ∨ 16 < wt ∨ s < 0 ∨ 30 < s then (2,[],[]) else cLoop (aftP m pl ps ds w hh o cs a b wt s) ps (ps.length + 1) 0 [] []
theorem leftOf_rng {P : Int} {n : Nat} (h0 : 0 ≤ P) (h1 : P ≤ 60) (hn : n ≤ 200) (t : Bool) : -1000 ≤ leftOf P n t ∧ leftOf P n t ≤ 1000 := by
 unfold leftOf
 have := planeOf_le (n := n - 1) (planes := n) (by omega)
 split
 ·omega
 ·have := this (by omega)
  split <;> omega
theorem decP_rng (m : MD) (pl : Int) (ps : List Int) (ds : List Nat) (n w hh o : Int) : (decP m pl ps ds n w hh o).2.2.length = (decP m pl ps ds n w hh o).2.1.length ∧ (∀ v ∈ (decP m pl ps ds n w hh o).2.1,-1152921504606846976 < v ∧ v < 1152921504606846976) ∧
  (∀ k ∈ (decP m pl ps ds n w hh o).2.2,-1000 ≤ k ∧ k ≤ 1000) := by
 unfold decP
 split
 ·simp
 rename_i hc
 have hc : checkP pl ps (ds.map Int.ofNat) n w hh o = 0 := by simpa using hc
 obtain ⟨hv,n0,n1,w1,w2,h1,h2,o0,o1⟩ := check_ok hc
 obtain ⟨p0,p1,p2,_,p4⟩ := valid_ends hv
 generalize hls : (readP m pl o ps ds n.toNat w.toNat hh.toNat).ls.map toI = ls
 have hlen : ls.length = n.toNat := by rw [← hls,List.length_map,readP_len m pl o ps ds (by omega)]
 unfold valRes
 split
 ·simp
 ·have hg : (newBS w.toNat hh.toNat).Good := newBS_good (by omega) (by omega) (by omega) (by omega)
  have hle : (newBS w.toNat hh.toNat).Le (vLoop m pl.toNat o.toNat 0 (newBS w.toNat hh.toNat) ls).1 := by
   by_cases hp : pl = 0
   ·have : ls = [] := List.length_eq_zero_iff.1 (by omega)
    rw [this]; exact BS.Le.refl hg
   ·exact vLoop_le (by omega) (by omega) (by omega) ls 0 _ hg
  simp only
  split
  ·simp
  ·have gd := hle.good
   generalize (vLoop m pl.toNat o.toNat 0 (newBS w.toNat hh.toNat) ls).1 = b at *
   refine ⟨by simp,fun v hv => ?_,fun k hk => ?_⟩
   ·obtain ⟨c,hc,rfl⟩ := List.mem_map.1 hv
    obtain ⟨i,hi,rfl⟩ := List.mem_iff_getElem.1 hc
    have hw0 := gd.ok.w1
    have hl := gd.ok.len
    have hy : i / b.w < b.h := by
     apply Nat.div_lt_of_lt_mul; omega
    obtain ⟨q1,q2⟩ := get_row gd.ok (x := i % b.w) (y := i / b.w) (Nat.mod_lt _ (by omega)) hy
    have he : i / b.w * b.w + i % b.w = i := by rw [Nat.mul_comm]; exact Nat.div_add_mod i b.w
    rw [he,List.getElem?_eq_getElem hi] at q2
    injection q2 with q2
    rw [q2]
    exact gd.rng _ _
   ·obtain ⟨c,hc,rfl⟩ := List.mem_map.1 hk
    exact leftOf_rng p0 p1 (by omega) _
theorem uv_len (s : Int) (vs ks : List Int) (h : ks.length = vs.length) : (uv s vs ks).length = vs.length ∧ (uk s vs ks).length = vs.length := by
 unfold uv uk
 rw [List.length_zipWith,List.length_zipWith]; omega
theorem uv_get (s : Int) (vs ks : List Int) (h : ks.length = vs.length) {i : Nat} (hi : i < vs.length) : (uv s vs ks)[i]'(by rw [(uv_len s vs ks h).1]; exact hi) = (unsP vs[i] (ks[i]'(by omega)) s).1 ∧ (uk s vs ks)[i]'(by rw [(uv_len s vs ks h).2]; exact hi) = (unsP vs[i] (ks[i]'(by omega)) s).2 := by
 unfold uv uk
 simp
theorem wf_ofI64 {v : Int} (h1 : -9223372036854775808 ≤ v) (h2 : v < 9223372036854775808) : (Lit.int .i64 v).wf = true := by
 simp [Lit.wf,IntKind.min,IntKind.max,IntKind.signed,IntKind.bits]; omega
theorem uv_wf (s : Int) {vs ks : List Int} (h : ks.length = vs.length) (hv : ∀ v ∈ vs,-1152921504606846976 < v ∧ v < 1152921504606846976) (hk : ∀ k ∈ ks,-1000 ≤ k ∧ k ≤ 1000) :
  (∀ v ∈ uv s vs ks,(Lit.int .i64 v).wf = true) ∧ (∀ v ∈ uk s vs ks,(Lit.int .i64 v).wf = true) := by
 obtain ⟨l1,l2⟩ := uv_len s vs ks h
 refine ⟨fun v hm => ?_,fun v hm => ?_⟩ <;> obtain ⟨i,hi,rfl⟩ := List.mem_iff_getElem.1 hm
 ·have hi' : i < vs.length := by omega
  have a := hv vs[i] (List.getElem_mem hi')
  have b := hk (ks[i]'(by omega)) (List.getElem_mem _)
  rw [(uv_get s vs ks h hi').1]
  have := (unsP_rng (v := vs[i]) (m := ks[i]'(by omega)) (s := s) (by omega) (by omega) (by omega) (by omega)).1
  exact wf_ofI64 this.1 this.2
 ·have hi' : i < vs.length := by omega
  have a := hv vs[i] (List.getElem_mem hi')
  have b := hk (ks[i]'(by omega)) (List.getElem_mem _)
  rw [(uv_get s vs ks h hi').2]
  have := (unsP_rng (v := vs[i]) (m := ks[i]'(by omega)) (s := s) (by omega) (by omega) (by omega) (by omega)).2
  exact wf_ofI64 this.1 this.2
theorem mix_set {us vs : List Int} (hl : us.length = vs.length) {i : Nat} (hi : i < vs.length) : (us.take i ++ vs.drop i).set i (us[i]'(by omega)) = us.take (i + 1) ++ vs.drop (i + 1) := by
 rw [List.set_append,List.length_take,if_neg (by omega),show i - min i us.length = 0 from by omega,List.drop_eq_getElem_cons hi,List.set_cons_zero,List.take_succ_eq_append_getElem (by omega),List.append_assoc]
 rfl
theorem mix_get {us vs : List Int} (hl : us.length = vs.length) {i : Nat} (hi : i < vs.length) : (us.take i ++ vs.drop i)[i]? = some vs[i] := by
 rw [List.getElem?_append_right (by rw [List.length_take]; omega),List.length_take,show i - min i us.length = 0 from by omega,List.drop_eq_getElem_cons hi]
 rfl
theorem mix_len {us vs : List Int} (hl : us.length = vs.length) {i : Nat} (hi : i ≤ vs.length) : (us.take i ++ vs.drop i).length = vs.length := by
 rw [List.length_append,List.length_take,List.length_drop]; omega
theorem i64L (xs : List Int) : (i64s xs).length = xs.length := by simp [i64s]
theorem i64s_set (l : List Int) (i : Nat) (x : Int) : (i64s l).set i (.int .i64 x) = i64s (l.set i x) := by
 unfold i64s; rw [List.map_set]
structure CuB (h : Heap) (B : Nat) (cv pv dv : Value) (pl w hh o a b wt s : Int) (m : MD) : Prop where
 b0 : blk? h B = some ⟨false,[cv]⟩
 b1 : blk? h (B + 1) = some ⟨false,[.int .i64 pl,pv,dv]⟩
 b2 : blk? h (B + 2) = some ⟨false,[.int .i64 w]⟩
 b3 : blk? h (B + 3) = some ⟨false,[.int .i64 hh]⟩
 b4 : blk? h (B + 4) = some ⟨false,[.int .i64 o]⟩
 b5 : blk? h (B + 5) = some ⟨false,[.bool m.byp,.bool m.res,.bool m.rst,.bool m.cz,.bool m.sy]⟩
 b6 : blk? h (B + 6) = some ⟨false,[.int .i64 a]⟩
 b7 : blk? h (B + 7) = some ⟨false,[.int .i64 b]⟩
 b8 : blk? h (B + 8) = some ⟨false,[.int .i64 wt]⟩
 b9 : blk? h (B + 9) = some ⟨false,[.int .i64 s]⟩
theorem CuB.keep {h h' : Heap} {B : Nat} {cv pv dv : Value} {pl w hh o a b wt s : Int} {m : MD} (c : CuB h B cv pv dv pl w hh o a b wt s m) (hk : ∀ id,id < h.length → blk? h' id = blk? h id) : CuB h' B cv pv dv pl w hh o a b wt s m :=
 ⟨by rw [hk _ (blk?_lt c.b0)]; exact c.b0,by rw [hk _ (blk?_lt c.b1)]; exact c.b1,by rw [hk _ (blk?_lt c.b2)]; exact c.b2,by rw [hk _ (blk?_lt c.b3)]; exact c.b3,by rw [hk _ (blk?_lt c.b4)]; exact c.b4,by rw [hk _ (blk?_lt c.b5)]; exact c.b5,by rw [hk _ (blk?_lt c.b6)]; exact c.b6,by rw [hk _ (blk?_lt c.b7)]; exact c.b7,by rw [hk _ (blk?_lt c.b8)]; exact c.b8,by rw [hk _ (blk?_lt c.b9)]; exact c.b9⟩
section
variable {R : RP}
theorem aft_loop {vs ks : List Int} {s : Int} (hl : ks.length = vs.length) (hN : vs.length ≤ 4096) (hv : ∀ v ∈ vs,-1152921504606846976 < v ∧ v < 1152921504606846976) {h0 : Heap} {v1 v2 p7 p8 p9 pa : Value} (fr : ∀ id,sid v1 = some id ∨ sid v2 = some id → h0.length ≤ id) (ne : ∀ id,sid v1 = some id → sid v2 ≠ some id)
  {X : Nat} (hX : blk? h0 X = some ⟨false,[.int .i64 s]⟩) {K : List RItem}
  (hK : ∀ (H : Heap) (K0 K1 K2 K3 K4 K5 K6 Kb Kc Kd Kg Kh Ki Kj Kk Kl Km Kn Ko Kp Kq Kr Ks Kt Ku Kv Kw Kx Ky Kz J0 J1 J2 J3 J4 J5 J6 J7 J8 J9 Ja Jb Jc Jd Je Jf Jg Jh Ji Jj Jk Jl Jm Jn Jo Jp Jq Jr Js Jt : Value),OwnS H 1 v1 vs.length (i64s (uv s vs ks)) → OwnS H 1 v2 vs.length (i64s (uk s vs ks)) → (∀ id,id < h0.length → blk? H id = blk? h0 id) → h0.length ≤ H.length →
   Ok tab R99 K #[K0,K1,K2,K3,K4,K5,K6,p7,p8,p9,pa,Kb,Kc,Kd,v1,v2,Kg,Kh,Ki,Kj,Kk,Kl,Km,Kn,Ko,Kp,Kq,Kr,Ks,Kt,Ku,Kv,Kw,Kx,Ky,Kz,J0,J1,J2,J3,J4,J5,J6,J7,J8,J9,Ja,Jb,Jc,Jd,Je,Jf,Jg,Jh,Ji,Jj,Jk,Jl,Jm,Jn,Jo,Jp,Jq,Jr,Js,Jt] H R) :
  ∀ (j i : Nat) (H : Heap) (K0 K1 K2 K3 K4 K5 Kb Kc Kd Kg Kh Ki Kj Kk Kl Km Kn Ko Kp Kq Kr Ks Kt Ku Kv Kw Kz J0 J1 J2 J3 J4 J5 J6 J7 J8 J9 Ja Jb Jc Jd Je Jf Jg Jh Ji Jj Jk Jl Jm Jn Jo Jp Jq Jr Js Jt : Value),i + j = vs.length → OwnS H 1 v1 vs.length (i64s ((uv s vs ks).take i ++ vs.drop i)) → OwnS H 1 v2 vs.length (i64s ((uk s vs ks).take i ++ ks.drop i)) → (∀ id,id < h0.length → blk? H id = blk? h0 id) → h0.length ≤ H.length →
   Ok tab R99 (.inLoop L99_0 :: .inBlock 0 :: K) #[K0,K1,K2,K3,K4,K5,ptr X,p7,p8,p9,pa,Kb,Kc,Kd,v1,v2,Kg,Kh,Ki,Kj,Kk,Kl,Km,Kn,Ko,Kp,Kq,Kr,Ks,Kt,Ku,Kv,Kw,.int .i64 (vs.length : Nat),.int .i64 (i : Nat),Kz,J0,J1,J2,J3,J4,J5,J6,J7,J8,J9,Ja,Jb,Jc,Jd,Je,Jf,Jg,Jh,Ji,Jj,Jk,Jl,Jm,Jn,Jo,Jp,Jq,Jr,Js,Jt] H R := by
 obtain ⟨ul1,ul2⟩ := uv_len s vs ks hl
 intro j
 induction j with
 | zero =>
  intro i H;intros;rename_i hi o1 o2 low len
  obtain rfl : i = vs.length := by omega
  rw [← ul1,List.take_length,ul1,List.drop_length,List.append_nil] at o1
  rw [← ul2,List.take_length,ul2,← hl,List.drop_length,List.append_nil,hl] at o2
  rw [ok_round,l99_0,L99_0a,L99_0b]
  simp
  exact hK H _ _ _ _ _ _ _ _ _ _ _ _ _ _ _ _ _ _ _ _ _ _ _ _ _ _ _ _ _ _ _ _ _ _ _ _ _ _ _ _ _ _ _ _ _ _ _ _ _ _ _ _ _ _ _ _ _ _ _ _ o1 o2 low len
 | succ j ih =>
  intro i H;intros;rename_i hi o1 o2 low len
  have hil : i < vs.length := by omega
  have hik : i < ks.length := by omega
  have hlt : (i : Int) < (vs.length : Int) := by omega
  have hw : IntKind.i64.wrap ((i : Int) + 1) = ((i + 1 : Nat) : Int) := wrapN (n := i + 1) (by omega)
  obtain ⟨i1,rfl,hb1⟩ := o1.ne_nil (by omega)
  obtain ⟨i2,rfl,hb2⟩ := o2.ne_nil (by omega)
  have n12 : i1 ≠ i2 := fun e => ne i1 (by simp [sid]) (by simp [sid,e])
  have f1 := fr i1 (.inl (by simp [sid]))
  have f2 := fr i2 (.inr (by simp [sid]))
  have hv0 := hv vs[i] (List.getElem_mem hil)
  have hu := fun (H : Heap) R => uns_c (h := H) (R := R) (v := vs[i]) (m := ks[i]) (s := s) (by omega) (by omega)
  obtain ⟨g1,g2⟩ := uv_get s vs ks hl hil
  have c1 : (i64s ((uv s vs ks).take i ++ vs.drop i))[i]? = some (.int .i64 vs[i]) := by unfold i64s; rw [List.getElem?_map,mix_get ul1 hil]; rfl
  have c2 : (i64s ((uk s vs ks).take i ++ ks.drop i))[i]? = some (.int .i64 ks[i]) := by unfold i64s; rw [List.getElem?_map,mix_get (by omega) hik]; rfl
  have s1 := i64s_set ((uv s vs ks).take i ++ vs.drop i) i (uv s vs ks)[i]
  have s2 := i64s_set ((uk s vs ks).take i ++ ks.drop i) i (uk s vs ks)[i]
  rw [mix_set ul1 hil,g1] at s1
  rw [mix_set (by omega) hik,g2] at s2
  have l1 : (i64s ((uv s vs ks).take i ++ vs.drop i)).length = vs.length := by rw [i64L,mix_len ul1 (by omega)]
  have l2 : (i64s ((uk s vs ks).take i ++ ks.drop i)).length = vs.length := by rw [i64L,mix_len (by omega) (by omega)]; omega
  have hXH : blk? H X = some ⟨false,[.int .i64 s]⟩ := by rw [low _ (blk?_lt hX)]; exact hX
  have li1 := blk?_lt hb1
  have li2 := blk?_lt hb2
  generalize hS1 : H.set i1 (some ⟨false,i64s ((uv s vs ks).take (i + 1) ++ vs.drop (i + 1))⟩) = H1
  have hb2' : blk? H1 i2 = some ⟨false,i64s ((uk s vs ks).take i ++ ks.drop i)⟩ := by rw [← hS1,blk?_set_ne n12]; exact hb2
  generalize hS2 : H1.set i2 (some ⟨false,i64s ((uk s vs ks).take (i + 1) ++ ks.drop (i + 1))⟩) = H2
  have ll1 : H1.length = H.length := by rw [← hS1]; simp
  have ll2 : H2.length = H.length := by rw [← hS2]; simp [ll1]
  have k2 : ∀ id,id ≠ i1 → id ≠ i2 → blk? H2 id = blk? H id := fun id h1 h2 => by rw [← hS2,blk?_set_ne (Ne.symm h2),← hS1,blk?_set_ne (Ne.symm h1)]
  have ih' := fun K0 K1 K2 K3 K4 K5 Kb Kc Kd Kg Kh Ki Kj Kk Kl Km Kn Ko Kp Kq Kr Ks Kt Ku Kv Kw Kz J0 J1 J2 J3 J4 J5 J6 J7 J8 J9 Ja Jb Jc Jd Je Jf Jg Jh Ji Jj Jk Jl Jm Jn Jo Jp Jq Jr Js Jt => ih (i + 1) H2 K0 K1 K2 K3 K4 K5 Kb Kc Kd Kg Kh Ki Kj Kk Kl Km Kn Ko Kp Kq Kr Ks Kt Ku Kv Kw Kz J0 J1 J2 J3 J4 J5 J6 J7 J8 J9 Ja Jb Jc Jd Je Jf Jg Jh Ji Jj Jk Jl Jm Jn Jo Jp Jq Jr Js Jt (by omega)
   ⟨by rw [i64L,mix_len ul1 (by omega)]; omega,.inr ⟨i1,by simp,by rw [← hS2,blk?_set_ne (Ne.symm n12),← hS1,blk?_set_eq li1]⟩⟩
   ⟨by rw [i64L,mix_len (by omega) (by omega)]; omega,.inr ⟨i2,by simp,by rw [← hS2,blk?_set_eq (by omega)]⟩⟩
   (fun id hid => by rw [k2 id (by omega) (by omega),low id hid]) (by omega)
  have d1 := get_of c1
  have d2 := get_of c2
  generalize i64s ((uv s vs ks).take i ++ vs.drop i) = C1 at *
  generalize i64s ((uk s vs ks).take i ++ ks.drop i) = C2 at *
  generalize i64s ((uv s vs ks).take (i + 1) ++ vs.drop (i + 1)) = E1 at *
  generalize i64s ((uk s vs ks).take (i + 1) ++ ks.drop (i + 1)) = E2 at *
  generalize ((i + 1 : Nat) : Int) = ii at *
  generalize (unsP vs[i] ks[i] s).1 = x1 at *
  generalize (unsP vs[i] ks[i] s).2 = x2 at *
  have t1 : i + 1 ≤ C1.length := by omega
  have t2 : i + 1 ≤ C2.length := by omega
  have t1' : i < C1.length := by omega
  have t2' : i < C2.length := by omega
  rw [ok_round,l99_0,L99_0a,L99_0b]
  simp [hlt,hb1,hb2,c1,c2,d1,d2,hXH,hu,t1,t2,t1',t2',s1,s2,hS1,hb2',hS2,hw]
  exact ih' ..
end
section
variable {h : Heap} {B : Nat} {cv pv dv : Value} {pl w hh o a b wt s : Int} {m : MD} {ps cs : List Int} {ds : List Nat}
theorem after_c (n : Nat) (c : CuB h B cv pv dv pl w hh o a b wt s m) (hp : Rk .i64 h pv ps) (hd : Rk .u8 h dv (ds.map Int.ofNat)) (hc : Rk .i64 h cv cs) (hds : ∀ x ∈ ds,x < 256) (hl : ps.length < 1000000) (hdl : ds.length < 1000000000) :
  Gives 99 [.int .i64 (n : Nat),ptr (B + 1),ptr (B + 2),ptr (B + 3),ptr (B + 4),ptr (B + 5),ptr (B + 9),ptr B,ptr (B + 6),ptr (B + 7),ptr (B + 8)] h (.tuple #[.int .i64 (aftP m pl ps ds w hh o cs a b wt s n).1,.int .i64 (aftP m pl ps ds w hh o cs a b wt s n).2]) := by
 refine Gives.mk fun R0 hR => ?_
 obtain ⟨v1,v2,H1,e1,V⟩ := decode_c (m := m) (pl := pl) (n := (n : Int)) (w := w) (hh := hh) (o := o) hp hd hds hl hdl
 obtain ⟨q1,q2,q3⟩ := decP_rng m pl ps ds (n : Int) w hh o
 obtain ⟨q4,_⟩ := decP_len m pl ps ds (n : Int) w hh o
 have c1 := c.keep V.low
 have hc1 : Rk .i64 H1 cv cs := hc.keep V.len fun id hid _ => V.low id hid
 have lo := V.low
 have le := V.len
 have o1 := V.o1
 have o2 := V.o2
 have fr := V.fr
 have ne := V.ne
 unfold aftP at hR
 clear V
 generalize decP m pl ps ds (n : Int) w hh o = r at *
 obtain ⟨r0,vs,ks⟩ := r
 simp only at e1 q1 q2 q3 q4 hR o1 o2
 simp only [MD.val] at e1
 obtain ⟨b0,b1,b2,b3,b4,b5,b6,b7,b8,b9⟩ := c
 obtain ⟨d0,d1,d2,d3,d4,d5,d6,d7,d8,d9⟩ := c1
 rw [enter99,show B99 = .seq (nthC 0 B99) (.seq (nthC 1 B99) (.seq (nthC 2 B99) (.seq (nthC 3 B99) (tlC 4 B99)))) from rfl]
 generalize hT : tlC 4 B99 = tl
 simp only [nthC,tlC,fstC,B99]
 by_cases h0 : r0 = 0
 case neg =>
  have h0' : (r0 != 0) = true := by simpa using h0
  rw [if_pos h0] at hR
  simp [b1,b2,b3,b4,b5,e1,h0',fin99]
  exact hR H1 lo le
 rw [if_neg (by simp [h0])] at hR
 subst h0
 obtain ⟨ul1,ul2⟩ := uv_len s vs ks q1
 obtain ⟨w1,w2⟩ := uv_wf s q1 q2 q3
 rw [q1] at o2
 have hL := fun K0 K1 K2 K3 K4 K5 Kb Kc Kd Kg Kh Ki Kj Kk Kl Km Kn Ko Kp Kq Kr Ks Kt Ku Kv Kw Kz J0 J1 J2 J3 J4 J5 J6 J7 J8 J9 Ja Jb Jc Jd Je Jf Jg Jh Ji Jj Jk Jl Jm Jn Jo Jp Jq Jr Js Jt => aft_loop (R := R0) (vs := vs) (ks := ks) (s := s) (p7 := ptr B) (p8 := ptr (B + 6)) (p9 := ptr (B + 7)) (pa := ptr (B + 8)) (K := [.code tl]) q1 q4 q2 (h0 := h) (X := B + 9) fr ne b9
  (fun H K0 K1 K2 K3 K4 K5 K6 Kb Kc Kd Kg Kh Ki Kj Kk Kl Km Kn Ko Kp Kq Kr Ks Kt Ku Kv Kw Kx Ky Kz J0 J1 J2 J3 J4 J5 J6 J7 J8 J9 Ja Jb Jc Jd Je Jf Jg Jh Ji Jj Jk Jl Jm Jn Jo Jp Jq Jr Js Jt O1 O2 low len => by
   have kH : ∀ {id : Nat} {bb : Blk},blk? h id = some bb → blk? H id = some bb := fun {id bb} hb => by rw [low _ (blk?_lt hb)]; exact hb
   have hcH : Rk .i64 H cv cs := hc.keep len fun id hid _ => low id hid
   have below_of : ∀ {v : Value} {N : Nat} {xs : List Value},OwnS H 1 v N xs → below H.length v = true := fun {v N xs} ho => by
    rcases ho.2 with ⟨rfl,_⟩ | ⟨id,rfl,hb⟩
    ·simp
    ·have := blk?_lt hb; simp; exact this
   have R1 : Rk .i64 H v1 (uv s vs ks) := Rk.own (by rw [ul1]; exact O1) (below_of O1) w1
   have R2 : Rk .i64 H v2 (uk s vs ks) := Rk.own (by rw [ul2]; exact O2) (below_of O2) w2
   have et := fun R => total_c (R := R) hcH R1 R2 (a := a) (b := b) (w := wt)
   have hR' := hR H low len
   rw [← hT]
   simp only [nthC,tlC,fstC,B99]
   generalize totRes a b wt cs (uv s vs ks) (uk s vs ks) = z at *
   simp [kH b0,kH b6,kH b7,kH b8,et,fin99]
   exact hR')
  vs.length 0 H1 K0 K1 K2 K3 K4 K5 Kb Kc Kd Kg Kh Ki Kj Kk Kl Km Kn Ko Kp Kq Kr Ks Kt Ku Kv Kw Kz J0 J1 J2 J3 J4 J5 J6 J7 J8 J9 Ja Jb Jc Jd Je Jf Jg Jh Ji Jj Jk Jl Jm Jn Jo Jp Jq Jr Js Jt (by omega) (by rw [List.take_zero,List.drop_zero]; exact o1) (by rw [List.take_zero,List.drop_zero]; exact o2) lo le
 obtain ⟨va,vc,hv1⟩ := o1.sl.shape
 simp only [Int.cast_ofNat_Int] at hL
 rw [hv1] at e1 hL
 simp [b1,b2,b3,b4,b5,e1]
 exact hL ..
end
structure CuI (hB H : Heap) (O : Nat) (rv ev : Value) (r d : List Int) : Prop where
 low : ∀ id,id < hB.length → id ≠ O → blk? H id = blk? hB id
 len : hB.length ≤ H.length
 out : blk? H O = some ⟨false,[rv,ev]⟩
 o1 : OwnS H 1 rv r.length (i64s r)
 o2 : OwnS H 1 ev d.length (i64s d)
 f1 : ∀ id,sid rv = some id → hB.length ≤ id
 f2 : ∀ id,sid ev = some id → hB.length ≤ id
 ne : ∀ id,sid rv = some id → sid ev ≠ some id
 ol : O < hB.length
theorem CuI.keep {hB H H' : Heap} {O : Nat} {rv ev : Value} {r d : List Int} (I : CuI hB H O rv ev r d) (hk : ∀ id,id < H.length → blk? H' id = blk? H id) (hl : H.length ≤ H'.length) : CuI hB H' O rv ev r d := by
 have := I.len
 exact ⟨fun id h1 h2 => by rw [hk id (by omega),I.low id h1 h2],by omega,by rw [hk _ (blk?_lt I.out)]; exact I.out,own_lv I.o1 fun id hid => hk id (I.o1.lt hid),own_lv I.o2 fun id hid => hk id (I.o2.lt hid),I.f1,I.f2,I.ne,I.ol⟩
theorem cu_app {H : Heap} {v : Value} {xs : List Int} (o : OwnS H 1 v xs.length (i64s xs)) (hl : xs.length < 100000) (x : Int) :
  ∃ H',appendV (H ++ [some ⟨false,[.int .i64 x]⟩]) 1 8 v (.slice (some ⟨H.length,0,none⟩) 1 1) = some (.slice (some ⟨H.length + 1,0,none⟩) (xs.length + 1) 1,H') ∧
   OwnS H' 1 (.slice (some ⟨H.length + 1,0,none⟩) (xs.length + 1) 1) (xs ++ [x]).length (i64s (xs ++ [x])) ∧ H'.length = H.length + 2 ∧ (∀ id,id < H.length → sid v ≠ some id → blk? H' id = blk? H id) := by
 have o' : OwnS (H ++ [some ⟨false,[.int .i64 x]⟩]) 1 v xs.length (i64s xs) := o.of_blk fun id hid hb => by rw [blk?_push_lt (blk?_lt hb)]; exact hb
 have ht : Sl (H ++ [some ⟨false,[.int .i64 x]⟩]) 1 (.slice (some ⟨H.length,0,none⟩) 1 1) 1 [.int .i64 x] := ⟨rfl,.inr ⟨H.length,0,rfl,.inr ⟨_,blk?_push_eq,by simp,by simp⟩⟩⟩
 obtain ⟨H',a,b,l,k⟩ := own_append (bytes := 8) o' ht (by unfold roomCells; omega) (by omega) (by omega)
 have hlen : (H ++ [some (⟨false,[.int .i64 x]⟩ : Blk)]).length = H.length + 1 := by simp
 rw [hlen] at a b l k
 refine ⟨H',a,⟨by simp [i64s],.inr ⟨H.length + 1,by simp,by rw [b]; simp [i64s]⟩⟩,l,fun id h1 h2 => by rw [k id (by omega) h2,blk?_push_lt h1]⟩
theorem CuI.step {hB H : Heap} {O : Nat} {rv ev : Value} {r d : List Int} (I : CuI hB H O rv ev r d) (hr : r.length < 100000) (hd : d.length < 100000) (x y : Int) :
  ∃ Ha Hb,appendV (H ++ [some ⟨false,[.int .i64 x]⟩]) 1 8 rv (.slice (some ⟨H.length,0,none⟩) 1 1) = some (.slice (some ⟨H.length + 1,0,none⟩) (r.length + 1) 1,Ha) ∧ blk? Ha O = some ⟨false,[rv,ev]⟩ ∧
   (Ha.set O (some ⟨false,[.slice (some ⟨H.length + 1,0,none⟩) (r.length + 1) 1,ev]⟩)).length = H.length + 2 ∧ blk? (Ha.set O (some ⟨false,[.slice (some ⟨H.length + 1,0,none⟩) (r.length + 1) 1,ev]⟩)) O = some ⟨false,[.slice (some ⟨H.length + 1,0,none⟩) (r.length + 1) 1,ev]⟩ ∧
   appendV (Ha.set O (some ⟨false,[.slice (some ⟨H.length + 1,0,none⟩) (r.length + 1) 1,ev]⟩) ++ [some ⟨false,[.int .i64 y]⟩]) 1 8 ev (.slice (some ⟨H.length + 2,0,none⟩) 1 1) = some (.slice (some ⟨H.length + 3,0,none⟩) (d.length + 1) 1,Hb) ∧ blk? Hb O = some ⟨false,[.slice (some ⟨H.length + 1,0,none⟩) (r.length + 1) 1,ev]⟩ ∧
   CuI hB (Hb.set O (some ⟨false,[.slice (some ⟨H.length + 1,0,none⟩) (r.length + 1) 1,.slice (some ⟨H.length + 3,0,none⟩) (d.length + 1) 1]⟩)) O (.slice (some ⟨H.length + 1,0,none⟩) (r.length + 1) 1) (.slice (some ⟨H.length + 3,0,none⟩) (d.length + 1) 1) (r ++ [x]) (d ++ [y]) := by
 obtain ⟨Ha,a1,oa,la,ka⟩ := cu_app I.o1 hr x
 have lO := blk?_lt I.out
 have hol := I.ol
 have hle := I.len
 have nO1 : sid rv ≠ some O := fun e => by have := I.f1 O e; omega
 have nO2 : sid ev ≠ some O := fun e => by have := I.f2 O e; omega
 have outA : blk? Ha O = some ⟨false,[rv,ev]⟩ := by rw [ka O lO nO1]; exact I.out
 generalize hS : Ha.set O (some ⟨false,[.slice (some ⟨H.length + 1,0,none⟩) (r.length + 1) 1,ev]⟩) = Hs
 have ls : Hs.length = H.length + 2 := by rw [← hS]; simp [la]
 have outS : blk? Hs O = some ⟨false,[.slice (some ⟨H.length + 1,0,none⟩) (r.length + 1) 1,ev]⟩ := by rw [← hS]; exact blk?_set_eq (by omega)
 have o2s : OwnS Hs 1 ev d.length (i64s d) := own_lv I.o2 fun id hid => by
  have := I.o2.lt hid
  rw [← hS,blk?_set_ne (fun e => nO2 (by rw [e]; exact hid)),ka id this (fun e => I.ne id e hid)]
 obtain ⟨Hb,a2,ob,lb,kb⟩ := cu_app o2s hd y
 rw [ls] at a2 ob lb kb
 have outB : blk? Hb O = some ⟨false,[.slice (some ⟨H.length + 1,0,none⟩) (r.length + 1) 1,ev]⟩ := by rw [kb O (by omega) nO2]; exact outS
 refine ⟨Ha,Hb,a1,outA,by rw [hS]; exact ls,by rw [hS]; exact outS,by rw [hS]; exact a2,outB,⟨fun id h1 h2 => ?_,by rw [List.length_set]; omega,blk?_set_eq (by omega),own_lv oa fun id hid => ?_,own_lv ob fun id hid => ?_,fun id hid => ?_,fun id hid => ?_,fun id hid => ?_,hol⟩⟩
 ·have e1 : sid rv ≠ some id := fun e => by have := I.f1 id e; omega
  have e2 : sid ev ≠ some id := fun e => by have := I.f2 id e; omega
  rw [blk?_set_ne (Ne.symm h2),kb id (by omega) e2,← hS,blk?_set_ne (Ne.symm h2),ka id (by omega) e1,I.low id h1 h2]
 ·simp [sid] at hid
  rw [blk?_set_ne (by omega),kb id (by omega) (fun e => by have := I.o2.lt e; omega),← hS,blk?_set_ne (by omega)]
 ·simp [sid] at hid
  rw [blk?_set_ne (by omega)]
 ·simp [sid] at hid; omega
 ·simp [sid] at hid; omega
 ·simp [sid] at hid ⊢; omega
section
variable {R : RP} {hB : Heap} {B O : Nat} {pv dv clo : Value} {pl : Int} {ps : List Int} {aft : Nat → Int × Int} {fin : Int × List Int × List Int} {K : List RItem}
theorem cuc_loop (hp : Rk .i64 hB pv ps) (hpO : sid pv ≠ some O) (b1 : blk? hB (B + 1) = some ⟨false,[.int .i64 pl,pv,dv]⟩) (n1 : B + 1 ≠ O) (b10 : blk? hB (B + 10) = some ⟨false,[.slice none 0 0,.slice none 0 0]⟩) (n10 : B + 10 ≠ O) (hl : ps.length < 90000)
  (hA : ∀ (n : Nat) (H : Heap),n ≤ ps.length → (∀ id,id < hB.length → id ≠ O → blk? H id = blk? hB id) → hB.length ≤ H.length → ∃ H',(∀ R : RP,callK clo [.int .i64 (n : Nat)] tab H R = R (.tuple #[.int .i64 (aft n).1,.int .i64 (aft n).2]) H') ∧ (∀ id,id < H.length → blk? H' id = blk? H id) ∧ H.length ≤ H'.length)
  (hK : ∀ (H : Heap) (rv ev : Value) (r d : List Int) (K0 K1 K2 K3 K4 K5 K6 K7 K8 K9 Ka Kb Kc Kd Ke Kf Kg Kh Ki Kj Kl Km Kn Ko Kp Kr Ks Kt Ku Kv Kw Kx Ky Kz J0 J1 J2 J3 J4 J5 J6 J7 J8 J9 Ja Jb Jc Jd Je Jf Jg Jh Ji Jj Jk Jl Jm Jn Jo Jp Jq Jr Js Jt Ju Jv Jw Jx Jy Jz Y0 Y1 Y2 Y3 Y4 Y5 Y6 Y7 Y8 Y9 Ya Yb Yc Yd Ye Yf Yg Yh Yi Yj Yk Yl Ym Yn Yo Yp Yq Yr Ys Yt Yu Yv Yw Yx Yy Yz Z0 Z1 Z2 Z3 Z4 : Value),CuI hB H O rv ev r d → fin = (0,r,d) → Ok tab R50 K #[K0,K1,K2,K3,K4,K5,K6,K7,K8,K9,Ka,Kb,Kc,Kd,Ke,Kf,Kg,Kh,Ki,Kj,ptr (B + 10),Kl,Km,Kn,Ko,Kp,ptr O,Kr,Ks,Kt,Ku,Kv,Kw,Kx,Ky,Kz,J0,J1,J2,J3,J4,J5,J6,J7,J8,J9,Ja,Jb,Jc,Jd,Je,Jf,Jg,Jh,Ji,Jj,Jk,Jl,Jm,Jn,Jo,Jp,Jq,Jr,Js,Jt,Ju,Jv,Jw,Jx,Jy,Jz,Y0,Y1,Y2,Y3,Y4,Y5,Y6,Y7,Y8,Y9,Ya,Yb,Yc,Yd,Ye,Yf,Yg,Yh,Yi,Yj,Yk,Yl,Ym,Yn,Yo,Yp,Yq,Yr,Ys,Yt,Yu,Yv,Yw,Yx,Yy,Yz,Z0,Z1,Z2,Z3,Z4] H R)
  (hE : ∀ (H : Heap) (e : Int),fin = (e,[],[]) → (∀ id,id < hB.length → id ≠ O → blk? H id = blk? hB id) → hB.length ≤ H.length → R (.tuple #[.agg #[.slice none 0 0,.slice none 0 0],.int .i64 e]) H) :
  ∀ (k n : Nat) (H : Heap) (rv ev : Value) (r d : List Int) (K0 K1 K2 K3 K4 K5 K6 K7 K8 K9 Ka Kc Kd Ke Kf Kg Kh Ki Kj Kl Km Kn Ko Kr Ks Kt Ku Kv Kw Kx Ky Kz J0 J1 J2 J3 J4 J5 J6 J7 J8 J9 Ja Jb Jc Jd Je Jf Jg Jh Ji Jj Jk Jl Jm Jn Jo Jp Jq Jr Js Jt Ju Jv Jw Jx Jy Jz Y0 Y1 Y2 Y3 Y4 Y7 Y8 Y9 Ya Yb Yc Yd Ye Yf Yg Yh Yi Yj Yk Yl Ym Yn Yo Yp Yq Yr Ys Yt Yu Yv Yw Yx Yy Yz Z0 Z1 Z2 Z3 Z4 : Value),n + k = ps.length + 1 → CuI hB H O rv ev r d → r.length = n → d.length = n → cLoop aft ps k n r d = fin →
   Ok tab R50 (.inLoop L50_0 :: .inBlock 0 :: K) #[K0,K1,K2,K3,K4,K5,K6,K7,K8,K9,Ka,ptr (B + 1),Kc,Kd,Ke,Kf,Kg,Kh,Ki,Kj,ptr (B + 10),Kl,Km,Kn,Ko,clo,ptr O,Kr,Ks,Kt,Ku,Kv,Kw,Kx,Ky,Kz,J0,J1,J2,J3,J4,J5,J6,J7,J8,J9,Ja,Jb,Jc,Jd,Je,Jf,Jg,Jh,Ji,Jj,Jk,Jl,Jm,Jn,Jo,Jp,Jq,Jr,Js,Jt,Ju,Jv,Jw,Jx,Jy,Jz,Y0,Y1,Y2,Y3,Y4,.int .i64 ((ps.length + 1 : Nat) : Int),.int .i64 (n : Nat),Y7,Y8,Y9,Ya,Yb,Yc,Yd,Ye,Yf,Yg,Yh,Yi,Yj,Yk,Yl,Ym,Yn,Yo,Yp,Yq,Yr,Ys,Yt,Yu,Yv,Yw,Yx,Yy,Yz,Z0,Z1,Z2,Z3,Z4] H R := by
 intro k
 induction k with
 | zero =>
  intro n H rv ev r d;intros;rename_i hn I hr hd hF
  obtain rfl : n = ps.length + 1 := by omega
  simp only [cLoop] at hF
  rw [ok_round,l50_0,L50_0a,L50_0b]
  simp [-Int.natCast_add]
  exact hK H rv ev r d _ _ _ _ _ _ _ _ _ _ _ _ _ _ _ _ _ _ _ _ _ _ _ _ _ _ _ _ _ _ _ _ _ _ _ _ _ _ _ _ _ _ _ _ _ _ _ _ _ _ _ _ _ _ _ _ _ _ _ _ _ _ _ _ _ _ _ _ _ _ _ _ _ _ _ _ _ _ _ _ _ _ _ _ _ _ _ _ _ _ _ _ _ _ _ _ _ _ _ _ _ _ _ _ _ _ _ _ _ _ _ I hF.symm
 | succ k ih =>
  intro n H rv ev r d;intros;rename_i hn I hr hd hF
  have hlt : (n : Int) < ((ps.length + 1 : Nat) : Int) := by omega
  have hw : IntKind.i64.wrap ((n : Int) + 1) = ((n + 1 : Nat) : Int) := wrapN (n := n + 1) (by omega)
  simp only [cLoop] at hF
  obtain ⟨H1,eA,k1,l1⟩ := hA n H (by omega) I.low I.len
  have I1 := I.keep k1 l1
  have hol := I.ol
  have hle := I1.len
  have lb1 := blk?_lt b1
  have lb10 := blk?_lt b10
  have d10 : blk? H1 (B + 10) = some ⟨false,[.slice none 0 0,.slice none 0 0]⟩ := by rw [I1.low _ lb10 n10]; exact b10
  have d1 : blk? H1 (B + 1) = some ⟨false,[.int .i64 pl,pv,dv]⟩ := by rw [I1.low _ lb1 n1]; exact b1
  obtain ⟨pa,pc,hpv⟩ := hp.sl.shape
  rw [ok_round,l50_0,L50_0a,show L50_0b = .seq (.cond (.tmp 79) .skip (.exit 0)) (.seq (.block 1 (.seq (nthC 0 (inB (nthC 1 L50_0b))) (.seq (nthC 1 (inB (nthC 1 L50_0b))) (.seq (nthC 2 (inB (nthC 1 L50_0b))) (.seq (nthC 3 (inB (nthC 1 L50_0b))) (.seq (nthC 4 (inB (nthC 1 L50_0b))) (tlC 5 (inB (nthC 1 L50_0b))))))))) (tlC 2 L50_0b)) from rfl]
  by_cases h0 : (aft n).2 = 0
  case neg =>
   have h0' : ((aft n).2 != 0) = true := by simpa using h0
   rw [if_pos h0] at hF
   have hR := hE H1 _ hF.symm I1.low I1.len
   have hset := set_same d10
   simp only [nthC,tlC,fstC,inB,L50_0b]
   simp [-Int.natCast_add,hlt,eA,h0',d10,hset,finishV,R50,allSome,resV]
   exact hR
  rw [if_neg (by simp [h0])] at hF
  have h0' : ((aft n).2 != 0) = false := by simpa using h0
  obtain ⟨Ha,Hb,a1,oa,ls,os,a2,ob,I2⟩ := I1.step (by omega) (by omega) (rateP ps n) (aft n).1
  have o1 := I1.out
  have ih' := fun K0 K1 K2 K3 K4 K5 K6 K7 K8 K9 Ka Kc Kd Ke Kf Kg Kh Ki Kj Kl Km Kn Ko Kr Ks Kt Ku Kv Kw Kx Ky Kz J0 J1 J2 J3 J4 J5 J6 J7 J8 J9 Ja Jb Jc Jd Je Jf Jg Jh Ji Jj Jk Jl Jm Jn Jo Jp Jq Jr Js Jt Ju Jv Jw Jx Jy Jz Y0 Y1 Y2 Y3 Y4 Y7 Y8 Y9 Ya Yb Yc Yd Ye Yf Yg Yh Yi Yj Yk Yl Ym Yn Yo Yp Yq Yr Ys Yt Yu Yv Yw Yx Yy Yz Z0 Z1 Z2 Z3 Z4 => ih (n + 1) _ _ _ _ _ K0 K1 K2 K3 K4 K5 K6 K7 K8 K9 Ka Kc Kd Ke Kf Kg Kh Ki Kj Kl Km Kn Ko Kr Ks Kt Ku Kv Kw Kx Ky Kz J0 J1 J2 J3 J4 J5 J6 J7 J8 J9 Ja Jb Jc Jd Je Jf Jg Jh Ji Jj Jk Jl Jm Jn Jo Jp Jq Jr Js Jt Ju Jv Jw Jx Jy Jz Y0 Y1 Y2 Y3 Y4 Y7 Y8 Y9 Ya Yb Yc Yd Ye Yf Yg Yh Yi Yj Yk Yl Ym Yn Yo Yp Yq Yr Ys Yt Yu Yv Yw Yx Yy Yz Z0 Z1 Z2 Z3 Z4 (by omega) I2 (by simp; omega) (by simp; omega) hF
  obtain ⟨ra,rc,hrv⟩ := I.o1.sl.shape
  obtain ⟨ea,ec,hev⟩ := I.o2.sl.shape
  have done : ∀ K0 K1 K2 K3 K4 K5 K6 K7 K8 K9 Ka Kc Kd Ke Kf Kg Kh Ki Kj Kl Km Kn Ko Kr Kt Kv Kw Kx Ky Kz J0 J1 J2 J3 J4 J5 J6 J7 J8 J9 Ja Jb Jc Jd Je Jf Jg Jh Ji Jj Jk Jl Jm Jn Jo Jp Jq Jr Js Jt Ju Jv Jw Jx Jy Jz Y0 Y1 Y2 Y3 Y4 Y7 Y8 Y9 Ya Yb Yc Yd Ye Yf Yg Yh Yi Yj Yk Yl Ym Yn Yo Yp Yq Yr Ys Yt Yu Yv Yw Yx Yy Yz Z0 Z1 Z2 Z3 Z4 : Value,Ok tab R50 (.code (tlC 5 (inB (nthC 1 L50_0b))) :: .inBlock 1 :: .code (tlC 2 L50_0b) :: .inLoop L50_0 :: .inBlock 0 :: K) #[K0,K1,K2,K3,K4,K5,K6,K7,K8,K9,Ka,ptr (B + 1),Kc,Kd,Ke,Kf,Kg,Kh,Ki,Kj,ptr (B + 10),Kl,Km,Kn,Ko,clo,ptr O,Kr,.int .i64 (aft n).1,Kt,.int .i64 (rateP ps n),Kv,Kw,Kx,Ky,Kz,J0,J1,J2,J3,J4,J5,J6,J7,J8,J9,Ja,Jb,Jc,Jd,Je,Jf,Jg,Jh,Ji,Jj,Jk,Jl,Jm,Jn,Jo,Jp,Jq,Jr,Js,Jt,Ju,Jv,Jw,Jx,Jy,Jz,Y0,Y1,Y2,Y3,Y4,.int .i64 ((ps.length + 1 : Nat) : Int),.int .i64 (n : Nat),Y7,Y8,Y9,Ya,Yb,Yc,Yd,Ye,Yf,Yg,Yh,Yi,Yj,Yk,Yl,Ym,Yn,Yo,Yp,Yq,Yr,Ys,Yt,Yu,Yv,Yw,Yx,Yy,Yz,Z0,Z1,Z2,Z3,Z4] H1 R := by
   intros
   generalize ((n + 1 : Nat) : Int) = ni at *
   generalize ((ps.length + 1 : Nat) : Int) = pi at *
   rw [hrv,hev] at o1 oa
   rw [hrv] at a1
   rw [hev] at a2 os ob ls
   simp only [nthC,tlC,fstC,inB,L50_0b]
   simp [-Int.natCast_add,o1,repL,a1,oa,ls,os,a2,ob,hw]
   exact ih' ..
  clear ih' ih
  generalize hpi : ((ps.length + 1 : Nat) : Int) = pi at *
  generalize tlC 5 (inB (nthC 1 L50_0b)) = tl5 at *
  generalize tlC 2 L50_0b = tl2 at *
  simp only [nthC,tlC,fstC,inB,L50_0b]
  cases n with
  | zero =>
   have hz : rateP ps 0 = 0 := rfl
   rw [hz] at done
   simp only [Int.cast_ofNat_Int] at eA hlt done
   simp [-Int.natCast_add,hlt,eA,h0']
   exact done ..
  | succ n =>
   have hz : rateP ps (n + 1) = ps[n]'(by omega) := by
    unfold rateP
    rw [if_neg (by omega),Nat.add_sub_cancel,List.getD_eq_getElem?_getD,List.getElem?_eq_getElem (by omega)]
    rfl
   have hp1 : Rk .i64 H1 pv ps := hp.keep I1.len fun id hid hs => I1.low id hid fun e => hpO (by rw [← e]; exact hs)
   obtain ⟨id,off,bb,epv,hb,hc⟩ := hp1.get (i := n) (by omega)
   have h1 : (0 : Int) < ((n + 1 : Nat) : Int) := by omega
   have w1 : IntKind.i64.wrap (((n + 1 : Nat) : Int) - 1) = (n : Int) := by rw [wrapI (by omega) (by omega)]; omega
   have hnl : (n : Int) < (ps.length : Int) := by omega
   rw [hz] at done
   rw [epv] at d1
   generalize ((n + 1 : Nat) : Int) = nn at *
   simp [-Int.natCast_add,hlt,eA,h0',h1,d1,w1,hnl,hb,hc]
   exact done ..
end
section
variable {h : Heap} {cv pv dv : Value} {pl w hh o a b wt s : Int} {m : MD} {ps cs : List Int} {ds : List Nat}
theorem curve_c (hp : Rk .i64 h pv ps) (hd : Rk .u8 h dv (ds.map Int.ofNat)) (hc : Rk .i64 h cv cs) (hds : ∀ x ∈ ds,x < 256) (hl : ps.length < 90000) (hdl : ds.length < 1000000000) :
  ∃ v1 v2 h',(∀ R : RP,Ret tab 50 [cv,.agg #[.int .i64 pl,pv,dv],.int .i64 w,.int .i64 hh,.int .i64 o,m.val,.int .i64 a,.int .i64 b,.int .i64 wt,.int .i64 s] h R = R (.tuple #[.agg #[v1,v2],.int .i64 (curP m pl ps ds w hh o cs a b wt s).1]) h') ∧ VOut h h' v1 v2 (curP m pl ps ds w hh o cs a b wt s) := by
 have key : ∀ R0 : RP,(∀ v1 v2 h',VOut h h' v1 v2 (curP m pl ps ds w hh o cs a b wt s) → R0 (.tuple #[.agg #[v1,v2],.int .i64 (curP m pl ps ds w hh o cs a b wt s).1]) h') → Ret tab 50 [cv,.agg #[.int .i64 pl,pv,dv],.int .i64 w,.int .i64 hh,.int .i64 o,m.val,.int .i64 a,.int .i64 b,.int .i64 wt,.int .i64 s] h R0 := by
  intro R0 hR
  generalize hH : h ++ [some (⟨false,[cv]⟩ : Blk),some ⟨false,[.int .i64 pl,pv,dv]⟩,some ⟨false,[.int .i64 w]⟩,some ⟨false,[.int .i64 hh]⟩,some ⟨false,[.int .i64 o]⟩,some ⟨false,[.bool m.byp,.bool m.res,.bool m.rst,.bool m.cz,.bool m.sy]⟩,some ⟨false,[.int .i64 a]⟩,some ⟨false,[.int .i64 b]⟩,some ⟨false,[.int .i64 wt]⟩,some ⟨false,[.int .i64 s]⟩,some ⟨false,[.slice none 0 0,.slice none 0 0]⟩] = H
  have lH : H.length = h.length + 11 := by rw [← hH]; simp
  have kH : ∀ id,id < h.length → blk? H id = blk? h id := fun id hid => by rw [← hH]; exact app_lt hid
  have C0 : CuB H h.length cv pv dv pl w hh o a b wt s m := ⟨by rw [← hH,app_len]; rfl,by rw [← hH,app_add]; rfl,by rw [← hH,app_add]; rfl,by rw [← hH,app_add]; rfl,by rw [← hH,app_add]; rfl,by rw [← hH,app_add]; rfl,by rw [← hH,app_add]; rfl,by rw [← hH,app_add]; rfl,by rw [← hH,app_add]; rfl,by rw [← hH,app_add]; rfl⟩
  have b10 : blk? H (h.length + 10) = some ⟨false,[.slice none 0 0,.slice none 0 0]⟩ := by rw [← hH,app_add]; rfl
  have hpH : Rk .i64 H pv ps := by rw [← hH]; exact hp.push _
  have hdH : Rk .u8 H dv (ds.map Int.ofNat) := by rw [← hH]; exact hd.push _
  have hcH : Rk .i64 H cv cs := by rw [← hH]; exact hc.push _
  obtain ⟨v1,v2,H1,e1,V⟩ := decode_c (m := m) (pl := pl) (n := 0) (w := w) (hh := hh) (o := o) hpH hdH hds (by omega) hdl
  have lo := V.low
  have le := V.len
  clear V
  have C1 := C0.keep lo
  have d10 : blk? H1 (h.length + 10) = some ⟨false,[.slice none 0 0,.slice none 0 0]⟩ := by rw [lo _ (by omega)]; exact b10
  have hset := set_same d10
  have hp1 : Rk .i64 H1 pv ps := hpH.keep le fun id hid _ => lo id hid
  have hd1 : Rk .u8 H1 dv (ds.map Int.ofNat) := hdH.keep le fun id hid _ => lo id hid
  have hc1 : Rk .i64 H1 cv cs := hcH.keep le fun id hid _ => lo id hid
  have bad : ∀ e,curP m pl ps ds w hh o cs a b wt s = (e,[],[]) → R0 (.tuple #[.agg #[.slice none 0 0,.slice none 0 0],.int .i64 e]) H1 := fun e he => by
   rw [he] at hR
   exact hR _ _ _ (VOut.bad (fun id hid => by rw [lo id (by omega),kH id hid]) (by omega) e)
  obtain ⟨ca,cc,hcv⟩ := hc.sl.shape
  obtain ⟨pa,pc,hpv⟩ := hp.sl.shape
  have hvc : Sim.isVar cv = true := by rw [hcv]; rfl
  have hcc : cv.cells = #[cv] := by rw [hcv]; rfl
  have hchk : (decP m pl ps ds 0 w hh o).1 = 0 → 1 ≤ w ∧ w ≤ 64 ∧ 1 ≤ hh ∧ hh ≤ 64 := by
   intro h0
   unfold decP at h0
   split at h0
   ·rename_i hx; exact absurd h0 hx
   ·rename_i hx
    have hx : checkP pl ps (ds.map Int.ofNat) 0 w hh o = 0 := by simpa using hx
    obtain ⟨_,_,_,w1,w2,h1,h2,_⟩ := check_ok hx
    exact ⟨w1,w2,h1,h2⟩
  unfold curP at hR bad
  generalize hX : (decP m pl ps ds 0 w hh o).1 = X at *
  simp only [MD.val] at e1
  rw [enter50,show B50 = .seq (nthC 0 B50) (.seq (nthC 1 B50) (.seq (nthC 2 B50) (.seq (nthC 3 B50) (.seq (nthC 4 B50) (.seq (nthC 5 B50) (.seq (nthC 6 B50) (tlC 7 B50))))))) from rfl]
  generalize hT : tlC 7 B50 = tl7
  simp only [nthC,tlC,fstC,B50]
  obtain ⟨b0,b1,b2,b3,b4,b5,b6,b7,b8,b9⟩ := C0
  have C1' := C1
  obtain ⟨c0,c1,c2,c3,c4,c5,c6,c7,c8,c9⟩ := C1'
  by_cases hx0 : X = 0
  case neg =>
   have hx0' : (X != 0) = true := by simpa using hx0
   have hR' := bad X (by rw [if_pos hx0])
   simp [MD.val,hvc,hcc,hH,b1,b2,b3,b4,b5,e1,hx0',d10,hset,finishV,R50,allSome,resV]
   exact hR'
  have hx0' : (X != 0) = false := by simpa using hx0
  obtain ⟨w1,w2,h1,h2⟩ := hchk hx0
  rw [if_neg (by simp [hx0])] at hR bad
  obtain ⟨m1,m2⟩ := mul_le_int (a := w) (b := hh) (c := 64) (d := 64) (by omega) (by omega) (by omega) (by omega)
  have hwr : IntKind.i64.wrap (w * hh) = w * hh := wrapI (by omega) (by omega)
  rw [hcv] at c0
  by_cases hlen : (cs.length : Int) = w * hh
  case neg =>
   have hlen' : ((cs.length : Int) != w * hh) = true := by simpa using hlen
   have hR' := bad 4 (by rw [if_pos hlen])
   simp [MD.val,hvc,hcc,hH,b1,b2,b3,b4,b5,e1,hx0',c0,c2,c3,hwr,hlen',d10,hset,finishV,R50,allSome,resV]
   exact hR'
  have hlen' : ((cs.length : Int) != w * hh) = false := by simpa using hlen
  rw [if_neg (by simp [hlen])] at hR bad
  have hq := fun H R => qvalid_c (h := H) (R := R) (a := a) (b := b)
  by_cases hqo : QOk a b
  rotate_left
  ·have hR' := bad 2 (by rw [if_pos (.inl hqo)])
   simp [MD.val,hvc,hcc,k_guard,k_guardU,hH,b1,b2,b3,b4,b5,e1,hx0',c0,c2,c3,hwr,hlen',c6,c7,hq,hqo,d10,hset,finishV,R50,allSome,resV]
   exact hR'
  by_cases q1 : wt < 0
  ·have hR' := bad 2 (by rw [if_pos (.inr (.inl q1))])
   simp [MD.val,hvc,hcc,k_guard,k_guardU,hH,b1,b2,b3,b4,b5,e1,hx0',c0,c2,c3,hwr,hlen',c6,c7,c8,hq,hqo,q1,d10,hset,finishV,R50,allSome,resV]
   exact hR'
  by_cases q2 : 16 < wt
  ·have hR' := bad 2 (by rw [if_pos (.inr (.inr (.inl q2)))])
   simp [MD.val,hvc,hcc,k_guard,k_guardU,hH,b1,b2,b3,b4,b5,e1,hx0',c0,c2,c3,hwr,hlen',c6,c7,c8,hq,hqo,q1,q2,d10,hset,finishV,R50,allSome,resV]
   exact hR'
  by_cases q3 : s < 0
  ·have hR' := bad 2 (by rw [if_pos (.inr (.inr (.inr (.inl q3))))])
   simp [MD.val,hvc,hcc,k_guard,k_guardU,hH,b1,b2,b3,b4,b5,e1,hx0',c0,c2,c3,hwr,hlen',c6,c7,c8,c9,hq,hqo,q1,q2,q3,d10,hset,finishV,R50,allSome,resV]
   exact hR'
  by_cases q4 : 30 < s
  ·have hR' := bad 2 (by rw [if_pos (.inr (.inr (.inr (.inr q4))))])
   simp [MD.val,hvc,hcc,k_guard,k_guardU,hH,b1,b2,b3,b4,b5,e1,hx0',c0,c2,c3,hwr,hlen',c6,c7,c8,c9,hq,hqo,q1,q2,q3,q4,d10,hset,finishV,R50,allSome,resV]
   exact hR'
  rw [if_neg (by intro hz; rcases hz with hz | hz | hz | hz | hz; exact hz hqo; exact q1 hz; exact q2 hz; exact q3 hz; exact q4 hz)] at hR bad
  generalize hF : cLoop (aftP m pl ps ds w hh o cs a b wt s) ps (ps.length + 1) 0 [] [] = F at *
  generalize hB : H1 ++ [some (⟨false,[.slice none 0 0,.slice none 0 0]⟩ : Blk)] = HB
  have lB : HB.length = H1.length + 1 := by rw [← hB]; simp
  have kB : ∀ id,id < H1.length → blk? HB id = blk? H1 id := fun id hid => by rw [← hB]; exact blk?_push_lt hid
  have CB := C1.keep (h' := HB) kB
  have hpB : Rk .i64 HB pv ps := hp1.keep (by omega) fun id hid _ => kB id hid
  have hdB : Rk .u8 HB dv (ds.map Int.ofNat) := hd1.keep (by omega) fun id hid _ => kB id hid
  have hcB : Rk .i64 HB cv cs := hc1.keep (by omega) fun id hid _ => kB id hid
  have bO : blk? HB H1.length = some ⟨false,[.slice none 0 0,.slice none 0 0]⟩ := by rw [← hB]; exact blk?_push_eq
  have hL := fun K0 K1 K2 K3 K4 K5 K6 K7 K8 K9 Ka Kc Kd Ke Kf Kg Kh Ki Kj Kl Km Kn Ko Kr Ks Kt Ku Kv Kw Kx Ky Kz J0 J1 J2 J3 J4 J5 J6 J7 J8 J9 Ja Jb Jc Jd Je Jf Jg Jh Ji Jj Jk Jl Jm Jn Jo Jp Jq Jr Js Jt Ju Jv Jw Jx Jy Jz Y0 Y1 Y2 Y3 Y4 Y7 Y8 Y9 Ya Yb Yc Yd Ye Yf Yg Yh Yi Yj Yk Yl Ym Yn Yo Yp Yq Yr Ys Yt Yu Yv Yw Yx Yy Yz Z0 Z1 Z2 Z3 Z4 => cuc_loop (R := R0) (hB := HB) (B := h.length) (O := H1.length) (pv := pv) (dv := dv) (pl := pl) (ps := ps) (aft := aftP m pl ps ds w hh o cs a b wt s) (fin := F) (K := [.code tl7])
   (clo := .func (.func 99) #[] #[ptr (h.length + 1),ptr (h.length + 2),ptr (h.length + 3),ptr (h.length + 4),ptr (h.length + 5),ptr (h.length + 9),ptr h.length,ptr (h.length + 6),ptr (h.length + 7),ptr (h.length + 8)])
   hpB (fun e => by have := hp1.lt e; omega) CB.b1 (by omega) (by rw [kB _ (by omega)]; exact d10) (by omega) (by omega)
   (fun n G hn low len => by
    have CG : CuB G h.length cv pv dv pl w hh o a b wt s m := ⟨by rw [low _ (by omega) (by omega)]; exact CB.b0,by rw [low _ (by omega) (by omega)]; exact CB.b1,by rw [low _ (by omega) (by omega)]; exact CB.b2,by rw [low _ (by omega) (by omega)]; exact CB.b3,by rw [low _ (by omega) (by omega)]; exact CB.b4,by rw [low _ (by omega) (by omega)]; exact CB.b5,by rw [low _ (by omega) (by omega)]; exact CB.b6,by rw [low _ (by omega) (by omega)]; exact CB.b7,by rw [low _ (by omega) (by omega)]; exact CB.b8,by rw [low _ (by omega) (by omega)]; exact CB.b9⟩
    have keepR : ∀ {k : IntKind} {v : Value} {xs : List Int},Rk k H1 v xs → Rk k HB v xs → Rk k G v xs := fun {k v xs} r1 rB => rB.keep len fun id hid hs => low id hid (by have := r1.lt hs; omega)
    obtain ⟨G',eG,kG,lG⟩ := after_c n CG (keepR hp1 hpB) (keepR hd1 hdB) (keepR hc1 hcB) hds (by omega) hdl
    exact ⟨G',fun R => by simpa using eG R,kG,lG⟩)
   (fun G rv ev r d K0 K1 K2 K3 K4 K5 K6 K7 K8 K9 Ka Kb Kc Kd Ke Kf Kg Kh Ki Kj Kl Km Kn Ko Kp Kr Ks Kt Ku Kv Kw Kx Ky Kz J0 J1 J2 J3 J4 J5 J6 J7 J8 J9 Ja Jb Jc Jd Je Jf Jg Jh Ji Jj Jk Jl Jm Jn Jo Jp Jq Jr Js Jt Ju Jv Jw Jx Jy Jz Y0 Y1 Y2 Y3 Y4 Y5 Y6 Y7 Y8 Y9 Ya Yb Yc Yd Ye Yf Yg Yh Yi Yj Yk Yl Ym Yn Yo Yp Yq Yr Ys Yt Yu Yv Yw Yx Yy Yz Z0 Z1 Z2 Z3 Z4 I hFe => by
    have g10 : blk? G (h.length + 10) = some ⟨false,[.slice none 0 0,.slice none 0 0]⟩ := by rw [I.low _ (by omega) (by omega),kB _ (by omega)]; exact d10
    have gO := I.out
    have lG := I.len
    generalize hS : G.set (h.length + 10) (some ⟨false,[rv,ev]⟩) = G'
    have g10' : blk? G' (h.length + 10) = some ⟨false,[rv,ev]⟩ := by rw [← hS]; exact blk?_set_eq (by omega)
    have lG' : G'.length = G.length := by rw [← hS]; simp
    have nS : ∀ id,id ≠ h.length + 10 → blk? G' id = blk? G id := fun id hid => by rw [← hS]; exact blk?_set_ne (by omega)
    rw [hFe] at hR
    have hR' := hR rv ev G' ⟨own_lv I.o1 fun id hid => nS id (by have := I.f1 id hid; omega),own_lv I.o2 fun id hid => nS id (by have := I.f2 id hid; omega),fun id hid => by rw [nS id (by omega),I.low id (by omega) (by omega),kB id (by omega),lo id (by omega),kH id hid],by omega,fun id hid => by rcases hid with hid | hid; (have := I.f1 id hid; omega); (have := I.f2 id hid; omega),I.ne⟩
    rw [← hT]
    simp only [nthC,tlC,fstC,B50]
    simp [g10,gO,hS,g10',finishV,R50,allSome,resV]
    exact hR')
   (fun G e hFe low len => by
    rw [hFe] at hR
    exact hR _ _ _ (VOut.bad (fun id hid => by rw [low id (by omega) (by omega),kB id (by omega),lo id (by omega),kH id hid]) (by omega) e))
   (ps.length + 1) 0 HB (.slice none 0 0) (.slice none 0 0) [] [] K0 K1 K2 K3 K4 K5 K6 K7 K8 K9 Ka Kc Kd Ke Kf Kg Kh Ki Kj Kl Km Kn Ko Kr Ks Kt Ku Kv Kw Kx Ky Kz J0 J1 J2 J3 J4 J5 J6 J7 J8 J9 Ja Jb Jc Jd Je Jf Jg Jh Ji Jj Jk Jl Jm Jn Jo Jp Jq Jr Js Jt Ju Jv Jw Jx Jy Jz Y0 Y1 Y2 Y3 Y4 Y7 Y8 Y9 Ya Yb Yc Yd Ye Yf Yg Yh Yi Yj Yk Yl Ym Yn Yo Yp Yq Yr Ys Yt Yu Yv Yw Yx Yy Yz Z0 Z1 Z2 Z3 Z4 (by omega)
   ⟨fun id _ _ => rfl,Nat.le_refl _,bO,OwnS.nil _ _,OwnS.nil _ _,fun id hid => by simp [sid] at hid,fun id hid => by simp [sid] at hid,fun id hid => by simp [sid] at hid,by omega⟩ rfl rfl hF
  have hwl : IntKind.i64.wrap ((ps.length : Int) + 1) = ((ps.length + 1 : Nat) : Int) := wrapN (n := ps.length + 1) (by omega)
  generalize ((ps.length + 1 : Nat) : Int) = pi at *
  simp only [Int.cast_ofNat_Int] at hL
  have f1 := CB.b1
  rw [hpv] at f1
  simp [MD.val,hvc,hcc,k_guard,k_guardU,hH,b1,b2,b3,b4,b5,e1,hx0',c0,c2,c3,hwr,hlen',c6,c7,c8,c9,hq,hqo,q1,q2,q3,q4,hB,f1,hwl]
  exact hL ..
 obtain ⟨v,h',e,v1,v2,rfl,V⟩ := ret_ex (key (fun v h' => ∃ v1 v2,v = .tuple #[.agg #[v1,v2],.int .i64 (curP m pl ps ds w hh o cs a b wt s).1] ∧ VOut h h' v1 v2 (curP m pl ps ds w hh o cs a b wt s)) fun v1 v2 h' V => ⟨v1,v2,rfl,V⟩)
 exact ⟨v1,v2,h',e,V⟩
end
section
variable {h : Heap} {R : RP} {e pb lb : Nat} {a : AE}
theorem adapt_x {x b : Nat} (hx : POk x) (hb : b < 2) : Ret tab 131 [.int .i64 (x : Nat),.int .i64 (b : Nat)] h R = R (.int .i64 (adaptP x b : Nat)) h := by
 obtain ⟨h1,h2⟩ := hx
 have n1 : ¬ ((x : Int) < 0) := by omega
 have n2 : ¬ ((4096 : Int) < x) := by omega
 rw [enter131,B131]
 unfold adaptP
 by_cases hb0 : b = 0
 ·subst hb0
  have w1 : IntKind.i64.wrap (4096 - (x : Int)) = 4096 - (x : Int) := wrapI (by omega) (by omega)
  have d : (4096 - (x : Int)).tdiv 32 = (4096 - (x : Int)) / 32 := Int.tdiv_eq_ediv_of_nonneg (by omega)
  have w2 : IntKind.i64.wrap ((4096 - (x : Int)) / 32) = (4096 - (x : Int)) / 32 := wrapI (by omega) (by omega)
  have w3 : IntKind.i64.wrap ((x : Int) + (4096 - (x : Int)) / 32) = ((x + (4096 - x) / 32 : Nat) : Int) := by rw [wrapI (by omega) (by omega)]; omega
  rw [if_pos rfl]
  generalize ((x + (4096 - x) / 32 : Nat) : Int) = y at *
  simp [k_guard,n1,n2,w1,d,w2,w3,fin131]
 ·obtain rfl : b = 1 := by omega
  have d : ((x : Int)).tdiv 32 = (x : Int) / 32 := Int.tdiv_eq_ediv_of_nonneg (by omega)
  have w2 : IntKind.i64.wrap ((x : Int) / 32) = (x : Int) / 32 := wrapI (by omega) (by omega)
  have w3 : IntKind.i64.wrap ((x : Int) - (x : Int) / 32) = ((x - x / 32 : Nat) : Int) := by rw [wrapI (by omega) (by omega)]; omega
  rw [if_neg (by omega)]
  generalize ((x - x / 32 : Nat) : Int) = y at *
  simp [k_guard,n1,n2,d,w2,w3,fin131]
end
section
variable {h : Heap} {R : RP} {e pb lb : Nat} {a : AE}
end
section
variable {h : Heap} {R : RP} {e pb lb : Nat} {a : AE}
end
section
variable {h : Heap} {R : RP} {e pb lb : Nat} {a : AE}
end
section
variable {h : Heap} {R : RP} {e pb lb : Nat} {a : AE}
theorem init_loop {h0 : Heap} {n : Nat} (hn : n ≤ 1000) {K : List RItem}
  (hk : ∀ (H : Heap) (v : Value) (K0 K1 K2 K4 K5 K6 K7 K8 K9 Ka Kb Kc Kd Ke : Value),OwnS H 1 v n (nI (List.replicate n 2048)) → (∀ id,sid v = some id → h0.length ≤ id) → (∀ id,id < h0.length → blk? H id = blk? h0 id) → h0.length ≤ H.length → Ok tab R88 K #[K0,K1,K2,v,K4,K5,K6,K7,K8,K9,Ka,Kb,Kc,Kd,Ke] H R) :
  ∀ (d i : Nat) (H : Heap) (v : Value) (K1 K2 K5 K6 K7 K8 K9 Ka Kb Kc Kd Ke : Value),i + d = n → OwnS H 1 v i (nI (List.replicate i 2048)) → (∀ id,sid v = some id → h0.length ≤ id) → (∀ id,id < h0.length → blk? H id = blk? h0 id) → h0.length ≤ H.length →
   Ok tab R88 (.inLoop L88_0 :: .inBlock 0 :: K) #[.int .i64 (n : Nat),K1,K2,v,.int .i64 (i : Nat),K5,K6,K7,K8,K9,Ka,Kb,Kc,Kd,Ke] H R := by
 intro d
 induction d with
 | zero =>
  intro i H v;intros;rename_i hi ho hf hs hl
  obtain rfl : i = n := by omega
  rw [ok_round,l88_0,L88_0a,L88_0b]
  simp
  exact hk H v _ _ _ _ _ _ _ _ _ _ _ _ _ _ ho hf hs hl
 | succ d ih =>
  intro i H v;intros;rename_i hi ho hf hs hl
  have hlt : (i : Int) < (n : Int) := by omega
  obtain ⟨H1,ha,hb1,hlen1,hk1⟩ := app1v (v := .int .i64 2048) (bytes := 8) ho (by unfold roomCells; omega) (by omega)
  have hw : IntKind.i64.wrap ((i : Int) + 1) = ((i + 1 : Nat) : Int) := wrapN (n := i + 1) (by omega)
  have e : nI (List.replicate i 2048) ++ [.int .i64 2048] = nI (List.replicate (i + 1) 2048) := by rw [List.replicate_succ',nI,nI,List.map_append]; rfl
  rw [e] at hb1
  have ih' := fun K1 K2 K5 K6 K7 K8 K9 Ka Kb Kc Kd Ke => ih (i + 1) H1 (.slice (some ⟨H.length + 1,0,none⟩) (i + 1) 1) K1 K2 K5 K6 K7 K8 K9 Ka Kb Kc Kd Ke (by omega) ⟨by simp [nI],.inr ⟨_,rfl,hb1⟩⟩ (fun id hid => by simp [sid] at hid; omega) (fun id hid => by
   rw [hk1 id (by omega) (fun x => by have := hf id x; omega),hs id hid]) (by omega)
  generalize ((i + 1 : Nat) : Int) = i1 at *
  rw [ok_round,l88_0,L88_0a,L88_0b]
  simp [repL,hlt,ha,hw]
  exact ih' ..
theorem initial_x {n : Nat} (hn : n ≤ 1000) :
  ∃ v h',(∀ R,Ret tab 88 [.int .i64 (n : Nat)] h R = R v h') ∧ OwnS h' 1 v n (nI (AE.base n)) ∧ (∀ id,sid v = some id → h.length ≤ id) ∧ (∀ id,id < h.length → blk? h' id = blk? h id) ∧ h.length ≤ h'.length := by
 have key : Ret tab 88 [.int .i64 (n : Nat)] h fun v h' => OwnS h' 1 v n (nI (AE.base n)) ∧ (∀ id,sid v = some id → h.length ≤ id) ∧ (∀ id,id < h.length → blk? h' id = blk? h id) ∧ h.length ≤ h'.length := by
  have L := fun K1 K2 K5 K6 K7 K8 K9 Ka Kb Kc Kd Ke => init_loop (R := fun v h' => OwnS h' 1 v n (nI (AE.base n)) ∧ (∀ id,sid v = some id → h.length ≤ id) ∧ (∀ id,id < h.length → blk? h' id = blk? h id) ∧ h.length ≤ h'.length) (h0 := h) hn (K := [.code (tlC 3 B88)])
   (fun H v K0 K1 K2 K4 K5 K6 K7 K8 K9 Ka Kb Kc Kd Ke a b c d => by
    simp only [nthC,tlC,fstC,B88]
    simp [fin88]
    exact ⟨a,b,c,d⟩) n 0 (h ++ [some ⟨false,[]⟩]) (.slice (some ⟨h.length,0,none⟩) 0 1) K1 K2 K5 K6 K7 K8 K9 Ka Kb Kc Kd Ke (by omega) ⟨rfl,.inr ⟨h.length,rfl,blk?_push_eq⟩⟩ (fun id hid => by simp [sid] at hid; omega) (fun id hid => blk?_push_lt hid) (by simp)
  rw [enter88,show B88 = .seq (nthC 0 B88) (.seq (nthC 1 B88) (.seq (nthC 2 B88) (tlC 3 B88))) from rfl]
  generalize hT : tlC 3 B88 = tl at *
  simp only [nthC,tlC,fstC,B88]
  simp [repL]
  exact L ..
 obtain ⟨v,h',ee,a,b,c,d⟩ := ret_ex key
 exact ⟨v,h',ee,a,b,c,d⟩
end
theorem start_min (p D : List Nat) : min ((val (pad D 4) : Nat) : Int) 4294967294 = ((AD.start p D).value : Nat) := by
 have e : (AD.start p D).value = min (val (pad D 4)) 4294967294 := rfl
 rw [e]
 generalize val (pad D 4) = v
 omega
section
variable {h : Heap} {R : RP} {d pb n value size : Nat} {dv : Value} {D p : List Nat} {st : Bool} {a : AD}
theorem znext (I : DP h d pb dv D n p value size st) (hD : Dig D) (hl : D.length < 1000000000) (hn : n < 900000000) :
  ∀ R : RP,Ret tab 116 [ptr d] h R = R (.int .i64 ((D.drop n).headD 0 : Nat)) (h.set d (some ⟨false,[.slice (some ⟨pb,0,none⟩) p.length 1,dv,.int .i64 ((n + 1 : Nat) : Int),.int .i64 (value : Nat),.int .i64 (size : Nat),.bool st]⟩)) := by
 intro R
 have hb := I.blk
 obtain ⟨da,dc,hdv⟩ := I.own.sl.shape
 have w1 : IntKind.i64.wrap ((n : Int) + 1) = ((n + 1 : Nat) : Int) := wrapN (n := n + 1) (by omega)
 have hs : ∀ x,blk? (h.set d x) d = x := fun x => blk?_set_eq (blk?_lt hb)
 by_cases hn : n < D.length
 ·obtain ⟨id,off,b,e,hbk,hc⟩ := I.own.sl.get hn
  have hc0 := hc 0 (by omega)
  rw [Nat.mul_one,Nat.add_zero,Nat.add_zero,nU_get hn] at hc0
  have hgd : D.getD n 0 = (D.drop n).headD 0 := by
   rw [List.drop_eq_getElem_cons hn]; simp [hn]
  rw [hgd] at hc0
  have hx : (D.drop n).headD 0 < 256 := headD_dig (hD.drop n)
  generalize (D.drop n).headD 0 = x at *
  have hle : ¬ ((D.length : Int) < ((n + 1 : Nat) : Int)) := by omega
  have hltn : (n : Int) < (D.length : Int) := by omega
  have w2 : IntKind.i64.wrap (((n + 1 : Nat) : Int) - 1) = (n : Int) := by rw [wrapI (by omega) (by omega)]; omega
  have w3 : IntKind.i64.wrap (x : Int) = (x : Int) := wrapN (by omega)
  have hne : id ≠ d := fun x => I.ne2 (by rw [e]; simp [sid,x])
  have hs2 : ∀ x,blk? (h.set d x) id = some b := fun x => by rw [blk?_set_ne (Ne.symm hne)]; exact hbk
  generalize ((n + 1 : Nat) : Int) = n1 at *
  rw [e] at hb ⊢
  rw [enter116,B116]
  simp [hb,hle,w1,hs,w2,hltn,hn,hs2,hc0,w3,fin116]
 ·have hdr : D.drop n = [] := List.drop_eq_nil_of_le (by omega)
  rw [hdr]
  have hle : ((D.length : Int) < ((n + 1 : Nat) : Int)) := by omega
  generalize ((n + 1 : Nat) : Int) = n1 at *
  rw [hdv] at hb ⊢
  rw [enter116,B116]
  simp [hb,hle,w1,hs,fin116]
theorem zstart_loop {k : List RItem} (hD : Dig D) (hl : D.length < 1000000000)
  (hk : ∀ (h' : Heap) (K1 K2 K3 K4 K5 K6 K7 K8 K9 Ka Kb Kc Kd Ke Kf Kg Kh Ki Kj Kk Kl Km Kn Ko Kp Kq Kr Ks Kt Ku Kv Kw Kx Ky Kz J0 J1 J2 J3 J4 J5 J6 J7 J8 J9 Ja Jb Jc Jd Je Jf Jg Jh Ji Jj Jk : Value),DP h' d pb dv D 4 p (val (pad D 4)) size st → (∀ id,id ≠ d → blk? h' id = blk? h id) → h'.length = h.length → Ok tab R75 k #[ptr d,K1,K2,K3,K4,K5,K6,K7,K8,K9,Ka,Kb,Kc,Kd,Ke,Kf,Kg,Kh,Ki,Kj,Kk,Kl,Km,Kn,Ko,Kp,Kq,Kr,Ks,Kt,Ku,Kv,Kw,Kx,Ky,Kz,J0,J1,J2,J3,J4,J5,J6,J7,J8,J9,Ja,Jb,Jc,Jd,Je,Jf,Jg,Jh,Ji,Jj,Jk] h' R) :
  ∀ (q j : Nat) (H : Heap) (K1 K2 K3 K4 K6 K7 K8 K9 Ka Kb Kc Kd Ke Kf Kg Kh Ki Kj Kk Kl Km Kn Ko Kp Kq Kr Ks Kt Ku Kv Kw Kx Ky Kz J0 J1 J2 J3 J4 J5 J6 J7 J8 J9 Ja Jb Jc Jd Je Jf Jg Jh Ji Jj Jk : Value),j + q = 4 → DP H d pb dv D j p (val (pad D j)) size st → (∀ id,id ≠ d → blk? H id = blk? h id) → H.length = h.length →
   Ok tab R75 (.inLoop L75_0 :: .inBlock 0 :: k) #[ptr d,K1,K2,K3,K4,.int .i64 (j : Nat),K6,K7,K8,K9,Ka,Kb,Kc,Kd,Ke,Kf,Kg,Kh,Ki,Kj,Kk,Kl,Km,Kn,Ko,Kp,Kq,Kr,Ks,Kt,Ku,Kv,Kw,Kx,Ky,Kz,J0,J1,J2,J3,J4,J5,J6,J7,J8,J9,Ja,Jb,Jc,Jd,Je,Jf,Jg,Jh,Ji,Jj,Jk] H R := by
 intro q
 induction q with
 | zero =>
  intro j H;intros;rename_i hj I hk1 hl1
  obtain rfl : j = 4 := by omega
  rw [ok_round,l75_0,L75_0a,L75_0b]
  simp
  exact hk H _ _ _ _ _ _ _ _ _ _ _ _ _ _ _ _ _ _ _ _ _ _ _ _ _ _ _ _ _ _ _ _ _ _ _ _ _ _ _ _ _ _ _ _ _ _ _ _ _ _ _ _ _ _ _ _ I hk1 hl1
 | succ q ih =>
  intro j H;intros;rename_i hj I hk1 hl1
  have e := znext I hD hl (by omega)
  have hb := I.blk
  have hs : ∀ x,blk? (H.set d x) d = x := fun x => blk?_set_eq (blk?_lt hb)
  have hlt : (j : Int) < 4 := by omega
  have hlt' : j < 4 := by omega
  have hw : IntKind.i64.wrap ((j : Int) + 1) = ((j + 1 : Nat) : Int) := wrapN (n := j + 1) (by omega)
  have hv := val_lt (pad_dig j hD)
  rw [pad_len] at hv
  have hpw : (256 : Nat) ^ j ≤ 16777216 := by
   have : j = 0 ∨ j = 1 ∨ j = 2 ∨ j = 3 := by omega
   rcases this with rfl | rfl | rfl | rfl <;> decide
  have hx : (D.drop j).headD 0 < 256 := headD_dig (hD.drop j)
  have hval : val (pad D (j + 1)) = val (pad D j) * 256 + (D.drop j).headD 0 := by
   rw [pad_succ,val_append]; simp [val]
  have I2 := I.set (j + 1) (val (pad D (j + 1))) size st
  rw [hval] at I2
  generalize (D.drop j).headD 0 = x at *
  generalize hq : val (pad D j) = v at *
  have hS' : IntKind.i64.wrap (256 * (v : Int)) = ((v * 256 : Nat) : Int) := by rw [wrapI (by omega) (by omega)]; omega
  have ha : IntKind.i64.wrap (((v * 256 : Nat) : Int) + (x : Int)) = ((v * 256 + x : Nat) : Int) := by rw [wrapI (by omega) (by omega)]; omega
  have ih' := fun K1 K2 K3 K4 K6 K7 K8 K9 Ka Kb Kc Kd Ke Kf Kg Kh Ki Kj Kk Kl Km Kn Ko Kp Kq Kr Ks Kt Ku Kv Kw Kx Ky Kz J0 J1 J2 J3 J4 J5 J6 J7 J8 J9 Ja Jb Jc Jd Je Jf Jg Jh Ji Jj Jk => ih (j + 1) _ K1 K2 K3 K4 K6 K7 K8 K9 Ka Kb Kc Kd Ke Kf Kg Kh Ki Kj Kk Kl Km Kn Ko Kp Kq Kr Ks Kt Ku Kv Kw Kx Ky Kz J0 J1 J2 J3 J4 J5 J6 J7 J8 J9 Ja Jb Jc Jd Je Jf Jg Jh Ji Jj Jk (by omega) (by rw [hval]; exact I2) (fun id hid => by rw [blk?_set_ne (Ne.symm hid)]; exact hk1 id hid) (by simpa using hl1)
  generalize ((j + 1 : Nat) : Int) = j1 at *
  generalize ((v * 256 : Nat) : Int) = y at *
  generalize ((v * 256 + x : Nat) : Int) = z at *
  rw [ok_round,l75_0,L75_0a,L75_0b]
  simp [book,bookU,logOf,addLog,chk1,lookL,reload,veq,hlt,hlt',hb,hS',e,ha,hs,hw]
  exact ih' ..
theorem zstart_c {tv : Value} {D' : List Nat} (I : DP h d pb dv D n p value size st) (hp : 0 < p.length) (ht : Sl h 1 tv D'.length (nU D')) (hD : Dig D') (hl : D'.length < 100000000) :
  ∃ h' dv',(∀ R : RP,Ret tab 75 [ptr d,tv] h R = R (.int .i64 0) h') ∧ DP h' d pb dv' D' 4 p (AD.start p D').value 4294967295 true ∧ EF h h' d pb dv dv' := by
 have key : ∀ R0 : RP,(∀ h' dv',DP h' d pb dv' D' 4 p (AD.start p D').value 4294967295 true → EF h h' d pb dv dv' → R0 (.int .i64 0) h') → Ret tab 75 [ptr d,tv] h R0 := by
  intro R0 hR
  have hd := blk?_lt I.blk
  have hpb := blk?_lt I.pblk
  have ht' : Sl (h ++ [some ⟨false,[]⟩]) 1 tv D'.length (nU D') := ht.of_sid fun id b hid hb => by rw [blk?_push_lt (blk?_lt hb)]; exact hb
  obtain ⟨t1,H1,a1,o1,l1,k1,g1⟩ := app_any (bytes := 1) (h := h ++ [some ⟨false,[]⟩]) (t := .slice (some ⟨h.length,0,none⟩) 0 1) (n := 0) (cs := []) ⟨rfl,.inr ⟨h.length,rfl,blk?_push_eq⟩⟩ ht' (by unfold roomCells; omega) (by omega)
  rw [Nat.zero_add,List.nil_append] at o1
  have k1' : ∀ id,id < h.length → blk? H1 id = blk? h id := fun id hid => by rw [k1 id (by simp; omega) (by simp [sid]; omega),blk?_push_lt hid]
  have hll : (h ++ [some (⟨false,[]⟩ : Blk)]).length = h.length + 1 := by simp
  rw [hll] at l1 g1
  have hb1 : blk? H1 d = some ⟨false,[.slice (some ⟨pb,0,none⟩) p.length 1,dv,.int .i64 (n : Nat),.int .i64 (value : Nat),.int .i64 (size : Nat),.bool st]⟩ := by rw [k1' d hd]; exact I.blk
  have hd1 := blk?_lt hb1
  have hs : ∀ x,blk? (H1.set d x) d = x := fun x => blk?_set_eq hd1
  have I1 : DP (H1.set d (some ⟨false,[.slice (some ⟨pb,0,none⟩) p.length 1,t1,.int .i64 ((0 : Nat) : Int),.int .i64 ((0 : Nat) : Int),.int .i64 (size : Nat),.bool st]⟩)) d pb t1 D' 0 p (val (pad D' 0)) size st :=
   ⟨hs _,by rw [blk?_set_ne I.ne1,k1' pb hpb]; exact I.pblk,o1.of_blk fun id hid hb => by rw [blk?_set_ne (by have := g1 id hid; omega)]; exact hb,I.ne1,fun x => by have := g1 d x; omega,fun x => by have := g1 pb x; omega⟩
  obtain ⟨ta,tc,ht1⟩ := o1.sl.shape
  have hpn : p ≠ [] := fun x => by rw [x] at hp; simp at hp
  have hp0' : (((p.length : Nat) : Int) == 0) = false := by rw [beq_eq_false_iff_ne]; omega
  have hL := fun K1 K2 K3 K4 K6 K7 K8 K9 Ka Kb Kc Kd Ke Kf Kg Kh Ki Kj Kk Kl Km Kn Ko Kp Kq Kr Ks Kt Ku Kv Kw Kx Ky Kz J0 J1 J2 J3 J4 J5 J6 J7 J8 J9 Ja Jb Jc Jd Je Jf Jg Jh Ji Jj Jk => zstart_loop (h := H1.set d (some ⟨false,[.slice (some ⟨pb,0,none⟩) p.length 1,t1,.int .i64 ((0 : Nat) : Int),.int .i64 ((0 : Nat) : Int),.int .i64 (size : Nat),.bool st]⟩)) (R := R0) (k := [.code (tlC 4 B75)]) hD (by omega)
   (fun H2 K1 K2 K3 K4 K5 K6 K7 K8 K9 Ka Kb Kc Kd Ke Kf Kg Kh Ki Kj Kk Kl Km Kn Ko Kp Kq Kr Ks Kt Ku Kv Kw Kx Ky Kz J0 J1 J2 J3 J4 J5 J6 J7 J8 J9 Ja Jb Jc Jd Je Jf Jg Jh Ji Jj Jk I2 k2 l2 => by
    have hb2 := I2.blk
    have hs2 : ∀ x,blk? (H2.set d x) d = x := fun x => blk?_set_eq (blk?_lt hb2)
    have hmn := start_min p D'
    have I3 := I2.set 4 (AD.start p D').value 4294967295 true
    have F3 : EF h (H2.set d (some ⟨false,[.slice (some ⟨pb,0,none⟩) p.length 1,t1,.int .i64 ((4 : Nat) : Int),.int .i64 ((AD.start p D').value : Nat),.int .i64 ((4294967295 : Nat) : Int),.bool true]⟩)) d pb dv t1 := by
     refine ⟨by rw [List.length_set]; simp at l2; omega,fun id h1 h2 h3 h4 => ?_,fun id hid => .inr ?_⟩
     ·rw [blk?_set_ne (Ne.symm h2),k2 id h2,blk?_set_ne (Ne.symm h2),k1' id h1]
     ·have := g1 id hid
      rw [List.length_set]; simp at l2; omega
    have hR' := hR _ t1 I3 F3
    simp only [Int.cast_ofNat_Int] at hR' hb2
    generalize (((AD.start p D').value : Nat) : Int) = z at *
    simp only [nthC,tlC,fstC,B75]
    simp [hb2,fold1,foldO,mn2,hmn,hs2,fin75]
    exact hR') 4 0 _ K1 K2 K3 K4 K6 K7 K8 K9 Ka Kb Kc Kd Ke Kf Kg Kh Ki Kj Kk Kl Km Kn Ko Kp Kq Kr Ks Kt Ku Kv Kw Kx Ky Kz J0 J1 J2 J3 J4 J5 J6 J7 J8 J9 Ja Jb Jc Jd Je Jf Jg Jh Ji Jj Jk (by omega) I1 (fun _ _ => rfl) rfl
  simp only [Int.cast_ofNat_Int] at hL
  have hb0 := I.blk
  rw [ht1] at hL a1
  rw [enter75,show B75 = .seq (nthC 0 B75) (.seq (nthC 1 B75) (.seq (nthC 2 B75) (.seq (nthC 3 B75) (tlC 4 B75)))) from rfl]
  generalize tlC 4 B75 = tl at *
  simp only [nthC,tlC,fstC,B75]
  simp [k_guard,k_guardU,repL,hb0,hp0',hpn,a1,hb1,hs]
  exact hL ..
 obtain ⟨v,h',e,rfl,dv',a,c⟩ := ret_ex (key (fun v h' => v = .int .i64 0 ∧ ∃ dv',DP h' d pb dv' D' 4 p (AD.start p D').value 4294967295 true ∧ EF h h' d pb dv dv') fun h' dv' a c => ⟨rfl,dv',a,c⟩)
 exact ⟨h',dv',e,a,c⟩
theorem znorm_c {v1 v6 v7 : Value} (I : DP h d pb dv D n p value size st) (hD : Dig D) (hl : D.length < 1000000000) (hn : n < 900000000) (hv : value < size) (h1 : 65536 ≤ size) (h2 : size < 4294967296) :
  ∃ h' n' value' size',DP h' d pb dv D n' p value' size' st ∧ n' ≤ n + 1 ∧ (∀ id,id ≠ d → blk? h' id = blk? h id) ∧ h'.length = h.length ∧ D.drop n' = (if size < 16777216 then (D.drop n).tail else D.drop n) ∧
   value' = (if size < 16777216 then value * 256 + (D.drop n).headD 0 else value) ∧ size' = (if size < 16777216 then size * 256 else size) ∧
   ∀ (k : List RItem) (K2 K3 K4 K5 K8 K9 Ka Kb Kc Kd Ke Kf Kg Kh Ki Kj Kk Kl Km Kn Ko Kp Kq Kr Ks Kt Ku Kv Kw Kx Ky Kz J0 J1 J2 J3 J4 J5 J6 J7 J8 J9 Ja Jb Jc Jd Je Jf Jg Jh Ji Jj Jk Jl Jm Jn Jo Jp Jq Jr Js Jt Ju Jv Jw Jx Jy Jz Y0 Y1 Y2 Y3 Y4 Y5 Y6 Y7 Y8 Y9 Ya Yb Yc Yd Ye Yf Yg Yh Yi Yj Yk Yl Ym Yn Yo Yp Yq Yr Ys Yt Yu Yv Yw Yx Yy Yz Z0 : Value),(∀ K2 K3 K4 K5 K8 K9 Ka Kb Kc Kd Ke Kf Kg Kh Ki Kj Kk Kl Km Kn Ko Kp Kq Kr Ks Kt Ku Kv Kw Kx Ky Kz J0 J1 J2 J3 J4 J5 J6 J7 J8 J9 Ja Jb Jc Jd Je Jf Jg Jh Ji Jj Jk Jl Jm Jn Jo Jp Jq Jr Js Jt Ju Jv Jw Jx Jy Jz Y0 Y1 Y2 Y3 Y4 Y5 Y6 Y7 Y8 Y9 Ya Yb Yc Yd Ye Yf Yg Yh Yi Yj Yk Yl Ym Yn Yo Yp Yq Yr Ys Yt Yu Yv Yw Yx Yy Yz Z0 : Value,Ok tab R204 k #[ptr d,v1,K2,K3,K4,K5,v6,v7,K8,K9,Ka,Kb,Kc,Kd,Ke,Kf,Kg,Kh,Ki,Kj,Kk,Kl,Km,Kn,Ko,Kp,Kq,Kr,Ks,Kt,Ku,Kv,Kw,Kx,Ky,Kz,J0,J1,J2,J3,J4,J5,J6,J7,J8,J9,Ja,Jb,Jc,Jd,Je,Jf,Jg,Jh,Ji,Jj,Jk,Jl,Jm,Jn,Jo,Jp,Jq,Jr,Js,Jt,Ju,Jv,Jw,Jx,Jy,Jz,Y0,Y1,Y2,Y3,Y4,Y5,Y6,Y7,Y8,Y9,Ya,Yb,Yc,Yd,Ye,Yf,Yg,Yh,Yi,Yj,Yk,Yl,Ym,Yn,Yo,Yp,Yq,Yr,Ys,Yt,Yu,Yv,Yw,Yx,Yy,Yz,Z0] h' R) →
    Ok tab R204 (.inLoop L204_0 :: .inBlock 0 :: k) #[ptr d,v1,K2,K3,K4,K5,v6,v7,K8,K9,Ka,Kb,Kc,Kd,Ke,Kf,Kg,Kh,Ki,Kj,Kk,Kl,Km,Kn,Ko,Kp,Kq,Kr,Ks,Kt,Ku,Kv,Kw,Kx,Ky,Kz,J0,J1,J2,J3,J4,J5,J6,J7,J8,J9,Ja,Jb,Jc,Jd,Je,Jf,Jg,Jh,Ji,Jj,Jk,Jl,Jm,Jn,Jo,Jp,Jq,Jr,Js,Jt,Ju,Jv,Jw,Jx,Jy,Jz,Y0,Y1,Y2,Y3,Y4,Y5,Y6,Y7,Y8,Y9,Ya,Yb,Yc,Yd,Ye,Yf,Yg,Yh,Yi,Yj,Yk,Yl,Ym,Yn,Yo,Yp,Yq,Yr,Ys,Yt,Yu,Yv,Yw,Yx,Yy,Yz,Z0] h R := by
 have hb := I.blk
 have hd := blk?_lt hb
 by_cases hs : size < 16777216
 ·have e := znext I hD hl hn
  have hx : (D.drop n).headD 0 < 256 := headD_dig (hD.drop n)
  have I2 := I.set (n + 1) (value * 256 + (D.drop n).headD 0) (size * 256) st
  refine ⟨_,n + 1,_,_,I2,Nat.le_refl _,fun id hid => by rw [blk?_set_ne (Ne.symm hid)],by simp,by rw [if_pos hs,List.tail_drop],by rw [if_pos hs],by rw [if_pos hs],?_⟩
  intro k;intros;rename_i hk
  generalize (D.drop n).headD 0 = x at *
  have hS' : IntKind.i64.wrap (256 * (value : Int)) = ((value * 256 : Nat) : Int) := by rw [wrapI (by omega) (by omega)]; omega
  have hT' : IntKind.i64.wrap (256 * (size : Int)) = ((size * 256 : Nat) : Int) := by rw [wrapI (by omega) (by omega)]; omega
  have ha : IntKind.i64.wrap (((value * 256 : Nat) : Int) + (x : Int)) = ((value * 256 + x : Nat) : Int) := by rw [wrapI (by omega) (by omega)]; omega
  have hlt : (size : Int) < 16777216 := by omega
  have hge : ¬ ((size * 256 : Nat) : Int) < 16777216 := by omega
  have hss : ∀ x,blk? (h.set d x) d = x := fun x => blk?_set_eq hd
  generalize ((n + 1 : Nat) : Int) = n1 at *
  generalize ((value * 256 : Nat) : Int) = y at *
  generalize ((value * 256 + x : Nat) : Int) = z at *
  generalize ((size * 256 : Nat) : Int) = u at *
  rw [ok_round,l204_0,L204_0a,L204_0b]
  simp [book,bookU,logOf,addLog,chk1,lookL,reload,veq,hlt,hb,hS',e,ha,hss,hT']
  rw [ok_round,l204_0,L204_0a,L204_0b]
  simp [hss,hge]
  exact hk ..
 ·have hlt : ¬ (size : Int) < 16777216 := by omega
  refine ⟨h,n,value,size,I,by omega,fun _ _ => rfl,rfl,by rw [if_neg hs],by rw [if_neg hs],by rw [if_neg hs],?_⟩
  intro k;intros;rename_i hk
  rw [ok_round,l204_0,L204_0a,L204_0b]
  simp [hb,hlt]
  exact hk ..
theorem zdecode_c {c : Nat} (I : DA h d pb dv D n a) (hc : c < a.p.length) (hD : Dig D) (hl : D.length < 1000000000) (hn : n < 900000000) :
  ∃ h' n',(∀ R : RP,Ret tab 204 [ptr d,.int .i64 (c : Nat)] h R = R (.tuple #[.int .i64 (a.bit c : Nat),.int .i64 0]) h') ∧ DA h' d pb dv D n' (a.next c) ∧ n' ≤ n + 1 ∧ (∀ id,id ≠ d → id ≠ pb → blk? h' id = blk? h id) ∧ h'.length = h.length := by
 have key : ∀ R0 : RP,(∀ h' n',DA h' d pb dv D n' (a.next c) → n' ≤ n + 1 → (∀ id,id ≠ d → id ≠ pb → blk? h' id = blk? h id) → h'.length = h.length → R0 (.tuple #[.int .i64 (a.bit c : Nat),.int .i64 0]) h') → Ret tab 204 [ptr d,.int .i64 (c : Nat)] h R0 := by
  intro R0 hR
  have hP := I.dp
  obtain ⟨r1,r2⟩ := AD.split_rng I.ok hc
  have s2 := I.ok.s2
  have hv := I.ok.v
  have hok := AD.next_ok I.ok hc
  have hpo := I.ok.ps.getD hc
  have hb := hP.blk
  have hpbk := hP.pblk
  have hd := blk?_lt hb
  have hss : ∀ x,blk? (h.set d x) d = x := fun x => blk?_set_eq hd
  have hbl : a.bit c < 2 := by unfold AD.bit; split <;> omega
  have g := nI_get hc
  have g' := get_of g
  have dq : ((a.size : Int)).tdiv 4096 = ((a.size / 4096 : Nat) : Int) := by rw [Int.tdiv_eq_ediv_of_nonneg (by omega)]; omega
  have w1 : IntKind.i64.wrap ((a.size / 4096 : Nat) : Int) = ((a.size / 4096 : Nat) : Int) := wrapN (by omega)
  have w2 : IntKind.i64.wrap (((a.size / 4096 : Nat) : Int) * (a.p.getD c 0 : Nat)) = ((a.split c : Nat) : Int) := by
   rw [← Int.natCast_mul]
   have : a.size / 4096 * a.p.getD c 0 = a.split c := rfl
   rw [this]; exact wrapN (by omega)
  have hc0 : ¬ ((c : Int) < 0) := by omega
  have hc1 : ¬ ((a.p.length : Int) ≤ (c : Int)) := by omega
  have hc2 : (c : Int) < (a.p.length : Int) := by omega
  have rest : ∀ (H : Heap) (v1 s1 : Nat),DP H d pb dv D n a.p v1 s1 true → (∀ id,id ≠ d → blk? H id = blk? h id) → H.length = h.length → v1 < s1 → 65536 ≤ s1 → s1 < 4294967296 → (a.next c).rest = (if s1 < 16777216 then (D.drop n).tail else D.drop n) →
    (a.next c).value = (if s1 < 16777216 then v1 * 256 + (D.drop n).headD 0 else v1) → (a.next c).size = (if s1 < 16777216 then s1 * 256 else s1) →
    ∀ K2 K3 K4 K5 K8 K9 Ka Kb Kc Kd Ke Kf Kg Kh Ki Kj Kk Kl Km Kn Ko Kp Kq Kr Ks Kt Ku Kv Kw Kx Ky Kz J0 J1 J2 J3 J4 J5 J6 J7 J8 J9 Ja Jb Jc Jd Je Jf Jg Jh Ji Jj Jk Jl Jm Jn Jo Jp Jq Jr Js Jt Ju Jv Jw Jx Jy Jz Y0 Y1 Y2 Y3 Y4 Y5 Y6 Y7 Y8 Y9 Ya Yb Yc Yd Ye Yf Yg Yh Yi Yj Yk Yl Ym Yn Yo Yp Yq Yr Ys Yt Yu Yv Yw Yx Yy Yz Z0 : Value,Ok tab R204 [.inLoop L204_0,.inBlock 0,.code (tlC 7 B204)] #[ptr d,.int .i64 (c : Nat),K2,K3,K4,K5,.int .i64 (a.split c : Nat),.int .i64 (a.bit c : Nat),K8,K9,Ka,Kb,Kc,Kd,Ke,Kf,Kg,Kh,Ki,Kj,Kk,Kl,Km,Kn,Ko,Kp,Kq,Kr,Ks,Kt,Ku,Kv,Kw,Kx,Ky,Kz,J0,J1,J2,J3,J4,J5,J6,J7,J8,J9,Ja,Jb,Jc,Jd,Je,Jf,Jg,Jh,Ji,Jj,Jk,Jl,Jm,Jn,Jo,Jp,Jq,Jr,Js,Jt,Ju,Jv,Jw,Jx,Jy,Jz,Y0,Y1,Y2,Y3,Y4,Y5,Y6,Y7,Y8,Y9,Ya,Yb,Yc,Yd,Ye,Yf,Yg,Yh,Yi,Yj,Yk,Yl,Ym,Yn,Yo,Yp,Yq,Yr,Ys,Yt,Yu,Yv,Yw,Yx,Yy,Yz,Z0] H R0 := by
   intro H v1 s1 I1 k1 l1 hv1 hs1 hs2 q1 q2 q3;intros
   obtain ⟨h2,n2,v2,s2,I2,n2n,k2,l2,e1,e2,e3,hL⟩ := znorm_c (v1 := .int .i64 (c : Nat)) (v6 := .int .i64 (a.split c : Nat)) (v7 := .int .i64 (a.bit c : Nat)) I1 hD hl hn hv1 hs1 hs2
   refine hL _ _ _ _ _ _ _ _ _ _ _ _ _ _ _ _ _ _ _ _ _ _ _ _ _ _ _ _ _ _ _ _ _ _ _ _ _ _ _ _ _ _ _ _ _ _ _ _ _ _ _ _ _ _ _ _ _ _ _ _ _ _ _ _ _ _ _ _ _ _ _ _ _ _ _ _ _ _ _ _ _ _ _ _ _ _ _ _ _ _ _ _ _ _ _ _ _ _ _ _ _ _ _ _ _ _ fun K2 K3 K4 K5 K8 K9 Ka Kb Kc Kd Ke Kf Kg Kh Ki Kj Kk Kl Km Kn Ko Kp Kq Kr Ks Kt Ku Kv Kw Kx Ky Kz J0 J1 J2 J3 J4 J5 J6 J7 J8 J9 Ja Jb Jc Jd Je Jf Jg Jh Ji Jj Jk Jl Jm Jn Jo Jp Jq Jr Js Jt Ju Jv Jw Jx Jy Jz Y0 Y1 Y2 Y3 Y4 Y5 Y6 Y7 Y8 Y9 Ya Yb Yc Yd Ye Yf Yg Yh Yi Yj Yk Yl Ym Yn Yo Yp Yq Yr Ys Yt Yu Yv Yw Yx Yy Yz Z0 => ?_
   have I3 := I2.setp (a.p.set c (adaptP (a.p.getD c 0) (a.bit c))) (by simp)
   have hA := fun H R => adapt_x (h := H) (R := R) (I.ok.ps.getD hc) hbl
   have hst := nI_set (xs := a.p) (i := c) (v := adaptP (a.p.getD c 0) (a.bit c))
   have hb2 := I2.blk
   have hp2 := I2.pblk
   have hl : c + 1 ≤ (nI a.p).length := by rw [nI_len]; exact hc
   have he1 : ∀ X,blk? (h2.set pb X) d = some ⟨false,[.slice (some ⟨pb,0,none⟩) a.p.length 1,dv,.int .i64 (n2 : Nat),.int .i64 (v2 : Nat),.int .i64 (s2 : Nat),.bool true]⟩ := fun X => by rw [blk?_set_ne (Ne.symm I2.ne1)]; exact hb2
   have hpn : (a.next c).p = a.p.set c (adaptP (a.p.getD c 0) (a.bit c)) := rfl
   have hR' := hR _ n2 ⟨by rw [hpn,q2,q3,← e2,← e3]; exact I3,by rw [q1,e1],hok,by rw [hpn]; simpa using I.pos⟩ n2n (fun id h1 h2 => by rw [blk?_set_ne (Ne.symm h2),k2 id h1,k1 id h1]) (by simp [l2,l1])
   generalize a.p.set c (adaptP (a.p.getD c 0) (a.bit c)) = p' at *
   generalize adaptP (a.p.getD c 0) (a.bit c) = v at *
   generalize a.p.getD c 0 = x at *
   generalize nI a.p = C at *
   generalize a.bit c = bt at *
   simp only [nthC,tlC,fstC,B204]
   simp [book,bookU,logOf,addLog,chk1,lookL,reload,veq,hb2,hp2,hc2,hc,g,g',hA,hl,hst,he1,fin204]
   exact hR'
  rw [enter204,show B204 = .seq (nthC 0 B204) (.seq (nthC 1 B204) (.seq (nthC 2 B204) (.seq (nthC 3 B204) (.seq (nthC 4 B204) (.seq (nthC 5 B204) (.seq (nthC 6 B204) (tlC 7 B204))))))) from rfl]
  generalize hT7 : tlC 7 B204 = T7 at *
  simp only [nthC,tlC,fstC,B204]
  by_cases hlt : a.value < a.split c
  ·have hbit : a.bit c = 0 := by unfold AD.bit; rw [if_pos hlt]
   have hlt' : (a.value : Int) < (a.split c : Int) := by omega
   have I1 := hP.set n a.value (a.split c) true
   have hfin := rest _ a.value (a.split c) I1 (fun id hid => by rw [blk?_set_ne (Ne.symm hid)]) (by simp) hlt r1 (by omega)
    (by unfold AD.next AD.norm; simp only [hlt,if_true]; rw [I.rest]; split <;> rfl)
    (by unfold AD.next AD.norm; simp only [hlt,if_true]; rw [I.rest]; split <;> rfl)
    (by unfold AD.next AD.norm; simp only [hlt,if_true]; split <;> rfl)
   rw [hbit] at hfin
   simp only [Int.cast_ofNat_Int] at hfin
   clear rest
   generalize a.split c = S at *
   generalize ((a.size / 4096 : Nat) : Int) = z' at *
   generalize a.p.getD c 0 = x at *
   generalize nI a.p = C at *
   simp [-Int.natCast_ediv,k_guard,k_guardU,hb,hc0,hc1,hc2,hc,hpbk,g,g',dq,w1,w2,hlt',hlt,hss]
   exact hfin ..
  ·have hbit : a.bit c = 1 := by unfold AD.bit; rw [if_neg hlt]
   have hlt' : ¬ (a.value : Int) < (a.split c : Int) := by omega
   have I1 := hP.set n (a.value - a.split c) (a.size - a.split c) true
   have hfin := rest _ (a.value - a.split c) (a.size - a.split c) I1 (fun id hid => by rw [blk?_set_ne (Ne.symm hid)]) (by simp) (by omega) (by omega) (by omega)
    (by unfold AD.next AD.norm; simp only [hlt,if_false]; rw [I.rest]; split <;> rfl)
    (by unfold AD.next AD.norm; simp only [hlt,if_false]; rw [I.rest]; split <;> rfl)
    (by unfold AD.next AD.norm; simp only [hlt,if_false]; split <;> rfl)
   rw [hbit] at hfin
   simp only [Int.cast_ofNat_Int] at hfin
   clear rest
   have w3 : IntKind.i64.wrap ((a.value : Int) - (a.split c : Int)) = ((a.value - a.split c : Nat) : Int) := by rw [wrapI (by omega) (by omega)]; omega
   have w4 : IntKind.i64.wrap ((a.size : Int) - (a.split c : Int)) = ((a.size - a.split c : Nat) : Int) := by rw [wrapI (by omega) (by omega)]; omega
   generalize ((a.value - a.split c : Nat) : Int) = y1 at *
   generalize ((a.size - a.split c : Nat) : Int) = y2 at *
   generalize a.split c = S at *
   generalize ((a.size / 4096 : Nat) : Int) = z' at *
   generalize a.p.getD c 0 = x at *
   generalize nI a.p = C at *
   simp [-Int.natCast_ediv,k_guard,k_guardU,hb,hc0,hc1,hc2,hc,hpbk,g,g',dq,w1,w2,hlt',hlt,hss,w3,w4]
   exact hfin ..
 obtain ⟨v,h',e,rfl,n',x,y,z,u⟩ := ret_ex (key (fun v h' => v = .tuple #[.int .i64 (a.bit c : Nat),.int .i64 0] ∧ ∃ n',DA h' d pb dv D n' (a.next c) ∧ n' ≤ n + 1 ∧ (∀ id,id ≠ d → id ≠ pb → blk? h' id = blk? h id) ∧ h'.length = h.length) fun h' n' x y z u => ⟨rfl,n',x,y,z,u⟩)
 exact ⟨h',n',e,x,y,z,u⟩
theorem zreset_c (I : DP h d pb dv D n p value size st) (h0 : 0 < p.length) (hn : p.length ≤ 1000) :
  ∃ h' pb',(∀ R : RP,Ret tab 76 [ptr d] h R = R (.tuple #[]) h') ∧ DP h' d pb' dv D n (AE.base p.length) value size st ∧ h.length ≤ pb' ∧ pb' < h'.length ∧ (∀ id,id < h.length → id ≠ d → blk? h' id = blk? h id) ∧ h.length ≤ h'.length := by
 obtain ⟨v,H1,e1,o1,f1,k1,l1⟩ := initial_x (h := h) (n := p.length) hn
 obtain ⟨pb',rfl,hpb⟩ := o1.ne_nil (by omega)
 have lpb := blk?_lt hpb
 have fpb := f1 pb' rfl
 have ld := blk?_lt I.blk
 have b1 : blk? H1 d = some ⟨false,[.slice (some ⟨pb,0,none⟩) p.length 1,dv,.int .i64 (n : Nat),.int .i64 (value : Nat),.int .i64 (size : Nat),.bool st]⟩ := by rw [k1 d ld]; exact I.blk
 have eb : (AE.base p.length).length = p.length := by simp [AE.base]
 refine ⟨H1.set d (some ⟨false,[.slice (some ⟨pb',0,none⟩) p.length 1,dv,.int .i64 (n : Nat),.int .i64 (value : Nat),.int .i64 (size : Nat),.bool st]⟩),pb',fun R => ?_,⟨by rw [blk?_set_eq (by omega),eb],by rw [blk?_set_ne (by omega)]; exact hpb,I.own.of_blk fun id hid hb => by rw [blk?_set_ne (fun x => I.ne2 (by rw [x]; exact hid)),k1 id (I.own.lt hid)]; exact hb,by omega,I.ne2,fun x => by have := I.own.lt x; omega⟩,fpb,by simp; omega,fun id hid hne => by rw [blk?_set_ne (Ne.symm hne),k1 id hid],by simp; omega⟩
 have hb := I.blk
 rw [enter76,B76]
 simp [hb,e1,b1,fin76]
theorem zdec_new : ∃ h' d pb,(∀ R : RP,Ret tab 73 [.int .i64 19] h R = R (.tuple #[ptr d,.int .i64 0]) h') ∧ DP h' d pb (.slice none 0 0) [] 0 (AE.base 19) 0 0 false ∧ h.length ≤ d ∧ h.length ≤ pb ∧ h.length ≤ h'.length ∧ ∀ id,id < h.length → blk? h' id = blk? h id := by
 obtain ⟨v,H1,e1,o1,f1,k1,l1⟩ := initial_x (h := h) (n := 19) (by omega)
 obtain ⟨pb,rfl,hpb⟩ := o1.ne_nil (by omega)
 have lpb := blk?_lt hpb
 have fpb := f1 pb rfl
 have e1' : ∀ R,Ret tab 88 [.int .i64 19] h R = R (.slice (some ⟨pb,0,none⟩) 19 1) H1 := e1
 refine ⟨H1 ++ [some ⟨false,[.slice (some ⟨pb,0,none⟩) 19 1,.slice none 0 0,.int .i64 0,.int .i64 0,.int .i64 0,.bool false]⟩],H1.length,pb,fun R => ?_,⟨by rw [blk?_push_eq]; simp [AE.base],by rw [blk?_push_lt lpb]; exact hpb,OwnS.nil _ _,by omega,by simp [sid],by simp [sid]⟩,l1,fpb,by simp; omega,fun id hid => by rw [blk?_push_lt (by omega),k1 id hid]⟩
 rw [enter73,B73]
 simp [k_guard,k_guardU,repL,e1',fin73]
end
theorem zbits_get : ∀ (x : Fin 256) (j : Fin 8),(shrI .i64 ((x.1 : Nat) : Int) ((j.1 : Nat) : Int)).tmod 2 = ((x.1 / 2 ^ j.1 % 2 : Nat) : Int) := by decide +kernel
section
variable {h : Heap} {R : RP} {q n : Nat} {s : Value} {xs : List Nat}
theorem zget_c (J : RB h q s xs n) (hn : n < 100000000) : Ret tab 205 [ptr q] h R = R (.int .i64 (bitAt xs n : Nat)) (h.set q (some ⟨false,[.bool true,s,.int .i64 ((n + 1 : Nat) : Int)]⟩)) := by
 have hb := J.blk
 have lq := blk?_lt hb
 have hs : ∀ x,blk? (h.set q x) q = x := fun x => blk?_set_eq lq
 have w1 : IntKind.i64.wrap ((n : Int) + 1) = ((n + 1 : Nat) : Int) := wrapN (n := n + 1) (by omega)
 have q1 : IntKind.i64.wrap ((n : Int).tdiv 8) = ((n / 8 : Nat) : Int) := by rw [Int.tdiv_eq_ediv_of_nonneg (by omega),wrapI (by omega) (by omega)]; omega
 have q1' : IntKind.i64.wrap ((n : Int) / 8) = ((n / 8 : Nat) : Int) := by rw [wrapI (by omega) (by omega)]; omega
 by_cases hlt : n / 8 < xs.length
 ·obtain ⟨id,off,b,e,hbk,hc⟩ := J.own.sl.get hlt
  have hc0 := hc 0 (by omega)
  rw [Nat.mul_one,Nat.add_zero,Nat.add_zero,nU_get hlt] at hc0
  have hx : xs.getD (n / 8) 0 < 256 := by rw [List.getD_eq_getElem?_getD,List.getElem?_eq_getElem hlt]; exact J.lt _ (List.getElem_mem hlt)
  have hbit := zbits_get ⟨xs.getD (n / 8) 0,hx⟩ ⟨7 - n % 8,by omega⟩
  simp only at hbit
  have ebit : bitAt xs n = xs.getD (n / 8) 0 / 2 ^ (7 - n % 8) % 2 := rfl
  rw [← ebit] at hbit
  have q2 : (0 : Int) ≤ ((n / 8 : Nat) : Int) := by omega
  have q3 : ((n / 8 : Nat) : Int) < (xs.length : Int) := by omega
  have q3' : ¬ (xs.length : Int) ≤ ((n / 8 : Nat) : Int) := by omega
  have q4 : ((n / 8 : Nat) : Int).toNat = n / 8 := Int.toNat_natCast _
  have q5 : IntKind.i64.wrap (7 - (n : Int).tmod 8) = ((7 - n % 8 : Nat) : Int) := by rw [Int.tmod_eq_emod_of_nonneg (by omega),wrapI (by omega) (by omega)]; omega
  have q6 : ¬ ((7 - n % 8 : Nat) : Int) < 0 := by omega
  have q7 : IntKind.u64.wrap ((7 - n % 8 : Nat) : Int) = ((7 - n % 8 : Nat) : Int) := by rw [IntKind.wrap_u64]; omega
  have q8 : IntKind.i64.wrap ((xs.getD (n / 8) 0 : Nat) : Int) = ((xs.getD (n / 8) 0 : Nat) : Int) := wrapN (by omega)
  have hne : id ≠ q := fun x => J.ne (by rw [e]; simp [sid,x])
  have hs2 : ∀ x,blk? (h.set q x) id = some b := fun x => by rw [blk?_set_ne (Ne.symm hne)]; exact hbk
  clear ebit
  generalize ((bitAt xs n : Nat) : Int) = bt at *
  generalize ((xs.getD (n / 8) 0 : Nat) : Int) = xv at *
  generalize ((7 - n % 8 : Nat) : Int) = sh at *
  generalize hn8 : ((n / 8 : Nat) : Int) = n8 at *
  generalize ((n + 1 : Nat) : Int) = n1 at *
  generalize n / 8 = m8 at *
  rw [e] at hb ⊢
  rw [enter205,B205]
  simp [k_guard,k_guardU,hb,w1,hs,q1,q1',q2,q3,q3',q4,hlt,hs2,hc0,q5,q6,q7,q8,hbit,fin205]
 ·obtain ⟨sa,sc,hsv⟩ := J.own.sl.shape
  have e : bitAt xs n = 0 := by
   unfold bitAt
   rw [List.getD_eq_getElem?_getD,List.getElem?_eq_none (by omega)]; simp
  rw [e]
  have q3 : (xs.length : Int) ≤ ((n / 8 : Nat) : Int) := by omega
  generalize hn8 : ((n / 8 : Nat) : Int) = n8 at *
  generalize ((n + 1 : Nat) : Int) = n1 at *
  rw [hsv] at hb ⊢
  rw [enter205,B205]
  simp [k_guard,k_guardU,hb,w1,hs,q1,q1',q3,fin205]
theorem znewReader_c {tv : Value} {D : List Nat} (ht : Sl h 1 tv D.length (nU D)) (hD : ∀ x ∈ D,x < 256) (hl : D.length < 100000000) :
  ∃ h' q s,(∀ R : RP,Ret tab 74 [tv] h R = R (ptr q) h') ∧ RB h' q s D 0 ∧ (∀ id,id < h.length → blk? h' id = blk? h id) ∧ h.length ≤ h'.length ∧ (∀ id,ownR q s id → h.length ≤ id) := by
 have ht' : Sl (h ++ [some ⟨false,[]⟩]) 1 tv D.length (nU D) := ht.of_sid fun id b hid hb => by rw [blk?_push_lt (blk?_lt hb)]; exact hb
 obtain ⟨t1,H1,a1,o1,l1,k1,g1⟩ := app_any (bytes := 1) (h := h ++ [some ⟨false,[]⟩]) (t := .slice (some ⟨h.length,0,none⟩) 0 1) (n := 0) (cs := []) ⟨rfl,.inr ⟨h.length,rfl,blk?_push_eq⟩⟩ ht' (by unfold roomCells; omega) (by omega)
 rw [Nat.zero_add,List.nil_append] at o1
 have k1' : ∀ id,id < h.length → blk? H1 id = blk? h id := fun id hid => by rw [k1 id (by simp; omega) (by simp [sid]; omega),blk?_push_lt hid]
 have hll : (h ++ [some (⟨false,[]⟩ : Blk)]).length = h.length + 1 := by simp
 rw [hll] at l1 g1
 refine ⟨H1 ++ [some ⟨false,[.bool true,t1,.int .i64 ((0 : Nat) : Int)]⟩],H1.length,t1,fun R => ?_,⟨blk?_push_eq,o1.of_blk fun id hid hb => by rw [blk?_push_lt (blk?_lt hb)]; exact hb,fun x => by have := g1 _ x; omega,hD⟩,fun id hid => by rw [blk?_push_lt (by omega),k1' id hid],by simp; omega,fun id hid => ?_⟩
 ·obtain ⟨ta,tc,ht1⟩ := o1.sl.shape
  rw [ht1] at a1 ⊢
  rw [enter74,B74]
  simp [repL,a1,writeAt,fin74]
 ·rcases hid with rfl | hid
  ·omega
  ·have := (g1 id hid).1; omega
end
def Tr.Cx {α : Type} (p : Int → Prop) : Tr α → Prop
 | .ret _ => True
 | .ask c k => p c ∧ ∀ b,(k b).Cx p
theorem Tr.Cx.bind {α β : Type} {p : Int → Prop} {f : α → Tr β} (hf : ∀ a,(f a).Cx p) : ∀ {t : Tr α},t.Cx p → (t.bind f).Cx p
 | .ret a,_ => hf a
 | .ask c k,h => ⟨h.1,fun b => Tr.Cx.bind hf (h.2 b)⟩
theorem Tr.Cx.bindr {α β : Type} {p : Int → Prop} {g : α → β} {t : Tr α} (h : t.Cx p) : (t.bind fun a => .ret (g a)).Cx p := Tr.Cx.bind (f := fun a => .ret (g a)) (fun _ => trivial) h
def cxOk (rw : Bool) (c : Int) : Prop := (rw = true → c = -1) ∧ (rw = false → 0 ≤ c ∧ c < 19)
theorem cx_ok {P : PP} {c : Int} (h0 : 0 ≤ c) (h1 : c ≤ 18) : cxOk P.rw (P.cx c) := by
 unfold cxOk PP.cx
 cases P.rw <;> simp <;> omega
section
variable {P : PP}
theorem cx_dsign (b : BS) (x y : Int) : (dsign P b x y).Cx (cxOk P.rw) := by
 have := signCtx_rng (joint_rng (sgn b (x - 1) y) (sgn b (x + 1) y)) (joint_rng (sgn b x (y - 1)) (if (!P.cz || y % 4 != 3) = true then sgn b x (y + 1) else 0))
 change 9 ≤ signCtx (sgH b x y) (sgV b x y P.cz) ∧ signCtx (sgH b x y) (sgV b x y P.cz) ≤ 13 at this
 exact ⟨cx_ok (by omega) (by omega),fun _ => trivial⟩
theorem cx_dcode (b : BS) (x y : Int) : (dcode P b x y).Cx (cxOk P.rw) := by
 have := ctxOf_le P b x y
 refine ⟨cx_ok (by omega) (by omega),fun bit => ?_⟩
 show Tr.Cx _ (if bit = true then dsign P b x y else .ret b)
 split
 ·exact cx_dsign b x y
 ·trivial
theorem cx_dsig1 (b : BS) (x y : Int) : (dsig1 P b x y).Cx (cxOk P.rw) := by
 unfold dsig1
 split
 ·exact Tr.Cx.bindr (cx_dcode b x y)
 ·trivial
theorem cx_dref1 (b : BS) (x y : Int) : (dref1 P b x y).Cx (cxOk P.rw) := by
 unfold dref1
 split
 ·trivial
 ·have := refCtx_rng (!(b.get x y).r) (near b x y P.cz)
  exact ⟨cx_ok (by omega) (by omega),fun _ => trivial⟩
theorem cx_dcln1 (b : BS) (x y : Int) : (dcln1 P b x y).Cx (cxOk P.rw) := by
 unfold dcln1
 split
 ·exact cx_dcode b x y
 ·trivial
theorem cx_drows (x : Int) : ∀ (n : Nat) (b : BS) (y : Int),(drows P b x y n).Cx (cxOk P.rw)
 | 0,_,_ => trivial
 | n + 1,b,y => Tr.Cx.bind (fun b => cx_drows x n b (y + 1)) (cx_dcln1 b x y)
theorem cx_drun (b : BS) (x top : Int) : (drun P b x top).Cx (cxOk P.rw) := by
 refine ⟨cx_ok (by omega) (by omega),fun r => ?_⟩
 show Tr.Cx _ (if r = true then _ else _)
 split
 ·exact ⟨cx_ok (by omega) (by omega),fun k1 => ⟨cx_ok (by omega) (by omega),fun k0 => Tr.Cx.bindr (cx_dsign b x _)⟩⟩
 ·trivial
theorem cx_dcol (b : BS) (x top : Int) : (dcol P b x top).Cx (cxOk P.rw) := by
 unfold dcol
 split
 ·exact Tr.Cx.bind (fun r => cx_drows x _ r.1 r.2) (cx_drun b x top)
 ·exact cx_drows x _ b top
theorem cx_dcols (top : Int) : ∀ (n : Nat) (b : BS) (x : Int),(dcols P b x top n).Cx (cxOk P.rw)
 | 0,_,_ => trivial
 | n + 1,b,x => Tr.Cx.bind (fun b => cx_dcols top n b (x + 1)) (cx_dcol b x top)
theorem cx_dstripes : ∀ (n : Nat) (b : BS) (top : Int),(dstripes P b top n).Cx (cxOk P.rw)
 | 0,_,_ => trivial
 | n + 1,b,top => Tr.Cx.bind (fun b => cx_dstripes n b (top + 4)) (cx_dcols top b.w b 0)
theorem cx_dsigs : ∀ (l : List (Int × Int)) (b : BS),(dsigs P b l).Cx (cxOk P.rw)
 | [],_ => trivial
 | p :: l,b => Tr.Cx.bind (fun b => cx_dsigs l b) (cx_dsig1 b p.1 p.2)
theorem cx_drefs : ∀ (l : List (Int × Int)) (b : BS),(drefs P b l).Cx (cxOk P.rw)
 | [],_ => trivial
 | p :: l,b => Tr.Cx.bind (fun b => cx_drefs l b) (cx_dref1 b p.1 p.2)
theorem cx_dchk : ∀ (l : List Bool) (r : Bool),(dchk P r l).Cx (cxOk P.rw)
 | [],_ => trivial
 | x :: l,r => ⟨cx_ok (by omega) (by omega),fun bit => cx_dchk l _⟩
theorem cx_dclean (b : BS) (on : Bool) : (dclean P b on).Cx (cxOk P.rw) := by
 refine Tr.Cx.bind (fun b => Tr.Cx.bindr ?_) (cx_dstripes _ b 0)
 unfold dcheck
 split
 ·exact cx_dchk _ _
 ·trivial
end
theorem cx_dRun (m : MD) (b : BS) (n planes o : Nat) : (dRun m b n planes o).Cx (cxOk (rawOf m n)) := by
 have e : (runPP m n planes o).rw = rawOf m n := rfl
 rw [← e]
 unfold dRun
 split
 ·exact Tr.Cx.bindr (cx_dsigs _ b)
 ·split
  ·exact Tr.Cx.bindr (cx_drefs _ b)
  ·exact cx_dclean b m.sy
structure QR where
 on : Bool
 a : AD
 rd : List Nat × Nat
 l : List (Int × Nat)
def QR.bit (s : QR) (x : Int) : Nat := if 0 ≤ x then (if s.on = true then (askA s.a none x).1 else 0) else bitAt s.rd.1 s.rd.2
def QR.ask (s : QR) (x : Int) : Bool × QR := (s.bit x == 1,⟨s.on,if 0 ≤ x ∧ s.on = true then (askA s.a none x).2.1 else s.a,if 0 ≤ x then s.rd else (s.rd.1,s.rd.2 + 1),s.l ++ [(x,s.bit x)]⟩)
theorem QR.bit_lt (s : QR) (x : Int) : s.bit x < 2 := by
 unfold QR.bit
 split
 ·split
  ·exact askA_lt _ _ _
  ·omega
 ·unfold bitAt; omega
theorem run_none {α : Type} : ∀ (t : Tr α) (a : AD) (rd : List Nat × Nat) (l : List (Int × Nat)),t.Cx (cxOk false) →
  t.run QR.ask ⟨true,a,rd,l⟩ = ((t.run RS.ask ⟨a,none,l⟩).1,⟨true,(t.run RS.ask ⟨a,none,l⟩).2.a,rd,(t.run RS.ask ⟨a,none,l⟩).2.l⟩) ∧ (t.run RS.ask ⟨a,none,l⟩).2.raw = none
 | .ret v,a,rd,l,_ => ⟨rfl,rfl⟩
 | .ask c k,a,rd,l,h => by
  obtain ⟨h1,h2⟩ := h
  obtain ⟨c0,c1⟩ := h1.2 rfl
  have e1 : QR.ask ⟨true,a,rd,l⟩ c = ((askA a none c).1 == 1,⟨true,(askA a none c).2.1,rd,l ++ [(c,(askA a none c).1)]⟩) := by
   simp only [QR.ask,QR.bit,c0,if_true,and_self]
  have e2 : RS.ask ⟨a,none,l⟩ c = ((askA a none c).1 == 1,⟨(askA a none c).2.1,none,l ++ [(c,(askA a none c).1)]⟩) := by
   have : (askA a none c).2.2 = none := by unfold askA; simp only; split <;> rfl
   simp only [RS.ask,this]
  rw [Tr.run_ask,Tr.run_ask,e1,e2]
  exact run_none (k _) _ rd _ (h2 _)
theorem run_some {α : Type} (on : Bool) : ∀ (t : Tr α) (a : AD) (xs : List Nat) (n : Nat) (l : List (Int × Nat)),t.Cx (cxOk true) →
  ∃ n',t.run QR.ask ⟨on,a,(xs,n),l⟩ = ((t.run RS.ask ⟨a,some (xs,n),l⟩).1,⟨on,a,(xs,n'),(t.run RS.ask ⟨a,some (xs,n),l⟩).2.l⟩) ∧ (t.run RS.ask ⟨a,some (xs,n),l⟩).2.raw = some (xs,n') ∧ (t.run RS.ask ⟨a,some (xs,n),l⟩).2.a = a
 | .ret v,a,xs,n,l,_ => ⟨n,rfl,rfl,rfl⟩
 | .ask c k,a,xs,n,l,h => by
  obtain ⟨h1,h2⟩ := h
  have hc := h1.1 rfl
  subst hc
  have e1 : QR.ask ⟨on,a,(xs,n),l⟩ (-1) = (bitAt xs n == 1,⟨on,a,(xs,n + 1),l ++ [(-1,bitAt xs n)]⟩) := by
   simp [QR.ask,QR.bit]
  have e2 : RS.ask ⟨a,some (xs,n),l⟩ (-1) = (bitAt xs n == 1,⟨a,some (xs,n + 1),l ++ [(-1,bitAt xs n)]⟩) := by
   simp only [RS.ask,askA]
  rw [Tr.run_ask,Tr.run_ask,e1,e2]
  exact run_some on (k _) a xs (n + 1) _ (h2 _)
theorem Tr.bind_assoc {α β γ : Type} (f : α → Tr β) (g : β → Tr γ) : ∀ t : Tr α,(t.bind f).bind g = t.bind fun a => (f a).bind g
 | .ret a => rfl
 | .ask c k => by
  simp only [Tr.bind]
  congr 1
  funext b
  exact Tr.bind_assoc f g (k b)
theorem Tr.bind_congr {α β : Type} {Q : α → Prop} {f g : α → Tr β} (hf : ∀ a,Q a → f a = g a) : ∀ {t : Tr α} {n : Nat},t.Lv Q n → t.bind f = t.bind g
 | .ret a,n,h => by unfold Tr.Lv at h; exact hf a h
 | .ask c k,0,h => by simp [Tr.Lv] at h
 | .ask c k,n + 1,h => by
  unfold Tr.Lv at h
  simp only [Tr.bind]
  congr 1
  funext b
  exact Tr.bind_congr hf (h b)
theorem Tr.ret_bind {α β : Type} (a : α) (f : α → Tr β) : (Tr.ret a).bind f = f a := rfl
def quietQ (b : BS) (x y : Int) (k : Bool) : Bool := decide (y % 4 = 0) && quiet b x y k
theorem quietQ_top {b : BS} {x y : Int} {k : Bool} (h : quietQ b x y k = true) : y + 4 ≤ b.h := by
 simp only [quietQ,quiet,Bool.and_eq_true,decide_eq_true_eq] at h; exact h.2.1
def dcstep (P : PP) (τ : BS × Nat) (p : Int × Int) : Tr (BS × Nat) :=
 match τ.2 with
 | s + 1 => .ret (τ.1,s)
 | 0 => if quietQ τ.1 p.1 p.2 P.cz = true then (drun P τ.1 p.1 p.2).bind fun r => .ret (r.1,(r.2 - p.2 - 1).toNat) else (dcln1 P τ.1 p.1 p.2).bind fun b => .ret (b,0)
def dcsteps (P : PP) (τ : BS × Nat) : List (Int × Int) → Tr (BS × Nat)
 | [] => .ret τ
 | p :: l => (dcstep P τ p).bind fun τ => dcsteps P τ l
theorem dcsteps_append (P : PP) : ∀ (a b : List (Int × Int)) (τ : BS × Nat),dcsteps P τ (a ++ b) = (dcsteps P τ a).bind fun τ => dcsteps P τ b
 | [],b,τ => rfl
 | p :: a,b,τ => by
  rw [List.cons_append,dcsteps,dcsteps,Tr.bind_assoc]
  congr 1
  funext τ
  exact dcsteps_append P a b τ
theorem dcsteps_skip (P : PP) (b : BS) (x : Int) (n : Nat) : ∀ (k : Nat) (y : Int),dcsteps P (b,k) (colPts x y (k + n)) = dcsteps P (b,0) (colPts x (y + k) n)
 | 0,y => by simp
 | k + 1,y => by
  rw [show k + 1 + n = (k + n) + 1 by omega,colPts]
  show dcsteps P (b,k) (colPts x (y + 1) (k + n)) = _
  rw [dcsteps_skip P b x n k (y + 1)]
  congr 2; omega
theorem dcsteps_rows (P : PP) (x : Int) : ∀ (n : Nat) (y : Int) (b : BS),(∀ j : Nat,j < n → (y + j) % 4 ≠ 0) → dcsteps P (b,0) (colPts x y n) = (drows P b x y n).bind fun b => .ret (b,0)
 | 0,y,b,_ => rfl
 | n + 1,y,b,h => by
  have h0 : y % 4 ≠ 0 := by have := h 0 (by omega); simpa using this
  have hq : quietQ b x y P.cz = false := by simp [quietQ,h0]
  have : dcstep P (b,0) (x,y) = (dcln1 P b x y).bind fun b => .ret (b,0) := by simp [dcstep,hq]
  rw [colPts,dcsteps,this,Tr.bind_assoc,drows,Tr.bind_assoc]
  congr 1
  funext b
  exact dcsteps_rows P x n (y + 1) _ (fun j hj => by have := h (j + 1) (by omega); rw [show y + 1 + (j : Int) = y + ((j + 1 : Nat) : Int) by omega]; exact this)
theorem dcsteps_col {P : PP} (hp : P.Ok) {b : BS} (hg : b.Good) {x top : Int} (hi : b.inb x top) (h4 : top % 4 = 0) :
  dcsteps P (b,0) (colPts x top (min (top + 4) (b.h : Int) - top).toNat) = (dcol P b x top).bind fun b => .ret (b,0) := by
 have hi0 := hi
 obtain ⟨i1,i2,i3,i4⟩ := hi
 cases hq : quiet b x top P.cz
 ·have hcol : dcol P b x top = drows P b x top (min (top + 4) b.h - top).toNat := by unfold dcol; rw [if_neg (by simp [hq])]
  rw [hcol]
  obtain ⟨n,hn⟩ : ∃ n,(min (top + 4) (b.h : Int) - top).toNat = n + 1 := ⟨(min (top + 4) (b.h : Int) - top).toNat - 1,by omega⟩
  rw [hn,colPts,dcsteps,drows]
  have : dcstep P (b,0) (x,top) = (dcln1 P b x top).bind fun b => .ret (b,0) := by simp [dcstep,quietQ,hq]
  rw [this,Tr.bind_assoc,Tr.bind_assoc]
  congr 1
  funext b
  exact dcsteps_rows P x n (top + 1) _ (fun j hj => by omega)
 ·have htop : top + 4 ≤ b.h := by
   simp only [quiet,Bool.and_eq_true,decide_eq_true_eq] at hq; exact hq.1
  have hcol : dcol P b x top = (drun P b x top).bind fun r => drows P r.1 x r.2 (min (top + 4) r.1.h - r.2).toNat := by unfold dcol; rw [if_pos hq]
  rw [hcol]
  rw [show (min (top + 4) (b.h : Int) - top).toNat = 3 + 1 by omega,colPts,dcsteps]
  have : dcstep P (b,0) (x,top) = (drun P b x top).bind fun r => .ret (r.1,(r.2 - top - 1).toNat) := by simp [dcstep,quietQ,hq,h4]
  rw [this,Tr.bind_assoc,Tr.bind_assoc]
  refine Tr.bind_congr (fun r hr => ?_) (lv_drun hp hg hi0 htop)
  obtain ⟨τ,y⟩ := r
  obtain ⟨b1,b2,b3⟩ := hr
  simp only at b1 b2 b3 ⊢
  rw [Tr.ret_bind]
  have e3 : 3 = (y - top - 1).toNat + (top + 4 - y).toNat := by omega
  have := dcsteps_skip P τ x (top + 4 - y).toNat (y - top - 1).toNat (top + 1)
  rw [← e3] at this
  rw [this,show top + 1 + ((y - top - 1).toNat : Int) = y by omega,show (min (top + 4) (τ.h : Int) - y).toNat = (top + 4 - y).toNat by rw [b1.h]; omega]
  exact dcsteps_rows P x _ y τ (fun j hj => by omega)
theorem dcsteps_cols {P : PP} (hp : P.Ok) {w h : Nat} : ∀ (n : Nat) (b : BS) (x top : Int),b.Good → b.w = w → b.h = h → 0 ≤ x → x + n ≤ w → 0 ≤ top → top < h → top % 4 = 0 → dcsteps P (b,0) (stripePts h x top n) = (dcols P b x top n).bind fun b => .ret (b,0)
 | 0,b,x,top,_,_,_,_,_,_,_,_ => rfl
 | n + 1,b,x,top,hg,hw,hh,h1,h2,h3,h4,h5 => by
  have hi : b.inb x top := ⟨h1,by omega,h3,by omega⟩
  have hc := dcsteps_col hp hg hi h5
  rw [stripePts,dcsteps_append,← hh,hc,hh,dcols,Tr.bind_assoc,Tr.bind_assoc]
  refine Tr.bind_congr (fun a ha => ?_) (lv_dcol hp hg hi)
  rw [Tr.ret_bind]
  exact dcsteps_cols hp n _ (x + 1) top ha.good (ha.w.trans hw) (ha.h.trans hh) (by omega) (by omega) h3 h4 h5
theorem dcsteps_scan {P : PP} (hp : P.Ok) {w h : Nat} : ∀ (n : Nat) (b : BS) (top : Int),b.Good → b.w = w → b.h = h → 0 ≤ top → top + 4 * n ≤ h + 3 → top % 4 = 0 → dcsteps P (b,0) (scanPts w h top n) = (dstripes P b top n).bind fun b => .ret (b,0)
 | 0,b,top,_,_,_,_,_,_ => rfl
 | n + 1,b,top,hg,hw,hh,h1,h2,h3 => by
  have hc := dcsteps_cols hp (w := w) (h := h) w b 0 top hg hw hh (by omega) (by omega) h1 (by omega) h3
  rw [scanPts,dcsteps_append,hc,dstripes,hw,Tr.bind_assoc,Tr.bind_assoc]
  refine Tr.bind_congr (fun a ha => ?_) (lv_dcols hp (n := w) hg (x := 0) (top := top) (by omega) (by omega) h1 (by omega))
  rw [Tr.ret_bind]
  exact dcsteps_scan hp n _ (top + 4) ha.good (ha.w.trans hw) (ha.h.trans hh) (by omega) (by omega) (by omega)
theorem dcsteps_all {P : PP} (hp : P.Ok) {b : BS} (hg : b.Good) : dcsteps P (b,0) (scan b.w b.h) = (dstripes P b 0 (stripesOf b.h)).bind fun b => .ret (b,0) :=
 dcsteps_scan hp _ b 0 hg rfl rfl (by omega) (by unfold stripesOf; omega) (by omega)
theorem lv_dcstep {P : PP} (hp : P.Ok) {τ : BS × Nat} (hg : τ.1.Good) {p : Int × Int} (hi : τ.1.inb p.1 p.2) : (dcstep P τ p).Lv (fun υ => τ.1.Le υ.1 ∧ υ.2 ≤ max τ.2 3) 4 := by
 obtain ⟨b,s⟩ := τ
 cases s with
 | succ s => exact (⟨BS.Le.refl hg,Nat.le_trans (Nat.le_succ s) (Nat.le_max_left _ _)⟩ : b.Le b ∧ s ≤ max (s + 1) 3)
 | zero =>
  simp only [dcstep]
  split
  ·rename_i hq
   refine Tr.Lv.bind (n := 4) (m := 0) (fun r hr => ?_) (lv_drun hp hg hi (quietQ_top hq))
   obtain ⟨a,b',c⟩ := hr
   exact (⟨a,Nat.le_trans (by omega) (Nat.le_max_right _ _)⟩ : b.Le r.1 ∧ (r.2 - p.2 - 1).toNat ≤ max 0 3)
  ·refine Tr.Lv.bind (n := 2) (m := 2) (fun a ha => ?_) (lv_dcln1 hp hg hi)
   exact (⟨ha,by simp⟩ : b.Le a ∧ 0 ≤ max 0 3)
def callN (sb : Nat) : Heap → Int → (RP) → Prop := fun h x R => Ret tab 185 [ptr sb,.int .i64 x] h R
structure QD (h : Heap) (f : Bool) (q p c : Nat) (P : PP) (m : MD) (sb : Nat) (b : BS) : Prop where
 blk : blk? h q = some ⟨f,[ptr p,.int .i64 P.s,.int .i64 P.o,.bool m.byp,.bool m.res,.bool m.rst,.bool P.cz,.bool m.sy,.bool P.rw,ptr sb]⟩
 cb : CB h f p c b
 sbl : sb < h.length
 pok : P.Ok
 rng : b.Rng
theorem QD.frz {h : Heap} {f : Bool} {q p c : Nat} {P : PP} {m : MD} {sb : Nat} {b : BS} (hr : QD h f q p c P m sb b) : QD (frz h) true q p c P m sb b :=
 ⟨blk_frz hr.blk (by simp [hr.sbl,blk?_lt hr.cb.blkp]),hr.cb.frz,by rw [len_frz]; exact hr.sbl,hr.pok,hr.rng⟩
theorem QD.keep {h h' : Heap} {q p c : Nat} {P : PP} {m : MD} {sb : Nat} {b : BS} (hr : QD h false q p c P m sb b) (hk : ∀ id,id = q ∨ id = p ∨ id = c → blk? h' id = blk? h id) (hl : h.length ≤ h'.length) : QD h' false q p c P m sb b :=
 ⟨by rw [hk q (.inl rfl)]; exact hr.blk,⟨by rw [hk p (.inr (.inl rfl))]; exact hr.cb.blkp,by rw [hk c (.inr (.inr rfl))]; exact hr.cb.blkc,hr.cb.ok⟩,Nat.lt_of_lt_of_le hr.sbl hl,hr.pok,hr.rng⟩
section
variable {h : Heap} {f : Bool} {q p c : Nat} {P : PP} {m : MD} {sb : Nat} {b : BS} {x y : Int} {R : RP}
theorem set_bad_r (hb : CB h false p c b) (hi : b.inb x y) {v : Int} (hv : ¬ (-1152921504606846976 < v ∧ v < 1152921504606846976)) : ∃ e : Int,∀ R,Ret tab 85 [ptr p,.int .i64 x,.int .i64 y,.int .i64 v] h R = R (.int .i64 e) h := by
 have hlp := blk?_lt hb.blkp
 have hp := hb.blkp
 refine ⟨2,fun R => ?_⟩
 rw [enter85,B85]
 by_cases h1 : v ≤ -1152921504606846976
 ·simp [k_guard,k_guardU,hlp,error_r hb hi,hp,h1,fin85]
 ·have h2 : 1152921504606846976 ≤ v := by omega
  simp [k_guard,hlp,error_r hb hi,hp,h1,h2,fin85]
theorem near_q (hr : QD h f q p c P m sb b) (hi : b.inb x y) : Ret tab 153 [ptr q,.int .i64 x,.int .i64 y] h R = R (.int .i64 (nbH b x y + nbV b x y P.cz + nbD b x y P.cz : Nat)) h := by
 have hq := hr.frz.blk
 have hlq := blk?_lt hr.blk
 obtain ⟨n1,n2,n3⟩ := nb_le b x y P.cz
 have s1 : IntKind.i64.wrap ((nbH b x y : Int) + (nbV b x y P.cz : Int)) = ((nbH b x y + nbV b x y P.cz : Nat) : Int) := wrapNN (by omega)
 have s2 : IntKind.i64.wrap (((nbH b x y + nbV b x y P.cz : Nat) : Int) + (nbD b x y P.cz : Int)) = ((nbH b x y + nbV b x y P.cz + nbD b x y P.cz : Nat) : Int) := wrapNN (by omega)
 rw [enter153,B153]
 simp [-Int.natCast_add,hq,hlq,neighbors_r hr.frz.cb hi,s1,s2,fin153]
theorem quiet_loop_q (hr : QD h true q p c P m sb b) {x : Int} (hx : 0 ≤ x ∧ x < b.w) {top : Int} (ht : 0 ≤ top ∧ top + 4 ≤ b.h) {k : List RItem} {R : RP} {v3 v8 : Value}
  (hk : ∀ K4 K5 K6 K7 K9 Ka Kb Kc Kd Ke Kf Kg Kh Ki Kj Kk Kl Km Kn Ko Kp Kq Kr Ks Kt Ku Kv Kw Kx Ky Kz J0 J1 J2 J3 J4 J5 J6 J7 J8 J9 Ja Jb Jc Jd Je Jf : Value,Ok tab R160 k #[ptr q,.int .i64 x,.int .i64 top,v3,K4,K5,K6,K7,v8,K9,Ka,Kb,Kc,Kd,Ke,Kf,Kg,Kh,Ki,Kj,Kk,Kl,Km,Kn,Ko,Kp,Kq,Kr,Ks,Kt,Ku,Kv,Kw,Kx,Ky,Kz,J0,J1,J2,J3,J4,J5,J6,J7,J8,J9,Ja,Jb,Jc,Jd,Je,Jf] h R = R (.bool true) h) :
  ∀ (n i : Nat) (K4 K5 K6 K7 Ka Kb Kc Kd Ke Kf Kg Kh Ki Kj Kk Kl Km Kn Ko Kp Kq Kr Ks Kt Ku Kv Kw Kx Ky Kz J0 J1 J2 J3 J4 J5 J6 J7 J8 J9 Ja Jb Jc Jd Je Jf : Value),i + n = 4 →
   Ok tab R160 (.inLoop L160_0 :: .inBlock 0 :: k) #[ptr q,.int .i64 x,.int .i64 top,v3,K4,K5,K6,K7,v8,.int .i64 i,Ka,Kb,Kc,Kd,Ke,Kf,Kg,Kh,Ki,Kj,Kk,Kl,Km,Kn,Ko,Kp,Kq,Kr,Ks,Kt,Ku,Kv,Kw,Kx,Ky,Kz,J0,J1,J2,J3,J4,J5,J6,J7,J8,J9,Ja,Jb,Jc,Jd,Je,Jf] h R = R (.bool (quietFrom b x (top + i) P.cz n)) h := by
 intro n
 induction n with
 | zero =>
  intro i;intros;rename_i hi
  obtain rfl : i = 4 := by omega
  rw [ok_round,l160_0,L160_0a,L160_0b]
  simp [hk,quietFrom]
 | succ n ih =>
  intro i;intros;rename_i hi
  have hb2 := hr.cb.ok.h2
  have hw1 : IntKind.i64.wrap ((i : Int) + 1) = ((i + 1 : Nat) : Int) := wrapN (n := i + 1) (by omega)
  have hw2 : IntKind.i64.wrap (top + (i : Int)) = top + (i : Int) := wrapI (by omega) (by omega)
  have hlt : (i : Int) < 4 := by omega
  have hi' : b.inb x (top + i) := ⟨hx.1,hx.2,by omega,by show top + (i : Int) < b.h; omega⟩
  have hq := hr.blk
  have ih' := fun K4 K5 K6 K7 Ka Kb Kc Kd Ke Kf Kg Kh Ki Kj Kk Kl Km Kn Ko Kp Kq Kr Ks Kt Ku Kv Kw Kx Ky Kz J0 J1 J2 J3 J4 J5 J6 J7 J8 J9 Ja Jb Jc Jd Je Jf => ih (i + 1) K4 K5 K6 K7 Ka Kb Kc Kd Ke Kf Kg Kh Ki Kj Kk Kl Km Kn Ko Kp Kq Kr Ks Kt Ku Kv Kw Kx Ky Kz J0 J1 J2 J3 J4 J5 J6 J7 J8 J9 Ja Jb Jc Jd Je Jf (by omega)
  have hnp : decide (0 < nbH b x (top + i) + nbV b x (top + i) P.cz + nbD b x (top + i) P.cz) = near b x (top + i) P.cz := rfl
  have hyy : top + ((i + 1 : Nat) : Int) = top + (i : Int) + 1 := by omega
  rw [ok_round,l160_0,L160_0a,L160_0b]
  cases hs : (b.get x (top + i)).s
  ·cases ht : (b.get x (top + i)).t
   ·cases hn : near b x (top + i) P.cz
    ·rw [hn] at hnp
     simp [-Int.natCast_add,k_guard,hw1,hw2,hlt,hq,significant_r hr.cb,touched_r hr.cb,near_q hr hi',hs,ht,hn,hnp,ih',hyy,quietFrom,still]
    ·rw [hn] at hnp
     simp [-Int.natCast_add,k_guard,hw1,hw2,hlt,hq,significant_r hr.cb,touched_r hr.cb,near_q hr hi',hs,ht,hn,hnp,quietFrom,still,fin160]
   ·simp [-Int.natCast_add,k_guard,k_guardU,hw1,hw2,hlt,hq,significant_r hr.cb,touched_r hr.cb,hs,ht,quietFrom,still,fin160]
  ·simp [-Int.natCast_add,k_guard,k_guardU,hw1,hw2,hlt,hq,significant_r hr.cb,hs,quietFrom,still,fin160]
theorem quiet_q (hr : QD h f q p c P m sb b) {x y : Int} (hi : b.inb x y) : Ret tab 160 [ptr q,.int .i64 x,.int .i64 y,.int .i64 b.h] h R = R (.bool (quietQ b x y P.cz)) h := by
 have hq := hr.frz.blk
 have hlq := blk?_lt hr.blk
 obtain ⟨i1,i2,i3,i4⟩ := hi
 have hb2 := hr.cb.ok.h2
 have hw : IntKind.i64.wrap (y + 4) = y + 4 := wrapI (by omega) (by omega)
 have hm := tmod4 i3
 rw [enter160,B160]
 by_cases hy : y % 4 = 0
 ·by_cases h4 : y + 4 ≤ b.h
  ·have h4' : ¬ (b.h : Int) < y + 4 := by omega
   have := fun K4 K5 K6 K7 Ka Kb Kc Kd Ke Kf Kg Kh Ki Kj Kk Kl Km Kn Ko Kp Kq Kr Ks Kt Ku Kv Kw Kx Ky Kz J0 J1 J2 J3 J4 J5 J6 J7 J8 J9 Ja Jb Jc Jd Je Jf v3 v8 R hk => quiet_loop_q (R := R) (v3 := v3) (v8 := v8) hr.frz ⟨i1,i2⟩ (top := y) ⟨i3,h4⟩ (k := [.code ((RCode.region [⟨some 8,.mov (.const (.bool true)),none⟩] []).seq .ret)]) hk 4 0 K4 K5 K6 K7 Ka Kb Kc Kd Ke Kf Kg Kh Ki Kj Kk Kl Km Kn Ko Kp Kq Kr Ks Kt Ku Kv Kw Kx Ky Kz J0 J1 J2 J3 J4 J5 J6 J7 J8 J9 Ja Jb Jc Jd Je Jf (by omega)
   simp at this
   simp [k_guard,hq,hlq,hw,hm,hy,h4']
   rw [this]
   ·simp [quietQ,quiet,h4,hy]
   ·intros
    simp [fin160]
  ·have h4' : (b.h : Int) < y + 4 := by omega
   simp [k_guard,hq,hlq,hw,hm,hy,h4',quietQ,quiet,h4,fin160]
 ·have hy' : (y % 4 != 0) = true := by simp [hy]
  simp [k_guard,k_guardU,hq,hlq,hm,hy',quietQ,hy,fin160]
end
structure PQ {c sb : Nat} (A : Src c (callN sb)) (h : Heap) (q p : Nat) (P : PP) (m : MD) (t : A.T) (b : BS) (s : A.S) : Prop where
 qr : QD h false q p c P m sb b
 rel : A.rel h t s
 n1 : c ≠ q ∧ c ≠ p
 n3 : ¬ A.own t q ∧ ¬ A.own t p
section
variable {c sb : Nat} {A : Src c (callN sb)} {h : Heap} {q p : Nat} {P : PP} {m : MD} {t : A.T} {b : BS} {s : A.S}
theorem PQ.lts (he : PQ A h q p P m t b s) : q < h.length ∧ p < h.length ∧ c < h.length := ⟨blk?_lt he.qr.blk,blk?_lt he.qr.cb.blkp,blk?_lt he.qr.cb.blkc⟩
theorem PQ.good (he : PQ A h q p P m t b s) : b.Good := ⟨he.qr.cb.ok,he.qr.rng⟩
theorem PQ.low (he : PQ A h q p P m t b s) {h' : Heap} (hk : ∀ id,id < h.length → blk? h' id = blk? h id) (hl : h.length ≤ h'.length) : PQ A h' q p P m t b s := by
 obtain ⟨l1,l2,l3⟩ := he.lts
 refine ⟨he.qr.keep (fun id hid => hk id ?_) hl,A.stable he.rel hl (fun id h1 _ => hk id h1),he.n1,he.n3⟩
 rcases hid with rfl | rfl | rfl <;> assumption
theorem PQ.push (he : PQ A h q p P m t b s) (x : Option Blk) : PQ A (h ++ [x]) q p P m t b s := he.low (fun id hid => blk?_push_lt hid) (by simp)
theorem PQ.to (he : PQ A h q p P m t b s) {b' : BS} (hb : b.Le b') : PQ A (h.set c (some ⟨false,encC b'.cs⟩)) q p P m t b' s ∧ Stq h (h.set c (some ⟨false,encC b'.cs⟩)) c (A.own t) (A.own t) := by
 obtain ⟨l1,l2,l3⟩ := he.lts
 obtain ⟨m1,m2⟩ := he.n1
 refine ⟨⟨⟨?_,he.qr.cb.set hb.w hb.h hb.good.ok,by have := he.qr.sbl; simpa using this,he.qr.pok,hb.good.rng⟩,A.stable he.rel (by simp) (fun id _ hc => blk?_set_ne (Ne.symm hc)),he.n1,he.n3⟩,Stq.setc _ _ _ _⟩
 rw [blk?_set_ne m1]; exact he.qr.blk
theorem ask_q (he : PQ A h q p P m t b s) (hn : A.size s < 1000000) (ctx : Int) :
  ∃ t' h',(∀ R,Ret tab 156 [ptr q,.int .i64 ctx] h R = R (.int .i64 ((A.ask s (P.cx ctx)).1.toNat : Nat)) h') ∧ PQ A h' q p P m t' b (A.ask s (P.cx ctx)).2 ∧ Stq h h' c (A.own t) (A.own t') := by
 obtain ⟨l1,l2,l3⟩ := he.lts
 obtain ⟨n1,n2⟩ := he.n3
 obtain ⟨t',h',v,e,hv,hr,st⟩ := A.step he.rel hn (P.cx ctx)
 have hfr : ∀ id,id < h.length → ¬ A.own t id → ¬ A.own t' id := fun id hid hno ho => by
  rcases st.fresh id ho with k | k
  ·exact hno k
  ·omega
 refine ⟨t',h',fun R => ?_,⟨he.qr.keep (fun id hid => ?_) st.len,hr,he.n1,hfr _ l1 n1,hfr _ l2 n2⟩,st.q c⟩
 ·have hpq := he.qr.blk
  unfold callN at e
  rw [enter156,B156]
  generalize (A.ask s (P.cx ctx)).1 = bit at hv
  unfold PP.cx at e
  cases hrw : P.rw
  ·rw [hrw] at e hpq
   simp only [Bool.false_eq_true,if_false] at e
   cases bit <;> simp [hpq,e,hv,fin156]
  ·rw [hrw] at e hpq
   simp only [if_true] at e
   cases bit <;> simp [hpq,e,hv,fin156]
 ·rcases hid with rfl | rfl | rfl
  ·exact st.same _ l1 n1
  ·exact st.same _ l2 n2
  ·exact st.same _ l3 (A.c_own he.rel)
theorem sign_q (he : PQ A h q p P m t b s) (hn : A.size s < 1000000) {x y : Int} (hi : b.inb x y) :
  ∃ t' h',(∀ R,Ret tab 184 [ptr q,.int .i64 x,.int .i64 y] h R = R (.tuple #[]) h') ∧ PQ A h' q p P m t' ((dsign P b x y).run A.ask s).1 ((dsign P b x y).run A.ask s).2 ∧ Stq h h' c (A.own t) (A.own t') := by
 obtain ⟨t1,h1,e1,p1,s1⟩ := ask_q he hn (signCtx (sgH b x y) (sgV b x y P.cz))
 rw [dsign,Tr.run_ask,Tr.run_ret]
 generalize hbit : (A.ask s (P.cx (signCtx (sgH b x y) (sgV b x y P.cz)))).1 = bit at *
 generalize (A.ask s (P.cx (signCtx (sgH b x y) (sgV b x y P.cz)))).2 = s' at *
 have hg := he.good
 have hdv := dval_rng he.qr.pok b x y bit
 have g1 := good_putV hg hi hdv
 obtain ⟨p2,s2⟩ := p1.to g1
 have g2 := good_map g1.good (g1.inb hi) kv_mark
 obtain ⟨p3,s3⟩ := p2.to g2
 refine ⟨t1,_,fun R => ?_,p3,(s1.trans s2).trans s3⟩
 have hq := he.qr.blk
 have hq1 := p1.qr.blk
 have hq2 := p2.qr.blk
 have hsc := fun R => set_r (R := R) p1.qr.cb (x := x) (y := y) hi hdv
 have hm := fun R => mark_r (R := R) p2.qr.cb (x := x) (y := y) (g1.inb hi)
 have hc := fun R => ctxSign_r (h := h) (R := R) (joint_range (sgn b (x - 1) y) (sgn b (x + 1) y)) (joint_range (sgn b x (y - 1)) (if (!P.cz || y % 4 != 3) = true then sgn b x (y + 1) else 0))
 change ∀ R,Ret tab _ [.int .i64 (sgH b x y),.int .i64 (sgV b x y P.cz)] h R = R (.tuple #[.int .i64 (signCtx (sgH b x y) (sgV b x y P.cz)),.int .i64 (signFlip (sgH b x y) (sgV b x y P.cz))]) h at hc
 have hs := fun R => signs_r (R := R) he.qr.cb hi P.cz
 have hmm : (fun z : Cell => ({ z with s := true } : Cell)) = mark := rfl
 have hvv : (fun z : Cell => ({ z with v := dval P b x y bit } : Cell)) = putV (dval P b x y bit) := rfl
 rw [hmm] at hm
 rw [hvv] at hsc
 have hsh := shl1 he.qr.pok.s1
 have hwu : IntKind.u64.wrap (P.s : Int) = (P.s : Int) := wrapU (by have := he.qr.pok.s1; omega)
 have hs0 : ¬ (P.s : Int) < 0 := by omega
 have hpw := pw_le he.qr.pok.s1
 have hpp := pw_pos P.s
 have hneg : IntKind.i64.wrap (0 - pw P.s) = -pw P.s := by rw [wrapI (by omega) (by omega)]; omega
 have hneg2 : IntKind.i64.wrap (-pw P.s) = -pw P.s := wrapI (by omega) (by omega)
 have hfl := signFlip_le (sgH b x y) (sgV b x y P.cz)
 have hdd : dval P b x y bit = if (bit != (!P.rw && signFlip (sgH b x y) (sgV b x y P.cz) == 1)) = true then -pw P.s else pw P.s := rfl
 rw [enter184,B184]
 generalize dval P b x y bit = dv at *
 generalize sgH b x y = H at *
 generalize sgV b x y P.cz = V at *
 generalize pw P.s = pp at *
 have hf' : signFlip H V = 0 ∨ signFlip H V = 1 := by omega
 cases hrw : P.rw
 ·rw [hrw] at hq hq1 hq2 hdd
  rcases hf' with hf | hf
  all_goals
   rw [hf] at hc hdd
   cases bit
   all_goals
    simp at hdd e1 hc
    subst hdd
    simp [hq,hq1,hq2,hs,hc,hwu,hs0,hsh,e1,xor00,xor01',xor10,xor11,hneg,hneg2,hsc,hm,fin184]
 ·rw [hrw] at hq hq1 hq2 hdd
  cases bit
  all_goals
   simp at hdd e1 hc
   subst hdd
   simp [hq,hq1,hq2,hs,hc,hwu,hs0,hsh,e1,xor00,xor01',xor10,xor11,hneg,hneg2,hsc,hm,fin184]
theorem code_q (he : PQ A h q p P m t b s) (hn : A.size s + 2 < 1000000) {x y : Int} (hi : b.inb x y) :
  ∃ t' h',(∀ R,Ret tab 154 [ptr q,.int .i64 x,.int .i64 y] h R = R (.tuple #[]) h') ∧ PQ A h' q p P m t' ((dcode P b x y).run A.ask s).1 ((dcode P b x y).run A.ask s).2 ∧ Stq h h' c (A.own t) (A.own t') := by
 obtain ⟨t1,h1,e1,p1,s1⟩ := ask_q he (by omega) (ctxOf P b x y)
 have hsz := A.size_ask s (P.cx (ctxOf P b x y))
 rw [dcode,Tr.run_ask]
 generalize (A.ask s (P.cx (ctxOf P b x y))).1 = bit at *
 generalize (A.ask s (P.cx (ctxOf P b x y))).2 = s' at *
 have hq := he.qr.blk
 have hq1 := p1.qr.blk
 obtain ⟨n1,n2,n3⟩ := nb_le b x y P.cz
 have hnb := fun R => neighbors_r (R := R) he.qr.cb hi P.cz
 have hsg := fun R => significance_r (h := h) (R := R) he.qr.pok.o1 n1 n2 n3
 change ∀ R,Ret tab _ _ h R = R (.int .i64 (ctxOf P b x y)) h at hsg
 cases bit
 ·refine ⟨t1,h1,fun R => ?_,p1,s1⟩
  simp at e1
  rw [enter154,B154]
  simp [hq,hq1,hnb,hsg,e1,fin154,book,logOf,addLog,chk1,lookL,reload]
 ·obtain ⟨t2,h2,e2,p2,s2⟩ := sign_q p1 (by omega) hi
  refine ⟨t2,h2,fun R => ?_,p2,s1.trans s2⟩
  simp at e1
  rw [enter154,B154]
  simp [hq,hq1,hnb,hsg,e1,e2,fin154,book,logOf,addLog,chk1,lookL,reload]
end
section
variable {c sb : Nat} {A : Src c (callN sb)} {h : Heap} {q p : Nat} {P : PP} {m : MD} {t : A.T} {b : BS} {s : A.S}
theorem dsig_loop_q {sl v1 : Value} {pts : List (Int × Int)} {k : List RItem} {R : RP} :
  ∀ (n i : Nat) (h : Heap) (t : A.T) (b : BS) (s : A.S) (K2 K3 K4 K5 K9 Ka Kb Kc Kd Ke Kf Kg Kh Ki Kj Kk Kl Km Kn Ko Kp Kq Kr Ks Kt Ku Kv Kw Kx Ky Kz J0 J1 J2 J3 J4 J5 J6 J7 J8 J9 Ja : Value),n = pts.length - i → i ≤ pts.length → PQ A h q p P m t b s → Fad h sl pts c (A.own t) → AllIn b pts → A.size s + 2 * n + 3 < 1000000 → pts.length < 1000000 →
   (∀ (h' : Heap) (t' : A.T) (K1 K2 K3 K4 K5 K6 K7 K8 K9 Ka Kb Kc Kd Ke Kf Kg Kh Ki Kj Kk Kl Km Kn Ko Kp Kq Kr Ks Kt Ku Kv Kw Kx Ky Kz J0 J1 J2 J3 J4 J5 J6 J7 J8 J9 Ja : Value),PQ A h' q p P m t' ((dsigs P b (pts.drop i)).run A.ask s).1 ((dsigs P b (pts.drop i)).run A.ask s).2 → Stq h h' c (A.own t) (A.own t') → Ok tab R119 k #[ptr q,K1,K2,K3,K4,K5,K6,K7,K8,K9,Ka,Kb,Kc,Kd,Ke,Kf,Kg,Kh,Ki,Kj,Kk,Kl,Km,Kn,Ko,Kp,Kq,Kr,Ks,Kt,Ku,Kv,Kw,Kx,Ky,Kz,J0,J1,J2,J3,J4,J5,J6,J7,J8,J9,Ja] h' R) →
   Ok tab R119 (.inLoop L119_0 :: .inBlock 0 :: k) #[ptr q,v1,K2,K3,K4,K5,sl,.int .i64 pts.length,.int .i64 i,K9,Ka,Kb,Kc,Kd,Ke,Kf,Kg,Kh,Ki,Kj,Kk,Kl,Km,Kn,Ko,Kp,Kq,Kr,Ks,Kt,Ku,Kv,Kw,Kx,Ky,Kz,J0,J1,J2,J3,J4,J5,J6,J7,J8,J9,Ja] h R := by
 intro n
 induction n with
 | zero =>
  intro i h t b s;intros;rename_i hm hi he hf ha hl hpl hk
  have hlt : ¬ ((i : Int) < pts.length) := by omega
  rw [ok_round,l119_0,L119_0a,L119_0b]
  simp [hlt]
  refine hk h t _ _ _ _ _ _ _ _ _ _ _ _ _ _ _ _ _ _ _ _ _ _ _ _ _ _ _ _ _ _ _ _ _ _ _ _ _ _ _ _ _ _ _ _ _ _ ?_ (Stq.refl _ _ _)
  rw [List.drop_of_length_le (by omega)]; exact he
 | succ n ih =>
  intro i h t b s;intros;rename_i hm hi he hf ha hl hpl hk
  have hlt : ((i : Int) < pts.length) := by omega
  have hw : IntKind.i64.wrap ((i : Int) + 1) = (i : Int) + 1 := wrapN (n := i + 1) (by omega)
  have hil : i < pts.length := by omega
  obtain ⟨id,off,blk,hs,hb,ht,hle⟩ := hf.get hil
  have hin := ha _ (List.getElem_mem hil)
  have hsp : dsigs P b (pts.drop i) = (dsig1 P b pts[i].1 pts[i].2).bind fun b => dsigs P b (pts.drop (i + 1)) := by
   rw [List.drop_eq_getElem_cons hil]; rfl
  have hlv := lv_dsig1 he.qr.pok he.good hin
  obtain ⟨hle1,hsz1⟩ := Tr.Lv.out (A := A.ask) (size := A.size) A.size_ask s hlv
  generalize hx : pts[i].1 = x at *
  generalize hy : pts[i].2 = y at *
  rw [hsp] at hk
  simp only [Tr.run_bind] at hk
  have he2 := he.push (some ⟨false,[.int .i64 x,.int .i64 y]⟩)
  have hs2 := Stq.push h (some ⟨false,[.int .i64 x,.int .i64 y]⟩) c (A.own t)
  have hf2 := hf.stq hs2
  have hK : ∀ y : Blk,blk? (h ++ [some y]) h.length = some y := fun y => blk?_push_eq
  obtain ⟨l1,l2,l3⟩ := he.lts
  have hq2 := he2.qr.blk
  have hcb2 := he2.qr.cb
  have hsig := fun R => significant_r (R := R) (x := x) (y := y) hcb2
  have hnb := fun R => near_q (R := R) (x := x) (y := y) he2.qr hin
  have hnp : decide (0 < nbH b x y + nbV b x y P.cz + nbD b x y P.cz) = near b x y P.cz := rfl
  have hskip : dsig1 P b x y = .ret b → ∀ K2 K3 K4 K5 K9 Ka Kb Kc Kd Ke Kf Kg Kh Ki Kj Kk Kl Km Kn Ko Kp Kq Kr Ks Kt Ku Kv Kw Kx Ky Kz J0 J1 J2 J3 J4 J5 J6 J7 J8 J9 Ja : Value,Ok tab R119 (.inLoop L119_0 :: .inBlock 0 :: k) #[ptr q,v1,K2,K3,K4,K5,sl,.int .i64 pts.length,.int .i64 ((i : Int) + 1),K9,Ka,Kb,Kc,Kd,Ke,Kf,Kg,Kh,Ki,Kj,Kk,Kl,Km,Kn,Ko,Kp,Kq,Kr,Ks,Kt,Ku,Kv,Kw,Kx,Ky,Kz,J0,J1,J2,J3,J4,J5,J6,J7,J8,J9,Ja] (h ++ [some ⟨false,[.int .i64 x,.int .i64 y]⟩]) R := by
   intro h1;intros
   rw [h1] at hk
   refine ih (i + 1) _ t b s _ _ _ _ _ _ _ _ _ _ _ _ _ _ _ _ _ _ _ _ _ _ _ _ _ _ _ _ _ _ _ _ _ _ _ _ _ _ _ _ _ _ (by omega) (by omega) he2 hf2 ha (by omega) hpl ?_
   intro h' t';intros;rename_i pe st
   exact hk h' t' _ _ _ _ _ _ _ _ _ _ _ _ _ _ _ _ _ _ _ _ _ _ _ _ _ _ _ _ _ _ _ _ _ _ _ _ _ _ _ _ _ _ _ _ _ _ pe (hs2.trans st)
  rw [ok_round,l119_0,L119_0a,L119_0b]
  cases hsg : (b.get x y).s
  ·cases hnr : near b x y P.cz
   ·have h1 : dsig1 P b x y = .ret b := by unfold dsig1; rw [if_neg (by simp [hnr])]
    rw [hsg] at hsig; rw [hnr] at hnp
    simp [-Int.natCast_add,-List.cons_append,-List.append_assoc,k_guard,hlt,hw,hs,hb,ht,hle,hK,hq2,hsig,hnb,hnp]
    rw [← hs]
    exact hskip h1 ..
   ·obtain ⟨t3,h3,e3,p3,s3⟩ := code_q he2 (by omega) hin
    obtain ⟨hc1,hc2⟩ := Tr.Lv.out (A := A.ask) (size := A.size) A.size_ask s (lv_dcode he.qr.pok he.good hin)
    have h1 : dsig1 P b x y = (dcode P b x y).bind fun b => .ret (b.upd x y (touch true)) := by unfold dsig1; rw [if_pos ⟨hsg,hnr⟩]
    rw [h1] at hk hle1 hsz1
    simp only [Tr.run_bind,Tr.run_ret] at hk hle1 hsz1
    generalize ((dcode P b x y).run A.ask s).1 = b3 at *
    generalize ((dcode P b x y).run A.ask s).2 = s3' at *
    have hq3 := p3.qr.blk
    have hv3 : blk? h3 h.length = some ⟨false,[.int .i64 x,.int .i64 y]⟩ := by
     rw [s3.same h.length (by simp) (by omega) (fun e => by have := A.lt he.rel _ e; omega)]; exact blk?_push_eq
    have htc := fun R => touch_r (R := R) (v := true) p3.qr.cb (x := x) (y := y) (hc1.inb hin)
    obtain ⟨p4,s4⟩ := p3.to (good_map hc1.good (hc1.inb hin) (kv_touch true))
    have hmm : (fun z : Cell => ({ z with t := true } : Cell)) = touch true := rfl
    rw [hmm] at htc
    rw [hsg] at hsig; rw [hnr] at hnp
    simp [-Int.natCast_add,-List.cons_append,-List.append_assoc,k_guard,hlt,hw,hs,hb,ht,hle,hK,hq2,hsig,hnb,hnp,e3,hq3,hv3,htc]
    rw [← hs]
    have st4 := (hs2.trans s3).trans s4
    refine ih (i + 1) _ t3 _ _ _ _ _ _ _ _ _ _ _ _ _ _ _ _ _ _ _ _ _ _ _ _ _ _ _ _ _ _ _ _ _ _ _ _ _ _ _ _ _ _ _ _ (by omega) (by omega) p4 (hf.stq st4) (hle1.all ha) (by omega) hpl ?_
    intro h' t';intros;rename_i pe st
    exact hk h' t' _ _ _ _ _ _ _ _ _ _ _ _ _ _ _ _ _ _ _ _ _ _ _ _ _ _ _ _ _ _ _ _ _ _ _ _ _ _ _ _ _ _ _ _ _ _ pe (st4.trans st)
  ·have h1 : dsig1 P b x y = .ret b := by unfold dsig1; rw [if_neg (by simp [hsg])]
   rw [hsg] at hsig
   simp [-Int.natCast_add,-List.cons_append,-List.append_assoc,k_guard,hlt,hw,hs,hb,ht,hle,hK,hq2,hsig]
   rw [← hs]
   exact hskip h1 ..
theorem significance_q (he : PQ A h q p P m t b s) (hl : A.size s + 100000 < 1000000) {sl : Value} (hf : Fad h sl (scan b.w b.h) c (A.own t)) :
  ∃ t' h',(∀ R,Ret tab 119 [ptr q,sl] h R = R (.tuple #[]) h') ∧ PQ A h' q p P m t' ((dsigs P b (scan b.w b.h)).run A.ask s).1 ((dsigs P b (scan b.w b.h)).run A.ask s).2 ∧ Stq h h' c (A.own t) (A.own t') := by
 have key : Ret tab 119 [ptr q,sl] h fun v h' => v = .tuple #[] ∧ ∃ t',PQ A h' q p P m t' ((dsigs P b (scan b.w b.h)).run A.ask s).1 ((dsigs P b (scan b.w b.h)).run A.ask s).2 ∧ Stq h h' c (A.own t) (A.own t') := by
  obtain ⟨a,cc,hs⟩ := hf.sl.shape
  have hsl := scan_len he.qr.cb.ok.w2 he.qr.cb.ok.h2
  rw [enter119,B119]
  simp [hs]
  rw [← hs]
  refine dsig_loop_q _ 0 h t b s _ _ _ _ _ _ _ _ _ _ _ _ _ _ _ _ _ _ _ _ _ _ _ _ _ _ _ _ _ _ _ _ _ _ _ _ _ _ _ _ _ _ rfl (by omega) he hf (scanIn b) (by omega) (by omega) ?_
  intro h' t';intros;rename_i pe st
  simp [fin119]
  exact ⟨t',by simpa using pe,st⟩
 obtain ⟨v,h',e,rfl,t',pe,st⟩ := ret_ex key
 exact ⟨t',h',e,pe,st⟩
theorem grow_q (he : PQ A h q p P m t b s) {x y : Int} (hi : b.inb x y) :
  ∃ e h',(∀ R,Ret tab 85 [ptr p,.int .i64 x,.int .i64 y,.int .i64 (growV P.s (b.get x y).v)] h R = R (.int .i64 e) h') ∧ PQ A h' q p P m t (grow P.s b x y) s ∧ Stq h h' c (A.own t) (A.own t) ∧ ∀ id,id < h.length → id ≠ c → blk? h' id = blk? h id := by
 have hg := he.good
 have hvv : ∀ v,(fun z : Cell => ({ z with v := v } : Cell)) = putV v := fun v => rfl
 unfold grow
 by_cases hin : -1152921504606846976 < growV P.s (b.get x y).v ∧ growV P.s (b.get x y).v < 1152921504606846976
 ·rw [if_pos hin]
  obtain ⟨p2,s2⟩ := he.to (good_putV hg hi hin)
  have hsc := fun R => set_r (R := R) he.qr.cb (x := x) (y := y) hi hin
  rw [hvv] at hsc
  exact ⟨0,_,hsc,p2,s2,fun id _ hc => blk?_set_ne (Ne.symm hc)⟩
 ·rw [if_neg hin]
  obtain ⟨e,he'⟩ := set_bad_r he.qr.cb (x := x) (y := y) hi hin
  exact ⟨e,h,he',he,Stq.refl _ _ _,fun _ _ _ => rfl⟩
theorem dref_loop_q {sl v1 : Value} {pts : List (Int × Int)} {k : List RItem} {R : RP} :
  ∀ (n i : Nat) (h : Heap) (t : A.T) (b : BS) (s : A.S) (K2 K3 K4 K5 K6 Ka Kb Kc Kd Ke Kf Kg Kh Ki Kj Kk Kl Km Kn Ko Kp Kq Kr Ks Kt Ku Kv Kw Kx Ky Kz J0 J1 J2 J3 J4 J5 J6 J7 J8 J9 Ja Jb Jc Jd Je Jf Jg Jh Ji Jj Jk Jl Jm Jn Jo Jp Jq Jr Js Jt Ju Jv Jw Jx Jy Jz Y0 Y1 Y2 Y3 Y4 Y5 Y6 Y7 Y8 Y9 Ya Yb Yc Yd Ye Yf Yg Yh Yi Yj Yk Yl Ym Yn Yo Yp Yq Yr Ys Yt Yu Yv Yw Yx Yy Yz Z0 Z1 Z2 Z3 Z4 Z5 Z6 Z7 Z8 Z9 Za : Value),n = pts.length - i → i ≤ pts.length → PQ A h q p P m t b s → Fad h sl pts c (A.own t) → AllIn b pts → A.size s + 2 * n + 3 < 1000000 → pts.length < 1000000 →
   (∀ (h' : Heap) (t' : A.T) (K1 K2 K3 K4 K5 K6 K7 K8 K9 Ka Kb Kc Kd Ke Kf Kg Kh Ki Kj Kk Kl Km Kn Ko Kp Kq Kr Ks Kt Ku Kv Kw Kx Ky Kz J0 J1 J2 J3 J4 J5 J6 J7 J8 J9 Ja Jb Jc Jd Je Jf Jg Jh Ji Jj Jk Jl Jm Jn Jo Jp Jq Jr Js Jt Ju Jv Jw Jx Jy Jz Y0 Y1 Y2 Y3 Y4 Y5 Y6 Y7 Y8 Y9 Ya Yb Yc Yd Ye Yf Yg Yh Yi Yj Yk Yl Ym Yn Yo Yp Yq Yr Ys Yt Yu Yv Yw Yx Yy Yz Z0 Z1 Z2 Z3 Z4 Z5 Z6 Z7 Z8 Z9 Za : Value),PQ A h' q p P m t' ((drefs P b (pts.drop i)).run A.ask s).1 ((drefs P b (pts.drop i)).run A.ask s).2 → Stq h h' c (A.own t) (A.own t') → Ok tab R120 k #[ptr q,K1,K2,K3,K4,K5,K6,K7,K8,K9,Ka,Kb,Kc,Kd,Ke,Kf,Kg,Kh,Ki,Kj,Kk,Kl,Km,Kn,Ko,Kp,Kq,Kr,Ks,Kt,Ku,Kv,Kw,Kx,Ky,Kz,J0,J1,J2,J3,J4,J5,J6,J7,J8,J9,Ja,Jb,Jc,Jd,Je,Jf,Jg,Jh,Ji,Jj,Jk,Jl,Jm,Jn,Jo,Jp,Jq,Jr,Js,Jt,Ju,Jv,Jw,Jx,Jy,Jz,Y0,Y1,Y2,Y3,Y4,Y5,Y6,Y7,Y8,Y9,Ya,Yb,Yc,Yd,Ye,Yf,Yg,Yh,Yi,Yj,Yk,Yl,Ym,Yn,Yo,Yp,Yq,Yr,Ys,Yt,Yu,Yv,Yw,Yx,Yy,Yz,Z0,Z1,Z2,Z3,Z4,Z5,Z6,Z7,Z8,Z9,Za] h' R) →
   Ok tab R120 (.inLoop L120_0 :: .inBlock 0 :: k) #[ptr q,v1,K2,K3,K4,K5,K6,sl,.int .i64 pts.length,.int .i64 i,Ka,Kb,Kc,Kd,Ke,Kf,Kg,Kh,Ki,Kj,Kk,Kl,Km,Kn,Ko,Kp,Kq,Kr,Ks,Kt,Ku,Kv,Kw,Kx,Ky,Kz,J0,J1,J2,J3,J4,J5,J6,J7,J8,J9,Ja,Jb,Jc,Jd,Je,Jf,Jg,Jh,Ji,Jj,Jk,Jl,Jm,Jn,Jo,Jp,Jq,Jr,Js,Jt,Ju,Jv,Jw,Jx,Jy,Jz,Y0,Y1,Y2,Y3,Y4,Y5,Y6,Y7,Y8,Y9,Ya,Yb,Yc,Yd,Ye,Yf,Yg,Yh,Yi,Yj,Yk,Yl,Ym,Yn,Yo,Yp,Yq,Yr,Ys,Yt,Yu,Yv,Yw,Yx,Yy,Yz,Z0,Z1,Z2,Z3,Z4,Z5,Z6,Z7,Z8,Z9,Za] h R := by
 intro n
 induction n with
 | zero =>
  intro i h t b s;intros;rename_i hm hi he hf ha hl hpl hk
  have hlt : ¬ ((i : Int) < pts.length) := by omega
  rw [ok_round,l120_0,L120_0a,L120_0b]
  simp [hlt]
  refine hk h t _ _ _ _ _ _ _ _ _ _ _ _ _ _ _ _ _ _ _ _ _ _ _ _ _ _ _ _ _ _ _ _ _ _ _ _ _ _ _ _ _ _ _ _ _ _ _ _ _ _ _ _ _ _ _ _ _ _ _ _ _ _ _ _ _ _ _ _ _ _ _ _ _ _ _ _ _ _ _ _ _ _ _ _ _ _ _ _ _ _ _ _ _ _ _ _ _ _ _ _ _ _ _ _ _ _ _ _ _ _ _ _ _ _ _ _ _ _ ?_ (Stq.refl _ _ _)
  rw [List.drop_of_length_le (by omega)]; exact he
 | succ n ih =>
  intro i h t b s;intros;rename_i hm hi he hf ha hl hpl hk
  have hlt : ((i : Int) < pts.length) := by omega
  have hw : IntKind.i64.wrap ((i : Int) + 1) = (i : Int) + 1 := wrapN (n := i + 1) (by omega)
  have hil : i < pts.length := by omega
  obtain ⟨id,off,blk,hs,hb,ht,hle⟩ := hf.get hil
  have hin := ha _ (List.getElem_mem hil)
  have hsp : drefs P b (pts.drop i) = (dref1 P b pts[i].1 pts[i].2).bind fun b => drefs P b (pts.drop (i + 1)) := by
   rw [List.drop_eq_getElem_cons hil]; rfl
  obtain ⟨hle1,hsz1⟩ := Tr.Lv.out (A := A.ask) (size := A.size) A.size_ask s (lv_dref1 (P := P) he.good hin)
  generalize hx : pts[i].1 = x at *
  generalize hy : pts[i].2 = y at *
  rw [hsp] at hk
  simp only [Tr.run_bind] at hk
  have he2 := he.push (some ⟨false,[.int .i64 x,.int .i64 y]⟩)
  have hs2 := Stq.push h (some ⟨false,[.int .i64 x,.int .i64 y]⟩) c (A.own t)
  have hf2 := hf.stq hs2
  have hK : ∀ y : Blk,blk? (h ++ [some y]) h.length = some y := fun y => blk?_push_eq
  obtain ⟨l1,l2,l3⟩ := he.lts
  have hq2 := he2.qr.blk
  have hcb2 := he2.qr.cb
  have hsig := fun R => significant_r (R := R) (x := x) (y := y) hcb2
  have htch := fun R => touched_r (R := R) (x := x) (y := y) hcb2
  have hrfd := fun R => refined_r (R := R) (x := x) (y := y) hcb2
  have hnb := fun R => near_q (R := R) (x := x) (y := y) he2.qr hin
  have hcx := fun a b R => ctxRefine_r (h := h ++ [some (⟨false,[.int .i64 x,.int .i64 y]⟩ : Blk)]) (R := R) (a := a) (b := b)
  have hnp : decide (0 < nbH b x y + nbV b x y P.cz + nbD b x y P.cz) = near b x y P.cz := rfl
  have hskip : dref1 P b x y = .ret b → ∀ K2 K3 K4 K5 K6 Ka Kb Kc Kd Ke Kf Kg Kh Ki Kj Kk Kl Km Kn Ko Kp Kq Kr Ks Kt Ku Kv Kw Kx Ky Kz J0 J1 J2 J3 J4 J5 J6 J7 J8 J9 Ja Jb Jc Jd Je Jf Jg Jh Ji Jj Jk Jl Jm Jn Jo Jp Jq Jr Js Jt Ju Jv Jw Jx Jy Jz Y0 Y1 Y2 Y3 Y4 Y5 Y6 Y7 Y8 Y9 Ya Yb Yc Yd Ye Yf Yg Yh Yi Yj Yk Yl Ym Yn Yo Yp Yq Yr Ys Yt Yu Yv Yw Yx Yy Yz Z0 Z1 Z2 Z3 Z4 Z5 Z6 Z7 Z8 Z9 Za : Value,Ok tab R120 (.inLoop L120_0 :: .inBlock 0 :: k) #[ptr q,v1,K2,K3,K4,K5,K6,sl,.int .i64 pts.length,.int .i64 ((i : Int) + 1),Ka,Kb,Kc,Kd,Ke,Kf,Kg,Kh,Ki,Kj,Kk,Kl,Km,Kn,Ko,Kp,Kq,Kr,Ks,Kt,Ku,Kv,Kw,Kx,Ky,Kz,J0,J1,J2,J3,J4,J5,J6,J7,J8,J9,Ja,Jb,Jc,Jd,Je,Jf,Jg,Jh,Ji,Jj,Jk,Jl,Jm,Jn,Jo,Jp,Jq,Jr,Js,Jt,Ju,Jv,Jw,Jx,Jy,Jz,Y0,Y1,Y2,Y3,Y4,Y5,Y6,Y7,Y8,Y9,Ya,Yb,Yc,Yd,Ye,Yf,Yg,Yh,Yi,Yj,Yk,Yl,Ym,Yn,Yo,Yp,Yq,Yr,Ys,Yt,Yu,Yv,Yw,Yx,Yy,Yz,Z0,Z1,Z2,Z3,Z4,Z5,Z6,Z7,Z8,Z9,Za] (h ++ [some ⟨false,[.int .i64 x,.int .i64 y]⟩]) R := by
   intro h1;intros
   rw [h1] at hk
   refine ih (i + 1) _ t b s _ _ _ _ _ _ _ _ _ _ _ _ _ _ _ _ _ _ _ _ _ _ _ _ _ _ _ _ _ _ _ _ _ _ _ _ _ _ _ _ _ _ _ _ _ _ _ _ _ _ _ _ _ _ _ _ _ _ _ _ _ _ _ _ _ _ _ _ _ _ _ _ _ _ _ _ _ _ _ _ _ _ _ _ _ _ _ _ _ _ _ _ _ _ _ _ _ _ _ _ _ _ _ _ _ _ _ _ _ _ _ _ _ _ (by omega) (by omega) he2 hf2 ha (by omega) hpl ?_
   intro h' t';intros;rename_i pe st
   exact hk h' t' _ _ _ _ _ _ _ _ _ _ _ _ _ _ _ _ _ _ _ _ _ _ _ _ _ _ _ _ _ _ _ _ _ _ _ _ _ _ _ _ _ _ _ _ _ _ _ _ _ _ _ _ _ _ _ _ _ _ _ _ _ _ _ _ _ _ _ _ _ _ _ _ _ _ _ _ _ _ _ _ _ _ _ _ _ _ _ _ _ _ _ _ _ _ _ _ _ _ _ _ _ _ _ _ _ _ _ _ _ _ _ _ _ _ _ _ _ _ pe (hs2.trans st)
  rw [ok_round,l120_0,L120_0a,L120_0b]
  cases hsg : (b.get x y).s
  ·have h1 : dref1 P b x y = .ret b := by unfold dref1; rw [if_pos (.inl hsg)]
   rw [hsg] at hsig
   simp [-Int.natCast_add,-List.cons_append,-List.append_assoc,k_guard,hlt,hw,hs,hb,ht,hle,hK,hq2,hsig]
   rw [← hs]
   exact hskip h1 ..
  ·cases htc0 : (b.get x y).t
   ·-- refined
    have h1 : dref1 P b x y = .ask (P.cx (refCtx (!(b.get x y).r) (near b x y P.cz))) fun bit => .ret (((growB P.s b x y bit).upd x y refine').upd x y (touch true)) := by unfold dref1; rw [if_neg (by simp [hsg,htc0])]
    obtain ⟨u3,h3,e3,p3,s3⟩ := ask_q he2 (by omega) (refCtx (!(b.get x y).r) (near b x y P.cz))
    rw [h1] at hk hle1 hsz1
    simp only [Tr.run_ask,Tr.run_ret] at hk hle1 hsz1
    generalize (A.ask s (P.cx (refCtx (!(b.get x y).r) (near b x y P.cz)))).1 = bit at *
    generalize (A.ask s (P.cx (refCtx (!(b.get x y).r) (near b x y P.cz)))).2 = s3' at *
    have hq3 := p3.qr.blk
    have hv3 : blk? h3 h.length = some ⟨false,[.int .i64 x,.int .i64 y]⟩ := by
     rw [s3.same h.length (by simp) (by omega) (fun e => by have := A.lt he.rel _ e; omega)]; exact blk?_push_eq
    have hnown : ¬ A.own u3 h.length := fun e => by
     rcases s3.fresh _ e with k | k
     ·have := A.lt he.rel _ k; omega
     ·simp at k; omega
    have hlen3 := s3.len
    simp only [List.length_append,List.length_singleton] at hlen3
    have hgr : ∃ e0 h4,(∀ R,(if bit = true then Ret tab 85 [ptr p,.int .i64 x,.int .i64 y,.int .i64 (growV P.s (b.get x y).v)] h3 R else R (.int .i64 0) h3) = R (.int .i64 e0) h4) ∧ PQ A h4 q p P m u3 (growB P.s b x y bit) s3' ∧ Stq h3 h4 c (A.own u3) (A.own u3) ∧ ∀ id,id < h3.length → id ≠ c → blk? h4 id = blk? h3 id := by
     cases bit
     ·exact ⟨0,h3,fun R => by simp,p3,Stq.refl _ _ _,fun _ _ _ => rfl⟩
     ·obtain ⟨e0,h4,e4,p4,s4,k4⟩ := grow_q p3 hin
      exact ⟨e0,h4,fun R => by simp [e4],p4,s4,k4⟩
    obtain ⟨e0,h4,e4,p4,s4,k4⟩ := hgr
    have hl4 := le_growB (s := P.s) he.good hin bit
    have hq4 := p4.qr.blk
    have hv4 : blk? h4 h.length = some ⟨false,[.int .i64 x,.int .i64 y]⟩ := by rw [k4 _ (by omega) (by omega)]; exact hv3
    generalize growB P.s b x y bit = b4 at *
    have hrf := fun R => refine_r (R := R) p4.qr.cb (x := x) (y := y) (hl4.inb hin)
    have hl5 := good_map hl4.good (hl4.inb hin) kv_refine
    obtain ⟨p5,s5⟩ := p4.to hl5
    have hq5 := p5.qr.blk
    have hv5 : blk? (h4.set c (some ⟨false,encC (b4.upd x y refine').cs⟩)) h.length = some ⟨false,[.int .i64 x,.int .i64 y]⟩ := by
     rw [blk?_set_ne (by omega)]; exact hv4
    have htc := fun R => touch_r (R := R) (v := true) p5.qr.cb (x := x) (y := y) (hl5.inb (hl4.inb hin))
    obtain ⟨p6,s6⟩ := p5.to (good_map hl5.good (hl5.inb (hl4.inb hin)) (kv_touch true))
    have hmm : (fun z : Cell => ({ z with t := true } : Cell)) = touch true := rfl
    have hmr : (fun z : Cell => ({ z with r := true } : Cell)) = refine' := rfl
    rw [hmm] at htc
    rw [hmr] at hrf
    have st6 := (((hs2.trans s3).trans s4).trans s5).trans s6
    have hgo : ∀ K2 K3 K4 K5 K6 Ka Kb Kc Kd Ke Kf Kg Kh Ki Kj Kk Kl Km Kn Ko Kp Kq Kr Ks Kt Ku Kv Kw Kx Ky Kz J0 J1 J2 J3 J4 J5 J6 J7 J8 J9 Ja Jb Jc Jd Je Jf Jg Jh Ji Jj Jk Jl Jm Jn Jo Jp Jq Jr Js Jt Ju Jv Jw Jx Jy Jz Y0 Y1 Y2 Y3 Y4 Y5 Y6 Y7 Y8 Y9 Ya Yb Yc Yd Ye Yf Yg Yh Yi Yj Yk Yl Ym Yn Yo Yp Yq Yr Ys Yt Yu Yv Yw Yx Yy Yz Z0 Z1 Z2 Z3 Z4 Z5 Z6 Z7 Z8 Z9 Za : Value,Ok tab R120 (.inLoop L120_0 :: .inBlock 0 :: k) #[ptr q,v1,K2,K3,K4,K5,K6,sl,.int .i64 pts.length,.int .i64 ((i : Int) + 1),Ka,Kb,Kc,Kd,Ke,Kf,Kg,Kh,Ki,Kj,Kk,Kl,Km,Kn,Ko,Kp,Kq,Kr,Ks,Kt,Ku,Kv,Kw,Kx,Ky,Kz,J0,J1,J2,J3,J4,J5,J6,J7,J8,J9,Ja,Jb,Jc,Jd,Je,Jf,Jg,Jh,Ji,Jj,Jk,Jl,Jm,Jn,Jo,Jp,Jq,Jr,Js,Jt,Ju,Jv,Jw,Jx,Jy,Jz,Y0,Y1,Y2,Y3,Y4,Y5,Y6,Y7,Y8,Y9,Ya,Yb,Yc,Yd,Ye,Yf,Yg,Yh,Yi,Yj,Yk,Yl,Ym,Yn,Yo,Yp,Yq,Yr,Ys,Yt,Yu,Yv,Yw,Yx,Yy,Yz,Z0,Z1,Z2,Z3,Z4,Z5,Z6,Z7,Z8,Z9,Za] ((h4.set c (some ⟨false,encC (b4.upd x y refine').cs⟩)).set c (some ⟨false,encC ((b4.upd x y refine').upd x y (touch true)).cs⟩)) R := by
     intros
     refine ih (i + 1) _ u3 _ _ _ _ _ _ _ _ _ _ _ _ _ _ _ _ _ _ _ _ _ _ _ _ _ _ _ _ _ _ _ _ _ _ _ _ _ _ _ _ _ _ _ _ _ _ _ _ _ _ _ _ _ _ _ _ _ _ _ _ _ _ _ _ _ _ _ _ _ _ _ _ _ _ _ _ _ _ _ _ _ _ _ _ _ _ _ _ _ _ _ _ _ _ _ _ _ _ _ _ _ _ _ _ _ _ _ _ _ _ _ _ _ _ _ _ (by omega) (by omega) p6 (hf.stq st6) (hle1.all ha) (by omega) hpl ?_
     intro h' t';intros;rename_i pe st
     exact hk h' t' _ _ _ _ _ _ _ _ _ _ _ _ _ _ _ _ _ _ _ _ _ _ _ _ _ _ _ _ _ _ _ _ _ _ _ _ _ _ _ _ _ _ _ _ _ _ _ _ _ _ _ _ _ _ _ _ _ _ _ _ _ _ _ _ _ _ _ _ _ _ _ _ _ _ _ _ _ _ _ _ _ _ _ _ _ _ _ _ _ _ _ _ _ _ _ _ _ _ _ _ _ _ _ _ _ _ _ _ _ _ _ _ _ _ _ _ _ _ pe (st6.trans st)
    rw [List.set_set] at hgo
    rw [hsg] at hsig; rw [htc0] at htch
    have hvl := fun R => value_r (R := R) (x := x) (y := y) p3.qr.cb
    have hsh := shl1 he.qr.pok.s1
    have hwu : IntKind.u64.wrap (P.s : Int) = (P.s : Int) := wrapU (by have := he.qr.pok.s1; omega)
    have hs0 : ¬ (P.s : Int) < 0 := by omega
    have hpw := pw_le he.qr.pok.s1
    have hpp := pw_pos P.s
    obtain ⟨r1,r2⟩ := he.qr.rng x y
    have hgv : growV P.s (b.get x y).v = (b.get x y).v + if (b.get x y).v < 0 then -pw P.s else pw P.s := rfl
    generalize growV P.s (b.get x y).v = G at *
    cases bit
    ·simp only [Bool.false_eq_true,if_false] at e4
     obtain rfl : h3 = h4 := by
      have := e4 fun _ h' => h3 = h'
      exact this.mp rfl
     simp at e3
     simp [-Int.natCast_add,-List.cons_append,-List.append_assoc,k_guard,hlt,hw,hs,hb,ht,hle,hK,hq2,hsig,htch,hrfd,hnb,hnp,hcx,e3,hq3,hv3,hrf,hq5,hv5,htc,book,logOf,addLog,chk1,lookL,reload]
     rw [← hs]
     exact hgo ..
    ·simp only [if_true] at e4
     simp at e3
     by_cases hlt0 : (b.get x y).v < 0
     ·rw [if_pos hlt0] at hgv
      have hwg : IntKind.i64.wrap ((b.get x y).v - pw P.s) = G := by rw [wrapI (by omega) (by omega)]; omega
      simp [-Int.natCast_add,-List.cons_append,-List.append_assoc,k_guard,hlt,hw,hs,hb,ht,hle,hK,hq2,hsig,htch,hrfd,hnb,hnp,hvl,hsh,hwu,hs0,hlt0,hwg,hcx,e3,hq3,hv3,e4,hq4,hv4,hrf,hq5,hv5,htc,book,logOf,addLog,chk1,lookL,reload]
      rw [← hs]
      exact hgo ..
     ·rw [if_neg hlt0] at hgv
      have hwg : IntKind.i64.wrap ((b.get x y).v + pw P.s) = G := by rw [wrapI (by omega) (by omega)]; omega
      simp [-Int.natCast_add,-List.cons_append,-List.append_assoc,k_guard,hlt,hw,hs,hb,ht,hle,hK,hq2,hsig,htch,hrfd,hnb,hnp,hvl,hsh,hwu,hs0,hlt0,hwg,hcx,e3,hq3,hv3,e4,hq4,hv4,hrf,hq5,hv5,htc,book,logOf,addLog,chk1,lookL,reload]
      rw [← hs]
      exact hgo ..
   ·have h1 : dref1 P b x y = .ret b := by unfold dref1; rw [if_pos (.inr htc0)]
    rw [hsg] at hsig; rw [htc0] at htch
    simp [-Int.natCast_add,-List.cons_append,-List.append_assoc,k_guard,hlt,hw,hs,hb,ht,hle,hK,hq2,hsig,htch]
    rw [← hs]
    exact hskip h1 ..
theorem refinement_q (he : PQ A h q p P m t b s) (hl : A.size s + 100000 < 1000000) {sl : Value} (hf : Fad h sl (scan b.w b.h) c (A.own t)) :
  ∃ t' h',(∀ R,Ret tab 120 [ptr q,sl] h R = R (.tuple #[]) h') ∧ PQ A h' q p P m t' ((drefs P b (scan b.w b.h)).run A.ask s).1 ((drefs P b (scan b.w b.h)).run A.ask s).2 ∧ Stq h h' c (A.own t) (A.own t') := by
 have key : Ret tab 120 [ptr q,sl] h fun v h' => v = .tuple #[] ∧ ∃ t',PQ A h' q p P m t' ((drefs P b (scan b.w b.h)).run A.ask s).1 ((drefs P b (scan b.w b.h)).run A.ask s).2 ∧ Stq h h' c (A.own t) (A.own t') := by
  obtain ⟨a,cc,hs⟩ := hf.sl.shape
  have hsl := scan_len he.qr.cb.ok.w2 he.qr.cb.ok.h2
  rw [enter120,B120]
  simp [hs]
  rw [← hs]
  refine dref_loop_q _ 0 h t b s _ _ _ _ _ _ _ _ _ _ _ _ _ _ _ _ _ _ _ _ _ _ _ _ _ _ _ _ _ _ _ _ _ _ _ _ _ _ _ _ _ _ _ _ _ _ _ _ _ _ _ _ _ _ _ _ _ _ _ _ _ _ _ _ _ _ _ _ _ _ _ _ _ _ _ _ _ _ _ _ _ _ _ _ _ _ _ _ _ _ _ _ _ _ _ _ _ _ _ _ _ _ _ _ _ _ _ _ _ _ _ _ _ _ rfl (by omega) he hf (scanIn b) (by omega) (by omega) ?_
  intro h' t';intros;rename_i pe st
  simp [fin120]
  exact ⟨t',by simpa using pe,st⟩
 obtain ⟨v,h',e,rfl,t',pe,st⟩ := ret_ex key
 exact ⟨t',h',e,pe,st⟩
end
theorem dchk_run_q {S : Type} (A : S → Int → Bool × S) (P : PP) (r x : Bool) (l : List Bool) (s : S) : (dchk P r (x :: l)).run A s = (dchk P (r && (A s (P.cx 18)).1 == x) l).run A (A s (P.cx 18)).2 := rfl
section
variable {c sb : Nat} {A : Src c (callN sb)} {h : Heap} {q p : Nat} {P : PP} {m : MD} {t : A.T} {b : BS} {s : A.S} {k : List RItem} {R : RP}
theorem runLength_q (he : PQ A h q p P m t b s) (hn : A.size s + 5 < 1000000) {x y : Int} (hx : 0 ≤ x ∧ x < b.w) (hy : 0 ≤ y ∧ y + 4 ≤ b.h) :
  ∃ t' h',(∀ R,Ret tab 161 [ptr q,.int .i64 x,.int .i64 y] h R = R (.int .i64 (((drun P b x y).run A.ask s).1.2 - y)) h') ∧ PQ A h' q p P m t' ((drun P b x y).run A.ask s).1.1 ((drun P b x y).run A.ask s).2 ∧ Stq h h' c (A.own t) (A.own t') := by
 have hb2 := he.qr.cb.ok.h2
 obtain ⟨u1,h1,e1,p1,s1⟩ := ask_q he (by omega) 17
 have z1 := A.size_ask s (P.cx 17)
 have hrun : (drun P b x y).run A.ask s = (if (A.ask s (P.cx 17)).1 = true then Tr.ask (P.cx 18) fun k1 => .ask (P.cx 18) fun k0 => (dsign P b x (y + two2 k1 k0)).bind fun b => .ret (b,y + two2 k1 k0 + 1) else .ret (b,y + 4)).run A.ask (A.ask s (P.cx 17)).2 := rfl
 rw [hrun]
 generalize (A.ask s (P.cx 17)).1 = bit at *
 generalize (A.ask s (P.cx 17)).2 = sa at *
 cases bit
 ·simp only [Bool.false_eq_true,if_false,Tr.run_ret]
  refine ⟨u1,h1,fun R => ?_,p1,s1⟩
  simp at e1
  rw [enter161,B161,show y + 4 - y = 4 by omega]
  simp [e1,fin161]
 ·simp only [if_true,Tr.run_ask,Tr.run_bind,Tr.run_ret]
  obtain ⟨u2,h2,e2,p2,s2⟩ := ask_q p1 (by omega) 18
  have z2 := A.size_ask sa (P.cx 18)
  generalize (A.ask sa (P.cx 18)).1 = k1 at *
  generalize (A.ask sa (P.cx 18)).2 = sb' at *
  obtain ⟨u3,h3,e3,p3,s3⟩ := ask_q p2 (by omega) 18
  have z3 := A.size_ask sb' (P.cx 18)
  generalize (A.ask sb' (P.cx 18)).1 = k0 at *
  generalize (A.ask sb' (P.cx 18)).2 = sc at *
  have h22 := two2_le k1 k0
  have hi4 : b.inb x (y + two2 k1 k0) := ⟨hx.1,hx.2,by omega,by omega⟩
  obtain ⟨u4,h4,e4,p4,s4⟩ := sign_q p3 (by omega) hi4
  refine ⟨u4,h4,fun R => ?_,p4,((s1.trans s2).trans s3).trans s4⟩
  simp at e1
  have hwa : IntKind.i64.wrap (2 * ((k1.toNat : Nat) : Int)) = 2 * ((k1.toNat : Nat) : Int) := by cases k1 <;> simp [wrapI]
  have hwb : IntKind.i64.wrap (2 * ((k1.toNat : Nat) : Int) + ((k0.toNat : Nat) : Int)) = (two2 k1 k0 : Nat) := by
   have : 2 * ((k1.toNat : Nat) : Int) + ((k0.toNat : Nat) : Int) = (two2 k1 k0 : Nat) := by unfold two2; simp
   rw [this]; exact wrapN (by omega)
  have hwc : IntKind.i64.wrap (y + ((two2 k1 k0 : Nat) : Int)) = y + (two2 k1 k0 : Nat) := wrapI (by omega) (by omega)
  have hwd : IntKind.i64.wrap (((two2 k1 k0 : Nat) : Int) + 1) = ((two2 k1 k0 : Nat) : Int) + 1 := wrapI (by omega) (by omega)
  generalize two2 k1 k0 = kk at *
  generalize ((k1.toNat : Nat) : Int) = k1i at *
  generalize ((k0.toNat : Nat) : Int) = k0i at *
  rw [enter161,B161,show y + (kk : Int) + 1 - y = (kk : Int) + 1 by omega]
  simp [e1,e2,hwa,e3,hwb,hwc,e4,hwd,fin161]
theorem clean_loop_q {sl v6 : Value} {pts : List (Int × Int)} {hh : Nat} :
  ∀ (n i : Nat) (h : Heap) (t : A.T) (τ : BS × Nat) (s : A.S) (K3 K4 K5 K8 K9 Ka Kb Kc Kd Kh Ki Kj Kk Kl Km Kn Ko Kp Kq Kr Ks Kt Ku Kv Kw Kx Ky Kz J0 J1 J2 J3 J4 J5 J6 J7 J8 J9 Ja Jb Jc Jd Je Jf Jg Jh Ji Jj Jk Jl Jm Jn Jo Jp Jq Jr Js Jt Ju Jv Jw Jx Jy Jz Y0 Y1 Y2 Y3 Y4 Y5 Y6 Y7 Y8 Y9 Ya Yb Yc Yd Ye Yf Yg Yh Yi Yj Yk Yl Ym Yn Yo Yp Yq : Value),n = pts.length - i → i ≤ pts.length → PQ A h q p P m t τ.1 s → Fad h sl pts c (A.own t) → AllIn τ.1 pts → τ.1.h = hh → A.size s + 4 * n + 6 < 1000000 → τ.2 ≤ 3 → pts.length < 1000000 →
   (∀ (h' : Heap) (t' : A.T) (K2 K3 K4 K5 K7 K8 K9 Ka Kb Kc Kd Ke Kf Kg Kh Ki Kj Kk Kl Km Kn Ko Kp Kq Kr Ks Kt Ku Kv Kw Kx Ky Kz J0 J1 J2 J3 J4 J5 J6 J7 J8 J9 Ja Jb Jc Jd Je Jf Jg Jh Ji Jj Jk Jl Jm Jn Jo Jp Jq Jr Js Jt Ju Jv Jw Jx Jy Jz Y0 Y1 Y2 Y3 Y4 Y5 Y6 Y7 Y8 Y9 Ya Yb Yc Yd Ye Yf Yg Yh Yi Yj Yk Yl Ym Yn Yo Yp Yq : Value),PQ A h' q p P m t' ((dcsteps P τ (pts.drop i)).run A.ask s).1.1 ((dcsteps P τ (pts.drop i)).run A.ask s).2 → Stq h h' c (A.own t) (A.own t') → Ok tab R121 k #[ptr q,sl,K2,K3,K4,K5,v6,K7,K8,K9,Ka,Kb,Kc,Kd,Ke,Kf,Kg,Kh,Ki,Kj,Kk,Kl,Km,Kn,Ko,Kp,Kq,Kr,Ks,Kt,Ku,Kv,Kw,Kx,Ky,Kz,J0,J1,J2,J3,J4,J5,J6,J7,J8,J9,Ja,Jb,Jc,Jd,Je,Jf,Jg,Jh,Ji,Jj,Jk,Jl,Jm,Jn,Jo,Jp,Jq,Jr,Js,Jt,Ju,Jv,Jw,Jx,Jy,Jz,Y0,Y1,Y2,Y3,Y4,Y5,Y6,Y7,Y8,Y9,Ya,Yb,Yc,Yd,Ye,Yf,Yg,Yh,Yi,Yj,Yk,Yl,Ym,Yn,Yo,Yp,Yq] h' R) →
   Ok tab R121 (.inLoop L121_0 :: .inBlock 0 :: k) #[ptr q,sl,.int .i64 hh,K3,K4,K5,v6,.int .i64 τ.2,K8,K9,Ka,Kb,Kc,Kd,sl,.int .i64 pts.length,.int .i64 i,Kh,Ki,Kj,Kk,Kl,Km,Kn,Ko,Kp,Kq,Kr,Ks,Kt,Ku,Kv,Kw,Kx,Ky,Kz,J0,J1,J2,J3,J4,J5,J6,J7,J8,J9,Ja,Jb,Jc,Jd,Je,Jf,Jg,Jh,Ji,Jj,Jk,Jl,Jm,Jn,Jo,Jp,Jq,Jr,Js,Jt,Ju,Jv,Jw,Jx,Jy,Jz,Y0,Y1,Y2,Y3,Y4,Y5,Y6,Y7,Y8,Y9,Ya,Yb,Yc,Yd,Ye,Yf,Yg,Yh,Yi,Yj,Yk,Yl,Ym,Yn,Yo,Yp,Yq] h R := by
 intro n
 induction n with
 | zero =>
  intro i h t τ s;intros;rename_i hm hi he hf ha hh' hl hsk hpl hk
  have hlt : ¬ ((i : Int) < pts.length) := by omega
  rw [ok_round,l121_0,L121_0a,L121_0b]
  simp [hlt]
  refine hk h t _ _ _ _ _ _ _ _ _ _ _ _ _ _ _ _ _ _ _ _ _ _ _ _ _ _ _ _ _ _ _ _ _ _ _ _ _ _ _ _ _ _ _ _ _ _ _ _ _ _ _ _ _ _ _ _ _ _ _ _ _ _ _ _ _ _ _ _ _ _ _ _ _ _ _ _ _ _ _ _ _ _ _ _ _ _ _ _ _ _ _ _ _ _ _ _ ?_ (Stq.refl _ _ _)
  rw [List.drop_of_length_le (by omega)]; exact he
 | succ n ih =>
  intro i h t τ s;intros;rename_i hm hi he hf ha hh' hl hsk hpl hk
  obtain ⟨b,sk⟩ := τ
  simp only at he ha hh' hl hsk
  have hlt : ((i : Int) < pts.length) := by omega
  have hw : IntKind.i64.wrap ((i : Int) + 1) = (i : Int) + 1 := wrapN (n := i + 1) (by omega)
  have hil : i < pts.length := by omega
  obtain ⟨id,off,blk,hs,hb,ht,hle⟩ := hf.get hil
  have hin := ha _ (List.getElem_mem hil)
  have hsp : dcsteps P (b,sk) (pts.drop i) = (dcstep P (b,sk) (pts[i].1,pts[i].2)).bind fun τ => dcsteps P τ (pts.drop (i + 1)) := by
   rw [List.drop_eq_getElem_cons hil]; rfl
  obtain ⟨⟨hle1,hsk1⟩,hsz1⟩ := Tr.Lv.out (A := A.ask) (size := A.size) A.size_ask s (lv_dcstep he.qr.pok (τ := (b,sk)) he.good (p := (pts[i].1,pts[i].2)) hin)
  simp only at hle1 hsk1
  generalize hx : pts[i].1 = x at *
  generalize hy : pts[i].2 = y at *
  rw [hsp] at hk
  simp only [Tr.run_bind] at hk
  have he2 := he.push (some ⟨false,[.int .i64 x,.int .i64 y]⟩)
  have hs2 := Stq.push h (some ⟨false,[.int .i64 x,.int .i64 y]⟩) c (A.own t)
  have hf2 := hf.stq hs2
  have hK : ∀ y : Blk,blk? (h ++ [some y]) h.length = some y := fun y => blk?_push_eq
  obtain ⟨l1,l2,l3⟩ := he.lts
  obtain ⟨i1,i2,i3,i4⟩ := hin
  have hb2 := he.qr.cb.ok.h2
  have hnext : ∀ (h' : Heap) (t' : A.T) (υ : BS × Nat) (s' : A.S) (K3 K4 K5 K8 K9 Ka Kb Kc Kd Kh Ki Kj Kk Kl Km Kn Ko Kp Kq Kr Ks Kt Ku Kv Kw Kx Ky Kz J0 J1 J2 J3 J4 J5 J6 J7 J8 J9 Ja Jb Jc Jd Je Jf Jg Jh Ji Jj Jk Jl Jm Jn Jo Jp Jq Jr Js Jt Ju Jv Jw Jx Jy Jz Y0 Y1 Y2 Y3 Y4 Y5 Y6 Y7 Y8 Y9 Ya Yb Yc Yd Ye Yf Yg Yh Yi Yj Yk Yl Ym Yn Yo Yp Yq : Value),(dcstep P (b,sk) (x,y)).run A.ask s = (υ,s') → PQ A h' q p P m t' υ.1 s' → Stq h h' c (A.own t) (A.own t') →
    Ok tab R121 (.inLoop L121_0 :: .inBlock 0 :: k) #[ptr q,sl,.int .i64 hh,K3,K4,K5,v6,.int .i64 υ.2,K8,K9,Ka,Kb,Kc,Kd,sl,.int .i64 pts.length,.int .i64 ((i : Int) + 1),Kh,Ki,Kj,Kk,Kl,Km,Kn,Ko,Kp,Kq,Kr,Ks,Kt,Ku,Kv,Kw,Kx,Ky,Kz,J0,J1,J2,J3,J4,J5,J6,J7,J8,J9,Ja,Jb,Jc,Jd,Je,Jf,Jg,Jh,Ji,Jj,Jk,Jl,Jm,Jn,Jo,Jp,Jq,Jr,Js,Jt,Ju,Jv,Jw,Jx,Jy,Jz,Y0,Y1,Y2,Y3,Y4,Y5,Y6,Y7,Y8,Y9,Ya,Yb,Yc,Yd,Ye,Yf,Yg,Yh,Yi,Yj,Yk,Yl,Ym,Yn,Yo,Yp,Yq] h' R := by
   intro h' t' υ s';intros;rename_i hυ pe st
   rw [hυ] at hle1 hsk1 hsz1 hk
   simp only at hle1 hsk1 hsz1 hk
   refine ih (i + 1) h' t' υ s' _ _ _ _ _ _ _ _ _ _ _ _ _ _ _ _ _ _ _ _ _ _ _ _ _ _ _ _ _ _ _ _ _ _ _ _ _ _ _ _ _ _ _ _ _ _ _ _ _ _ _ _ _ _ _ _ _ _ _ _ _ _ _ _ _ _ _ _ _ _ _ _ _ _ _ _ _ _ _ _ _ _ _ _ _ _ _ _ _ _ _ (by omega) (by omega) pe (hf.stq st) (hle1.all ha) (hle1.h.trans hh') (by omega) (by omega) hpl ?_
   intro h'' t'';intros;rename_i pe2 st2
   exact hk h'' t'' _ _ _ _ _ _ _ _ _ _ _ _ _ _ _ _ _ _ _ _ _ _ _ _ _ _ _ _ _ _ _ _ _ _ _ _ _ _ _ _ _ _ _ _ _ _ _ _ _ _ _ _ _ _ _ _ _ _ _ _ _ _ _ _ _ _ _ _ _ _ _ _ _ _ _ _ _ _ _ _ _ _ _ _ _ _ _ _ _ _ _ _ _ _ _ _ pe2 (st.trans st2)
  rw [ok_round,l121_0,L121_0a,L121_0b]
  cases sk with
  | succ sk =>
   have hsk0 : (0 : Int) < ((sk + 1 : Nat) : Int) := by omega
   have hskw : IntKind.i64.wrap (((sk + 1 : Nat) : Int) - 1) = (sk : Int) := by rw [wrapI (by omega) (by omega)]; omega
   generalize ((sk + 1 : Nat) : Int) = ski at *
   simp [-List.cons_append,-List.append_assoc,hlt,hw,hs,hb,ht,hle,hK,hsk0,hskw]
   rw [← hs]
   exact hnext _ t (b,sk) s _ _ _ _ _ _ _ _ _ _ _ _ _ _ _ _ _ _ _ _ _ _ _ _ _ _ _ _ _ _ _ _ _ _ _ _ _ _ _ _ _ _ _ _ _ _ _ _ _ _ _ _ _ _ _ _ _ _ _ _ _ _ _ _ _ _ _ _ _ _ _ _ _ _ _ _ _ _ _ _ _ _ _ _ _ _ _ _ _ _ _ rfl he2 hs2
  | zero =>
   have hqt := fun R => quiet_q (R := R) (x := x) (y := y) he2.qr ⟨i1,i2,i3,i4⟩
   rw [hh'] at hqt
   have hq2 := he2.qr.blk
   have hcb2 := he2.qr.cb
   have hsig := fun R => significant_r (R := R) (x := x) (y := y) hcb2
   have htch := fun R => touched_r (R := R) (x := x) (y := y) hcb2
   cases hqq : quietQ b x y P.cz
   ·rw [hqq] at hqt
    have hst : dcstep P (b,0) (x,y) = (dcln1 P b x y).bind fun b => .ret (b,0) := by simp [dcstep,hqq]
    cases hsg : (b.get x y).s
    ·cases htc : (b.get x y).t
     ·have h1 : dcln1 P b x y = dcode P b x y := by unfold dcln1; rw [if_pos ⟨hsg,htc⟩]
      obtain ⟨u3,h3,e3,p3,s3⟩ := code_q he2 (by omega) (x := x) (y := y) ⟨i1,i2,i3,i4⟩
      rw [hsg] at hsig; rw [htc] at htch
      simp [-List.cons_append,-List.append_assoc,k_guard,hlt,hw,hs,hb,ht,hle,hK,hqt,hq2,hsig,htch,e3]
      rw [← hs]
      exact hnext _ u3 (((dcode P b x y).run A.ask s).1,0) _ _ _ _ _ _ _ _ _ _ _ _ _ _ _ _ _ _ _ _ _ _ _ _ _ _ _ _ _ _ _ _ _ _ _ _ _ _ _ _ _ _ _ _ _ _ _ _ _ _ _ _ _ _ _ _ _ _ _ _ _ _ _ _ _ _ _ _ _ _ _ _ _ _ _ _ _ _ _ _ _ _ _ _ _ _ _ _ _ _ _ _ (by rw [hst,h1,Tr.run_bind,Tr.run_ret]) p3 (hs2.trans s3)
     ·have h1 : dcln1 P b x y = .ret b := by unfold dcln1; rw [if_neg (by simp [htc])]
      rw [hsg] at hsig; rw [htc] at htch
      simp [-List.cons_append,-List.append_assoc,k_guard,hlt,hw,hs,hb,ht,hle,hK,hqt,hq2,hsig,htch]
      rw [← hs]
      exact hnext _ t (b,0) s _ _ _ _ _ _ _ _ _ _ _ _ _ _ _ _ _ _ _ _ _ _ _ _ _ _ _ _ _ _ _ _ _ _ _ _ _ _ _ _ _ _ _ _ _ _ _ _ _ _ _ _ _ _ _ _ _ _ _ _ _ _ _ _ _ _ _ _ _ _ _ _ _ _ _ _ _ _ _ _ _ _ _ _ _ _ _ _ _ _ _ (by rw [hst,h1]; rfl) he2 hs2
    ·have h1 : dcln1 P b x y = .ret b := by unfold dcln1; rw [if_neg (by simp [hsg])]
     rw [hsg] at hsig
     simp [-List.cons_append,-List.append_assoc,k_guard,k_guardU,hlt,hw,hs,hb,ht,hle,hK,hqt,hq2,hsig]
     rw [← hs]
     exact hnext _ t (b,0) s _ _ _ _ _ _ _ _ _ _ _ _ _ _ _ _ _ _ _ _ _ _ _ _ _ _ _ _ _ _ _ _ _ _ _ _ _ _ _ _ _ _ _ _ _ _ _ _ _ _ _ _ _ _ _ _ _ _ _ _ _ _ _ _ _ _ _ _ _ _ _ _ _ _ _ _ _ _ _ _ _ _ _ _ _ _ _ _ _ _ _ (by rw [hst,h1]; rfl) he2 hs2
   ·have htop := quietQ_top hqq
    obtain ⟨u3,h3,e3,p3,s3⟩ := runLength_q he2 (by omega) (x := x) (y := y) ⟨i1,i2⟩ ⟨i3,htop⟩
    obtain ⟨⟨r1,r2,r3⟩,_⟩ := Tr.Lv.out (A := A.ask) (size := A.size) A.size_ask s (lv_drun he.qr.pok he.good (x := x) (top := y) ⟨i1,i2,i3,i4⟩ htop)
    have hst : dcstep P (b,0) (x,y) = (drun P b x y).bind fun r => .ret (r.1,(r.2 - y - 1).toNat) := by simp [dcstep,hqq]
    have hgo := hnext h3 u3 (((drun P b x y).run A.ask s).1.1,(((drun P b x y).run A.ask s).1.2 - y - 1).toNat) ((drun P b x y).run A.ask s).2
    have hrw : IntKind.i64.wrap (((drun P b x y).run A.ask s).1.2 - y - 1) = ((((drun P b x y).run A.ask s).1.2 - y - 1).toNat : Int) := by rw [wrapI (by omega) (by omega)]; omega
    have hrr : (dcstep P (b,0) (x,y)).run A.ask s = ((((drun P b x y).run A.ask s).1.1,(((drun P b x y).run A.ask s).1.2 - y - 1).toNat),((drun P b x y).run A.ask s).2) := by rw [hst,Tr.run_bind,Tr.run_ret]
    rw [hqq] at hqt
    simp only at hgo
    generalize (((drun P b x y).run A.ask s).1.2 - y - 1).toNat = nsk at *
    generalize ((drun P b x y).run A.ask s).1.2 - y = rl at *
    simp [-List.cons_append,-List.append_assoc,-Int.ofNat_toNat,hlt,hw,hs,hb,ht,hle,hK,hqt,hq2,e3,hrw]
    rw [← hs]
    exact hgo _ _ _ _ _ _ _ _ _ _ _ _ _ _ _ _ _ _ _ _ _ _ _ _ _ _ _ _ _ _ _ _ _ _ _ _ _ _ _ _ _ _ _ _ _ _ _ _ _ _ _ _ _ _ _ _ _ _ _ _ _ _ _ _ _ _ _ _ _ _ _ _ _ _ _ _ _ _ _ _ _ _ _ _ _ _ _ _ _ _ _ hrr p3 (hs2.trans s3)
theorem clear_loop_q {sl v6 : Value} {pts : List (Int × Int)} :
  ∀ (n i : Nat) (h : Heap) (t : A.T) (b : BS) (s : A.S) (K1 K2 K3 K4 K5 K7 K8 K9 Ka Kb Kc Kd Ke Kf Kg Kh Ki Kj Kk Kl Km Kn Ko Kp Kq Kr Ks Kt Ku Kv Kw Kx Ky Kz J0 J1 J2 J3 J4 J5 J6 J7 J8 J9 Ja Jb Jc Jd Je Jf Jg Jh Ji Jj Jk Jl Jm Jn Jo Jp Jq Jr Js Jt Ju Jy Jz Y0 Y1 Y2 Y3 Y4 Y5 Y6 Y7 Y8 Y9 Ya Yb Yc Yd Ye Yf Yg Yh Yi Yj Yk Yl Ym Yn Yo Yp Yq : Value),n = pts.length - i → i ≤ pts.length → PQ A h q p P m t b s → Fad h sl pts c (A.own t) → AllIn b pts → pts.length < 1000000 →
   (∀ (h' : Heap) (K1 K2 K3 K4 K5 K7 K8 K9 Ka Kb Kc Kd Ke Kf Kg Kh Ki Kj Kk Kl Km Kn Ko Kp Kq Kr Ks Kt Ku Kv Kw Kx Ky Kz J0 J1 J2 J3 J4 J5 J6 J7 J8 J9 Ja Jb Jc Jd Je Jf Jg Jh Ji Jj Jk Jl Jm Jn Jo Jp Jq Jr Js Jt Ju Jv Jw Jx Jy Jz Y0 Y1 Y2 Y3 Y4 Y5 Y6 Y7 Y8 Y9 Ya Yb Yc Yd Ye Yf Yg Yh Yi Yj Yk Yl Ym Yn Yo Yp Yq : Value),PQ A h' q p P m t (b.clr (pts.drop i)) s → Stq h h' c (A.own t) (A.own t) → Ok tab R121 k #[ptr q,K1,K2,K3,K4,K5,v6,K7,K8,K9,Ka,Kb,Kc,Kd,Ke,Kf,Kg,Kh,Ki,Kj,Kk,Kl,Km,Kn,Ko,Kp,Kq,Kr,Ks,Kt,Ku,Kv,Kw,Kx,Ky,Kz,J0,J1,J2,J3,J4,J5,J6,J7,J8,J9,Ja,Jb,Jc,Jd,Je,Jf,Jg,Jh,Ji,Jj,Jk,Jl,Jm,Jn,Jo,Jp,Jq,Jr,Js,Jt,Ju,Jv,Jw,Jx,Jy,Jz,Y0,Y1,Y2,Y3,Y4,Y5,Y6,Y7,Y8,Y9,Ya,Yb,Yc,Yd,Ye,Yf,Yg,Yh,Yi,Yj,Yk,Yl,Ym,Yn,Yo,Yp,Yq] h' R) →
   Ok tab R121 (.inLoop L121_1 :: .inBlock 2 :: k) #[ptr q,K1,K2,K3,K4,K5,v6,K7,K8,K9,Ka,Kb,Kc,Kd,Ke,Kf,Kg,Kh,Ki,Kj,Kk,Kl,Km,Kn,Ko,Kp,Kq,Kr,Ks,Kt,Ku,Kv,Kw,Kx,Ky,Kz,J0,J1,J2,J3,J4,J5,J6,J7,J8,J9,Ja,Jb,Jc,Jd,Je,Jf,Jg,Jh,Ji,Jj,Jk,Jl,Jm,Jn,Jo,Jp,Jq,Jr,Js,Jt,Ju,sl,.int .i64 pts.length,.int .i64 i,Jy,Jz,Y0,Y1,Y2,Y3,Y4,Y5,Y6,Y7,Y8,Y9,Ya,Yb,Yc,Yd,Ye,Yf,Yg,Yh,Yi,Yj,Yk,Yl,Ym,Yn,Yo,Yp,Yq] h R := by
 intro n
 induction n with
 | zero =>
  intro i h t b s;intros;rename_i hm hi he hf ha hpl hk
  have hlt : ¬ ((i : Int) < pts.length) := by omega
  rw [ok_round,l121_1,L121_1a,L121_1b]
  simp [hlt]
  refine hk h _ _ _ _ _ _ _ _ _ _ _ _ _ _ _ _ _ _ _ _ _ _ _ _ _ _ _ _ _ _ _ _ _ _ _ _ _ _ _ _ _ _ _ _ _ _ _ _ _ _ _ _ _ _ _ _ _ _ _ _ _ _ _ _ _ _ _ _ _ _ _ _ _ _ _ _ _ _ _ _ _ _ _ _ _ _ _ _ _ _ _ _ _ _ _ _ _ ?_ (Stq.refl _ _ _)
  rw [List.drop_of_length_le (by omega)]; exact he
 | succ n ih =>
  intro i h t b s;intros;rename_i hm hi he hf ha hpl hk
  have hlt : ((i : Int) < pts.length) := by omega
  have hw : IntKind.i64.wrap ((i : Int) + 1) = (i : Int) + 1 := wrapN (n := i + 1) (by omega)
  have hil : i < pts.length := by omega
  obtain ⟨id,off,blk,hs,hb,ht,hle⟩ := hf.get hil
  have hin := ha _ (List.getElem_mem hil)
  have hsp : b.clr (pts.drop i) = (b.upd pts[i].1 pts[i].2 (touch false)).clr (pts.drop (i + 1)) := by
   rw [List.drop_eq_getElem_cons hil]; rfl
  generalize hx : pts[i].1 = x at *
  generalize hy : pts[i].2 = y at *
  rw [hsp] at hk
  have he2 := he.push (some ⟨false,[.int .i64 x,.int .i64 y]⟩)
  have hs2 := Stq.push h (some ⟨false,[.int .i64 x,.int .i64 y]⟩) c (A.own t)
  have hf2 := hf.stq hs2
  have hK : ∀ y : Blk,blk? (h ++ [some y]) h.length = some y := fun y => blk?_push_eq
  have hq2 := he2.qr.blk
  have htc := fun R => touch_r (R := R) (v := false) he2.qr.cb (x := x) (y := y) hin
  have hl1 := good_map he.good hin (kv_touch false)
  obtain ⟨p4,s4⟩ := he2.to hl1
  have hmm : (fun z : Cell => ({ z with t := false } : Cell)) = touch false := rfl
  rw [hmm] at htc
  have hls : (h ++ [some (⟨false,[.int .i64 x,.int .i64 y]⟩ : Blk)]).set c (some ⟨false,encC (b.upd x y (touch false)).cs⟩) = h.set c (some ⟨false,encC (b.upd x y (touch false)).cs⟩) ++ [some ⟨false,[.int .i64 x,.int .i64 y]⟩] :=
   List.set_append_left _ _ he.lts.2.2
  rw [ok_round,l121_1,L121_1a,L121_1b]
  rw [hls] at htc p4 s4
  simp [-List.cons_append,-List.append_assoc,hlt,hw,hs,hb,ht,hle,hK,hq2,htc]
  rw [← hs]
  have st4 := hs2.trans s4
  refine ih (i + 1) _ t _ s _ _ _ _ _ _ _ _ _ _ _ _ _ _ _ _ _ _ _ _ _ _ _ _ _ _ _ _ _ _ _ _ _ _ _ _ _ _ _ _ _ _ _ _ _ _ _ _ _ _ _ _ _ _ _ _ _ _ _ _ _ _ _ _ _ _ _ _ _ _ _ _ _ _ _ _ _ _ _ _ _ _ _ _ _ _ _ _ _ _ _ _ _ _ (by omega) (by omega) p4 (hf.stq st4) (hl1.all ha) hpl ?_
  intro h';intros;rename_i pe st
  exact hk h' _ _ _ _ _ _ _ _ _ _ _ _ _ _ _ _ _ _ _ _ _ _ _ _ _ _ _ _ _ _ _ _ _ _ _ _ _ _ _ _ _ _ _ _ _ _ _ _ _ _ _ _ _ _ _ _ _ _ _ _ _ _ _ _ _ _ _ _ _ _ _ _ _ _ _ _ _ _ _ _ _ _ _ _ _ _ _ _ _ _ _ _ _ _ _ _ _ pe (st4.trans st)
theorem check_loop_q {v6 : Value} :
  ∀ (n i : Nat) (h : Heap) (t : A.T) (s : A.S) (r : Bool) (K1 K2 K3 K4 K5 K7 K8 K9 Ka Kb Ke Kf Kg Kh Ki Kj Kk Kl Km Kn Ko Kp Kq Kr Ks Kt Ku Kv Kw Kx Ky Kz J0 J1 J2 J3 J4 J5 J6 J7 J8 J9 Ja Jb Jc Jd Je Jf Jg Jh Ji Jj Jk Jl Jm Jn Jo Jp Jq Jr Js Jt Ju Jv Jw Jx Jy Jz Y0 Y1 Y2 Y3 Y4 Y5 Y6 Y7 Y8 Y9 Ya Yb Yc Yd Ye Yf Yg Yh Yi Yj Yk Yl Ym Yn Yo Yp Yq : Value),i + n = 4 → PQ A h q p P m t b s → A.size s + 10 < 1000000 + i →
   (∀ (h' : Heap) (t' : A.T) (K1 K2 K3 K4 K5 K7 K8 K9 Ka Kb Kd Ke Kf Kg Kh Ki Kj Kk Kl Km Kn Ko Kp Kq Kr Ks Kt Ku Kv Kw Kx Ky Kz J0 J1 J2 J3 J4 J5 J6 J7 J8 J9 Ja Jb Jc Jd Je Jf Jg Jh Ji Jj Jk Jl Jm Jn Jo Jp Jq Jr Js Jt Ju Jv Jw Jx Jy Jz Y0 Y1 Y2 Y3 Y4 Y5 Y6 Y7 Y8 Y9 Ya Yb Yc Yd Ye Yf Yg Yh Yi Yj Yk Yl Ym Yn Yo Yp Yq : Value),PQ A h' q p P m t' b ((dchk P r ([true,false,true,false].drop i)).run A.ask s).2 → Stq h h' c (A.own t) (A.own t') → Ok tab R121 k #[ptr q,K1,K2,K3,K4,K5,v6,K7,K8,K9,Ka,Kb,.bool ((dchk P r ([true,false,true,false].drop i)).run A.ask s).1,Kd,Ke,Kf,Kg,Kh,Ki,Kj,Kk,Kl,Km,Kn,Ko,Kp,Kq,Kr,Ks,Kt,Ku,Kv,Kw,Kx,Ky,Kz,J0,J1,J2,J3,J4,J5,J6,J7,J8,J9,Ja,Jb,Jc,Jd,Je,Jf,Jg,Jh,Ji,Jj,Jk,Jl,Jm,Jn,Jo,Jp,Jq,Jr,Js,Jt,Ju,Jv,Jw,Jx,Jy,Jz,Y0,Y1,Y2,Y3,Y4,Y5,Y6,Y7,Y8,Y9,Ya,Yb,Yc,Yd,Ye,Yf,Yg,Yh,Yi,Yj,Yk,Yl,Ym,Yn,Yo,Yp,Yq] h' R) →
   Ok tab R121 (.inLoop L121_2 :: .inBlock 4 :: k) #[ptr q,K1,K2,K3,K4,K5,v6,K7,K8,K9,Ka,Kb,.bool r,.int .i64 i,Ke,Kf,Kg,Kh,Ki,Kj,Kk,Kl,Km,Kn,Ko,Kp,Kq,Kr,Ks,Kt,Ku,Kv,Kw,Kx,Ky,Kz,J0,J1,J2,J3,J4,J5,J6,J7,J8,J9,Ja,Jb,Jc,Jd,Je,Jf,Jg,Jh,Ji,Jj,Jk,Jl,Jm,Jn,Jo,Jp,Jq,Jr,Js,Jt,Ju,Jv,Jw,Jx,Jy,Jz,Y0,Y1,Y2,Y3,Y4,Y5,Y6,Y7,Y8,Y9,Ya,Yb,Yc,Yd,Ye,Yf,Yg,Yh,Yi,Yj,Yk,Yl,Ym,Yn,Yo,Yp,Yq] h R := by
 intro n
 induction n with
 | zero =>
  intro i h t s r;intros;rename_i hi he hl hk
  obtain rfl : i = 4 := by omega
  rw [ok_round,l121_2,L121_2a,L121_2b]
  simp
  exact hk h t _ _ _ _ _ _ _ _ _ _ _ _ _ _ _ _ _ _ _ _ _ _ _ _ _ _ _ _ _ _ _ _ _ _ _ _ _ _ _ _ _ _ _ _ _ _ _ _ _ _ _ _ _ _ _ _ _ _ _ _ _ _ _ _ _ _ _ _ _ _ _ _ _ _ _ _ _ _ _ _ _ _ _ _ _ _ _ _ _ _ _ _ _ _ _ _ he (Stq.refl _ _ _)
 | succ n ih =>
  intro i h t s r;intros;rename_i hi he hl hk
  obtain ⟨u1,h1,e1,p1,s1⟩ := ask_q he (by omega) 18
  have z1 := A.size_ask s (P.cx 18)
  obtain ⟨x,hx,hxr⟩ : ∃ x : Bool,[true,false,true,false].drop i = x :: [true,false,true,false].drop (i + 1) ∧ IntKind.i64.wrap (1 - (i : Int).tmod 2) = ((x.toNat : Nat) : Int) := by
   have : i = 0 ∨ i = 1 ∨ i = 2 ∨ i = 3 := by omega
   rcases this with rfl | rfl | rfl | rfl
   ·exact ⟨true,rfl,by decide⟩
   ·exact ⟨false,rfl,by decide⟩
   ·exact ⟨true,rfl,by decide⟩
   ·exact ⟨false,rfl,by decide⟩
  rw [hx,dchk_run_q] at hk
  generalize (A.ask s (P.cx 18)).1 = bit at *
  generalize (A.ask s (P.cx 18)).2 = sa at *
  have hlt : (i : Int) < 4 := by omega
  have hw : IntKind.i64.wrap ((i : Int) + 1) = ((i + 1 : Nat) : Int) := wrapN (n := i + 1) (by omega)
  have hcmp : (((bit.toNat : Nat) : Int) == ((x.toNat : Nat) : Int)) = (bit == x) := by cases bit <;> cases x <;> rfl
  have hcmp2 : (((bit.toNat : Nat) : Int) != ((x.toNat : Nat) : Int)) = !(bit == x) := by cases bit <;> cases x <;> rfl
  have hgo := fun K1 K2 K3 K4 K5 K7 K8 K9 Ka Kb Ke Kf Kg Kh Ki Kj Kk Kl Km Kn Ko Kp Kq Kr Ks Kt Ku Kv Kw Kx Ky Kz J0 J1 J2 J3 J4 J5 J6 J7 J8 J9 Ja Jb Jc Jd Je Jf Jg Jh Ji Jj Jk Jl Jm Jn Jo Jp Jq Jr Js Jt Ju Jv Jw Jx Jy Jz Y0 Y1 Y2 Y3 Y4 Y5 Y6 Y7 Y8 Y9 Ya Yb Yc Yd Ye Yf Yg Yh Yi Yj Yk Yl Ym Yn Yo Yp Yq => ih (i + 1) h1 u1 sa (r && bit == x) K1 K2 K3 K4 K5 K7 K8 K9 Ka Kb Ke Kf Kg Kh Ki Kj Kk Kl Km Kn Ko Kp Kq Kr Ks Kt Ku Kv Kw Kx Ky Kz J0 J1 J2 J3 J4 J5 J6 J7 J8 J9 Ja Jb Jc Jd Je Jf Jg Jh Ji Jj Jk Jl Jm Jn Jo Jp Jq Jr Js Jt Ju Jv Jw Jx Jy Jz Y0 Y1 Y2 Y3 Y4 Y5 Y6 Y7 Y8 Y9 Ya Yb Yc Yd Ye Yf Yg Yh Yi Yj Yk Yl Ym Yn Yo Yp Yq (by omega) p1 (by omega)
  rw [ok_round,l121_2,L121_2a,L121_2b]
  generalize hbx : (bit == x) = bx at *
  generalize ((bit.toNat : Nat) : Int) = bn at *
  generalize ((x.toNat : Nat) : Int) = xn at *
  generalize ((i + 1 : Nat) : Int) = wi at *
  cases bx
  ·rw [Bool.and_false] at hgo hk
   simp [k_guard,hlt,hw,e1,hxr,hcmp2]
   refine hgo _ _ _ _ _ _ _ _ _ _ _ _ _ _ _ _ _ _ _ _ _ _ _ _ _ _ _ _ _ _ _ _ _ _ _ _ _ _ _ _ _ _ _ _ _ _ _ _ _ _ _ _ _ _ _ _ _ _ _ _ _ _ _ _ _ _ _ _ _ _ _ _ _ _ _ _ _ _ _ _ _ _ _ _ _ _ _ _ _ _ _ _ _ _ _ ?_
   intro h' t';intros;rename_i pe st
   exact hk h' t' _ _ _ _ _ _ _ _ _ _ _ _ _ _ _ _ _ _ _ _ _ _ _ _ _ _ _ _ _ _ _ _ _ _ _ _ _ _ _ _ _ _ _ _ _ _ _ _ _ _ _ _ _ _ _ _ _ _ _ _ _ _ _ _ _ _ _ _ _ _ _ _ _ _ _ _ _ _ _ _ _ _ _ _ _ _ _ _ _ _ _ _ _ _ _ _ pe (s1.trans st)
  ·rw [Bool.and_true] at hgo hk
   simp [k_guard,hlt,hw,e1,hxr,hcmp2]
   refine hgo _ _ _ _ _ _ _ _ _ _ _ _ _ _ _ _ _ _ _ _ _ _ _ _ _ _ _ _ _ _ _ _ _ _ _ _ _ _ _ _ _ _ _ _ _ _ _ _ _ _ _ _ _ _ _ _ _ _ _ _ _ _ _ _ _ _ _ _ _ _ _ _ _ _ _ _ _ _ _ _ _ _ _ _ _ _ _ _ _ _ _ _ _ _ _ ?_
   intro h' t';intros;rename_i pe st
   exact hk h' t' _ _ _ _ _ _ _ _ _ _ _ _ _ _ _ _ _ _ _ _ _ _ _ _ _ _ _ _ _ _ _ _ _ _ _ _ _ _ _ _ _ _ _ _ _ _ _ _ _ _ _ _ _ _ _ _ _ _ _ _ _ _ _ _ _ _ _ _ _ _ _ _ _ _ _ _ _ _ _ _ _ _ _ _ _ _ _ _ _ _ _ _ _ _ _ _ pe (s1.trans st)
theorem cleanup_q (he : PQ A h q p P m t b s) (hl : A.size s + 100000 < 1000000) {sl : Value} (hf : Fad h sl (scan b.w b.h) c (A.own t)) :
  ∃ t' h',(∀ R,Ret tab 121 [ptr q,sl,.int .i64 b.h] h R = R (.bool ((dclean P b m.sy).run A.ask s).1.2) h') ∧ PQ A h' q p P m t' ((dclean P b m.sy).run A.ask s).1.1 ((dclean P b m.sy).run A.ask s).2 ∧ Stq h h' c (A.own t) (A.own t') := by
 have key : Ret tab 121 [ptr q,sl,.int .i64 b.h] h fun v h' => v = .bool ((dclean P b m.sy).run A.ask s).1.2 ∧ ∃ t',PQ A h' q p P m t' ((dclean P b m.sy).run A.ask s).1.1 ((dclean P b m.sy).run A.ask s).2 ∧ Stq h h' c (A.own t) (A.own t') := by
  have hw2 := he.qr.cb.ok.w2
  have hh2 := he.qr.cb.ok.h2
  have hsl := scan_len he.qr.cb.ok.w2 he.qr.cb.ok.h2
  have hst : 12 * b.w * stripesOf b.h ≤ 12 * 64 * 16 := Nat.mul_le_mul (by omega) (by unfold stripesOf; omega)
  have g2 : 0 + 4 * ((stripesOf b.h : Nat) : Int) ≤ b.h + 3 := by unfold stripesOf; omega
  obtain ⟨hls,hsz⟩ := Tr.Lv.out (A := A.ask) (size := A.size) A.size_ask s (lv_dstripes he.qr.pok (n := stripesOf b.h) he.good (top := 0) (by omega) g2)
  have hcl : (dclean P b m.sy).run A.ask s = ((((dstripes P b 0 (stripesOf b.h)).run A.ask s).1.clr (scan b.w b.h),((dcheck P m.sy).run A.ask ((dstripes P b 0 (stripesOf b.h)).run A.ask s).2).1),((dcheck P m.sy).run A.ask ((dstripes P b 0 (stripesOf b.h)).run A.ask s).2).2) := by
   unfold dclean
   simp only [Tr.run_bind,Tr.run_ret]
   rw [hls.w,hls.h]
  rw [hcl]
  obtain ⟨a,cc,hs⟩ := hf.sl.shape
  rw [enter121,show B121 = .seq (nthC 0 B121) (.seq (nthC 1 B121) (.seq (nthC 2 B121) (.seq (nthC 3 B121) (tlC 4 B121)))) from rfl]
  generalize hT : tlC 4 B121 = tl
  simp only [nthC,tlC,fstC,B121]
  simp [hs]
  rw [← hs]
  refine clean_loop_q _ 0 h t (b,0) s _ _ _ _ _ _ _ _ _ _ _ _ _ _ _ _ _ _ _ _ _ _ _ _ _ _ _ _ _ _ _ _ _ _ _ _ _ _ _ _ _ _ _ _ _ _ _ _ _ _ _ _ _ _ _ _ _ _ _ _ _ _ _ _ _ _ _ _ _ _ _ _ _ _ _ _ _ _ _ _ _ _ _ _ _ _ _ _ _ _ _ rfl (by omega) he hf (scanIn b) rfl (by omega) (Nat.zero_le _) (by omega) ?_
  intro h1 u1;intros;rename_i p1 s1
  rw [List.drop_zero,dcsteps_all he.qr.pok he.good,Tr.run_bind,Tr.run_ret] at p1
  simp only at p1
  have f1 := hf.stq s1
  have hall : AllIn ((dstripes P b 0 (stripesOf b.h)).run A.ask s).1 (scan b.w b.h) := by have := scanIn ((dstripes P b 0 (stripesOf b.h)).run A.ask s).1; rwa [hls.w,hls.h] at this
  simp [hs]
  rw [← hs]
  refine clear_loop_q _ 0 h1 u1 _ _ _ _ _ _ _ _ _ _ _ _ _ _ _ _ _ _ _ _ _ _ _ _ _ _ _ _ _ _ _ _ _ _ _ _ _ _ _ _ _ _ _ _ _ _ _ _ _ _ _ _ _ _ _ _ _ _ _ _ _ _ _ _ _ _ _ _ _ _ _ _ _ _ _ _ _ _ _ _ _ _ _ _ _ _ _ _ _ _ _ _ _ _ _ _ rfl (by omega) p1 f1 hall (by omega) ?_
  intro h3;intros;rename_i p3 s3
  rw [List.drop_zero] at p3
  have hcg := le_clr hls.good hall
  generalize ((dstripes P b 0 (stripesOf b.h)).run A.ask s).2 = sa at *
  generalize ((dstripes P b 0 (stripesOf b.h)).run A.ask s).1.clr (scan b.w b.h) = b3 at *
  have hq3 := p3.qr.blk
  rw [← hT]
  simp only [tlC,B121]
  cases hon : m.sy
  ·rw [hon] at hq3
   simp [hq3,dcheck,Tr.run_ret,fin121]
   exact ⟨u1,p3,s1.trans s3⟩
  ·rw [hon] at hq3
   have hdc : dcheck P true = dchk P true [true,false,true,false] := rfl
   rw [hdc]
   simp [hq3]
   refine check_loop_q 4 0 h3 u1 sa true _ _ _ _ _ _ _ _ _ _ _ _ _ _ _ _ _ _ _ _ _ _ _ _ _ _ _ _ _ _ _ _ _ _ _ _ _ _ _ _ _ _ _ _ _ _ _ _ _ _ _ _ _ _ _ _ _ _ _ _ _ _ _ _ _ _ _ _ _ _ _ _ _ _ _ _ _ _ _ _ _ _ _ _ _ _ _ _ _ _ _ _ _ _ _ (by omega) p3 (by omega) ?_
   intro h' t';intros;rename_i pe st
   simp [fin121]
   exact ⟨t',by simpa using pe,(s1.trans s3).trans st⟩
 obtain ⟨v,h',e,rfl,t',pe,st⟩ := ret_ex key
 exact ⟨t',h',e,pe,st⟩
end
section
variable {c sb : Nat} {A : Src c (callN sb)} {h : Heap} {p : Nat} {t : A.T} {b : BS} {s : A.S}
theorem DRes.low {h h' : Heap} (hb : CB h false p c b) (hr : b.Rng) (hrel : A.rel h t s) (hk : ∀ id,id < h.length → blk? h' id = blk? h id) (hl : h.length ≤ h'.length) : DRes A h h' p t t b s :=
 ⟨⟨by rw [hk _ (blk?_lt hb.blkp)]; exact hb.blkp,by rw [hk _ (blk?_lt hb.blkc)]; exact hb.blkc,hb.ok⟩,⟨hb.ok,hr⟩,A.stable hrel hl (fun id h1 _ => hk id h1),Stq.low hk hl _ _⟩
theorem PQ.scan {q : Nat} {P : PP} {m : MD} (he : PQ A h q p P m t b s) : ∃ sl h',(∀ R,Ret tab 118 [.int .i64 b.w,.int .i64 b.h] h R = R sl h') ∧ PQ A h' q p P m t b s ∧ Stq h h' c (A.own t) (A.own t) ∧ Fad h' sl (scan b.w b.h) c (A.own t) := by
 have ho := he.qr.cb.ok
 obtain ⟨l1,l2,l3⟩ := he.lts
 obtain ⟨s1,h',e,m'⟩ := scan_r ho.w1 ho.w2 ho.h1 ho.h2 h
 refine ⟨s1,h',e,he.low m'.low m'.len,Stq.low m'.low m'.len c _,⟨m'.own.sl,fun id hid => ?_⟩⟩
 have h1 := m'.far id hid
 refine ⟨?_,by omega,fun e => by have := A.lt he.rel id e; omega⟩
 rcases m'.own.2 with ⟨rfl,_⟩ | ⟨id',rfl,hb⟩
 ·simp [sid] at hid
 ·simp [sid] at hid; subst hid; exact blk?_lt hb
theorem run_q (hb : CB h false p c b) (hr : b.Rng) (hrel : A.rel h t s) (hp : ¬ A.own t p) (hsb : sb < h.length) (hl : A.size s + 100000 < 1000000) (n planes o : Int) (m : MD) :
  ∃ t' h',(∀ R,Ret tab 77 [ptr p,.int .i64 n,.int .i64 planes,.int .i64 o,m.val,ptr sb] h R = R (.int .i64 (dErr n planes o (dOut A.ask m b n planes o s).1.2)) h') ∧
   DRes A h h' p t t' (dOut A.ask m b n planes o s).1.1 (dOut A.ask m b n planes o s).2 := by
 have key : Ret tab 77 [ptr p,.int .i64 n,.int .i64 planes,.int .i64 o,m.val,ptr sb] h fun v h' => v = .int .i64 (dErr n planes o (dOut A.ask m b n planes o s).1.2) ∧ ∃ t',DRes A h h' p t t' (dOut A.ask m b n planes o s).1.1 (dOut A.ask m b n planes o s).2 := by
  have hb1 : CB (h ++ [some ⟨false,[.bool m.byp,.bool m.res,.bool m.rst,.bool m.cz,.bool m.sy]⟩]) false p c b := ⟨blk?_push hb.blkp,blk?_push hb.blkc,hb.ok⟩
  have hsz := fun R => size_r (R := R) hb1
  have hw0 := hb.ok.w1
  have hw0' : ((b.w : Int) == 0) = false := by simp; omega
  have hnone : runErr n planes o ≠ 0 → ∀ h',(∀ id,id < h.length → blk? h' id = blk? h id) → h.length ≤ h'.length → ∃ t',DRes A h h' p t t' (dOut A.ask m b n planes o s).1.1 (dOut A.ask m b n planes o s).2 := by
   intro he h' hk hl
   unfold dOut
   rw [if_neg he]
   exact ⟨t,DRes.low hb hr hrel hk hl⟩
  have hkp : ∀ x : Option Blk,∀ id,id < h.length → blk? (h ++ [x]) id = blk? h id := fun x id hid => blk?_push_lt hid
  rw [enter77,show B77 = .seq (nthC 0 B77) (.seq (nthC 1 B77) (.seq (nthC 2 B77) (.seq (nthC 3 B77) (.seq (nthC 4 B77) (.seq (nthC 5 B77) (tlC 6 B77)))))) from rfl]
  generalize hT : tlC 6 B77 = tl
  simp only [nthC,tlC,fstC,B77]
  obtain ⟨byp,res,rst,cz,sy⟩ := m
  simp only [MD.val] at *
  have herr : ∀ e,runErr n planes o = e → e ≠ 0 → dErr n planes o (dOut A.ask ⟨byp,res,rst,cz,sy⟩ b n planes o s).1.2 = e := by
   intro e he h0
   unfold dErr; rw [he,if_pos h0]
  by_cases h1 : planes < 1
  ·have he := runErr_lo (n := n) (o := o) (.inl h1 : planes < 1 ∨ 60 < planes ∨ n < 0 ∨ 3 * planes - 3 < n)
   simp [k_guard,k_guardU,hsz,hw0',h1,fin77]
   exact ⟨(herr 2 he (by decide)).symm,hnone (by rw [he]; decide) _ (hkp _) (by simp)⟩
  by_cases h2 : 60 < planes
  ·have he := runErr_lo (n := n) (o := o) (.inr (.inl h2) : planes < 1 ∨ 60 < planes ∨ n < 0 ∨ 3 * planes - 3 < n)
   simp [k_guard,k_guardU,hsz,hw0',h1,h2,fin77]
   exact ⟨(herr 2 he (by decide)).symm,hnone (by rw [he]; decide) _ (hkp _) (by simp)⟩
  by_cases h3 : n < 0
  ·have he := runErr_lo (n := n) (o := o) (.inr (.inr (.inl h3)) : planes < 1 ∨ 60 < planes ∨ n < 0 ∨ 3 * planes - 3 < n)
   simp [k_guard,k_guardU,hsz,hw0',h1,h2,h3,fin77]
   exact ⟨(herr 2 he (by decide)).symm,hnone (by rw [he]; decide) _ (hkp _) (by simp)⟩
  have hm1 : IntKind.i64.wrap (3 * planes) = 3 * planes := wrapI (by omega) (by omega)
  have hm2 : IntKind.i64.wrap (3 * planes - 3) = 3 * planes - 3 := wrapI (by omega) (by omega)
  by_cases h4 : 3 * planes - 3 < n
  ·have he := runErr_lo (n := n) (o := o) (.inr (.inr (.inr h4)) : planes < 1 ∨ 60 < planes ∨ n < 0 ∨ 3 * planes - 3 < n)
   simp [k_guard,k_guardU,hsz,hw0',h1,h2,h3,hm1,hm2,h4,fin77]
   exact ⟨(herr 2 he (by decide)).symm,hnone (by rw [he]; decide) _ (hkp _) (by simp)⟩
  by_cases h5 : 0 ≤ o ∧ o ≤ 3
  case neg =>
   have he : runErr n planes o = 3 := by unfold runErr; rw [if_neg (by omega),if_pos (by omega)]
   have hd : decide (0 ≤ o ∧ o ≤ 3) = false := by simp [h5]
   simp [-decide_eq_false_iff_not,-Bool.decide_and,k_guard,k_guardU,hsz,hw0',h1,h2,h3,hm1,hm2,h4,validOrient_r,hd,fin77]
   exact ⟨(herr 3 he (by decide)).symm,hnone (by rw [he]; decide) _ (hkp _) (by simp)⟩
  have hd : decide (0 ≤ o ∧ o ≤ 3) = true := by simp [h5]
  simp [-decide_eq_true_eq,-Bool.decide_and,k_guard,k_guardU,hsz,hw0',h1,h2,h3,hm1,hm2,h4,validOrient_r,hd]
  have he : runErr n planes o = 0 := by unfold runErr; rw [if_neg (by omega),if_neg (by omega)]
  unfold dErr dOut
  rw [he]
  simp only [ne_eq,not_true_eq_false,if_false,if_true]
  obtain ⟨n,rfl⟩ := Int.eq_ofNat_of_zero_le (show 0 ≤ n by omega)
  obtain ⟨planes,rfl⟩ := Int.eq_ofNat_of_zero_le (show 0 ≤ planes by omega)
  obtain ⟨o,rfl⟩ := Int.eq_ofNat_of_zero_le (show 0 ≤ o by omega)
  simp only [Int.toNat_natCast]
  generalize hres : (dRun ⟨byp,res,rst,cz,sy⟩ b n planes o).run A.ask s = dr
  have hp' := fun h R => pass_r (h := h) (R := R) (n := n) (by omega)
  have hrw := fun h R => raw_r (h := h) (R := R) (n := n) (by omega) ⟨byp,res,rst,cz,sy⟩
  have hpl := planeOf_le (n := n) (planes := planes) (by omega) (by omega)
  have e1 : IntKind.i64.wrap ((planes : Int) - 1) = ((planes - 1 : Nat) : Int) := by rw [wrapI (by omega) (by omega)]; omega
  have e2 : IntKind.i64.wrap (((planes - 1 : Nat) : Int) - (planeOf n : Int)) = ((planes - 1 - planeOf n : Nat) : Int) := by rw [wrapI (by omega) (by omega)]; omega
  rw [← hT,show tlC 6 B77 = .seq (nthC 6 B77) (.seq (nthC 7 B77) (tlC 8 B77)) from rfl]
  generalize hT2 : tlC 8 B77 = tl2
  simp only [nthC,tlC,fstC,B77]
  simp only [MD.val] at hrw
  have hlp := blk?_lt hb.blkp
  have hlc := blk?_lt hb.blkc
  simp [hp',hrw,e1,e2,app_len,app_add,app_zero,app_succ,app_set,app_setk,book,logOf,addLog,chk1,lookL,reload]
  generalize hP : runPP ⟨byp,res,rst,cz,sy⟩ n planes o = P
  have hPs : P.s = planes - 1 - planeOf n := by rw [← hP]; rfl
  have hPo : P.o = o := by rw [← hP]; rfl
  have hPc : P.cz = cz := by rw [← hP]; rfl
  have hPr : P.rw = rawOf ⟨byp,res,rst,cz,sy⟩ n := by rw [← hP]; rfl
  have hrs : dRun ⟨byp,res,rst,cz,sy⟩ b n planes o = if kindOf n = 0 then (dsigs P b (scan b.w b.h)).bind fun b => .ret (b,true) else if kindOf n = 1 then (drefs P b (scan b.w b.h)).bind fun b => .ret (b,true) else dclean P b sy := by
   unfold dRun; rw [hP]
  rw [hrs] at hres
  rw [← hPr,← hPs,← hPo,← hPc]
  generalize hH : h ++ [some (⟨false,[.bool byp,.bool res,.bool rst,.bool P.cz,.bool sy]⟩ : Blk),
   some ⟨false,[ptr p,.int .i64 P.s,.int .i64 P.o,.bool byp,.bool res,.bool rst,.bool P.cz,.bool sy,.bool P.rw,ptr sb]⟩] = H
  have hlow : ∀ id,id < h.length → blk? H id = blk? h id := fun id hid => by rw [← hH]; exact app_lt hid
  have hHl : H.length = h.length + 2 := by rw [← hH]; simp
  have hlt := fun id (ho : A.own t id) => A.lt hrel id ho
  have he : PQ A H (h.length + 1) p P ⟨byp,res,rst,P.cz,sy⟩ t b s := by
   refine ⟨⟨by rw [← hH,app_add]; rfl,⟨by rw [hlow _ hlp]; exact hb.blkp,by rw [hlow _ hlc]; exact hb.blkc,hb.ok⟩,by omega,⟨by rw [hPs]; omega,by rw [hPo]; omega⟩,hr⟩,A.stable hrel (by omega) (fun id h1 _ => hlow id h1),?_,?_⟩
   ·have := hb.ne; omega
   ·exact ⟨fun e => by have := hlt _ e; omega,hp⟩
  obtain ⟨sl,H1,es,he1,st1,f1⟩ := he.scan
  have fin : ∀ (b' : BS) (s' : A.S) (t' : A.T) (H' : Heap),PQ A H' (h.length + 1) p P ⟨byp,res,rst,P.cz,sy⟩ t' b' s' → Stq H H' c (A.own t) (A.own t') → ∃ t',DRes A h H' p t t' b' s' := by
   intro b' s' t' H' pe st
   exact ⟨t',pe.qr.cb,pe.good,pe.rel,(Stq.low hlow (by omega) _ _).trans st⟩
  rw [← hT2]
  simp only [tlC,B77]
  have hk : kindOf n = 0 ∨ kindOf n = 1 ∨ kindOf n = 2 := by unfold kindOf; split <;> omega
  rcases hk with hk | hk | hk
  ·obtain ⟨t',H',e,pe,st⟩ := significance_q he1 hl f1
   rw [if_pos hk] at hres
   simp only [Tr.run_bind,Tr.run_ret] at hres
   subst hres
   simp [hk,es,e,fin77]
   exact fin _ _ _ _ pe (st1.trans st)
  ·obtain ⟨t',H',e,pe,st⟩ := refinement_q he1 hl f1
   rw [if_neg (by omega),if_pos hk] at hres
   simp only [Tr.run_bind,Tr.run_ret] at hres
   subst hres
   simp [hk,es,e,fin77]
   exact fin _ _ _ _ pe (st1.trans st)
  ·obtain ⟨t',H',e,pe,st⟩ := cleanup_q he1 hl f1
   rw [if_neg (by omega),if_neg (by omega)] at hres
   subst hres
   simp only at e pe st
   cases hok : ((dclean P b sy).run A.ask s).1.2
   ·rw [hok] at e
    simp [hk,es,e,fin77]
    exact fin _ _ _ _ pe (st1.trans st)
   ·rw [hok] at e
    simp [hk,es,e,fin77]
    exact fin _ _ _ _ pe (st1.trans st)
 obtain ⟨v,h',e,rfl,t',rs⟩ := ret_ex key
 exact ⟨t',h',e,rs⟩
end
theorem bit_get (bits : List Int) (n : Nat) : (n < bits.length → bits.getD n 0 = bits.getD n 0 ∧ bits[n]? = some (bits.getD n 0)) ∧ (¬ n < bits.length → bits.getD n 0 = 0) := by
 refine ⟨fun h => ⟨rfl,by simp [List.getD_eq_getElem?_getD,List.getElem?_eq_getElem h]⟩,fun h => by simp [List.getD_eq_getElem?_getD,List.getElem?_eq_none (show bits.length ≤ n by omega)]⟩
theorem bits_cell {h : Heap} {bv : Value} {bits : List Int} (hs : Sl h 1 bv bits.length (i64s bits)) {n : Nat} (hn : n < bits.length) :
  ∃ id off b,bv = .slice (some ⟨id,off,none⟩) bits.length 1 ∧ blk? h id = some b ∧ b.cells[off + n]? = some (.int .i64 (bits.getD n 0)) := by
 obtain ⟨id,off,b,e,hb,hc⟩ := hs.get hn
 have := hc 0 (by omega)
 refine ⟨id,off,b,e,hb,?_⟩
 rw [Nat.mul_one,Nat.add_zero,Nat.add_zero] at this
 rw [this]; simp [i64s,List.getD_eq_getElem?_getD,List.getElem?_eq_getElem hn]
def ownA (ga : Nat) (gv : Value) (id : Nat) : Prop := id = ga ∨ sid gv = some id
structure RelR (c sb : Nat) (bv : Value) (bits : List Int) (h : Heap) (av : Value) (s : List (Int × Int)) : Prop where
 blk : blk? h sb = some ⟨false,[.pointer none,.pointer none,bv,av]⟩
 own : OwnS h 2 av s.length (encP s)
 sl : Sl h 1 bv bits.length (i64s bits)
 bvf : ∀ id,sid bv = some id → id < h.length ∧ id ≠ c ∧ id ≠ sb ∧ sid av ≠ some id
 avf : ∀ id,sid av = some id → id ≠ c ∧ id ≠ sb
 ne : sb ≠ c
 cl : c < h.length
theorem RelR.keep {c sb : Nat} {bv : Value} {bits : List Int} {h h' : Heap} {av : Value} {s : List (Int × Int)} (r : RelR c sb bv bits h av s) (hl : h.length ≤ h'.length) (hk : ∀ id,id = sb ∨ sid av = some id ∨ sid bv = some id → blk? h' id = blk? h id) : RelR c sb bv bits h' av s :=
 ⟨by rw [hk _ (.inl rfl)]; exact r.blk,r.own.of_blk fun id hid hb => by rw [hk _ (.inr (.inl hid))]; exact hb,r.sl.of_sid fun id b hid hb => by rw [hk _ (.inr (.inr hid))]; exact hb,fun id hid => by obtain ⟨a,b⟩ := r.bvf id hid; exact ⟨by omega,b⟩,r.avf,r.ne,by have := r.cl; omega⟩
theorem next_r {c sb : Nat} {bv : Value} {bits : List Int} {h : Heap} {av : Value} {s : List (Int × Int)} (hr : RelR c sb bv bits h av s) (hs : s.length < 1000000) (hbl : bits.length < 1000000) (x : Int) :
  ∃ av' h',(∀ R,Ret tab 185 [ptr sb,.int .i64 x] h R = R (.int .i64 (bits.getD s.length 0)) h') ∧ RelR c sb bv bits h' av' (s ++ [(x,bits.getD s.length 0)]) ∧ Stu h h' (ownA sb av) (ownA sb av') := by
 obtain ⟨hb,ho,hsl,hbf,hgf,n1,hcl0⟩ := hr
 have hla := blk?_lt hb
 generalize hbit : bits.getD s.length 0 = bit
 have hslA : Sl (h ++ [some ⟨false,[.int .i64 x,.int .i64 bit]⟩]) 2 (.slice (some ⟨h.length,0,none⟩) 1 2) 1 [.int .i64 x,.int .i64 bit] := ⟨by simp,.inr ⟨h.length,0,rfl,.inr ⟨_,blk?_push_eq,by simp,by simp⟩⟩⟩
 have hoA : OwnS (h ++ [some ⟨false,[.int .i64 x,.int .i64 bit]⟩]) 2 av s.length (encP s) := ho.of_blk fun id _ hb => blk?_push hb
 obtain ⟨H,ha,hK,hHl,hHs⟩ := own_append (bytes := 16) hoA hslA (by unfold roomCells; omega) (by omega) (by omega)
 simp only [List.length_append,List.length_singleton] at ha hK hHl hHs
 have hk : ∀ id,id < h.length → sid av ≠ some id → blk? H id = blk? h id := fun id hid hne => by rw [hHs id (by omega) hne,blk?_push_lt hid]
 have hga : sid av ≠ some sb := fun e => (hgf _ e).2 rfl
 have hH1 := hk sb hla hga
 rw [hb] at hH1
 obtain ⟨a,cc,hsh⟩ := ho.sl.shape
 obtain ⟨ba,bc,hbsh⟩ := hsl.shape
 have hE : ∀ x : Blk,blk? (H.set sb (some x)) sb = some x := fun x => blk?_set_eq (by omega)
 refine ⟨.slice (some ⟨h.length + 1,0,none⟩) (s.length + 1) 2,H.set sb (some ⟨false,[.pointer none,.pointer none,bv,.slice (some ⟨h.length + 1,0,none⟩) (s.length + 1) 2]⟩),fun R => ?_,⟨hE _,⟨encP_len _,.inr ⟨h.length + 1,by simp,?_⟩⟩,hsl.of_sid fun id b hid hb' => ?_,fun id hid => ?_,fun id hid => ?_,n1,by simp; omega⟩,⟨by simp; omega,fun id h1 h2 => ?_,fun id hid => ?_⟩⟩
 ·obtain ⟨g1,g2⟩ := bit_get bits s.length
  rw [enter185,B185]
  by_cases hlt : s.length < bits.length
  ·obtain ⟨id,off,b,hbv,hbk,hcl⟩ := bits_cell hsl hlt
   have hltI : (s.length : Int) < bits.length := by omega
   rw [hbit] at hcl
   rw [hsh] at hb ha hH1
   rw [hbv] at hb hH1 ⊢
   by_cases hx : 0 ≤ x
   ·have hx' : ¬ x < 0 := by omega
    simp (maxSteps := 1000000) [k_guard,k_guardU,hx,hx',hb,hltI,hlt,hbk,hcl,repL,ha,hH1,fin185]
   ·have hx' : x < 0 := by omega
    simp (maxSteps := 1000000) [k_guard,k_guardU,hx,hx',hb,hltI,hlt,hbk,hcl,repL,ha,hH1,fin185]
  ·have hltI : ¬ (s.length : Int) < bits.length := by omega
   rw [g2 hlt] at hbit
   subst hbit
   rw [hsh] at hb ha hH1
   rw [hbsh] at hb hH1 ⊢
   by_cases hx : 0 ≤ x
   ·have hx' : ¬ x < 0 := by omega
    simp (maxSteps := 1000000) [k_guard,k_guardU,hx,hx',hb,hltI,hlt,repL,ha,hH1,fin185]
   ·have hx' : x < 0 := by omega
    simp (maxSteps := 1000000) [k_guard,k_guardU,hx,hx',hb,hltI,hlt,repL,ha,hH1,fin185]
 ·rw [blk?_set_ne (by omega),hK,encP_append]; rfl
 ·obtain ⟨f1,f2,f3,f4⟩ := hbf id hid
  rw [blk?_set_ne (fun e => f3 e.symm),hk id f1 f4]; exact hb'
 ·obtain ⟨f1,f2,f3,f4⟩ := hbf id hid
  exact ⟨by simp; omega,f2,f3,by simp [sid]; omega⟩
 ·simp [sid] at hid; subst hid
  omega
 ·rw [blk?_set_ne (fun e => h2 (.inl e.symm)),hk id h1 (fun e => h2 (.inr e))]
 ·rcases hid with rfl | hid
  ·exact .inl (.inl rfl)
  ·simp [sid] at hid; right; omega
def srcR (c sb : Nat) (bv : Value) (bits : List Int) (hbl : bits.length < 1000000) : Src c (callN sb) where
 S := List (Int × Int)
 T := Value
 ask := askB bits
 rel := RelR c sb bv bits
 own := ownA sb
 size := List.length
 lt := fun h id e => by
  rcases e with rfl | e
  ·exact blk?_lt h.blk
  ·exact h.own.lt e
 stable := fun {h h' t s} hr hl hk => hr.keep hl fun id hid => by
  rcases hid with rfl | hid | hid
  ·exact hk _ (blk?_lt hr.blk) hr.ne
  ·exact hk _ (hr.own.lt hid) (hr.avf _ hid).1
  ·exact hk _ (hr.bvf _ hid).1 (hr.bvf _ hid).2.1
 size_ask := fun _ _ => by simp [askB]
 step := fun {h t s} hr hs x => by
  obtain ⟨av',h',e,hr',st⟩ := next_r hr hs hbl x
  exact ⟨av',h',_,e,rfl,hr',st⟩
 c_own := fun {h t s} hr e => by
  rcases e with e | e
  ·exact hr.ne e.symm
  ·exact (hr.avf _ e).1 rfl
theorem encP_at {h : Heap} {av : Value} {s : List (Int × Int)} (hs : Sl h 2 av s.length (encP s)) {i : Nat} (hi : i < s.length) :
  ∃ id off b,av = .slice (some ⟨id,off,none⟩) s.length 2 ∧ blk? h id = some b ∧ (b.cells.drop (off + i * 2)).take 2 = [.int .i64 s[i].1,.int .i64 s[i].2] ∧ off + i * 2 + 2 ≤ b.cells.length := by
 obtain ⟨id,off,b,rfl,hb,hc⟩ := hs.get hi
 obtain ⟨g0,g1⟩ := encP_get s i hi
 have c0 := hc 0 (by omega)
 have c1 := hc 1 (by omega)
 rw [Nat.add_zero,Nat.add_zero,g0] at c0
 rw [g1] at c1
 obtain ⟨ht,hle⟩ := two c0 c1
 exact ⟨id,off,b,rfl,hb,ht,hle⟩
theorem dOut_le {bits : List Int} {m : MD} {b : BS} (hg : b.Good) {n planes o : Int} {s : List (Int × Int)} : b.Le (dOut (askB bits) m b n planes o s).1.1 ∧ (dOut (askB bits) m b n planes o s).2.length ≤ s.length + 20000 := by
 unfold dOut
 split
 ·rename_i he
  have hr : 1 ≤ planes ∧ planes ≤ 60 ∧ 0 ≤ n ∧ n ≤ 3 * planes - 3 ∧ 0 ≤ o ∧ o ≤ 3 := by
   unfold runErr at he
   split at he
   ·cases he
   ·split at he
    ·cases he
    ·omega
  have := Tr.Lv.out (A := askB bits) (size := List.length) (fun _ _ => by simp [askB]) s (lv_dRun (m := m) hg (n := n.toNat) (planes := planes.toNat) (o := o.toNat) (runPP_ok (by omega) (by omega) (by omega)))
  exact this
 ·exact ⟨BS.Le.refl hg,by simp⟩
end Go.Proofs.YtjpjohchdfoeaaaGreat
