/-
  The source that gives out symbols.
  Values: the passes.
  Values: what it returns.
-/
import Derived.Test.YtjpjohchdfoeaaaDec4
import Derived.Test.YtjpjohchdfoeaaaDst
namespace Go.Proofs.Ytjpjohchdfoeaaa
open Go Go.Sim
set_option linter.unusedSimpArgs false
set_option linter.unusedVariables false
theorem Sl.tail {h : Heap} {s : Value} {l : List (Int × Int)} {p : Int × Int} (hs : Sl h 2 s (l.length + 1) (encP (p :: l))) :
    ∃ id off b, s = .slice (some ⟨id, off, none⟩) (l.length + 1) 2 ∧ blk? h id = some b ∧ b.cells[off]? = some (.int .i64 p.1) ∧ b.cells[off + 1]? = some (.int .i64 p.2) ∧ Sl h 2 (.slice (some ⟨id, off + 2, none⟩) l.length 2) l.length (encP l) := by
  obtain ⟨id, off, b, e, hb, hc⟩ := hs.get (i := 0) (by omega)
  have c0 := hc 0 (by omega)
  have c1 := hc 1 (by omega)
  simp [encP] at c0 c1
  refine ⟨id, off, b, e, hb, c0, c1, by rw [encP_len], .inr ⟨id, off + 2, rfl, ?_⟩⟩
  obtain ⟨hl, hs⟩ := hs
  rcases hs with ⟨rfl, h0⟩ | ⟨id', off', e', h0 | ⟨b', hb', hle, hct⟩⟩
  · cases e
  · omega
  · rw [e] at e'
    injection e' with e1 e2 e3
    injection e1 with e1
    injection e1 with e1 e4
    subst e1 e4
    rw [hb] at hb'
    injection hb' with hb'
    subst hb'
    refine .inr ⟨b, hb, by omega, ?_⟩
    have h2 := congrArg (List.drop 2) hct
    rw [List.drop_take, List.drop_drop] at h2
    simp [encP] at h2
    rw [← h2]
    congr 1
    omega

structure RelV (c sb : Nat) (h : Heap) (sv : Value) (s : List (Int × Int) × Bool) : Prop where
  blk : blk? h sb = some ⟨false, [sv, .bool s.2]⟩
  sl : Sl h 2 sv s.1.length (encP s.1)
  far : ∀ id, sid sv = some id → id < h.length ∧ id ≠ c ∧ id ≠ sb
  ne : sb ≠ c

theorem next_d {c sb : Nat} {h : Heap} {sv : Value} {s : List (Int × Int) × Bool} (hr : RelV c sb h sv s) (x : Int) :
    ∃ sv' h' v, (∀ R, Ret tab 94 [ptr sb, .int .i64 x] h R = R (.int .i64 v) h') ∧ (v != 0) = (askV s x).1 ∧ RelV c sb h' sv' (askV s x).2 ∧ Stu h h' (fun id => id = sb) (fun id => id = sb) := by
  obtain ⟨l, bad⟩ := s
  obtain ⟨hb, hsl, hf, hne⟩ := hr
  simp only at hb hsl
  have hls := blk?_lt hb
  have hset : ∀ sv' bad', Stu h (h.set sb (some ⟨false, [sv', .bool bad']⟩)) (fun id => id = sb) (fun id => id = sb) := fun sv' bad' => ⟨by simp, fun id h1 h2 => blk?_set_ne (fun e => h2 e.symm), fun id h => .inl h⟩
  have hE : ∀ x : Blk, blk? (h.set sb (some x)) sb = some x := fun x => blk?_set_eq hls
  -- turned bad
  have hbad : askV (l, bad) x = (false, (l, true)) → RelV c sb (h.set sb (some ⟨false, [sv, .bool true]⟩)) sv (askV (l, bad) x).2 := by
    intro e
    rw [e]
    refine ⟨hE _, hsl.of_sid fun id b hid hb => ?_, fun id hid => by simpa using hf id hid, hne⟩
    rw [blk?_set_ne (fun e => (hf id hid).2.2 e.symm)]; exact hb
  cases l with
  | nil =>
    obtain ⟨a, cc, hsh⟩ := hsl.shape
    have e : askV ([], bad) x = (false, ([], true)) := by cases bad <;> rfl
    refine ⟨sv, h.set sb (some ⟨false, [sv, .bool true]⟩), 0, fun R => ?_, by rw [e]; rfl, hbad e, hset _ _⟩
    rw [enter94, B94]
    subst hsh
    simp [k_guard, k_guardU, hb, hE, fin94]
  | cons p l =>
    obtain ⟨id, off, b, rfl, hbk, c0, c1, htl⟩ := Sl.tail hsl
    have hfar := hf id rfl
    obtain ⟨p1, p2⟩ := p
    simp only at c0 c1
    by_cases h1 : p1 = x
    · subst h1
      by_cases h2 : p2 = 0 ∨ p2 = 1
      · -- a bit
        cases bad
        · have e : askV ((p1, p2) :: l, false) p1 = (p2 == 1, (l, false)) := by simp only [askV]; rw [if_pos ⟨trivial, h2⟩]
          refine ⟨.slice (some ⟨id, off + 2, none⟩) l.length 2, h.set sb (some ⟨false, [.slice (some ⟨id, off + 2, none⟩) l.length 2, .bool false]⟩), p2, fun R => ?_, by rw [e]; rcases h2 with rfl | rfl <;> rfl, ?_, hset _ _⟩
          · rw [enter94, B94]
            have hnl : ((l.length : Int) + 1 == 0) = false := by simp; omega
            have hpos : (0 : Int) < (l.length : Int) + 1 := by omega
            have hsv : sliceV 2 (.slice (some ⟨id, off, none⟩) (l.length + 1) 2) (some (.int .i64 1)) none = some (.slice (some ⟨id, off + 2, none⟩) l.length 2) := by
              have hle : ((1 : Int) ≤ (l.length : Int) + 1) := by omega
              simp [sliceV, bndO, bnd, hle]
            rcases h2 with rfl | rfl <;> simp [k_guard, k_guardU, hb, hbk, c0, c1, hnl, hpos, hsv, fin94]
          · rw [e]
            refine ⟨hE _, htl.of_sid fun id' b' hid hb' => ?_, fun id' hid => ?_, hne⟩
            · simp [sid] at hid; subst hid
              rw [blk?_set_ne (fun e => hfar.2.2 e.symm)]; exact hb'
            · simp [sid] at hid; subst hid
              simpa using hfar
        · have e : askV ((p1, p2) :: l, true) p1 = (false, ((p1, p2) :: l, true)) := rfl
          refine ⟨_, h, 0, fun R => ?_, by rw [e]; rfl, by rw [e]; exact ⟨hb, hsl, hf, hne⟩, ⟨Nat.le_refl _, fun _ _ _ => rfl, fun id h => .inl h⟩⟩
          rw [enter94, B94]
          have hnl : ((l.length : Int) + 1 == 0) = false := by simp; omega
          have hpos : (0 : Int) < (l.length : Int) + 1 := by omega
          rcases h2 with rfl | rfl <;> simp [k_guard, k_guardU, hb, hbk, c0, c1, hnl, hpos, fin94]
      · have e : askV ((p1, p2) :: l, bad) p1 = (false, ((p1, p2) :: l, true)) := by
          cases bad
          · simp only [askV]; rw [if_neg (fun e => h2 e.2)]
          · rfl
        refine ⟨_, h.set sb (some ⟨false, [.slice (some ⟨id, off, none⟩) (l.length + 1) 2, .bool true]⟩), 0, fun R => ?_, by rw [e]; rfl, hbad e, hset _ _⟩
        rw [enter94, B94]
        have hnl : ((l.length : Int) + 1 == 0) = false := by simp; omega
        have hpos : (0 : Int) < (l.length : Int) + 1 := by omega
        have g0 : (p2 != 0) = true := by simp; omega
        have g1 : (p2 != 1) = true := by simp; omega
        simp [k_guard, k_guardU, hb, hbk, hE, c0, c1, g0, g1, hnl, hpos, fin94]
    · have e : askV ((p1, p2) :: l, bad) x = (false, ((p1, p2) :: l, true)) := by
        cases bad
        · simp only [askV]; rw [if_neg (fun e => h1 e.1)]
        · rfl
      refine ⟨_, h.set sb (some ⟨false, [.slice (some ⟨id, off, none⟩) (l.length + 1) 2, .bool true]⟩), 0, fun R => ?_, by rw [e]; rfl, hbad e, hset _ _⟩
      rw [enter94, B94]
      have hnl : ((l.length : Int) + 1 == 0) = false := by simp; omega
      have hpos : (0 : Int) < (l.length : Int) + 1 := by omega
      have g1 : (p1 != x) = true := by simp; exact h1
      simp [k_guard, k_guardU, hb, hbk, hE, c0, c1, g1, hnl, hpos, fin94]

/-- The source. -/
def srcV (c sb : Nat) : Src c (callF (.func (.func 94) #[ptr sb] #[])) where
  S := List (Int × Int) × Bool
  T := Value
  ask := askV
  rel := RelV c sb
  own := fun _ id => id = sb
  size := fun _ => 0
  lt := fun h id e => by rw [e]; exact blk?_lt h.blk
  stable := fun {h h' t s} hr hl hk => ⟨by rw [hk _ (blk?_lt hr.blk) hr.ne]; exact hr.blk, hr.sl.of_sid fun id b hid hb => (by obtain ⟨f1, f2, f3⟩ := hr.far id hid; rw [hk id f1 f2]; exact hb), fun id hid => (by obtain ⟨f1, f2, f3⟩ := hr.far id hid; exact ⟨by omega, f2, f3⟩), hr.ne⟩
  size_ask := fun _ _ => by simp
  step := fun {h t s} hr _ x => by
    obtain ⟨sv', h', v, e, hv, hr', st⟩ := next_d hr x
    refine ⟨sv', h', v, fun R => ?_, hv, hr', st⟩
    unfold callF
    rw [callK_func]
    exact e R
  c_own := fun hr e => hr.ne e.symm
/-- Rows of symbols of any integers. -/
structure PsI (h : Heap) (s : Value) (vs : List Value) (ls : List (List (Int × Int))) : Prop where
  sl : Sl h 1 s vs.length vs
  len : vs.length = ls.length
  each : ∀ i (h1 : i < vs.length) (h2 : i < ls.length), Sl h 2 vs[i] ls[i].length (encP ls[i])
  lt : ∀ i (h1 : i < vs.length) id, sid vs[i] = some id → id < h.length
theorem PsI.keep {h h' : Heap} {s : Value} {vs : List Value} {ls : List (List (Int × Int))} (hp : PsI h s vs ls) (hl : h.length ≤ h'.length) (hk : ∀ id, id < h.length → blk? h' id = blk? h id) : PsI h' s vs ls :=
  ⟨hp.sl.of_sid fun id b _ hb => by rw [hk id (blk?_lt hb)]; exact hb, hp.len, fun i h1 h2 => (hp.each i h1 h2).of_sid fun id b _ hb => by rw [hk id (blk?_lt hb)]; exact hb, fun i h1 id hid => Nat.lt_of_lt_of_le (hp.lt i h1 id hid) hl⟩

/-- In the midst of Values. -/
structure VLv (h0 H : Heap) (M p c : Nat) (m : MD) (w hh : Nat) (b : BS) : Prop where
  low : ∀ id, id < h0.length → blk? H id = blk? h0 id
  len : h0.length ≤ H.length
  box : blk? H M = some ⟨false, [.bool m.byp, .bool m.res, .bool m.rst, .bool m.cz, .bool m.sy]⟩
  cb : CB H false p c b
  good : b.Good
  d : h0.length ≤ c ∧ M ≠ c
  bw : b.w = w
  bh : b.h = hh
  dp : h0.length ≤ p

set_option maxRecDepth 10000 in
set_option maxHeartbeats 1000000 in
theorem vals_loop {h0 : Heap} {M p c : Nat} {m : MD} {s v5 : Value} {vs : List Value} {ls : List (List (Int × Int))} {P O w hh : Nat} (hp : PsI h0 s vs ls) (hP : P ≤ 60) (hP1 : 0 < ls.length → 1 ≤ P) (hO : O ≤ 3) (hn : ls.length ≤ 3 * P - 2) {k : List RItem} {R : Value → Heap → Prop} :
    ∀ (n i : Nat) (H : Heap) (b : BS) (K6 K7 K8 K9 Ka Kc Kd Ke Kg Kh Ki Kj Kk Kl Km Kn Ko Kp Kq Kr Ks Kt Ku Kv Kw Kx Ky Kz J0 J1 J2 J3 J4 J5 J6 J7 J8 J9 Ja Jb Jc Jd Je Jf Jg Jh Ji Jm Jn Jo Jp Jq Jr Js Jt Ju Jv Jw Jx Jy Jz Y0 Y1 Y2 Y3 Y4 Y5 Y6 Y7 Y8 Y9 Ya Yb Yc Yd Ye Yf Yg Yh Yi Yj Yk Yl Ym Yn Yo Yp Yq Yr Ys Yt Yu Yv Yw Yx Yy Yz Z0 Z1 Z2 Z3 Z4 Z5 Z6 Z7 Z8 Z9 Za Zb Zc Zd Ze Zf Zg Zh Zi Zj Zk Zl Zm Zn Zo Zp Zq Zr Zs Zt Zu Zv Zw Zx Zy Zz K0q : Value), n = ls.length - i → i ≤ ls.length → VLv h0 H M p c m w hh b →
      (∀ (H' : Heap) (b' : BS) (K6 K7 K8 K9 Ka Kc Kd Ke Kg Kh Ki Kj Kk Kl Km Kn Ko Kp Kq Kr Ks Kt Ku Kv Kw Kx Ky Kz J0 J1 J2 J3 J4 J5 J6 J7 J8 J9 Ja Jb Jc Jd Je Jf Jg Jh Ji Jj Jk Jl Jm Jn Jo Jp Jq Jr Js Jt Ju Jv Jw Jx Jy Jz Y0 Y1 Y2 Y3 Y4 Y5 Y6 Y7 Y8 Y9 Ya Yb Yc Yd Ye Yf Yg Yh Yi Yj Yk Yl Ym Yn Yo Yp Yq Yr Ys Yt Yu Yv Yw Yx Yy Yz Z0 Z1 Z2 Z3 Z4 Z5 Z6 Z7 Z8 Z9 Za Zb Zc Zd Ze Zf Zg Zh Zi Zj Zk Zl Zm Zn Zo Zp Zq Zr Zs Zt Zu Zv Zw Zx Zy Zz K0q : Value), vLoop m P O i b (ls.drop i) = (b', 0) → VLv h0 H' M p c m w hh b' → Ok tab R29 k #[s,.int .i64 P,.int .i64 w,.int .i64 hh,.int .i64 O,v5,K6,K7,K8,K9,Ka,ptr M,Kc,Kd,Ke,ptr p,Kg,Kh,Ki,Kj,Kk,Kl,Km,Kn,Ko,Kp,Kq,Kr,Ks,Kt,Ku,Kv,Kw,Kx,Ky,Kz,J0,J1,J2,J3,J4,J5,J6,J7,J8,J9,Ja,Jb,Jc,Jd,Je,Jf,Jg,Jh,Ji,Jj,Jk,Jl,Jm,Jn,Jo,Jp,Jq,Jr,Js,Jt,Ju,Jv,Jw,Jx,Jy,Jz,Y0,Y1,Y2,Y3,Y4,Y5,Y6,Y7,Y8,Y9,Ya,Yb,Yc,Yd,Ye,Yf,Yg,Yh,Yi,Yj,Yk,Yl,Ym,Yn,Yo,Yp,Yq,Yr,Ys,Yt,Yu,Yv,Yw,Yx,Yy,Yz,Z0,Z1,Z2,Z3,Z4,Z5,Z6,Z7,Z8,Z9,Za,Zb,Zc,Zd,Ze,Zf,Zg,Zh,Zi,Zj,Zk,Zl,Zm,Zn,Zo,Zp,Zq,Zr,Zs,Zt,Zu,Zv,Zw,Zx,Zy,Zz,K0q] H' R) →
      (∀ (H' : Heap) (e : Int), (vLoop m P O i b (ls.drop i)).2 = e → e ≠ 0 → (∀ id, id < h0.length → blk? H' id = blk? h0 id) → h0.length ≤ H'.length → R (.tuple #[.slice none 0 0, .slice none 0 0, .int .i64 e]) H') →
      Ok tab R29 (.inLoop L29_0 :: .inBlock 0 :: k) #[s,.int .i64 P,.int .i64 w,.int .i64 hh,.int .i64 O,v5,K6,K7,K8,K9,Ka,ptr M,Kc,Kd,Ke,ptr p,Kg,Kh,Ki,Kj,Kk,Kl,Km,Kn,Ko,Kp,Kq,Kr,Ks,Kt,Ku,Kv,Kw,Kx,Ky,Kz,J0,J1,J2,J3,J4,J5,J6,J7,J8,J9,Ja,Jb,Jc,Jd,Je,Jf,Jg,Jh,Ji,s,.int .i64 ls.length,.int .i64 i,Jm,Jn,Jo,Jp,Jq,Jr,Js,Jt,Ju,Jv,Jw,Jx,Jy,Jz,Y0,Y1,Y2,Y3,Y4,Y5,Y6,Y7,Y8,Y9,Ya,Yb,Yc,Yd,Ye,Yf,Yg,Yh,Yi,Yj,Yk,Yl,Ym,Yn,Yo,Yp,Yq,Yr,Ys,Yt,Yu,Yv,Yw,Yx,Yy,Yz,Z0,Z1,Z2,Z3,Z4,Z5,Z6,Z7,Z8,Z9,Za,Zb,Zc,Zd,Ze,Zf,Zg,Zh,Zi,Zj,Zk,Zl,Zm,Zn,Zo,Zp,Zq,Zr,Zs,Zt,Zu,Zv,Zw,Zx,Zy,Zz,K0q] H R := by
  intro n
  induction n with
  | zero =>
    intro i H b K6 K7 K8 K9 Ka Kc Kd Ke Kg Kh Ki Kj Kk Kl Km Kn Ko Kp Kq Kr Ks Kt Ku Kv Kw Kx Ky Kz J0 J1 J2 J3 J4 J5 J6 J7 J8 J9 Ja Jb Jc Jd Je Jf Jg Jh Ji Jm Jn Jo Jp Jq Jr Js Jt Ju Jv Jw Jx Jy Jz Y0 Y1 Y2 Y3 Y4 Y5 Y6 Y7 Y8 Y9 Ya Yb Yc Yd Ye Yf Yg Yh Yi Yj Yk Yl Ym Yn Yo Yp Yq Yr Ys Yt Yu Yv Yw Yx Yy Yz Z0 Z1 Z2 Z3 Z4 Z5 Z6 Z7 Z8 Z9 Za Zb Zc Zd Ze Zf Zg Zh Zi Zj Zk Zl Zm Zn Zo Zp Zq Zr Zs Zt Zu Zv Zw Zx Zy Zz K0q hm hi vl hk hx
    have hlt : ¬ ((i : Int) < ls.length) := by omega
    rw [List.drop_of_length_le (by omega)] at hk
    rw [ok_round, l29_0, L29_0a, L29_0b]
    simp [hlt]
    exact hk H b _ _ _ _ _ _ _ _ _ _ _ _ _ _ _ _ _ _ _ _ _ _ _ _ _ _ _ _ _ _ _ _ _ _ _ _ _ _ _ _ _ _ _ _ _ _ _ _ _ _ _ _ _ _ _ _ _ _ _ _ _ _ _ _ _ _ _ _ _ _ _ _ _ _ _ _ _ _ _ _ _ _ _ _ _ _ _ _ _ _ _ _ _ _ _ _ _ _ _ _ _ _ _ _ _ _ _ _ _ _ _ _ _ _ _ _ _ _ _ _ _ _ _ _ _ _ _ _ _ _ _ _ _ _ _ _ _ rfl vl
  | succ n ih =>
    intro i H b K6 K7 K8 K9 Ka Kc Kd Ke Kg Kh Ki Kj Kk Kl Km Kn Ko Kp Kq Kr Ks Kt Ku Kv Kw Kx Ky Kz J0 J1 J2 J3 J4 J5 J6 J7 J8 J9 Ja Jb Jc Jd Je Jf Jg Jh Ji Jm Jn Jo Jp Jq Jr Js Jt Ju Jv Jw Jx Jy Jz Y0 Y1 Y2 Y3 Y4 Y5 Y6 Y7 Y8 Y9 Ya Yb Yc Yd Ye Yf Yg Yh Yi Yj Yk Yl Ym Yn Yo Yp Yq Yr Ys Yt Yu Yv Yw Yx Yy Yz Z0 Z1 Z2 Z3 Z4 Z5 Z6 Z7 Z8 Z9 Za Zb Zc Zd Ze Zf Zg Zh Zi Zj Zk Zl Zm Zn Zo Zp Zq Zr Zs Zt Zu Zv Zw Zx Zy Zz K0q hm hi vl hk hx
    have hil : i < ls.length := by omega
    have hivs : i < vs.length := by rw [hp.len]; exact hil
    have hlt : ((i : Int) < ls.length) := by omega
    have hw : IntKind.i64.wrap ((i : Int) + 1) = (i : Int) + 1 := wrapN (n := i + 1) (by omega)
    have hpH := hp.keep vl.len vl.low
    obtain ⟨id, off, bk, hs, hbk, hc⟩ := hpH.sl.get hivs
    have hc0 := hc 0 (by omega)
    rw [Nat.mul_one, Nat.add_zero, Nat.add_zero, List.getElem?_eq_getElem hivs] at hc0
    have hsl := hpH.each i hivs hil
    have hfar := hp.lt i hivs
    obtain ⟨d1, d2⟩ := vl.d
    rw [List.drop_eq_getElem_cons hil, vLoop] at hk hx
    generalize vs[i] = sv at *
    generalize ls[i] = l at *
    obtain ⟨sa, scc, hsh⟩ := hsl.shape
    -- the source
    have hH1 : ∀ id, id < H.length → blk? (H ++ [some ⟨false, [sv, .bool false]⟩]) id = blk? H id := fun id hid => blk?_push_lt hid
    have hcb1 : CB (H ++ [some ⟨false, [sv, .bool false]⟩]) false p c b := ⟨by rw [hH1 _ (blk?_lt vl.cb.blkp)]; exact vl.cb.blkp, by rw [hH1 _ (blk?_lt vl.cb.blkc)]; exact vl.cb.blkc, vl.cb.ok⟩
    have hlc := blk?_lt vl.cb.blkc
    have hlp := blk?_lt vl.cb.blkp
    have hlM := blk?_lt vl.box
    have hlen0 := vl.len
    have hrel : RelV c H.length (H ++ [some ⟨false, [sv, .bool false]⟩]) sv (l, false) := ⟨blk?_push_eq, hsl.push _, fun id hid => by have := hfar id hid; simp; omega, by omega⟩
    obtain ⟨t', H2, e, dr⟩ := run_d (A := srcV c H.length) (t := sv) (s := (l, false)) hcb1 vl.good.rng hrel (by show ¬ p = H.length; omega) (by simp) (by show 0 + 100000 < 1000000; omega) i P O m
    have herr : runErr (i : Int) (P : Int) (O : Int) = 0 := by unfold runErr; rw [if_neg (by omega), if_neg (by omega)]
    have hout : dOut (srcV c H.length).ask m b (i : Int) (P : Int) (O : Int) (l, false) = (dRun m b i P O).run askV (l, false) := by
      unfold dOut; rw [if_pos herr]; rfl
    rw [hout] at e dr
    have hde : ∀ r, dErr (i : Int) (P : Int) (O : Int) r = cond r 0 16 := fun r => by unfold dErr; rw [herr]; simp
    rw [hde] at e
    have hlow2 : ∀ id, id < h0.length → blk? H2 id = blk? h0 id := fun id hid => by
      rw [dr.st.same id (by simp; omega) (by omega) (by show ¬ id = H.length; omega), hH1 id (by omega)]
      exact vl.low id hid
    have hlen2 : H.length + 1 ≤ H2.length := by have := dr.st.len; simpa using this
    have hrel2 : RelV c H.length H2 t' ((dRun m b i P O).run askV (l, false)).2 := dr.rel
    have hbox : blk? (H ++ [some ⟨false, [sv, .bool false]⟩]) M = some ⟨false, [.bool m.byp, .bool m.res, .bool m.rst, .bool m.cz, .bool m.sy]⟩ := by rw [hH1 _ hlM]; exact vl.box
    have hle := (Tr.Lv.out (A := askV) (size := fun _ => 0) (fun _ _ => by simp) (l, false) (lv_dRun vl.good (m := m) (n := i) (planes := P) (o := O) (runPP_ok hP (hP1 (by omega)) hO))).1
    obtain ⟨pl1, pl2⟩ := askV_play (dRun m b i P O) l
    simp only [MD.val] at e
    rw [ok_round, l29_0, L29_0a, L29_0b]
    subst hsh
    subst hs
    cases hpl : (dRun m b i P O).play l with
    | none =>
      have hbad := pl2 hpl
      have hb2 := hrel2.blk
      rw [hbad] at hb2
      rw [hpl] at hx
      obtain ⟨a2, c2, hs2⟩ := hrel2.sl.shape
      subst hs2
      simp [-List.cons_append, -List.append_assoc, k_guard, hlt, hivs, hbk, hc0, hbox, e, hb2, fin29]
      exact hx H2 8 rfl (by decide) hlow2 (by omega)
    | some q =>
      obtain ⟨⟨b', r⟩, l'⟩ := q
      have hrun := pl1 _ _ hpl
      rw [hrun] at e dr hrel2 hle
      rw [hpl] at hx hk
      have hb2 := hrel2.blk
      simp only at hb2 e hx hk dr hle
      obtain ⟨a2, c2, hs2⟩ := hrel2.sl.shape
      simp only at hs2
      cases r
      · simp only [cond_false, if_true] at e hx
        subst hs2
        simp [-List.cons_append, -List.append_assoc, k_guard, hlt, hivs, hbk, hc0, hbox, e, hb2, fin29]
        exact hx H2 16 rfl (by decide) hlow2 (by omega)
      · simp only [cond_true, Bool.true_eq_false, if_false] at e hx hk
        subst hs2
        cases l' with
        | cons y l' =>
          simp only at hx
          have hpos : (0 : Int) < (l'.length : Int) + 1 := by omega
          simp [-List.cons_append, -List.append_assoc, k_guard, hlt, hivs, hbk, hc0, hbox, e, hb2, hpos, fin29]
          exact hx H2 8 rfl (by decide) hlow2 (by omega)
        | nil =>
          simp only at hx hk
          simp [-List.cons_append, -List.append_assoc, k_guard, hlt, hivs, hbk, hc0, hbox, e, hb2, hw, fin29]
          have vl2 : VLv h0 H2 M p c m w hh b' := by
            refine ⟨hlow2, by omega, ?_, dr.cb, dr.good, ⟨d1, d2⟩, by rw [hle.w]; exact vl.bw, by rw [hle.h]; exact vl.bh, vl.dp⟩
            rw [dr.st.same M (by simp; omega) d2 (by show ¬ M = H.length; omega)]
            exact hbox
          exact ih (i + 1) H2 b' _ _ _ _ _ _ _ _ _ _ _ _ _ _ _ _ _ _ _ _ _ _ _ _ _ _ _ _ _ _ _ _ _ _ _ _ _ _ _ _ _ _ _ _ _ _ _ _ _ _ _ _ _ _ _ _ _ _ _ _ _ _ _ _ _ _ _ _ _ _ _ _ _ _ _ _ _ _ _ _ _ _ _ _ _ _ _ _ _ _ _ _ _ _ _ _ _ _ _ _ _ _ _ _ _ _ _ _ _ _ _ _ _ _ _ _ _ _ _ _ _ _ _ _ _ _ _ _ _ _ _ _ _ _ (by omega) (by omega) vl2 hk hx
/-- The rows of values and missing planes, in the making. -/
structure VB (h0 H : Heap) (p c : Nat) (b : BS) (v1 v2 : Value) (xs ys : List Int) : Prop where
  low : ∀ id, id < h0.length → blk? H id = blk? h0 id
  len : h0.length ≤ H.length
  cb : CB H false p c b
  o1 : OwnS H 1 v1 xs.length (i64s xs)
  o2 : OwnS H 1 v2 ys.length (i64s ys)
  f1 : ∀ id, sid v1 = some id → h0.length ≤ id ∧ id ≠ c ∧ id ≠ p
  f2 : ∀ id, sid v2 = some id → h0.length ≤ id ∧ id ≠ c ∧ id ≠ p
  ne : ∀ id, sid v1 = some id → sid v2 ≠ some id
theorem i64s_len (xs : List Int) : (i64s xs).length = xs.length := by simp [i64s]
theorem VB.swap {h0 H : Heap} {p c : Nat} {b : BS} {v1 v2 : Value} {xs ys : List Int} (h : VB h0 H p c b v1 v2 xs ys) : VB h0 H p c b v2 v1 ys xs :=
  ⟨h.low, h.len, h.cb, h.o2, h.o1, h.f2, h.f1, fun id e e' => h.ne id e' e⟩
/-- One more value. -/
theorem VB.push1 {h0 H : Heap} {p c : Nat} {b : BS} {v1 v2 : Value} {xs ys : List Int} (h : VB h0 H p c b v1 v2 xs ys) (hl : xs.length < 100000) (v : Int) :
    ∃ H', appendV (H ++ [some ⟨false, [.int .i64 v]⟩]) 1 8 v1 (.slice (some ⟨H.length, 0, none⟩) 1 1) = some (.slice (some ⟨H.length + 1, 0, none⟩) (xs.length + 1) 1, H') ∧
      VB h0 H' p c b (.slice (some ⟨H.length + 1, 0, none⟩) (xs.length + 1) 1) v2 (xs ++ [v]) ys := by
  have hsl : Sl (H ++ [some ⟨false, [.int .i64 v]⟩]) 1 (.slice (some ⟨H.length, 0, none⟩) 1 1) 1 [.int .i64 v] :=
    ⟨by simp, .inr ⟨H.length, 0, rfl, .inr ⟨_, blk?_push_eq, by simp, by simp⟩⟩⟩
  have ho : OwnS (H ++ [some ⟨false, [.int .i64 v]⟩]) 1 v1 xs.length (i64s xs) := h.o1.of_blk fun id _ hb => blk?_push hb
  obtain ⟨H', ha, hK, hHl, hHs⟩ := own_append (bytes := 8) ho hsl (by unfold roomCells; omega) (by omega) (by omega)
  simp only [List.length_append, List.length_singleton] at ha hK hHl hHs
  have hk : ∀ id, id < H.length → sid v1 ≠ some id → blk? H' id = blk? H id := fun id hid hne => by rw [hHs id (by omega) hne, blk?_push_lt hid]
  have hlen := h.len
  have lp := blk?_lt h.cb.blkp
  have lc := blk?_lt h.cb.blkc
  refine ⟨H', ha, fun id hid => ?_, by omega, ⟨?_, ?_, h.cb.ok⟩, ?_, ?_, fun id hid => ?_, h.f2, fun id hid e => ?_⟩
  · rw [hk id (by omega) (fun e => by have := h.f1 id e; omega)]; exact h.low id hid
  · rw [hk p lp (fun e => (h.f1 p e).2.2 rfl)]; exact h.cb.blkp
  · rw [hk c lc (fun e => (h.f1 c e).2.1 rfl)]; exact h.cb.blkc
  · refine ⟨by simp [i64s], .inr ⟨H.length + 1, by simp, ?_⟩⟩
    rw [hK]; simp [i64s]
  · refine h.o2.of_blk fun id hid hb => ?_
    rw [hk id (blk?_lt hb) (fun e => h.ne id e hid)]; exact hb
  · simp [sid] at hid; omega
  · simp [sid] at hid
    have := h.o2.lt e
    omega

theorem pass_neg {h : Heap} {R : Value → Heap → Prop} : Ret tab 74 [.int .i64 (-1)] h R = R (.tuple #[.int .i64 (-1), .int .i64 (-1)]) h := by
  rw [enter74, B74]
  simp [fin74]

theorem get_row {b : BS} (ho : b.Ok) {x y : Nat} (hx : x < b.w) (hy : y < b.h) : y * b.w + x < b.cs.length ∧ b.cs[y * b.w + x]? = some (b.get x y) := by
  have hi : b.inb x y := ⟨by omega, by omega, by omega, by omega⟩
  have h1 := BS.get_in ho hi
  have h2 := BS.idx_lt ho hi
  have e : b.idx x y = y * b.w + x := by
    unfold BS.idx
    rw [show ((y : Int) * b.w + x) = ((y * b.w + x : Nat) : Int) by simp]; rfl
  rw [e] at h1 h2
  exact ⟨h2, h1⟩

/-- What is left at a coefficient: the lowest planes. -/
def valsTo (b : BS) (i : Nat) : List Int := (b.cs.take i).map (·.v)
def missTo (P : Int) (n : Nat) (b : BS) (i : Nat) : List Int := (b.cs.take i).map fun c => leftOf P n c.t
theorem valsTo_succ {b : BS} {i : Nat} {c : Cell} (h : b.cs[i]? = some c) : valsTo b (i + 1) = valsTo b i ++ [c.v] := by
  obtain ⟨hi, rfl⟩ := List.getElem?_eq_some_iff.1 h
  unfold valsTo
  rw [List.take_succ_eq_append_getElem hi, List.map_append]; rfl
theorem missTo_succ {P : Int} {n : Nat} {b : BS} {i : Nat} {c : Cell} (h : b.cs[i]? = some c) : missTo P n b (i + 1) = missTo P n b i ++ [leftOf P n c.t] := by
  obtain ⟨hi, rfl⟩ := List.getElem?_eq_some_iff.1 h
  unfold missTo
  rw [List.take_succ_eq_append_getElem hi, List.map_append]; rfl
theorem valsTo_len {b : BS} {i : Nat} (h : i ≤ b.cs.length) : (valsTo b i).length = i := by simp [valsTo]; omega
theorem missTo_len {P : Int} {n : Nat} {b : BS} {i : Nat} (h : i ≤ b.cs.length) : (missTo P n b i).length = i := by simp [missTo]; omega

section
variable {h0 : Heap} {p c : Nat} {b : BS} {P n : Nat} {pl kd : Int} {s v3 v4 v5 v11 v103 v104 : Value} {k : List RItem} {R : Value → Heap → Prop}
set_option maxRecDepth 10000 in
set_option maxHeartbeats 1000000 in
theorem valx_loop (hP : P ≤ 60) (hpl : -1 ≤ pl ∧ pl ≤ 100) (hleft : ∀ t, leftOf P n t = P - 1 - pl + if (decide (0 < n) && kd != 2 && !t) = true then 1 else 0) {y : Nat} (hy : y < b.h) :
    ∀ (m x : Nat) (H : Heap) (v1 v2 : Value) (K6 K7 K8 K9 Ka Ke Kg Kh Ki Kj Ko Kp Kq Kr Ks Kt Ku Kv Kw Kx Ky Kz J0 J1 J2 J3 J4 J5 J6 J7 J8 J9 Ja Jb Jc Jd Je Jf Jg Jh Ji Jj Jk Jl Jm Jn Jo Jp Jq Jr Js Jt Ju Jv Jw Jx Jy Jz Y0 Y1 Y2 Y3 Y4 Y5 Y6 Y7 Y8 Y9 Ya Yb Yc Yd Ye Yf Yg Yh Yi Yj Yk Yl Ym Yn Yo Yp Yq Yr Ys Yt Yu Yx Yy Z1 Z2 Z3 Z4 Z5 Z6 Z7 Z8 Z9 Za Zb Zc Zd Ze Zf Zg Zh Zi Zj Zk Zl Zm Zn Zo Zp Zq Zr Zs Zt Zu Zv Zw Zx Zy Zz K0q : Value), m = b.w - x → x ≤ b.w → VB h0 H p c b v1 v2 (valsTo b (y * b.w + x)) (missTo P n b (y * b.w + x)) →
      (∀ (H' : Heap) (v1' v2' : Value) (K6 K7 K8 K9 Ka Ke Kg Kh Ki Kj Ko Kp Kq Kr Ks Kt Ku Kv Kw Kx Ky Kz J0 J1 J2 J3 J4 J5 J6 J7 J8 J9 Ja Jb Jc Jd Je Jf Jg Jh Ji Jj Jk Jl Jm Jn Jo Jp Jq Jr Js Jt Ju Jv Jw Jx Jy Jz Y0 Y1 Y2 Y3 Y4 Y5 Y6 Y7 Y8 Y9 Ya Yb Yc Yd Ye Yf Yg Yh Yi Yj Yk Yl Ym Yn Yo Yp Yq Yr Ys Yt Yu Yx Yy Yz Z0 Z1 Z2 Z3 Z4 Z5 Z6 Z7 Z8 Z9 Za Zb Zc Zd Ze Zf Zg Zh Zi Zj Zk Zl Zm Zn Zo Zp Zq Zr Zs Zt Zu Zv Zw Zx Zy Zz K0q : Value), VB h0 H' p c b v1' v2' (valsTo b (y * b.w + b.w)) (missTo P n b (y * b.w + b.w)) →
        Ok tab R29 k #[s,.int .i64 P,.int .i64 b.w,v3,v4,v5,K6,K7,K8,K9,Ka,v11,v1',v2',Ke,ptr p,Kg,Kh,Ki,Kj,.int .i64 n,.int .i64 pl,.int .i64 kd,.int .i64 y,Ko,Kp,Kq,Kr,Ks,Kt,Ku,Kv,Kw,Kx,Ky,Kz,J0,J1,J2,J3,J4,J5,J6,J7,J8,J9,Ja,Jb,Jc,Jd,Je,Jf,Jg,Jh,Ji,Jj,Jk,Jl,Jm,Jn,Jo,Jp,Jq,Jr,Js,Jt,Ju,Jv,Jw,Jx,Jy,Jz,Y0,Y1,Y2,Y3,Y4,Y5,Y6,Y7,Y8,Y9,Ya,Yb,Yc,Yd,Ye,Yf,Yg,Yh,Yi,Yj,Yk,Yl,Ym,Yn,Yo,Yp,Yq,Yr,Ys,Yt,Yu,v103,v104,Yx,Yy,Yz,Z0,Z1,Z2,Z3,Z4,Z5,Z6,Z7,Z8,Z9,Za,Zb,Zc,Zd,Ze,Zf,Zg,Zh,Zi,Zj,Zk,Zl,Zm,Zn,Zo,Zp,Zq,Zr,Zs,Zt,Zu,Zv,Zw,Zx,Zy,Zz,K0q] H' R) →
      Ok tab R29 (.inLoop L29_1 :: .inBlock 4 :: k) #[s,.int .i64 P,.int .i64 b.w,v3,v4,v5,K6,K7,K8,K9,Ka,v11,v1,v2,Ke,ptr p,Kg,Kh,Ki,Kj,.int .i64 n,.int .i64 pl,.int .i64 kd,.int .i64 y,Ko,Kp,Kq,Kr,Ks,Kt,Ku,Kv,Kw,Kx,Ky,Kz,J0,J1,J2,J3,J4,J5,J6,J7,J8,J9,Ja,Jb,Jc,Jd,Je,Jf,Jg,Jh,Ji,Jj,Jk,Jl,Jm,Jn,Jo,Jp,Jq,Jr,Js,Jt,Ju,Jv,Jw,Jx,Jy,Jz,Y0,Y1,Y2,Y3,Y4,Y5,Y6,Y7,Y8,Y9,Ya,Yb,Yc,Yd,Ye,Yf,Yg,Yh,Yi,Yj,Yk,Yl,Ym,Yn,Yo,Yp,Yq,Yr,Ys,Yt,Yu,v103,v104,Yx,Yy,.int .i64 b.w,.int .i64 x,Z1,Z2,Z3,Z4,Z5,Z6,Z7,Z8,Z9,Za,Zb,Zc,Zd,Ze,Zf,Zg,Zh,Zi,Zj,Zk,Zl,Zm,Zn,Zo,Zp,Zq,Zr,Zs,Zt,Zu,Zv,Zw,Zx,Zy,Zz,K0q] H R := by
  intro m
  induction m with
  | zero =>
    intro x H v1 v2 K6 K7 K8 K9 Ka Ke Kg Kh Ki Kj Ko Kp Kq Kr Ks Kt Ku Kv Kw Kx Ky Kz J0 J1 J2 J3 J4 J5 J6 J7 J8 J9 Ja Jb Jc Jd Je Jf Jg Jh Ji Jj Jk Jl Jm Jn Jo Jp Jq Jr Js Jt Ju Jv Jw Jx Jy Jz Y0 Y1 Y2 Y3 Y4 Y5 Y6 Y7 Y8 Y9 Ya Yb Yc Yd Ye Yf Yg Yh Yi Yj Yk Yl Ym Yn Yo Yp Yq Yr Ys Yt Yu Yx Yy Z1 Z2 Z3 Z4 Z5 Z6 Z7 Z8 Z9 Za Zb Zc Zd Ze Zf Zg Zh Zi Zj Zk Zl Zm Zn Zo Zp Zq Zr Zs Zt Zu Zv Zw Zx Zy Zz K0q hm hx vb hk
    have hlt : ¬ ((x : Int) < b.w) := by omega
    obtain rfl : x = b.w := by omega
    rw [ok_round, l29_1, L29_1a, L29_1b]
    simp [hlt]
    exact hk H v1 v2 _ _ _ _ _ _ _ _ _ _ _ _ _ _ _ _ _ _ _ _ _ _ _ _ _ _ _ _ _ _ _ _ _ _ _ _ _ _ _ _ _ _ _ _ _ _ _ _ _ _ _ _ _ _ _ _ _ _ _ _ _ _ _ _ _ _ _ _ _ _ _ _ _ _ _ _ _ _ _ _ _ _ _ _ _ _ _ _ _ _ _ _ _ _ _ _ _ _ _ _ _ _ _ _ _ _ _ _ _ _ _ _ _ _ _ _ _ _ _ _ _ _ _ _ _ _ _ _ _ vb
  | succ m ih =>
    intro x H v1 v2 K6 K7 K8 K9 Ka Ke Kg Kh Ki Kj Ko Kp Kq Kr Ks Kt Ku Kv Kw Kx Ky Kz J0 J1 J2 J3 J4 J5 J6 J7 J8 J9 Ja Jb Jc Jd Je Jf Jg Jh Ji Jj Jk Jl Jm Jn Jo Jp Jq Jr Js Jt Ju Jv Jw Jx Jy Jz Y0 Y1 Y2 Y3 Y4 Y5 Y6 Y7 Y8 Y9 Ya Yb Yc Yd Ye Yf Yg Yh Yi Yj Yk Yl Ym Yn Yo Yp Yq Yr Ys Yt Yu Yx Yy Z1 Z2 Z3 Z4 Z5 Z6 Z7 Z8 Z9 Za Zb Zc Zd Ze Zf Zg Zh Zi Zj Zk Zl Zm Zn Zo Zp Zq Zr Zs Zt Zu Zv Zw Zx Zy Zz K0q hm hx vb hk
    have hxl : x < b.w := by omega
    have hlt : ((x : Int) < b.w) := by omega
    have hw2 := vb.cb.ok.w2
    have hh2 := vb.cb.ok.h2
    have hm64 : y * b.w ≤ 64 * 64 := Nat.mul_le_mul (by omega) hw2
    have hw : IntKind.i64.wrap ((x : Int) + 1) = ((x + 1 : Nat) : Int) := wrapN (n := x + 1) (by omega)
    obtain ⟨hil, hgi⟩ := get_row vb.cb.ok hxl hy
    have hwa : IntKind.i64.wrap ((P : Int) - 1) = (P : Int) - 1 := wrapI (by omega) (by omega)
    have hwb : IntKind.i64.wrap ((P : Int) - 1 - pl) = (P : Int) - 1 - pl := wrapI (by omega) (by omega)
    have hwc : IntKind.i64.wrap ((P : Int) - 1 - pl + 1) = (P : Int) - 1 - pl + 1 := wrapI (by omega) (by omega)
    have hv := fun R => value_c (R := R) (x := (x : Int)) (y := (y : Int)) vb.cb
    obtain ⟨H1, e1, vb1⟩ := vb.push1 (by rw [valsTo_len (by omega)]; omega) (b.get x y).v
    have ht := fun R => touched_c (R := R) (x := (x : Int)) (y := (y : Int)) vb1.cb
    obtain ⟨H2, e2, vb2⟩ := vb1.swap.push1 (by rw [missTo_len (by omega)]; omega) (leftOf P n (b.get x y).t)
    have vb3 := vb2.swap
    rw [← valsTo_succ hgi, ← missTo_succ (P := P) (n := n) hgi] at vb3
    rw [Nat.add_assoc] at vb3
    have hl := hleft (b.get x y).t
    rw [valsTo_len (by omega)] at e1 vb3
    rw [missTo_len (by omega)] at e2 vb3
    generalize hnx : ((x + 1 : Nat) : Int) = xi at *
    have ih' := fun K6 K7 K8 K9 Ka Ke Kg Kh Ki Kj Ko Kp Kq Kr Ks Kt Ku Kv Kw Kx Ky Kz J0 J1 J2 J3 J4 J5 J6 J7 J8 J9 Ja Jb Jc Jd Je Jf Jg Jh Ji Jj Jk Jl Jm Jn Jo Jp Jq Jr Js Jt Ju Jv Jw Jx Jy Jz Y0 Y1 Y2 Y3 Y4 Y5 Y6 Y7 Y8 Y9 Ya Yb Yc Yd Ye Yf Yg Yh Yi Yj Yk Yl Ym Yn Yo Yp Yq Yr Ys Yt Yu Yx Yy Z1 Z2 Z3 Z4 Z5 Z6 Z7 Z8 Z9 Za Zb Zc Zd Ze Zf Zg Zh Zi Zj Zk Zl Zm Zn Zo Zp Zq Zr Zs Zt Zu Zv Zw Zx Zy Zz K0q => ih (x + 1) H2 _ _ K6 K7 K8 K9 Ka Ke Kg Kh Ki Kj Ko Kp Kq Kr Ks Kt Ku Kv Kw Kx Ky Kz J0 J1 J2 J3 J4 J5 J6 J7 J8 J9 Ja Jb Jc Jd Je Jf Jg Jh Ji Jj Jk Jl Jm Jn Jo Jp Jq Jr Js Jt Ju Jv Jw Jx Jy Jz Y0 Y1 Y2 Y3 Y4 Y5 Y6 Y7 Y8 Y9 Ya Yb Yc Yd Ye Yf Yg Yh Yi Yj Yk Yl Ym Yn Yo Yp Yq Yr Ys Yt Yu Yx Yy Z1 Z2 Z3 Z4 Z5 Z6 Z7 Z8 Z9 Za Zb Zc Zd Ze Zf Zg Zh Zi Zj Zk Zl Zm Zn Zo Zp Zq Zr Zs Zt Zu Zv Zw Zx Zy Zz K0q (by omega) (by omega) vb3 hk
    rw [hnx] at ih'
    rw [ok_round, l29_1, L29_1a, L29_1b]
    generalize leftOf P n (b.get x y).t = lf at *
    generalize (b.get x y).v = vv at *
    by_cases h1 : 0 < n
    · have h1' : (0 : Int) < (n : Int) := by omega
      by_cases h2 : kd = 2
      · have h2' : (kd != 2) = false := by simp [h2]
        simp [h2'] at hl
        subst hl
        simp [k_guard, k_guardU, hlt, hv, repL, e1, hwa, hwb, h1, h1', h2', e2, hw]
        exact ih' _ _ _ _ _ _ _ _ _ _ _ _ _ _ _ _ _ _ _ _ _ _ _ _ _ _ _ _ _ _ _ _ _ _ _ _ _ _ _ _ _ _ _ _ _ _ _ _ _ _ _ _ _ _ _ _ _ _ _ _ _ _ _ _ _ _ _ _ _ _ _ _ _ _ _ _ _ _ _ _ _ _ _ _ _ _ _ _ _ _ _ _ _ _ _ _ _ _ _ _ _ _ _ _ _ _ _ _ _ _ _ _ _ _ _ _ _ _ _ _ _ _ _ _ _ _ _
      · have h2' : (kd != 2) = true := by simp [h2]
        cases htt : (b.get x y).t
        · simp [h1, h2', htt] at hl
          rw [htt] at ht
          subst hl
          simp [k_guard, k_guardU, hlt, hv, repL, e1, hwa, hwb, hwc, h1, h1', h2', ht, e2, hw]
          exact ih' _ _ _ _ _ _ _ _ _ _ _ _ _ _ _ _ _ _ _ _ _ _ _ _ _ _ _ _ _ _ _ _ _ _ _ _ _ _ _ _ _ _ _ _ _ _ _ _ _ _ _ _ _ _ _ _ _ _ _ _ _ _ _ _ _ _ _ _ _ _ _ _ _ _ _ _ _ _ _ _ _ _ _ _ _ _ _ _ _ _ _ _ _ _ _ _ _ _ _ _ _ _ _ _ _ _ _ _ _ _ _ _ _ _ _ _ _ _ _ _ _ _ _ _ _ _ _
        · simp [htt] at hl
          rw [htt] at ht
          subst hl
          simp [k_guard, k_guardU, hlt, hv, repL, e1, hwa, hwb, h1, h1', h2', ht, e2, hw]
          exact ih' _ _ _ _ _ _ _ _ _ _ _ _ _ _ _ _ _ _ _ _ _ _ _ _ _ _ _ _ _ _ _ _ _ _ _ _ _ _ _ _ _ _ _ _ _ _ _ _ _ _ _ _ _ _ _ _ _ _ _ _ _ _ _ _ _ _ _ _ _ _ _ _ _ _ _ _ _ _ _ _ _ _ _ _ _ _ _ _ _ _ _ _ _ _ _ _ _ _ _ _ _ _ _ _ _ _ _ _ _ _ _ _ _ _ _ _ _ _ _ _ _ _ _ _ _ _ _
    · have h1' : ¬ (0 : Int) < (n : Int) := by omega
      simp [h1] at hl
      subst hl
      simp [k_guard, k_guardU, hlt, hv, repL, e1, hwa, hwb, h1, h1', e2, hw]
      exact ih' _ _ _ _ _ _ _ _ _ _ _ _ _ _ _ _ _ _ _ _ _ _ _ _ _ _ _ _ _ _ _ _ _ _ _ _ _ _ _ _ _ _ _ _ _ _ _ _ _ _ _ _ _ _ _ _ _ _ _ _ _ _ _ _ _ _ _ _ _ _ _ _ _ _ _ _ _ _ _ _ _ _ _ _ _ _ _ _ _ _ _ _ _ _ _ _ _ _ _ _ _ _ _ _ _ _ _ _ _ _ _ _ _ _ _ _ _ _ _ _ _ _ _ _ _ _ _

set_option maxRecDepth 10000 in
set_option maxHeartbeats 1000000 in
theorem valy_loop (hP : P ≤ 60) (hpl : -1 ≤ pl ∧ pl ≤ 100) (hleft : ∀ t, leftOf P n t = P - 1 - pl + if (decide (0 < n) && kd != 2 && !t) = true then 1 else 0) :
    ∀ (m y : Nat) (H : Heap) (v1 v2 : Value) (K6 K7 K8 K9 Ka Ke Kg Kh Ki Kj Kn Ko Kp Kq Kr Ks Kt Ku Kv Kw Kx Ky Kz J0 J1 J2 J3 J4 J5 J6 J7 J8 J9 Ja Jb Jc Jd Je Jf Jg Jh Ji Jj Jk Jl Jm Jn Jo Jp Jq Jr Js Jt Ju Jv Jw Jx Jy Jz Y0 Y1 Y2 Y3 Y4 Y5 Y6 Y7 Y8 Y9 Ya Yb Yc Yd Ye Yf Yg Yh Yi Yj Yk Yl Ym Yn Yo Yp Yq Yr Ys Yt Yu Yx Yy Yz Z0 Z1 Z2 Z3 Z4 Z5 Z6 Z7 Z8 Z9 Za Zb Zc Zd Ze Zf Zg Zh Zi Zj Zk Zl Zm Zn Zo Zp Zq Zr Zs Zt Zu Zv Zw Zx Zy Zz K0q : Value), m = b.h - y → y ≤ b.h → VB h0 H p c b v1 v2 (valsTo b (y * b.w)) (missTo P n b (y * b.w)) →
      (∀ (H' : Heap) (v1' v2' : Value) (K6 K7 K8 K9 Ka Ke Kg Kh Ki Kj Kn Ko Kp Kq Kr Ks Kt Ku Kv Kw Kx Ky Kz J0 J1 J2 J3 J4 J5 J6 J7 J8 J9 Ja Jb Jc Jd Je Jf Jg Jh Ji Jj Jk Jl Jm Jn Jo Jp Jq Jr Js Jt Ju Jv Jw Jx Jy Jz Y0 Y1 Y2 Y3 Y4 Y5 Y6 Y7 Y8 Y9 Ya Yb Yc Yd Ye Yf Yg Yh Yi Yj Yk Yl Ym Yn Yo Yp Yq Yr Ys Yt Yu Yv Yw Yx Yy Yz Z0 Z1 Z2 Z3 Z4 Z5 Z6 Z7 Z8 Z9 Za Zb Zc Zd Ze Zf Zg Zh Zi Zj Zk Zl Zm Zn Zo Zp Zq Zr Zs Zt Zu Zv Zw Zx Zy Zz K0q : Value), VB h0 H' p c b v1' v2' (valsTo b (b.h * b.w)) (missTo P n b (b.h * b.w)) →
        Ok tab R29 k #[s,.int .i64 P,.int .i64 b.w,v3,v4,v5,K6,K7,K8,K9,Ka,v11,v1',v2',Ke,ptr p,Kg,Kh,Ki,Kj,.int .i64 n,.int .i64 pl,.int .i64 kd,Kn,Ko,Kp,Kq,Kr,Ks,Kt,Ku,Kv,Kw,Kx,Ky,Kz,J0,J1,J2,J3,J4,J5,J6,J7,J8,J9,Ja,Jb,Jc,Jd,Je,Jf,Jg,Jh,Ji,Jj,Jk,Jl,Jm,Jn,Jo,Jp,Jq,Jr,Js,Jt,Ju,Jv,Jw,Jx,Jy,Jz,Y0,Y1,Y2,Y3,Y4,Y5,Y6,Y7,Y8,Y9,Ya,Yb,Yc,Yd,Ye,Yf,Yg,Yh,Yi,Yj,Yk,Yl,Ym,Yn,Yo,Yp,Yq,Yr,Ys,Yt,Yu,Yv,Yw,Yx,Yy,Yz,Z0,Z1,Z2,Z3,Z4,Z5,Z6,Z7,Z8,Z9,Za,Zb,Zc,Zd,Ze,Zf,Zg,Zh,Zi,Zj,Zk,Zl,Zm,Zn,Zo,Zp,Zq,Zr,Zs,Zt,Zu,Zv,Zw,Zx,Zy,Zz,K0q] H' R) →
      Ok tab R29 (.inLoop L29_2 :: .inBlock 2 :: k) #[s,.int .i64 P,.int .i64 b.w,v3,v4,v5,K6,K7,K8,K9,Ka,v11,v1,v2,Ke,ptr p,Kg,Kh,Ki,Kj,.int .i64 n,.int .i64 pl,.int .i64 kd,Kn,Ko,Kp,Kq,Kr,Ks,Kt,Ku,Kv,Kw,Kx,Ky,Kz,J0,J1,J2,J3,J4,J5,J6,J7,J8,J9,Ja,Jb,Jc,Jd,Je,Jf,Jg,Jh,Ji,Jj,Jk,Jl,Jm,Jn,Jo,Jp,Jq,Jr,Js,Jt,Ju,Jv,Jw,Jx,Jy,Jz,Y0,Y1,Y2,Y3,Y4,Y5,Y6,Y7,Y8,Y9,Ya,Yb,Yc,Yd,Ye,Yf,Yg,Yh,Yi,Yj,Yk,Yl,Ym,Yn,Yo,Yp,Yq,Yr,Ys,Yt,Yu,.int .i64 b.h,.int .i64 y,Yx,Yy,Yz,Z0,Z1,Z2,Z3,Z4,Z5,Z6,Z7,Z8,Z9,Za,Zb,Zc,Zd,Ze,Zf,Zg,Zh,Zi,Zj,Zk,Zl,Zm,Zn,Zo,Zp,Zq,Zr,Zs,Zt,Zu,Zv,Zw,Zx,Zy,Zz,K0q] H R := by
  intro m
  induction m with
  | zero =>
    intro y H v1 v2 K6 K7 K8 K9 Ka Ke Kg Kh Ki Kj Kn Ko Kp Kq Kr Ks Kt Ku Kv Kw Kx Ky Kz J0 J1 J2 J3 J4 J5 J6 J7 J8 J9 Ja Jb Jc Jd Je Jf Jg Jh Ji Jj Jk Jl Jm Jn Jo Jp Jq Jr Js Jt Ju Jv Jw Jx Jy Jz Y0 Y1 Y2 Y3 Y4 Y5 Y6 Y7 Y8 Y9 Ya Yb Yc Yd Ye Yf Yg Yh Yi Yj Yk Yl Ym Yn Yo Yp Yq Yr Ys Yt Yu Yx Yy Yz Z0 Z1 Z2 Z3 Z4 Z5 Z6 Z7 Z8 Z9 Za Zb Zc Zd Ze Zf Zg Zh Zi Zj Zk Zl Zm Zn Zo Zp Zq Zr Zs Zt Zu Zv Zw Zx Zy Zz K0q hm hy vb hk
    have hlt : ¬ ((y : Int) < b.h) := by omega
    obtain rfl : y = b.h := by omega
    rw [ok_round, l29_2, L29_2a, L29_2b]
    simp [hlt]
    exact hk H v1 v2 _ _ _ _ _ _ _ _ _ _ _ _ _ _ _ _ _ _ _ _ _ _ _ _ _ _ _ _ _ _ _ _ _ _ _ _ _ _ _ _ _ _ _ _ _ _ _ _ _ _ _ _ _ _ _ _ _ _ _ _ _ _ _ _ _ _ _ _ _ _ _ _ _ _ _ _ _ _ _ _ _ _ _ _ _ _ _ _ _ _ _ _ _ _ _ _ _ _ _ _ _ _ _ _ _ _ _ _ _ _ _ _ _ _ _ _ _ _ _ _ _ _ _ _ _ _ _ _ _ _ _ _ vb
  | succ m ih =>
    intro y H v1 v2 K6 K7 K8 K9 Ka Ke Kg Kh Ki Kj Kn Ko Kp Kq Kr Ks Kt Ku Kv Kw Kx Ky Kz J0 J1 J2 J3 J4 J5 J6 J7 J8 J9 Ja Jb Jc Jd Je Jf Jg Jh Ji Jj Jk Jl Jm Jn Jo Jp Jq Jr Js Jt Ju Jv Jw Jx Jy Jz Y0 Y1 Y2 Y3 Y4 Y5 Y6 Y7 Y8 Y9 Ya Yb Yc Yd Ye Yf Yg Yh Yi Yj Yk Yl Ym Yn Yo Yp Yq Yr Ys Yt Yu Yx Yy Yz Z0 Z1 Z2 Z3 Z4 Z5 Z6 Z7 Z8 Z9 Za Zb Zc Zd Ze Zf Zg Zh Zi Zj Zk Zl Zm Zn Zo Zp Zq Zr Zs Zt Zu Zv Zw Zx Zy Zz K0q hm hy vb hk
    have hlt : ((y : Int) < b.h) := by omega
    have hh2 := vb.cb.ok.h2
    have hw : IntKind.i64.wrap ((y : Int) + 1) = ((y + 1 : Nat) : Int) := wrapN (n := y + 1) (by omega)
    rw [ok_round, l29_2, L29_2a, L29_2b]
    simp [hlt]
    refine valx_loop hP hpl hleft (y := y) (by omega) b.w 0 H v1 v2 _ _ _ _ _ _ _ _ _ _ _ _ _ _ _ _ _ _ _ _ _ _ _ _ _ _ _ _ _ _ _ _ _ _ _ _ _ _ _ _ _ _ _ _ _ _ _ _ _ _ _ _ _ _ _ _ _ _ _ _ _ _ _ _ _ _ _ _ _ _ _ _ _ _ _ _ _ _ _ _ _ _ _ _ _ _ _ _ _ _ _ _ _ _ _ _ _ _ _ _ _ _ _ _ _ _ _ _ _ _ _ _ _ _ _ _ _ _ _ _ _ _ _ _ _ _ _ (by omega) (by omega) vb ?_
    intro H' v1' v2' K6 K7 K8 K9 Ka Ke Kg Kh Ki Kj Ko Kp Kq Kr Ks Kt Ku Kv Kw Kx Ky Kz J0 J1 J2 J3 J4 J5 J6 J7 J8 J9 Ja Jb Jc Jd Je Jf Jg Jh Ji Jj Jk Jl Jm Jn Jo Jp Jq Jr Js Jt Ju Jv Jw Jx Jy Jz Y0 Y1 Y2 Y3 Y4 Y5 Y6 Y7 Y8 Y9 Ya Yb Yc Yd Ye Yf Yg Yh Yi Yj Yk Yl Ym Yn Yo Yp Yq Yr Ys Yt Yu Yx Yy Yz Z0 Z1 Z2 Z3 Z4 Z5 Z6 Z7 Z8 Z9 Za Zb Zc Zd Ze Zf Zg Zh Zi Zj Zk Zl Zm Zn Zo Zp Zq Zr Zs Zt Zu Zv Zw Zx Zy Zz K0q vb'
    have e : (y + 1) * b.w = y * b.w + b.w := by rw [Nat.add_mul]; omega
    rw [← e] at vb'
    have ih' := fun K6 K7 K8 K9 Ka Ke Kg Kh Ki Kj Kn Ko Kp Kq Kr Ks Kt Ku Kv Kw Kx Ky Kz J0 J1 J2 J3 J4 J5 J6 J7 J8 J9 Ja Jb Jc Jd Je Jf Jg Jh Ji Jj Jk Jl Jm Jn Jo Jp Jq Jr Js Jt Ju Jv Jw Jx Jy Jz Y0 Y1 Y2 Y3 Y4 Y5 Y6 Y7 Y8 Y9 Ya Yb Yc Yd Ye Yf Yg Yh Yi Yj Yk Yl Ym Yn Yo Yp Yq Yr Ys Yt Yu Yx Yy Yz Z0 Z1 Z2 Z3 Z4 Z5 Z6 Z7 Z8 Z9 Za Zb Zc Zd Ze Zf Zg Zh Zi Zj Zk Zl Zm Zn Zo Zp Zq Zr Zs Zt Zu Zv Zw Zx Zy Zz K0q => ih (y + 1) H' v1' v2' K6 K7 K8 K9 Ka Ke Kg Kh Ki Kj Kn Ko Kp Kq Kr Ks Kt Ku Kv Kw Kx Ky Kz J0 J1 J2 J3 J4 J5 J6 J7 J8 J9 Ja Jb Jc Jd Je Jf Jg Jh Ji Jj Jk Jl Jm Jn Jo Jp Jq Jr Js Jt Ju Jv Jw Jx Jy Jz Y0 Y1 Y2 Y3 Y4 Y5 Y6 Y7 Y8 Y9 Ya Yb Yc Yd Ye Yf Yg Yh Yi Yj Yk Yl Ym Yn Yo Yp Yq Yr Ys Yt Yu Yx Yy Yz Z0 Z1 Z2 Z3 Z4 Z5 Z6 Z7 Z8 Z9 Za Zb Zc Zd Ze Zf Zg Zh Zi Zj Zk Zl Zm Zn Zo Zp Zq Zr Zs Zt Zu Zv Zw Zx Zy Zz K0q (by omega) (by omega) vb' hk
    generalize ((y + 1 : Nat) : Int) = yi at *
    simp [hw]
    exact ih' _ _ _ _ _ _ _ _ _ _ _ _ _ _ _ _ _ _ _ _ _ _ _ _ _ _ _ _ _ _ _ _ _ _ _ _ _ _ _ _ _ _ _ _ _ _ _ _ _ _ _ _ _ _ _ _ _ _ _ _ _ _ _ _ _ _ _ _ _ _ _ _ _ _ _ _ _ _ _ _ _ _ _ _ _ _ _ _ _ _ _ _ _ _ _ _ _ _ _ _ _ _ _ _ _ _ _ _ _ _ _ _ _ _ _ _ _ _ _ _ _ _ _ _ _ _ _ _ _ _
end

/-- What Values leaves. -/
structure VOut (h h' : Heap) (v1 v2 : Value) (r : Int × List Int × List Int) : Prop where
  o1 : OwnS h' 1 v1 r.2.1.length (i64s r.2.1)
  o2 : OwnS h' 1 v2 r.2.2.length (i64s r.2.2)
  low : ∀ id, id < h.length → blk? h' id = blk? h id
  len : h.length ≤ h'.length
theorem VOut.bad {h h' : Heap} (low : ∀ id, id < h.length → blk? h' id = blk? h id) (len : h.length ≤ h'.length) (e : Int) : VOut h h' (.slice none 0 0) (.slice none 0 0) (e, [], []) := ⟨OwnS.nil _ _, OwnS.nil _ _, low, len⟩

set_option maxRecDepth 10000 in
set_option maxHeartbeats 1000000 in
theorem values_d {h : Heap} {s : Value} {vs : List Value} {ls : List (List (Int × Int))} (hp : PsI h s vs ls) (hl : ls.length < 100000) (P w hh o : Int) (hPr : -9223372036854775808 ≤ P ∧ P < 9223372036854775808) (m : MD) :
    ∃ v1 v2 h', (∀ R, Ret tab 29 [s, .int .i64 P, .int .i64 w, .int .i64 hh, .int .i64 o, m.val] h R = R (.tuple #[v1, v2, .int .i64 (valRes ls P w hh o m).1]) h') ∧ VOut h h' v1 v2 (valRes ls P w hh o m) := by
  have key : Ret tab 29 [s, .int .i64 P, .int .i64 w, .int .i64 hh, .int .i64 o, m.val] h fun v h' => ∃ v1 v2, v = .tuple #[v1, v2, .int .i64 (valRes ls P w hh o m).1] ∧ VOut h h' v1 v2 (valRes ls P w hh o m) := by
    obtain ⟨a, cc, hs⟩ := hp.sl.shape
    rw [hp.len] at hs
    rw [enter29, show B29 = .seq (nthC 0 B29) (.seq (nthC 1 B29) (.seq (nthC 2 B29) (.seq (nthC 3 B29) (.seq (nthC 4 B29) (tlC 5 B29))))) from rfl]
    generalize hT : tlC 5 B29 = tl
    simp only [nthC, tlC, fstC, B29]
    have hkp : ∀ x : Option Blk, ∀ id, id < h.length → blk? (h ++ [x]) id = blk? h id := fun x id hid => blk?_push_lt hid
    have hbadr : ∀ e, valErr ls.length P w hh o = e → e ≠ 0 → valRes ls P w hh o m = (e, [], []) := fun e he h0 => by unfold valRes; rw [he, if_pos h0]
    cases hsz : sized w hh
    · have hr := hbadr 2 (by unfold valErr; rw [if_pos (.inl (by simp [hsz]))]) (by decide)
      rw [hr]
      simp [MD.val, new_bad hsz, k_guard, k_guardU, fin29]
      exact ⟨_, _, ⟨rfl, rfl⟩, VOut.bad (hkp _) (by simp) _⟩
    have hsz' := hsz
    simp only [sized, decide_eq_true_eq] at hsz'
    obtain ⟨w, rfl⟩ := Int.eq_ofNat_of_zero_le (show 0 ≤ w by omega)
    obtain ⟨hh, rfl⟩ := Int.eq_ofNat_of_zero_le (show 0 ≤ hh by omega)
    have w1 : 1 ≤ w := by omega
    have w2 : w ≤ 64 := by omega
    have h1 : 1 ≤ hh := by omega
    have h2 : hh ≤ 64 := by omega
    have hm : w * hh ≤ 64 * 64 := Nat.mul_le_mul w2 h2
    have hnew := fun H R => new_c (h := H) (R := R) w1 w2 h1 h2
    have hls : ∀ H : Heap, (newHeap H w hh).length = H.length + 2 := fun H => newHeap_len H w hh
    have hlow : ∀ x : Option Blk, ∀ id, id < h.length → blk? (newHeap (h ++ [x]) w hh) id = blk? h id := fun x id hid => by
      rw [newHeap_low _ _ _ id (by simp; omega)]; exact hkp x id hid
    by_cases hp1 : P < 0
    · have hr := hbadr 2 (by unfold valErr; rw [if_pos (.inr (.inl hp1))]) (by decide)
      rw [hr]
      simp [MD.val, hnew, k_guard, k_guardU, hp1, fin29]
      exact ⟨_, _, ⟨rfl, rfl⟩, VOut.bad (hlow _) (by rw [hls]; simp; omega) _⟩
    by_cases hp2 : 60 < P
    · have hr := hbadr 2 (by unfold valErr; rw [if_pos (.inr (.inr hp2))]) (by decide)
      rw [hr]
      simp [MD.val, hnew, k_guard, k_guardU, hp1, hp2, fin29]
      exact ⟨_, _, ⟨rfl, rfl⟩, VOut.bad (hlow _) (by rw [hls]; simp; omega) _⟩
    have hne2 : ¬ (¬ sized (w : Int) (hh : Int) = true ∨ P < 0 ∨ 60 < P) := by rw [hsz]; simp; omega
    have hm1 : IntKind.i64.wrap (3 * P) = 3 * P := wrapI (by omega) (by omega)
    have hm2 : IntKind.i64.wrap (3 * P - 2) = 3 * P - 2 := wrapI (by omega) (by omega)
    have hmx : fold1 max2V [.int .i64 0, .int .i64 (3 * P - 2)] = some (.int .i64 (max 0 (3 * P - 2))) := by
      simp only [fold1, foldO, max2V]
      congr 2
      split <;> omega
    by_cases hln : max 0 (3 * P - 2) < (ls.length : Int)
    · have hr := hbadr 4 (by unfold valErr; rw [if_neg hne2, if_pos hln]) (by decide)
      rw [hr]
      simp [MD.val, hnew, k_guard, k_guardU, hp1, hp2, hs, hm1, hm2, hmx, hln, fin29]
      exact ⟨_, _, ⟨rfl, rfl⟩, VOut.bad (hlow _) (by rw [hls]; simp; omega) _⟩
    by_cases ho1 : o < 0
    · have hr := hbadr 3 (by unfold valErr; rw [if_neg hne2, if_neg hln, if_pos (.inl ho1)]) (by decide)
      rw [hr]
      simp [MD.val, hnew, k_guard, k_guardU, hp1, hp2, hs, hm1, hm2, hmx, hln, ho1, fin29]
      exact ⟨_, _, ⟨rfl, rfl⟩, VOut.bad (hlow _) (by rw [hls]; simp; omega) _⟩
    by_cases ho2 : 3 < o
    · have hr := hbadr 3 (by unfold valErr; rw [if_neg hne2, if_neg hln, if_pos (.inr ho2)]) (by decide)
      rw [hr]
      simp [MD.val, hnew, k_guard, k_guardU, hp1, hp2, hs, hm1, hm2, hmx, hln, ho1, ho2, fin29]
      exact ⟨_, _, ⟨rfl, rfl⟩, VOut.bad (hlow _) (by rw [hls]; simp; omega) _⟩
    obtain ⟨P, rfl⟩ := Int.eq_ofNat_of_zero_le (show 0 ≤ P by omega)
    obtain ⟨o, rfl⟩ := Int.eq_ofNat_of_zero_le (show 0 ≤ o by omega)
    have herr : valErr ls.length (P : Int) w hh o = 0 := by unfold valErr; rw [if_neg hne2, if_neg hln, if_neg (by omega)]
    generalize hr : valRes ls (P : Int) w hh o m = r
    have hr' : r = if (vLoop m P o 0 (newBS w hh) ls).2 ≠ 0 then ((vLoop m P o 0 (newBS w hh) ls).2, [], []) else (0, (vLoop m P o 0 (newBS w hh) ls).1.cs.map (·.v), (vLoop m P o 0 (newBS w hh) ls).1.cs.map fun c => leftOf P ls.length c.t) := by
      rw [← hr]; unfold valRes; rw [herr, if_neg (by simp)]; simp only [Int.toNat_natCast]
    simp [MD.val, hnew, k_guard, k_guardU, hp1, hp2, hs, hm1, hm2, hmx, hln, ho1, ho2]
    rw [← hT]
    simp only [tlC, B29]
    generalize hH : newHeap (h ++ [some (⟨false, [.bool m.byp, .bool m.res, .bool m.rst, .bool m.cz, .bool m.sy]⟩ : Blk)]) w hh = H
    have hlowH : ∀ id, id < h.length → blk? H id = blk? h id := by rw [← hH]; exact hlow _
    have hlenH : H.length = h.length + 3 := by rw [← hH, hls]; simp
    have vl : VLv h H h.length (h.length + 2) (h.length + 1) m w hh (newBS w hh) := by
      refine ⟨hlowH, by omega, ?_, ?_, newBS_good w1 w2 h1 h2, ⟨by omega, by omega⟩, rfl, rfl, by omega⟩
      · rw [← hH, newHeap_low _ _ _ _ (by simp)]; exact blk?_push_eq
      · rw [← hH]
        have := newHeap_cb (h ++ [some (⟨false, [.bool m.byp, .bool m.res, .bool m.rst, .bool m.cz, .bool m.sy]⟩ : Blk)]) w1 w2 h1 h2
        simpa using this
    have hvn : (vLoop m P o 0 (newBS w hh) (ls.drop 0)) = vLoop m P o 0 (newBS w hh) ls := rfl
    simp
    rw [← hs]
    refine vals_loop (w := w) (hh := hh) hp (by omega) (by omega) (by omega) (by omega) ls.length 0 H (newBS w hh) _ _ _ _ _ _ _ _ _ _ _ _ _ _ _ _ _ _ _ _ _ _ _ _ _ _ _ _ _ _ _ _ _ _ _ _ _ _ _ _ _ _ _ _ _ _ _ _ _ _ _ _ _ _ _ _ _ _ _ _ _ _ _ _ _ _ _ _ _ _ _ _ _ _ _ _ _ _ _ _ _ _ _ _ _ _ _ _ _ _ _ _ _ _ _ _ _ _ _ _ _ _ _ _ _ _ _ _ _ _ _ _ _ _ _ _ _ _ _ _ _ _ _ _ _ _ _ _ _ _ _ _ _ _ rfl (by omega) vl ?_ ?_
    · intro H1 b' K6 K7 K8 K9 Ka Kc Kd Ke Kg Kh Ki Kj Kk Kl Km Kn Ko Kp Kq Kr Ks Kt Ku Kv Kw Kx Ky Kz J0 J1 J2 J3 J4 J5 J6 J7 J8 J9 Ja Jb Jc Jd Je Jf Jg Jh Ji Jj Jk Jl Jm Jn Jo Jp Jq Jr Js Jt Ju Jv Jw Jx Jy Jz Y0 Y1 Y2 Y3 Y4 Y5 Y6 Y7 Y8 Y9 Ya Yb Yc Yd Ye Yf Yg Yh Yi Yj Yk Yl Ym Yn Yo Yp Yq Yr Ys Yt Yu Yv Yw Yx Yy Yz Z0 Z1 Z2 Z3 Z4 Z5 Z6 Z7 Z8 Z9 Za Zb Zc Zd Ze Zf Zg Zh Zi Zj Zk Zl Zm Zn Zo Zp Zq Zr Zs Zt Zu Zv Zw Zx Zy Zz K0q hv vl1
      rw [hvn] at hv
      rw [hv] at hr'
      simp only [ne_eq, not_true_eq_false, if_false] at hr'
      have hbw := vl1.bw
      have hbh := vl1.bh
      have hmwi : IntKind.i64.wrap ((w : Int) * (hh : Int)) = ((w * hh : Nat) : Int) := by rw [← Int.natCast_mul]; exact wrapN (by omega)
      have hroom : ((w * hh : Nat) : Int) ≤ (roomCells : Int) := by unfold roomCells; omega
      have hroom0 : (0 : Int) ≤ ((w * hh : Nat) : Int) := by omega
      generalize ((w * hh : Nat) : Int) = whi at hmwi hroom hroom0
      have lp := blk?_lt vl1.cb.blkp
      have lc := blk?_lt vl1.cb.blkc
      have hlen1 := vl1.len
      obtain ⟨dc, dM⟩ := vl1.d
      have dp := vl1.dp
      have hvb : VB h (H1 ++ [some ⟨false, []⟩, some ⟨false, []⟩]) (h.length + 2) (h.length + 1) b' (.slice (some ⟨H1.length, 0, none⟩) 0 1) (.slice (some ⟨H1.length + 1, 0, none⟩) 0 1) (valsTo b' (0 * b'.w)) (missTo P ls.length b' (0 * b'.w)) := by
        refine ⟨fun id hid => by rw [app_lt (by omega)]; exact vl1.low id hid, by simp; omega, ⟨by rw [app_lt lp]; exact vl1.cb.blkp, by rw [app_lt lc]; exact vl1.cb.blkc, vl1.cb.ok⟩, ⟨by simp [valsTo, i64s], .inr ⟨H1.length, by simp [valsTo], ?_⟩⟩, ⟨by simp [missTo, i64s], .inr ⟨H1.length + 1, by simp [missTo], ?_⟩⟩, fun id hid => ?_, fun id hid => ?_, fun id hid e => ?_⟩
        · rw [app_len]; simp [valsTo, i64s]; rfl
        · rw [app_add]; simp [missTo, i64s]; rfl
        · simp [sid] at hid; omega
        · simp [sid] at hid; omega
        · simp [sid] at hid e; omega
      have fin : ∀ (pl kd : Int) (K6 K7 K8 K9 Ka Ke Kg Kh Ki Kj Kn Ko Kp Kq Kr Ks Kt Ku Kv Kw Kx Ky Kz J0 J1 J2 J3 J4 J5 J6 J7 J8 J9 Ja Jb Jc Jd Je Jf Jg Jh Ji Jj Jk Jl Jm Jn Jo Jp Jq Jr Js Jt Ju Jv Jw Jx Jy Jz Y0 Y1 Y2 Y3 Y4 Y5 Y6 Y7 Y8 Y9 Ya Yb Yc Yd Ye Yf Yg Yh Yi Yj Yk Yl Ym Yn Yo Yp Yq Yr Ys Yt Yu Yx Yy Yz Z0 Z1 Z2 Z3 Z4 Z5 Z6 Z7 Z8 Z9 Za Zb Zc Zd Ze Zf Zg Zh Zi Zj Zk Zl Zm Zn Zo Zp Zq Zr Zs Zt Zu Zv Zw Zx Zy Zz K0q : Value), (-1 ≤ pl ∧ pl ≤ 100) → (∀ t, leftOf P ls.length t = P - 1 - pl + if (decide (0 < ls.length) && kd != 2 && !t) = true then 1 else 0) →
          Ok tab R29 (.inLoop L29_2 :: .inBlock 2 :: [.code (.seq (.region [⟨some 143, .mov (.tmp 12), none⟩, ⟨some 144, .mov (.tmp 13), none⟩, ⟨some 12, .mov (.tmp 143), none⟩, ⟨some 13, .mov (.tmp 144), none⟩, ⟨some 14, .mov (.const (.int .i64 0)), none⟩] []) .ret)]) #[s,.int .i64 P,.int .i64 w,.int .i64 hh,.int .i64 o,.agg #[.bool m.byp, .bool m.res, .bool m.rst, .bool m.cz, .bool m.sy],K6,K7,K8,K9,Ka,ptr h.length,.slice (some ⟨H1.length, 0, none⟩) 0 1,.slice (some ⟨H1.length + 1, 0, none⟩) 0 1,Ke,ptr (h.length + 2),Kg,Kh,Ki,Kj,.int .i64 ls.length,.int .i64 pl,.int .i64 kd,Kn,Ko,Kp,Kq,Kr,Ks,Kt,Ku,Kv,Kw,Kx,Ky,Kz,J0,J1,J2,J3,J4,J5,J6,J7,J8,J9,Ja,Jb,Jc,Jd,Je,Jf,Jg,Jh,Ji,Jj,Jk,Jl,Jm,Jn,Jo,Jp,Jq,Jr,Js,Jt,Ju,Jv,Jw,Jx,Jy,Jz,Y0,Y1,Y2,Y3,Y4,Y5,Y6,Y7,Y8,Y9,Ya,Yb,Yc,Yd,Ye,Yf,Yg,Yh,Yi,Yj,Yk,Yl,Ym,Yn,Yo,Yp,Yq,Yr,Ys,Yt,Yu,.int .i64 hh,.int .i64 0,Yx,Yy,Yz,Z0,Z1,Z2,Z3,Z4,Z5,Z6,Z7,Z8,Z9,Za,Zb,Zc,Zd,Ze,Zf,Zg,Zh,Zi,Zj,Zk,Zl,Zm,Zn,Zo,Zp,Zq,Zr,Zs,Zt,Zu,Zv,Zw,Zx,Zy,Zz,K0q] (H1 ++ [some ⟨false, []⟩, some ⟨false, []⟩])
            fun v h' => ∃ v1 v2, v = .tuple #[v1, v2, .int .i64 r.1] ∧ VOut h h' v1 v2 r := by
        intro pl kd K6 K7 K8 K9 Ka Ke Kg Kh Ki Kj Kn Ko Kp Kq Kr Ks Kt Ku Kv Kw Kx Ky Kz J0 J1 J2 J3 J4 J5 J6 J7 J8 J9 Ja Jb Jc Jd Je Jf Jg Jh Ji Jj Jk Jl Jm Jn Jo Jp Jq Jr Js Jt Ju Jv Jw Jx Jy Jz Y0 Y1 Y2 Y3 Y4 Y5 Y6 Y7 Y8 Y9 Ya Yb Yc Yd Ye Yf Yg Yh Yi Yj Yk Yl Ym Yn Yo Yp Yq Yr Ys Yt Yu Yx Yy Yz Z0 Z1 Z2 Z3 Z4 Z5 Z6 Z7 Z8 Z9 Za Zb Zc Zd Ze Zf Zg Zh Zi Zj Zk Zl Zm Zn Zo Zp Zq Zr Zs Zt Zu Zv Zw Zx Zy Zz K0q hpl hleft
        rw [← hbw, ← hbh]
        refine valy_loop (P := P) (n := ls.length) (by omega) hpl hleft b'.h 0 _ _ _ _ _ _ _ _ _ _ _ _ _ _ _ _ _ _ _ _ _ _ _ _ _ _ _ _ _ _ _ _ _ _ _ _ _ _ _ _ _ _ _ _ _ _ _ _ _ _ _ _ _ _ _ _ _ _ _ _ _ _ _ _ _ _ _ _ _ _ _ _ _ _ _ _ _ _ _ _ _ _ _ _ _ _ _ _ _ _ _ _ _ _ _ _ _ _ _ _ _ _ _ _ _ _ _ _ _ _ _ _ _ _ _ _ _ _ _ _ _ _ _ _ _ _ _ _ _ _ _ _ _ rfl (by omega) hvb ?_
        intro H' v1' v2' K6 K7 K8 K9 Ka Ke Kg Kh Ki Kj Kn Ko Kp Kq Kr Ks Kt Ku Kv Kw Kx Ky Kz J0 J1 J2 J3 J4 J5 J6 J7 J8 J9 Ja Jb Jc Jd Je Jf Jg Jh Ji Jj Jk Jl Jm Jn Jo Jp Jq Jr Js Jt Ju Jv Jw Jx Jy Jz Y0 Y1 Y2 Y3 Y4 Y5 Y6 Y7 Y8 Y9 Ya Yb Yc Yd Ye Yf Yg Yh Yi Yj Yk Yl Ym Yn Yo Yp Yq Yr Ys Yt Yu Yv Yw Yx Yy Yz Z0 Z1 Z2 Z3 Z4 Z5 Z6 Z7 Z8 Z9 Za Zb Zc Zd Ze Zf Zg Zh Zi Zj Zk Zl Zm Zn Zo Zp Zq Zr Zs Zt Zu Zv Zw Zx Zy Zz K0q vb
        have hfl : b'.h * b'.w = b'.cs.length := by rw [vl1.cb.ok.len, Nat.mul_comm]
        have ev : valsTo b' (b'.h * b'.w) = b'.cs.map (·.v) := by unfold valsTo; rw [List.take_of_length_le (by omega)]
        have em : missTo P ls.length b' (b'.h * b'.w) = b'.cs.map fun c => leftOf P ls.length c.t := by unfold missTo; rw [List.take_of_length_le (by omega)]
        rw [ev, em] at vb
        simp [fin29]
        rw [hr']
        exact ⟨v1', v2', ⟨rfl, rfl, rfl⟩, by simpa using vb.o1, by simpa using vb.o2, vb.low, vb.len⟩
      by_cases hn0 : ls.length = 0
      · have hw0 : IntKind.i64.wrap ((ls.length : Int) - 1) = -1 := by rw [hn0]; decide
        have hnn := fun h R => pass_neg (h := h) (R := R)
        have f := fin (-1) (-1)
        simp [hs, hmwi, hroom, hroom0, hw0, hnn]
        rw [← hs]
        exact f _ _ _ _ _ _ _ _ _ _ _ _ _ _ _ _ _ _ _ _ _ _ _ _ _ _ _ _ _ _ _ _ _ _ _ _ _ _ _ _ _ _ _ _ _ _ _ _ _ _ _ _ _ _ _ _ _ _ _ _ _ _ _ _ _ _ _ _ _ _ _ _ _ _ _ _ _ _ _ _ _ _ _ _ _ _ _ _ _ _ _ _ _ _ _ _ _ _ _ _ _ _ _ _ _ _ _ _ _ _ _ _ _ _ _ _ _ _ _ _ _ _ _ _ _ _ _ _ _ _ (by omega) (fun t => by unfold leftOf; rw [if_pos hn0]; simp [hn0])
      · have hw0 : IntKind.i64.wrap ((ls.length : Int) - 1) = ((ls.length - 1 : Nat) : Int) := by rw [wrapI (by omega) (by omega)]; omega
        have hnn := fun h R => pass_c (h := h) (R := R) (n := ls.length - 1) (by omega)
        have hpo : planeOf (ls.length - 1) ≤ P - 1 := planeOf_le (by omega) (by omega)
        have f := fin (planeOf (ls.length - 1) : Nat) (kindOf (ls.length - 1) : Nat)
        have hlf : ∀ t, leftOf P ls.length t = P - 1 - ((planeOf (ls.length - 1) : Nat) : Int) + if (decide (0 < ls.length) && ((kindOf (ls.length - 1) : Nat) : Int) != 2 && !t) = true then 1 else 0 := by
          intro t
          rw [leftOf_pos hn0]
          have e1 : (((kindOf (ls.length - 1) : Nat) : Int) != 2) = (kindOf (ls.length - 1) != 2) := by
            rw [Bool.eq_iff_iff]; simp; omega
          have e2 : decide (0 < ls.length) = true := by simp; omega
          rw [e1, e2, Bool.true_and]
        have hpl2 : (-1 : Int) ≤ ((planeOf (ls.length - 1) : Nat) : Int) ∧ ((planeOf (ls.length - 1) : Nat) : Int) ≤ 100 := by omega
        generalize ((planeOf (ls.length - 1) : Nat) : Int) = pl at *
        generalize ((kindOf (ls.length - 1) : Nat) : Int) = kd at *
        generalize ((ls.length - 1 : Nat) : Int) = n1 at *
        simp [hs, hmwi, hroom, hroom0, hw0, hnn]
        rw [← hs]
        exact f _ _ _ _ _ _ _ _ _ _ _ _ _ _ _ _ _ _ _ _ _ _ _ _ _ _ _ _ _ _ _ _ _ _ _ _ _ _ _ _ _ _ _ _ _ _ _ _ _ _ _ _ _ _ _ _ _ _ _ _ _ _ _ _ _ _ _ _ _ _ _ _ _ _ _ _ _ _ _ _ _ _ _ _ _ _ _ _ _ _ _ _ _ _ _ _ _ _ _ _ _ _ _ _ _ _ _ _ _ _ _ _ _ _ _ _ _ _ _ _ _ _ _ _ _ _ _ _ _ _ hpl2 hlf
    · intro H1 e he h0 low len
      rw [hvn] at he
      rw [he, if_pos h0] at hr'
      rw [hr']
      exact ⟨_, _, rfl, VOut.bad low len _⟩
  obtain ⟨v, h', e, v1, v2, rfl, rs⟩ := ret_ex key
  exact ⟨v1, v2, h', e, rs⟩
end Go.Proofs.Ytjpjohchdfoeaaa
