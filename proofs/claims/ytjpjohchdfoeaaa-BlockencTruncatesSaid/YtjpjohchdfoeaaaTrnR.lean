/-
  The block encoder, followed: the segments.
  The shape of the passes, how many symbols there are, and what Encode answers: plain.
  The block encoder, followed: Encode.
  Coded blocks: Valid, and whether two are the same.
  Coded blocks: whether two are the same, and Truncate.
  The examples of the chapter.
  BlockencValidates and BlockencCuts: the walks.
  BlockencTruncates: the reference's Truncate, and the walk.
-/
import Derived.Test.YtjpjohchdfoeaaaBe3
namespace Go.Proofs.Ytjpjohchdfoeaaa
open Go Go.Sim
set_option linter.unusedSimpArgs false
set_option linter.unusedVariables false
set_option maxRecDepth 10000

/-- The segments: the ends of the passes, and the bytes. -/
def encSegs (m : MD) (ls : List (List (Int × Nat))) : List Nat → Nat → AE → List Nat → List Nat → List Nat × List Nat
  | [], _, _, P, D => (P, D)
  | c :: cs, n, a, P, D =>
    let r := segRun m n ((ls.drop n).take c) ⟨a, if rawOf m n = true then some [] else none⟩
    encSegs m ls cs (n + c) r.1.after (P ++ (r.2.take (c - 1)).map (fun z => min (D.length + z) (D ++ r.1.bytes).length) ++ [(D ++ r.1.bytes).length]) (D ++ r.1.bytes)
/-- No raw pass stands in a coded segment. -/
def SegOk (m : MD) : Nat → List Nat → Prop
  | _, [] => True
  | n, c :: cs => (rawOf m n = false → ∀ j, j < c → rawOf m (n + j) = false) ∧ SegOk m (n + c) cs
theorem totL_split : ∀ (l : List (List (Int × Nat))) (c : Nat), totL l = totL (l.take c) + totL (l.drop c)
  | [], c => by simp [totL]
  | x :: l, 0 => by simp [totL]
  | x :: l, c + 1 => by rw [List.take_succ_cons, List.drop_succ_cons, totL, totL, totL_split l c]; omega
theorem segRun_len (m : MD) : ∀ (ls : List (List (Int × Nat))) (n : Nat) (st : S2), (segRun m n ls st).2.length = ls.length
  | [], _, _ => rfl
  | l :: r, n, st => by simp [segRun, segRun_len m r]

theorem sub_nI {h : Heap} {zv : Value} {zs : List Nat} {c : Nat} (ho : OwnS h 1 zv zs.length (nI zs)) (hc : c ≤ zs.length) :
    ∃ z2, sliceV 1 zv none (some (.int .i64 (c : Nat))) = some z2 ∧ Sl h 1 z2 (zs.take c).length (nI (zs.take c)) ∧ (∀ id, sid z2 = some id → sid zv = some id) ∧ ∃ za zc, z2 = .slice za (zs.take c).length zc := by
  have hl : (zs.take c).length = c := by simp; omega
  rcases ho.2 with ⟨rfl, h0⟩ | ⟨id, rfl, hb⟩
  · have hz : zs = [] := List.eq_nil_of_length_eq_zero h0
    subst hz
    have : c = 0 := by simpa using hc
    subst this
    exact ⟨.slice none 0 0, by simp [sliceV, bndO, bnd], (OwnS.nil h 1).sl, fun id hid => hid, none, 0, rfl⟩
  · refine ⟨.slice (some ⟨id, 0, none⟩) c 1, ?_, ?_, fun j hj => hj, ?_⟩
    · have : (c : Int) ≤ (zs.length : Int) := by omega
      simp [sliceV, bndO, bnd, this]
    · rw [hl]
      refine ⟨by rw [nI_len, hl, Nat.mul_one], .inr ⟨id, 0, rfl, .inr ⟨_, hb, by simp only [nI_len]; omega, ?_⟩⟩⟩
      simp only [List.drop_zero, Nat.mul_one, nI, List.map_take]
    · rw [hl]; exact ⟨_, _, rfl⟩

def inB : RCode → RCode
  | .block _ c => c
  | c => c
/-- Between two segments. -/
structure OI (hB h : Heap) (e X : Nat) (pl gv : Value) (gs : List Nat) (a : AE) (pv dv : Value) (P D : List Nat) (N : Nat) : Prop where
  ea : ∃ pb o out low, EA h e pb o out low a ∧ out.length ≤ N ∧ ∀ id, ownE e pb o id → hB.length ≤ id ∧ id ≠ X ∧ sid pv ≠ some id ∧ sid dv ≠ some id ∧ sid gv ≠ some id
  h19 : a.p.length = 19
  bx : blk? h X = some ⟨false, [pl, pv, dv]⟩
  op : OwnS h 1 pv P.length (nI P)
  od : OwnS h 1 dv D.length (nU D)
  gs : Sl h 1 gv gs.length (nI gs)
  gB : ∀ id, sid gv = some id → id ≠ X ∧ id < h.length
  xB : hB.length ≤ X
  pB : ∀ id, sid pv = some id → hB.length ≤ id ∧ id ≠ X ∧ sid dv ≠ some id ∧ sid gv ≠ some id
  dB : ∀ id, sid dv = some id → hB.length ≤ id ∧ id ≠ X ∧ sid gv ≠ some id
  low : ∀ id, id < hB.length → blk? h id = blk? hB id
  len : hB.length ≤ h.length

section
variable {R : Value → Heap → Prop} {k : List RItem} {e M X0 X : Nat} {sv gv pl : Value} {m : MD} {gs : List Nat}

set_option maxHeartbeats 4000000 in
theorem seg_loop_e {hB : Heap} {vs : List Value} {ls : List (List (Int × Nat))} {PF DF : List Nat} (hp : Pss hB sv vs ls) (hm : blk? hB M = some ⟨false, [.bool m.byp, .bool m.res, .bool m.rst, .bool m.cz, .bool m.sy]⟩) (hls : ls.length ≤ 178) (hgs : gs.length ≤ 178)
    (hsym : ∀ i (h1 : i < ls.length), ∀ s ∈ ls[i], s.2 < 2 ∧ (rawOf m i = false → 0 ≤ s.1 ∧ s.1 < 19))
    (hk : ∀ (h : Heap) (a : AE) (pv dv : Value) (N : Nat) (K0 K1 K2 K3 K4 K5 K6 K7 K8 Kb Kc Kd Ke Kg Kh Ki Kj Kk Kl Km Kn Ko Kp Kq Kr Ks Kt Ku Kv Kw Kx Ky Kz J0 J1 J2 J3 J4 J5 J6 J7 J8 J9 Ja Jb Jc Jd Je Jf Jg Jh Ji Jj Jk Jl Jm Jn Jo Jp Jq Jr Js Jt Ju Jv Jw Jx Jy Jz Y0 Y1 Y2 Y3 Y4 Y5 Y6 Y7 Y8 Y9 Ya Yb Yc Yd Ye Yf Yg Yh Yi Yj Yk Yl Ym Yn Yo Yp Yq Yr Ys Yt Yu Yv Yw Yx Yy Yz Z0 Z1 Z2 Z3 Z4 Z5 Z6 Z7 Z8 Z9 Za Zb Zc Zd Ze Zf Zg Zh Zi Zj Zk Zl Zm Zn Zo Zp Zq Zr Zs Zt Zu Zv Zw Zx Zy Zz K0q K1q K2q K3q : Value), OI hB h e X pl gv gs a pv dv PF DF N → Ok tab R52 k #[K0,K1,K2,K3,K4,K5,K6,K7,K8,ptr M,ptr X0,Kb,Kc,Kd,Ke,ptr X,Kg,Kh,Ki,Kj,Kk,Kl,Km,Kn,Ko,Kp,Kq,Kr,Ks,Kt,Ku,Kv,Kw,Kx,Ky,Kz,J0,J1,J2,J3,J4,J5,J6,J7,J8,J9,Ja,Jb,Jc,Jd,Je,Jf,Jg,Jh,Ji,Jj,Jk,Jl,Jm,Jn,Jo,Jp,Jq,Jr,Js,Jt,Ju,Jv,Jw,Jx,Jy,Jz,Y0,Y1,Y2,Y3,Y4,Y5,Y6,Y7,Y8,Y9,Ya,Yb,Yc,Yd,Ye,Yf,Yg,Yh,Yi,Yj,Yk,Yl,Ym,Yn,Yo,Yp,Yq,Yr,Ys,Yt,Yu,Yv,Yw,Yx,Yy,Yz,Z0,Z1,Z2,Z3,Z4,Z5,Z6,Z7,Z8,Z9,Za,Zb,Zc,Zd,Ze,Zf,Zg,Zh,Zi,Zj,Zk,Zl,Zm,Zn,Zo,Zp,Zq,Zr,Zs,Zt,Zu,Zv,Zw,Zx,Zy,Zz,K0q,K1q,K2q,K3q] h R) :
    ∀ (d gi n : Nat) (h : Heap) (a : AE) (pv dv : Value) (P D : List Nat) (N : Nat) (K0 K1 K2 K3 K4 K5 K6 K7 K8 Kb Kd Kh Ki Kj Kk Kl Km Kn Ko Kp Kq Kr Ks Kt Ku Kv Kw Kx Ky Kz J0 J1 J2 J3 J4 J5 J6 J7 J8 J9 Ja Jb Jc Jd Je Jf Jg Jk Jl Jm Jn Jo Jp Jq Jr Js Jt Ju Jv Jw Jx Jy Jz Y0 Y1 Y2 Y3 Y4 Y5 Y6 Y7 Y8 Y9 Ya Yb Yc Yd Ye Yf Yg Yh Yi Yj Yk Yl Ym Yn Yo Yp Yq Yr Ys Yt Yu Yv Yw Yx Yy Yz Z0 Z1 Z2 Z3 Z4 Z5 Z6 Z7 Z8 Z9 Za Zb Zc Zd Ze Zf Zg Zh Zi Zj Zk Zl Zm Zn Zo Zp Zq Zr Zs Zt Zu Zv Zw Zx Zy Zz K0q K1q K2q K3q : Value), gi + d = gs.length → OI hB h e X pl gv gs a pv dv P D N → n + sumL (gs.drop gi) = ls.length → (∀ c ∈ gs, 1 ≤ c) → SegOk m n (gs.drop gi) → N + totL (ls.drop n) ≤ 900000 → P.length = n → D.length + d * 1000000 ≤ 500000000 →
      encSegs m ls (gs.drop gi) n a P D = (PF, DF) →
      Ok tab R52 (.inLoop L52_3 :: .inBlock 0 :: k) #[K0,K1,K2,K3,K4,K5,K6,K7,K8,ptr M,ptr X0,Kb,sv,Kd,ptr e,ptr X,.int .i64 (n : Nat),Kh,Ki,Kj,Kk,Kl,Km,Kn,Ko,Kp,Kq,Kr,Ks,Kt,Ku,Kv,Kw,Kx,Ky,Kz,J0,J1,J2,J3,J4,J5,J6,J7,J8,J9,Ja,Jb,Jc,Jd,Je,Jf,Jg,gv,.int .i64 (gs.length : Nat),.int .i64 (gi : Nat),Jk,Jl,Jm,Jn,Jo,Jp,Jq,Jr,Js,Jt,Ju,Jv,Jw,Jx,Jy,Jz,Y0,Y1,Y2,Y3,Y4,Y5,Y6,Y7,Y8,Y9,Ya,Yb,Yc,Yd,Ye,Yf,Yg,Yh,Yi,Yj,Yk,Yl,Ym,Yn,Yo,Yp,Yq,Yr,Ys,Yt,Yu,Yv,Yw,Yx,Yy,Yz,Z0,Z1,Z2,Z3,Z4,Z5,Z6,Z7,Z8,Z9,Za,Zb,Zc,Zd,Ze,Zf,Zg,Zh,Zi,Zj,Zk,Zl,Zm,Zn,Zo,Zp,Zq,Zr,Zs,Zt,Zu,Zv,Zw,Zx,Zy,Zz,K0q,K1q,K2q,K3q] h R := by
  intro d
  induction d with
  | zero =>
    intro gi n h a pv dv P D N K0 K1 K2 K3 K4 K5 K6 K7 K8 Kb Kd Kh Ki Kj Kk Kl Km Kn Ko Kp Kq Kr Ks Kt Ku Kv Kw Kx Ky Kz J0 J1 J2 J3 J4 J5 J6 J7 J8 J9 Ja Jb Jc Jd Je Jf Jg Jk Jl Jm Jn Jo Jp Jq Jr Js Jt Ju Jv Jw Jx Jy Jz Y0 Y1 Y2 Y3 Y4 Y5 Y6 Y7 Y8 Y9 Ya Yb Yc Yd Ye Yf Yg Yh Yi Yj Yk Yl Ym Yn Yo Yp Yq Yr Ys Yt Yu Yv Yw Yx Yy Yz Z0 Z1 Z2 Z3 Z4 Z5 Z6 Z7 Z8 Z9 Za Zb Zc Zd Ze Zf Zg Zh Zi Zj Zk Zl Zm Zn Zo Zp Zq Zr Zs Zt Zu Zv Zw Zx Zy Zz K0q K1q K2q K3q hgd I hn hc1 hso hN hP hD hE
    obtain rfl : gi = gs.length := by omega
    rw [List.drop_length] at hE
    simp only [encSegs, Prod.mk.injEq] at hE
    obtain ⟨rfl, rfl⟩ := hE
    rw [ok_round, l52_3, L52_3a, L52_3b]
    simp
    exact hk h a pv dv N _ _ _ _ _ _ _ _ _ _ _ _ _ _ _ _ _ _ _ _ _ _ _ _ _ _ _ _ _ _ _ _ _ _ _ _ _ _ _ _ _ _ _ _ _ _ _ _ _ _ _ _ _ _ _ _ _ _ _ _ _ _ _ _ _ _ _ _ _ _ _ _ _ _ _ _ _ _ _ _ _ _ _ _ _ _ _ _ _ _ _ _ _ _ _ _ _ _ _ _ _ _ _ _ _ _ _ _ _ _ _ _ _ _ _ _ _ _ _ _ _ _ _ _ _ _ _ _ _ _ _ _ _ _ _ _ _ _ _ _ _ _ _ _ _ I
  | succ d ih =>
    intro gi n h a pv dv P D N K0 K1 K2 K3 K4 K5 K6 K7 K8 Kb Kd Kh Ki Kj Kk Kl Km Kn Ko Kp Kq Kr Ks Kt Ku Kv Kw Kx Ky Kz J0 J1 J2 J3 J4 J5 J6 J7 J8 J9 Ja Jb Jc Jd Je Jf Jg Jk Jl Jm Jn Jo Jp Jq Jr Js Jt Ju Jv Jw Jx Jy Jz Y0 Y1 Y2 Y3 Y4 Y5 Y6 Y7 Y8 Y9 Ya Yb Yc Yd Ye Yf Yg Yh Yi Yj Yk Yl Ym Yn Yo Yp Yq Yr Ys Yt Yu Yv Yw Yx Yy Yz Z0 Z1 Z2 Z3 Z4 Z5 Z6 Z7 Z8 Z9 Za Zb Zc Zd Ze Zf Zg Zh Zi Zj Zk Zl Zm Zn Zo Zp Zq Zr Zs Zt Zu Zv Zw Zx Zy Zz K0q K1q K2q K3q hgd I hn hc1 hso hN hP hD hE
    have hgi : gi < gs.length := by omega
    have hlt : (gi : Int) < (gs.length : Int) := by omega
    have hdrop : gs.drop gi = gs[gi] :: gs.drop (gi + 1) := List.drop_eq_getElem_cons hgi
    have hcpos := hc1 gs[gi] (List.getElem_mem hgi)
    rw [hdrop] at hn hso hE
    simp only [sumL] at hn
    obtain ⟨hso1, hso2⟩ := hso
    have hgd0 : gs.getD gi 0 = gs[gi] := by rw [List.getD_eq_getElem?_getD, List.getElem?_eq_getElem hgi]; rfl
    obtain ⟨gid, goff, gb, hgv, hgb, hgc⟩ := I.gs.get hgi
    have hgc' := hgc 0 (by omega)
    rw [Nat.mul_one, Nat.add_zero, Nat.add_zero, nI_get hgi, hgd0] at hgc'
    generalize hcc : gs[gi] = c at *
    simp only [encSegs] at hE
    obtain ⟨pb, o, out, low, hA, hon, hdis⟩ := I.ea
    have hsplit := totL_split (ls.drop n) c
    rw [List.drop_drop] at hsplit
    have hmB := blk?_lt hm
    have hmh : blk? h M = some ⟨false, [.bool m.byp, .bool m.res, .bool m.rst, .bool m.cz, .bool m.sy]⟩ := by rw [I.low M hmB]; exact hm
    have hXlt := blk?_lt I.bx
    have lenB := I.len
    -- the sink
    have stepS : ∃ h2 v own, Snk h2 e v own ⟨a, if rawOf m n = true then some [] else none⟩ N ∧ (∀ id, id < h.length → blk? h2 id = blk? h id) ∧ h.length ≤ h2.length ∧ (∀ id, own id → ownE e pb o id ∨ h.length ≤ id) ∧
        ((rawOf m n = false → v = ifE e ∧ h2 = h) ∧ (rawOf m n = true → v = ifR h.length ∧ ∀ R, Ret tab 105 [] h R = R (ptr h.length) h2)) := by
      cases hrw : rawOf m n with
      | false => exact ⟨h, ifE e, ownE e pb o, .enc hA I.h19 hon, fun _ _ => rfl, Nat.le_refl _, fun id hid => .inl hid, fun _ => ⟨rfl, rfl⟩, fun x => by simp at x⟩
      | true =>
        obtain ⟨h2, e1, J, l1, k1⟩ := new15 h
        refine ⟨h2, ifR h.length, _, .raw (hA.keep fun id hid => k1 id (hA.own_lt hid)) I.h19 hon J (by simp) (fun id x y => ?_), k1, by omega, fun id hid => ?_, fun x => by simp at x, fun _ => ⟨rfl, e1⟩⟩
        · have := hA.own_lt x
          rcases y with y | y
          · omega
          · simp [sid] at y
        · rcases hid with hid | hid
          · exact .inl hid
          · rcases hid with hid | hid
            · right; omega
            · simp [sid] at hid
    obtain ⟨h2, v, own, hK, k2, l2, own2, hv⟩ := stepS
    have ownB : ∀ id, own id → hB.length ≤ id := fun id hid => by
      rcases own2 id hid with hx | hx
      · exact (hdis id hx).1
      · omega
    have hp2 : Pss h2 sv vs ls := hp.keep (by omega) (fun id hid => by rw [k2 id (by omega), I.low id hid])
    have ltB : ∀ {w : Value} {id : Nat} {s0 n0 : Nat} {cs0 : List Value}, below hB.length w = true → Sl hB s0 w n0 cs0 → sid w = some id → id < hB.length := by
      intro w id s0 n0 cs0 hb hs hid
      obtain ⟨wa, wc, rfl⟩ := hs.shape
      cases wa with
      | none => simp [sid] at hid
      | some ad => simp [sid] at hid hb; omega
    have hm2 : blk? h2 M = some ⟨false, [.bool m.byp, .bool m.res, .bool m.rst, .bool m.cz, .bool m.sy]⟩ := by rw [k2 M (by omega)]; exact hmh
    -- what comes behind the passes
    have hrl := segRun_len m ((ls.drop n).take c) n ⟨a, if rawOf m n = true then some [] else none⟩
    have hcl : ((ls.drop n).take c).length = c := by rw [List.length_take, List.length_drop]; omega
    rw [hcl] at hrl
    generalize hr : segRun m n ((ls.drop n).take c) ⟨a, if rawOf m n = true then some [] else none⟩ = r at *
    obtain ⟨st3, zs3⟩ := r
    simp only at hE hrl
    have behind : ∀ (h3 : Heap) (own3 : Nat → Prop) (zv : Value) (K0 K1 K2 K3 K4 K5 K6 K7 K8 Kb Kd Kh Kl Km Kn Ko Kp Kq Kr Ks Kt Ku Kv Kw Kx Ky Kz J0 J1 J2 J3 J4 J5 J6 J7 J8 J9 Ja Jb Jc Jd Je Jf Jg Jk Jl Jm Jn Jo Jp Jq Jr Js Jt Ju Jv Jw Jx Jy Jz Y0 Y1 Y2 Y3 Y4 Y5 Y6 Y7 Y8 Y9 Ya Yb Yc Yd Ye Yf Yg Yh Yi Yj Yk Yl Ym Yn Yo Yp Yq Yr Ys Yt Yu Yv Yw Yx Yy Yz Z0 Z1 Z2 Z3 Z4 Z5 Z6 Z7 Z8 Z9 Za Zb Zc Zd Ze Zf Zg Zh Zi Zj Zk Zl Zm Zn Zo Zp Zq Zr Zs Zt Zu Zv Zw Zx Zy Zz K0q K1q K2q K3q : Value), Snk h3 e v own3 st3 (N + totL ((ls.drop n).take c)) →
        OwnS h3 1 zv zs3.length (nI zs3) → (∀ z ∈ zs3, z ≤ 900004) → (∀ id, own3 id → sid zv ≠ some id) → SF h2 h3 own (ownZ own3 zv) →
        Ok tab R52 (.code (tlC 5 (inB (nthC 1 L52_3b))) :: .inBlock 1 :: .code (tlC 2 L52_3b) :: .inLoop L52_3 :: .inBlock 0 :: k) #[K0,K1,K2,K3,K4,K5,K6,K7,K8,ptr M,ptr X0,Kb,sv,Kd,ptr e,ptr X,.int .i64 ((n + c : Nat) : Int),Kh,.int .i64 (c : Nat),v,zv,Kl,Km,Kn,Ko,Kp,Kq,Kr,Ks,Kt,Ku,Kv,Kw,Kx,Ky,Kz,J0,J1,J2,J3,J4,J5,J6,J7,J8,J9,Ja,Jb,Jc,Jd,Je,Jf,Jg,gv,.int .i64 (gs.length : Nat),.int .i64 (gi : Nat),Jk,Jl,Jm,Jn,Jo,Jp,Jq,Jr,Js,Jt,Ju,Jv,Jw,Jx,Jy,Jz,Y0,Y1,Y2,Y3,Y4,Y5,Y6,Y7,Y8,Y9,Ya,Yb,Yc,Yd,Ye,Yf,Yg,Yh,Yi,Yj,Yk,Yl,Ym,Yn,Yo,Yp,Yq,Yr,Ys,Yt,Yu,Yv,Yw,Yx,Yy,Yz,Z0,Z1,Z2,Z3,Z4,Z5,Z6,Z7,Z8,Z9,Za,Zb,Zc,Zd,Ze,Zf,Zg,Zh,Zi,Zj,Zk,Zl,Zm,Zn,Zo,Zp,Zq,Zr,Zs,Zt,Zu,Zv,Zw,Zx,Zy,Zz,K0q,K1q,K2q,K3q] h3 R := by
      intro h3 own3 zv K0 K1 K2 K3 K4 K5 K6 K7 K8 Kb Kd Kh Kl Km Kn Ko Kp Kq Kr Ks Kt Ku Kv Kw Kx Ky Kz J0 J1 J2 J3 J4 J5 J6 J7 J8 J9 Ja Jb Jc Jd Je Jf Jg Jk Jl Jm Jn Jo Jp Jq Jr Js Jt Ju Jv Jw Jx Jy Jz Y0 Y1 Y2 Y3 Y4 Y5 Y6 Y7 Y8 Y9 Ya Yb Yc Yd Ye Yf Yg Yh Yi Yj Yk Yl Ym Yn Yo Yp Yq Yr Ys Yt Yu Yv Yw Yx Yy Yz Z0 Z1 Z2 Z3 Z4 Z5 Z6 Z7 Z8 Z9 Za Zb Zc Zd Ze Zf Zg Zh Zi Zj Zk Zl Zm Zn Zo Zp Zq Zr Zs Zt Zu Zv Zw Zx Zy Zz K0q K1q K2q K3q hK3 hz3 hzb hd3 F3
      obtain ⟨h4, s, pb4, o4, out4, low4, eE, hA4, hout4, h194, F4, hs4, hsid4⟩ := snk_end hK3 (by omega)
      have hbl := snk_bytes hK3
      have len3 := F3.len
      have len4 := F4.len
      -- what is not the sink's
      have other : ∀ id, id < h.length → ¬ ownE e pb o id → blk? h4 id = blk? h id ∧ ¬ own3 id ∧ sid zv ≠ some id ∧ ¬ ownE e pb4 o4 id := by
        intro id hid hno
        have n1 : ¬ own id := fun x => by
          rcases own2 id x with hx | hx
          · exact hno hx
          · omega
        have n2 : ¬ ownZ own3 zv id := fun x => by
          rcases F3.fresh id x with hx | hx
          · exact n1 hx
          · omega
        have n3 : ¬ own3 id := fun x => n2 (.inl x)
        refine ⟨by rw [F4.same id (by omega) n3, F3.same id (by omega) n1, k2 id hid], n3, fun x => n2 (.inr x), fun x => ?_⟩
        rcases F4.fresh id x with hx | hx
        · exact n3 hx
        · omega
      have oX := other X hXlt (fun x => (hdis X x).2.1 rfl)
      have oP : ∀ id, sid pv = some id → _ := fun id hid => other id (I.op.lt hid) (fun x => (hdis id x).2.2.1 hid)
      have oD : ∀ id, sid dv = some id → _ := fun id hid => other id (I.od.lt hid) (fun x => (hdis id x).2.2.2.1 hid)
      have oG : ∀ id, sid gv = some id → _ := fun id hid => other id (I.gB id hid).2 (fun x => (hdis id x).2.2.2.2 hid)
      have oL : ∀ id, id < hB.length → blk? h4 id = blk? hB id := fun id hid => by
        rw [(other id (by omega) (fun x => by have := (hdis id x).1; omega)).1, I.low id hid]
      have zB : ∀ id, sid zv = some id → hB.length ≤ id ∧ id ≠ X ∧ sid pv ≠ some id ∧ sid dv ≠ some id ∧ sid gv ≠ some id := fun id hid => by
        refine ⟨?_, fun x => oX.2.2.1 (by rw [← x]; exact hid), fun x => (oP id x).2.2.1 hid, fun x => (oD id x).2.2.1 hid, fun x => (oG id x).2.2.1 hid⟩
        rcases F3.fresh id (.inr hid) with hx | hx
        · exact ownB id hx
        · omega
      have op4 : OwnS h4 1 pv P.length (nI P) := I.op.of_blk fun id hid hb => by rw [(oP id hid).1]; exact hb
      have od4 : OwnS h4 1 dv D.length (nU D) := I.od.of_blk fun id hid hb => by rw [(oD id hid).1]; exact hb
      have hz4 : OwnS h4 1 zv zs3.length (nI zs3) := hz3.of_blk fun id hid hb => by rw [F4.same id (blk?_lt hb) (fun x => hd3 id x hid)]; exact hb
      have gs4 : Sl h4 1 gv gs.length (nI gs) := I.gs.of_sid fun id b hid hb => by rw [(oG id hid).1]; exact hb
      have bX4 : blk? h4 X = some ⟨false, [pl, pv, dv]⟩ := by rw [oX.1]; exact I.bx
      have hXl4 := blk?_lt bX4
      have nd : ∀ id, ownE e pb4 o4 id → id < h4.length ∧ hB.length ≤ id ∧ id ≠ X ∧ sid pv ≠ some id ∧ sid dv ≠ some id ∧ sid gv ≠ some id := fun id hid => by
        refine ⟨hA4.own_lt hid, ?_, fun x => oX.2.2.2 (by rw [← x]; exact hid), fun x => (oP id x).2.2.2 hid, fun x => (oD id x).2.2.2 hid, fun x => (oG id x).2.2.2 hid⟩
        rcases F4.fresh id hid with hx | hx
        · rcases F3.fresh id (.inl hx) with hy | hy
          · exact ownB id hy
          · omega
        · omega
      -- the bytes
      obtain ⟨tv, h5, eA5, od5, l5, k5, g5⟩ := app_any (bytes := 1) od4 hs4 (by unfold roomCells; omega) (by omega)
      have happ : nU D ++ nU st3.bytes = nU (D ++ st3.bytes) := by simp [nU]
      have hDl : D.length + st3.bytes.length = (D ++ st3.bytes).length := by simp
      rw [happ, hDl] at od5
      have hdX : sid dv ≠ some X := fun x => (I.dB X x).2.1 rfl
      have bX5 : blk? h5 X = some ⟨false, [pl, pv, dv]⟩ := by rw [k5 X hXl4 hdX]; exact bX4
      have hXl5 := blk?_lt bX5
      generalize hh6 : h5.set X (some ⟨false, [pl, pv, tv]⟩) = h6
      have l6 : h6.length = h5.length := by rw [← hh6]; simp
      have bX6 : blk? h6 X = some ⟨false, [pl, pv, tv]⟩ := by rw [← hh6]; exact blk?_set_eq hXl5
      have k6 : ∀ id, id ≠ X → blk? h6 id = blk? h5 id := fun id hid => by rw [← hh6]; exact blk?_set_ne (Ne.symm hid)
      have k46 : ∀ id, id < h4.length → id ≠ X → sid dv ≠ some id → blk? h6 id = blk? h4 id := fun id h1 h2 h3 => by rw [k6 id h2, k5 id h1 h3]
      have hz6 : OwnS h6 1 zv zs3.length (nI zs3) := hz4.of_blk fun id hid hb => by rw [k46 id (blk?_lt hb) (zB id hid).2.1 (zB id hid).2.2.2.1]; exact hb
      have op6 : OwnS h6 1 pv P.length (nI P) := op4.of_blk fun id hid hb => by rw [k46 id (blk?_lt hb) (I.pB id hid).2.1 (I.pB id hid).2.2.1]; exact hb
      have od6 : OwnS h6 1 tv (D ++ st3.bytes).length (nU (D ++ st3.bytes)) := od5.of_blk fun id hid hb => by rw [k6 id (by have := g5 id hid; omega)]; exact hb
      have gs6 : Sl h6 1 gv gs.length (nI gs) := gs4.of_sid fun id b hid hb => by rw [k46 id (blk?_lt hb) (I.gB id hid).1 (fun x => (I.dB id x).2.2 hid)]; exact hb
      obtain ⟨z2, ez2, hz2, hz2s, zsh⟩ := sub_nI hz6 (c := c - 1) (by omega)
      obtain ⟨za, zc, hz2sh⟩ := zsh
      have hzl2 : (zs3.take (c - 1)).length = c - 1 := by rw [List.length_take]; omega
      obtain ⟨da, dc, rfl⟩ := od6.sl.shape
      have wc : IntKind.i64.wrap ((c : Int) - 1) = ((c - 1 : Nat) : Int) := by rw [wrapI (by omega) (by omega)]; omega
      have hSL := fun K0 K1 K2 K3 K4 K5 K6 K7 K8 Kb Kd Kh Ki Kj Kk Kl Km Ko Kp Kq Kr Ks Kt Ku Kv Kw Kx Ky Kz J0 J1 J2 J3 J4 J5 J6 J7 J8 J9 Ja Jb Jc Jd Je Jf Jg Jk Jl Jm Jn Jo Jp Jq Jr Js Jt Ju Jv Jw Jx Jy Jz Y0 Y1 Y2 Y3 Y4 Y5 Y6 Y7 Y8 Y9 Ya Yb Yc Yd Ye Yf Yg Yh Yi Yj Yk Yl Ym Yn Yo Yp Yq Yr Ys Yt Yu Yv Yw Yx Yy Yz Z0 Z1 Z2 Z3 Z4 Z5 Z9 Za Zb Zc Zd Ze Zf Zg Zh Zi Zj Zk Zl Zm Zn Zo Zp Zq Zr Zs Zt Zu Zv Zw Zx Zy Zz K0q K1q K2q K3q => size_loop (R := R) (k := .code (tlC 1 (tlC 7 (inB (nthC 1 L52_3b)))) :: .inBlock 1 :: .code (tlC 2 L52_3b) :: .inLoop L52_3 :: .inBlock 0 :: k) (B := h6.length) (h0 := h6) (pl := pl) (dv := .slice da (D ++ st3.bytes).length dc) (zv := z2) (pv0 := pv) (D := D ++ st3.bytes) (beg := D.length) (e := e) (M := M) (X0 := X0) (X := X) (gn := gs.length) (gi := gi) (sv := sv) (gv := gv) (nv := .int .i64 ((n + c : Nat) : Int)) hz2
        (fun id hid => by
          have hx := hz2s id hid
          exact ⟨hz6.lt hx, (zB id hx).2.1, (zB id hx).2.2.1⟩) (by omega) ⟨da, dc, rfl⟩ (by omega) (fun z hz => by have := hzb z (List.mem_of_mem_take hz); omega) (by omega) (by rw [← hDl]; omega) (PF := P ++ (zs3.take (c - 1)).map (fun z => min (D.length + z) (D ++ st3.bytes).length))
        (fun h7 pv7 K0 K1 K2 K3 K4 K5 K6 K7 K8 Kb Kd Kh Ki Kj Kk Kl Km Kn Ko Kp Kq Kr Ks Kt Ku Kv Kw Kx Ky Kz J0 J1 J2 J3 J4 J5 J6 J7 J8 J9 Ja Jb Jc Jd Je Jf Jg Jk Jl Jm Jn Jo Jp Jq Jr Js Jt Ju Jv Jw Jx Jy Jz Y0 Y1 Y2 Y3 Y4 Y5 Y6 Y7 Y8 Y9 Ya Yb Yc Yd Ye Yf Yg Yh Yi Yj Yk Yl Ym Yn Yo Yp Yq Yr Ys Yt Yu Yv Yw Yx Yy Yz Z0 Z1 Z2 Z3 Z4 Z5 Z6 Z7 Z8 Z9 Za Zb Zc Zd Ze Zf Zg Zh Zi Zj Zk Zl Zm Zn Zo Zp Zq Zr Zs Zt Zu Zv Zw Zx Zy Zz K0q K1q K2q K3q op7 k7 bX7 g7 l7 => by
          obtain ⟨h8, eA8, op8, l8, k8⟩ := app1n (v := (D ++ st3.bytes).length) op7 (by simp; omega)
          have pX7 : sid pv7 ≠ some X := fun x => (g7 X x).2 rfl
          have hXl7 := blk?_lt bX7
          have bX8 : blk? h8 X = some ⟨false, [pl, pv7, .slice da (D ++ st3.bytes).length dc]⟩ := by rw [k8 X hXl7 pX7]; exact bX7
          have hXl8 := blk?_lt bX8
          have keep9 : ∀ x : Option Blk, ∀ id, id < h6.length → id ≠ X → sid pv ≠ some id → blk? (h8.set X x) id = blk? h6 id := fun x id h1 h2 h3 => by
            rw [blk?_set_ne (Ne.symm h2), k8 id (by omega) (fun y => by rcases (g7 id y).1 with hy | hy; omega; exact h3 hy), k7 id h1 h2 h3]
          have hE2 : OI hB (h8.set X (some ⟨false, [pl, .slice (some ⟨h7.length + 1, 0, none⟩) ((P ++ (zs3.take (c - 1)).map (fun z => min (D.length + z) (D ++ st3.bytes).length)).length + 1) 1, .slice da (D ++ st3.bytes).length dc]⟩)) e X pl gv gs st3.after
              (.slice (some ⟨h7.length + 1, 0, none⟩) ((P ++ (zs3.take (c - 1)).map (fun z => min (D.length + z) (D ++ st3.bytes).length)).length + 1) 1) (.slice da (D ++ st3.bytes).length dc) ((P ++ (zs3.take (c - 1)).map (fun z => min (D.length + z) (D ++ st3.bytes).length)) ++ [(D ++ st3.bytes).length]) (D ++ st3.bytes) (N + totL ((ls.drop n).take c)) := by
            refine ⟨⟨pb4, o4, out4, low4, hA4.keep fun id hid => ?_, hout4, fun id hid => ?_⟩, h194, blk?_set_eq hXl8, ?_, ?_, ?_, fun id hid => ⟨(I.gB id hid).1, by rw [List.length_set]; have := (I.gB id hid).2; omega⟩, I.xB, fun id hid => ?_, fun id hid => ?_, fun id hid => ?_, by rw [List.length_set]; omega⟩
            · obtain ⟨q1, q2, q3, q4, q5, q6⟩ := nd id hid
              rw [keep9 _ id (by omega) q3 q4, k46 id q1 q3 q5]
            · obtain ⟨q1, q2, q3, q4, q5, q6⟩ := nd id hid
              refine ⟨q2, q3, by simp [sid]; omega, fun x => by have := g5 id x; omega, q6⟩
            · exact op8.of_blk fun id hid hb => by simp [sid] at hid; rw [blk?_set_ne (by omega)]; exact hb
            · exact od6.of_blk fun id hid hb => by
                have hx := g5 id hid
                rw [keep9 _ id (blk?_lt hb) (by omega) (fun y => by have := I.op.lt y; omega)]; exact hb
            · exact gs6.of_sid fun id b hid hb => by
                rw [keep9 _ id (blk?_lt hb) (I.gB id hid).1 (fun y => (I.pB id y).2.2.2 hid)]; exact hb
            · simp [sid] at hid
              subst hid
              exact ⟨by omega, by omega, fun x => by have := g5 _ x; omega, fun x => by have := (I.gB _ x).2; omega⟩
            · have hx := g5 id hid
              exact ⟨by omega, by omega, fun x => by have := (I.gB _ x).2; omega⟩
            · rw [keep9 _ id (by omega) (by have := I.xB; omega) (fun y => by have := (I.pB id y).1; omega), k46 id (by omega) (by have := I.xB; omega) (fun y => by have := (I.dB id y).1; omega), oL id hid]
          have ih' := fun K0 K1 K2 K3 K4 K5 K6 K7 K8 Kb Kd Kh Ki Kj Kk Kl Km Kn Ko Kp Kq Kr Ks Kt Ku Kv Kw Kx Ky Kz J0 J1 J2 J3 J4 J5 J6 J7 J8 J9 Ja Jb Jc Jd Je Jf Jg Jk Jl Jm Jn Jo Jp Jq Jr Js Jt Ju Jv Jw Jx Jy Jz Y0 Y1 Y2 Y3 Y4 Y5 Y6 Y7 Y8 Y9 Ya Yb Yc Yd Ye Yf Yg Yh Yi Yj Yk Yl Ym Yn Yo Yp Yq Yr Ys Yt Yu Yv Yw Yx Yy Yz Z0 Z1 Z2 Z3 Z4 Z5 Z6 Z7 Z8 Z9 Za Zb Zc Zd Ze Zf Zg Zh Zi Zj Zk Zl Zm Zn Zo Zp Zq Zr Zs Zt Zu Zv Zw Zx Zy Zz K0q K1q K2q K3q => ih (gi + 1) (n + c) _ st3.after _ _ _ _ _ K0 K1 K2 K3 K4 K5 K6 K7 K8 Kb Kd Kh Ki Kj Kk Kl Km Kn Ko Kp Kq Kr Ks Kt Ku Kv Kw Kx Ky Kz J0 J1 J2 J3 J4 J5 J6 J7 J8 J9 Ja Jb Jc Jd Je Jf Jg Jk Jl Jm Jn Jo Jp Jq Jr Js Jt Ju Jv Jw Jx Jy Jz Y0 Y1 Y2 Y3 Y4 Y5 Y6 Y7 Y8 Y9 Ya Yb Yc Yd Ye Yf Yg Yh Yi Yj Yk Yl Ym Yn Yo Yp Yq Yr Ys Yt Yu Yv Yw Yx Yy Yz Z0 Z1 Z2 Z3 Z4 Z5 Z6 Z7 Z8 Z9 Za Zb Zc Zd Ze Zf Zg Zh Zi Zj Zk Zl Zm Zn Zo Zp Zq Zr Zs Zt Zu Zv Zw Zx Zy Zz K0q K1q K2q K3q (by omega) hE2 (by omega) hc1 hso2 (by omega) (by simp only [List.length_append, List.length_map, List.length_cons, List.length_nil, hzl2]; omega) (by rw [← hDl]; omega) hE
          have wg : IntKind.i64.wrap ((gi : Int) + 1) = ((gi + 1 : Nat) : Int) := wrapN (n := gi + 1) (by omega)
          generalize ((gi + 1 : Nat) : Int) = gi1 at *
          generalize ((n + c : Nat) : Int) = nc at *
          generalize hDD : (D ++ st3.bytes).length = DD at *
          generalize hPP : (P ++ (zs3.take (c - 1)).map (fun z => min (D.length + z) DD)) = PP at *
          simp only [tlC, inB, nthC, fstC, L52_3b]
          simp [repL, bX7, eA8, bX8, wg]
          exact ih' _ _ _ _ _ _ _ _ _ _ _ _ _ _ _ _ _ _ _ _ _ _ _ _ _ _ _ _ _ _ _ _ _ _ _ _ _ _ _ _ _ _ _ _ _ _ _ _ _ _ _ _ _ _ _ _ _ _ _ _ _ _ _ _ _ _ _ _ _ _ _ _ _ _ _ _ _ _ _ _ _ _ _ _ _ _ _ _ _ _ _ _ _ _ _ _ _ _ _ _ _ _ _ _ _ _ _ _ _ _ _ _ _ _ _ _ _ _ _ _ _ _ _ _ _ _ _ _ _ _ _ _ _ _ _ _ _ _ _) (zs3.take (c - 1)).length 0 h6 pv P K0 K1 K2 K3 K4 K5 K6 K7 K8 Kb Kd Kh Ki Kj Kk Kl Km Ko Kp Kq Kr Ks Kt Ku Kv Kw Kx Ky Kz J0 J1 J2 J3 J4 J5 J6 J7 J8 J9 Ja Jb Jc Jd Je Jf Jg Jk Jl Jm Jn Jo Jp Jq Jr Js Jt Ju Jv Jw Jx Jy Jz Y0 Y1 Y2 Y3 Y4 Y5 Y6 Y7 Y8 Y9 Ya Yb Yc Yd Ye Yf Yg Yh Yi Yj Yk Yl Ym Yn Yo Yp Yq Yr Ys Yt Yu Yv Yw Yx Yy Yz Z0 Z1 Z2 Z3 Z4 Z5 Z9 Za Zb Zc Zd Ze Zf Zg Zh Zi Zj Zk Zl Zm Zn Zo Zp Zq Zr Zs Zt Zu Zv Zw Zx Zy Zz K0q K1q K2q K3q (by omega) op6 (by omega) (fun _ _ _ _ => rfl) bX6 (fun id hid => ⟨.inr hid, (I.pB id hid).2.1⟩) (Nat.le_refl _) (by rw [List.drop_zero])
      rw [hz2sh] at hSL ez2
      obtain ⟨dva, dvc, hdv⟩ := I.od.sl.shape
      have bX3 : blk? h3 X = some ⟨false, [pl, pv, dv]⟩ := by rw [← F4.same X (by omega) oX.2.1]; exact bX4
      simp only [Int.cast_ofNat_Int] at hSL
      generalize ((n + c : Nat) : Int) = nc at *
      rw [hdv] at bX3 bX4 bX5 eA5
      simp only [nthC, inB, tlC, fstC, L52_3b]
      simp only [nthC, inB, tlC, fstC, L52_3b] at hSL
      generalize hDD : (D ++ st3.bytes).length = DD at hh6 eA5 hSL
      generalize hZZ : (zs3.take (c - 1)).length = ZZ at ez2 hSL
      simp [book, bookU, logOf, addLog, chk1, lookL, reload, bX3, bX4, bX5, eE, eA5, hh6, wc, ez2]
      exact hSL _ _ _ _ _ _ _ _ _ _ _ _ _ _ _ _ _ _ _ _ _ _ _ _ _ _ _ _ _ _ _ _ _ _ _ _ _ _ _ _ _ _ _ _ _ _ _ _ _ _ _ _ _ _ _ _ _ _ _ _ _ _ _ _ _ _ _ _ _ _ _ _ _ _ _ _ _ _ _ _ _ _ _ _ _ _ _ _ _ _ _ _ _ _ _ _ _ _ _ _ _ _ _ _ _ _ _ _ _ _ _ _ _ _ _ _ _ _ _ _ _ _ _ _ _ _ _ _ _ _ _ _ _ _ _
    have hok : ∀ l ∈ (ls.drop (n + 0)).take c, ∀ s ∈ l, SymOk (if rawOf m n = true then some [] else none : Option (List Nat)) s := by
      intro l hl s hs
      obtain ⟨j, hj, rfl⟩ := List.getElem_of_mem hl
      have hjc : j < c := by simp at hj; omega
      have hnj : n + j < ls.length := by omega
      have e1 : ((ls.drop (n + 0)).take c)[j] = ls[n + j] := by simp
      rw [e1] at hs
      obtain ⟨q1, q2⟩ := hsym (n + j) hnj s hs
      refine ⟨q1, fun hx => q2 ?_⟩
      cases hrw : rawOf m n with
      | true => rw [hrw] at hx; simp at hx
      | false => exact hso1 hrw j hjc
    have hmid := fun K0 K1 K2 K3 K4 K5 K6 K7 K8 Kb Kd Kh Kl Km Kn Ko Kp Kq Kr Ks Kt Ku Kv Kw Kx Ky Kz J0 J1 J2 J3 J4 J5 J6 J7 J8 J9 Ja Jb Jc Jd Je Jf Jg Jk Jl Jm Jn Jo Jp Jq Jr Js Jt Ju Jv Jy Jz Y0 Y1 Y2 Y3 Y4 Y5 Y6 Y7 Y8 Y9 Ya Yb Yc Yd Ye Yf Yg Yh Yi Yj Yk Yl Ym Yn Yo Yp Yq Yr Ys Yt Yu Yv Yw Yx Yy Yz Z0 Z1 Z2 Z3 Z4 Z5 Z6 Z7 Z8 Z9 Za Zb Zc Zd Ze Zf Zg Zh Zi Zj Zk Zl Zm Zn Zo Zp Zq Zr Zs Zt Zu Zv Zw Zx Zy Zz K0q K1q K2q K3q => mid_loop (R := R) (k := .code (tlC 5 (inB (nthC 1 L52_3b))) :: .inBlock 1 :: .code (tlC 2 L52_3b) :: .inLoop L52_3 :: .inBlock 0 :: k) (e := e) (M := M) (X0 := X0) (X := X) (cnt := c) (gn := gs.length) (gi := gi) (n0 := n) (sv := sv) (gv := gv) (v := v) (m := m) (h0 := h2) (own0 := own) (stF := st3) (zsF := zs3) (NF := N + totL ((ls.drop n).take c)) (by omega) hp2
      (fun id hid x => by have := ownB id x; have := ltB hp.sb hp.sl hid; omega) (fun i h1 id hid x => by have := ownB id x; have hx := hp.each i h1 (by rw [← hp.len]; exact h1); have := ltB hx.sb hx.sl hid; omega) hm2 (fun x => by have := ownB M x; omega) (by omega) hls
      behind c 0 h2 own ⟨a, if rawOf m n = true then some [] else none⟩ (.slice none 0 0) [] N K0 K1 K2 K3 K4 K5 K6 K7 K8 Kb Kd Kh Kl Km Kn Ko Kp Kq Kr Ks Kt Ku Kv Kw Kx Ky Kz J0 J1 J2 J3 J4 J5 J6 J7 J8 J9 Ja Jb Jc Jd Je Jf Jg Jk Jl Jm Jn Jo Jp Jq Jr Js Jt Ju Jv Jy Jz Y0 Y1 Y2 Y3 Y4 Y5 Y6 Y7 Y8 Y9 Ya Yb Yc Yd Ye Yf Yg Yh Yi Yj Yk Yl Ym Yn Yo Yp Yq Yr Ys Yt Yu Yv Yw Yx Yy Yz Z0 Z1 Z2 Z3 Z4 Z5 Z6 Z7 Z8 Z9 Za Zb Zc Zd Ze Zf Zg Zh Zi Zj Zk Zl Zm Zn Zo Zp Zq Zr Zs Zt Zu Zv Zw Zx Zy Zz K0q K1q K2q K3q (by omega) hK (by rw [Nat.add_zero]) hok (OwnS.nil _ _) (by simp) (by simp) (fun id _ => by simp [sid]) ⟨Nat.le_refl _, fun _ _ _ => rfl, fun id hid => by rcases hid with hx | hx; exact .inl hx; simp [sid] at hx⟩ (by rw [Nat.add_zero, hr]) (by rw [Nat.add_zero, hr]; rfl)
    clear behind ih
    simp only [Int.natCast_add, Int.cast_ofNat_Int, Int.add_zero] at hmid
    have hrc := fun H R => raw_c (h := H) (R := R) (n := n) (by omega) m
    simp only [MD.val] at hrc
    subst hgv
    simp only [nthC, inB, tlC, fstC, L52_3b] at hmid
    cases hrw : rawOf m n with
    | false =>
      obtain ⟨rfl, rfl⟩ := hv.1 hrw
      rw [hrw] at hrc
      rw [ok_round, l52_3, L52_3a, L52_3b]
      simp [hgi, hgb, hgc', hmh, hrc]
      exact hmid _ _ _ _ _ _ _ _ _ _ _ _ _ _ _ _ _ _ _ _ _ _ _ _ _ _ _ _ _ _ _ _ _ _ _ _ _ _ _ _ _ _ _ _ _ _ _ _ _ _ _ _ _ _ _ _ _ _ _ _ _ _ _ _ _ _ _ _ _ _ _ _ _ _ _ _ _ _ _ _ _ _ _ _ _ _ _ _ _ _ _ _ _ _ _ _ _ _ _ _ _ _ _ _ _ _ _ _ _ _ _ _ _ _ _ _ _ _ _ _ _ _ _ _ _ _ _ _ _ _ _ _ _ _
    | true =>
      obtain ⟨rfl, eN⟩ := hv.2 hrw
      rw [hrw] at hrc
      rw [ok_round, l52_3, L52_3a, L52_3b]
      simp [hgi, hgb, hgc', hmh, hrc, eN]
      exact hmid _ _ _ _ _ _ _ _ _ _ _ _ _ _ _ _ _ _ _ _ _ _ _ _ _ _ _ _ _ _ _ _ _ _ _ _ _ _ _ _ _ _ _ _ _ _ _ _ _ _ _ _ _ _ _ _ _ _ _ _ _ _ _ _ _ _ _ _ _ _ _ _ _ _ _ _ _ _ _ _ _ _ _ _ _ _ _ _ _ _ _ _ _ _ _ _ _ _ _ _ _ _ _ _ _ _ _ _ _ _ _ _ _ _ _ _ _ _ _ _ _ _ _ _ _ _ _ _ _ _ _ _ _ _
end
/-! The shape of passes. -/
def SymK (rw : Bool) (p : Int × Nat) : Prop := p.2 ≤ 1 ∧ -1 ≤ p.1 ∧ p.1 ≤ 18 ∧ (p.1 = -1 ↔ rw = true)
def OutOk (P : PP) (σ : ES) : Prop := ∀ p ∈ σ.out, SymK P.rw p
theorem ok_emit {P : PP} {σ : ES} (h : OutOk P σ) {c : Int} {n : Nat} (h0 : 0 ≤ c) (h1 : c ≤ 18) (hn : n ≤ 1) : OutOk P (σ.emit P c n) := by
  intro p hp
  simp only [ES.emit, List.mem_append, List.mem_singleton] at hp
  rcases hp with hp | rfl
  · exact h p hp
  · unfold SymK
    cases P.rw <;> simp <;> omega
theorem ok_map {P : PP} {σ : ES} (h : OutOk P σ) (x y : Int) (f : Cell → Cell) : OutOk P (σ.map x y f) := h
theorem strt_le (p s d : Nat) (hs : s ≤ 2) : strt p s d ≤ 8 := by unfold strt; (repeat' split) <;> omega
theorem diag_le (n d : Nat) : diag n d ≤ 8 := by unfold diag; (repeat' split) <;> omega
theorem sigCtx_le {o h v d : Nat} (hh : h ≤ 2) (hv : v ≤ 2) : sigCtx o h v d ≤ 8 := by
  unfold sigCtx
  split
  · exact diag_le _ _
  · split
    · exact strt_le _ _ _ hh
    · exact strt_le _ _ _ hv
theorem ctxOf_le (P : PP) (b : BS) (x y : Int) : ctxOf P b x y ≤ 8 := by
  obtain ⟨h1, h2, _⟩ := nb_le b x y P.cz
  exact sigCtx_le h1 h2
theorem joint_rng (s t : Int) : joint s t = -1 ∨ joint s t = 0 ∨ joint s t = 1 := by unfold joint; omega
theorem signCtx_rng {h v : Int} (hh : h = -1 ∨ h = 0 ∨ h = 1) (hv : v = -1 ∨ v = 0 ∨ v = 1) : 9 ≤ signCtx h v ∧ signCtx h v ≤ 13 := by
  rcases hh with rfl | rfl | rfl <;> rcases hv with rfl | rfl | rfl <;> decide
theorem refCtx_rng (a b : Bool) : 14 ≤ refCtx a b ∧ refCtx a b ≤ 16 := by cases a <;> cases b <;> decide
theorem bitOf_le (v : Int) (s : Nat) : bitOf v s ≤ 1 := by unfold bitOf; omega
theorem ok_sign {P : PP} {σ : ES} (h : OutOk P σ) (x y : Int) : OutOk P (σ.sign P x y) := by
  have := signCtx_rng (joint_rng (sgn σ.b (x - 1) y) (sgn σ.b (x + 1) y)) (joint_rng (sgn σ.b x (y - 1)) (if (!P.cz || y % 4 != 3) = true then sgn σ.b x (y + 1) else 0))
  change 9 ≤ signCtx (sgH σ.b x y) (sgV σ.b x y P.cz) ∧ signCtx (sgH σ.b x y) (sgV σ.b x y P.cz) ≤ 13 at this
  exact ok_map (ok_emit h (by omega) (by omega) (by unfold signBit; omega)) x y mark
theorem ok_code {P : PP} {σ : ES} (h : OutOk P σ) (x y : Int) : OutOk P (σ.code P x y) := by
  have h1 := ok_emit (n := bitOf (σ.b.get x y).v P.s) (c := ctxOf P σ.b x y) h (by omega) (by have := ctxOf_le P σ.b x y; omega) (bitOf_le _ _)
  unfold ES.code
  split
  · exact ok_sign h1 x y
  · exact h1
theorem ok_sig1 {P : PP} {σ : ES} (h : OutOk P σ) (x y : Int) : OutOk P (σ.sig1 P x y) := by
  unfold ES.sig1
  split
  · exact ok_map (ok_code h x y) x y _
  · exact h
theorem ok_ref1 {P : PP} {σ : ES} (h : OutOk P σ) (x y : Int) : OutOk P (σ.ref1 P x y) := by
  unfold ES.ref1
  split
  · exact h
  · have := refCtx_rng (!(σ.b.get x y).r) (near σ.b x y P.cz)
    exact ok_map (ok_map (ok_emit h (by omega) (by omega) (bitOf_le _ _)) x y _) x y _
theorem ok_cln1 {P : PP} {σ : ES} (h : OutOk P σ) (x y : Int) : OutOk P (σ.cln1 P x y) := by
  unfold ES.cln1
  split
  · exact ok_code h x y
  · exact h
theorem ok_run {P : PP} {σ : ES} (h : OutOk P σ) (x top : Int) : OutOk P (σ.run P x top).1 := by
  unfold ES.run
  split
  · rename_i k hk
    have hlt := firstBit_lt hk
    exact ok_sign (ok_emit (ok_emit (ok_emit h (by omega) (by omega) (by omega)) (by omega) (by omega) (by omega)) (by omega) (by omega) (by omega)) x _
  · exact ok_emit h (by omega) (by omega) (by omega)
theorem ok_rows {P : PP} : ∀ (n : Nat) {σ : ES} (x y : Int), OutOk P σ → OutOk P (σ.rows P x y n)
  | 0, _, _, _, h => h
  | n + 1, _, x, y, h => ok_rows n x (y + 1) (ok_cln1 h x y)
theorem ok_col {P : PP} {σ : ES} (h : OutOk P σ) (x top : Int) : OutOk P (σ.col P x top) := by
  unfold ES.col
  split
  · exact ok_rows _ x _ (ok_run h x top)
  · exact ok_rows _ x _ h
theorem ok_cols {P : PP} : ∀ (n : Nat) {σ : ES} (x top : Int), OutOk P σ → OutOk P (σ.cols P x top n)
  | 0, _, _, _, h => h
  | n + 1, _, x, top, h => ok_cols n (x + 1) top (ok_col h x top)
theorem ok_stripes {P : PP} : ∀ (n : Nat) {σ : ES} (top : Int), OutOk P σ → OutOk P (σ.stripes P top n)
  | 0, _, _, h => h
  | n + 1, _, top, h => ok_stripes n (top + 4) (ok_cols _ 0 top h)
theorem ok_fold {P : PP} {f : ES → Int × Int → ES} (hf : ∀ (σ : ES) (p : Int × Int), OutOk P σ → OutOk P (f σ p)) : ∀ (l : List (Int × Int)) {σ : ES}, OutOk P σ → OutOk P (l.foldl f σ)
  | [], _, h => h
  | p :: l, _, h => ok_fold hf l (hf _ p h)
theorem ok_check {P : PP} {σ : ES} (h : OutOk P σ) (on : Bool) : OutOk P (σ.check P on) := by
  unfold ES.check
  split
  · exact ok_emit (ok_emit (ok_emit (ok_emit h (by omega) (by omega) (by omega)) (by omega) (by omega) (by omega)) (by omega) (by omega) (by omega)) (by omega) (by omega) (by omega)
  · exact h
theorem ok_runSt (m : MD) (b : BS) (n planes o : Nat) : ∀ p ∈ (runSt m b n planes o).out, SymK (rawOf m n) p := by
  have h0 : OutOk (runPP m n planes o) ⟨b, []⟩ := fun p hp => by simp at hp
  unfold runSt
  split
  · exact ok_fold (fun σ p h => ok_sig1 h p.1 p.2) _ h0
  · split
    · exact ok_fold (fun σ p h => ok_ref1 h p.1 p.2) _ h0
    · exact ok_check (ok_fold (fun σ p h => ok_map h p.1 p.2 _) _ (ok_stripes _ 0 h0)) m.sy
theorem passesOf_get (m : MD) (planes o : Nat) : ∀ (n k : Nat) (b : BS) (i : Nat) (h : i < (passesOf m planes o n k b).length), ∃ b', (passesOf m planes o n k b)[i] = (runSt m b' (k + i) planes o).out
  | 0, k, b, i, h => by simp [passesOf] at h
  | n + 1, k, b, 0, h => ⟨b, rfl⟩
  | n + 1, k, b, i + 1, h => by
    obtain ⟨b', hb⟩ := passesOf_get m planes o n (k + 1) (runSt m b k planes o).b i (by simpa [passesOf] using h)
    refine ⟨b', ?_⟩
    rw [show k + (i + 1) = k + 1 + i by omega, ← hb]
    rfl

theorem stripePts_len' {h : Nat} (top : Int) : ∀ (n : Nat) (x : Int), (stripePts h x top n).length = n * (min (top + 4) (h : Int) - top).toNat
  | 0, x => by simp [stripePts]
  | n + 1, x => by
    rw [stripePts, List.length_append, colPts_len, stripePts_len' top n, Nat.add_mul]; omega
theorem scanPts_len' {w h : Nat} : ∀ (n : Nat) (top : Int), 0 ≤ top → (h : Int) ≤ top + 4 * n → (scanPts w h top n).length = w * (h - top).toNat
  | 0, top, h0, h1 => by
    rw [show ((h : Int) - top).toNat = 0 by omega]; simp [scanPts]
  | n + 1, top, h0, h1 => by
    rw [scanPts, List.length_append, stripePts_len', scanPts_len' n (top + 4) (by omega) (by omega), ← Nat.mul_add]
    congr 1; omega
theorem scan_len' (w h : Nat) : (scan w h).length = w * h := by
  have := scanPts_len' (w := w) (h := h) (stripesOf h) 0 (by omega) (by unfold stripesOf; omega)
  simpa [scan] using this
theorem out_le {m : MD} {b : BS} (hg : b.Good) {k planes o : Nat} : (ES.mk b []).Le (runSt m b k planes o) (12 * (b.w * b.h) + 4) := by
  have hsl := scan_len' b.w b.h
  have h1 := hg.ok.h1
  have hst : b.w * stripesOf b.h ≤ b.w * b.h := Nat.mul_le_mul (Nat.le_refl _) (by unfold stripesOf; omega)
  unfold runSt
  split
  · exact (le_sigs (σ := ⟨b, []⟩) hg (scanIn b)).mono (by omega)
  · split
    · exact (le_refs (σ := ⟨b, []⟩) hg (scanIn b)).mono (by omega)
    · have h1 := le_stripes (P := runPP m k planes o) (σ := ⟨b, []⟩) (n := stripesOf b.h) hg (top := 0) (by omega) (by show (0 : Int) + 4 * (stripesOf b.h : Nat) ≤ b.h + 3; unfold stripesOf; omega)
      have hall : AllIn (ES.stripes (runPP m k planes o) ⟨b, []⟩ 0 (stripesOf b.h)).b (scan b.w b.h) := by have := scanIn (ES.stripes (runPP m k planes o) ⟨b, []⟩ 0 (stripesOf b.h)).b; rwa [h1.w, h1.h] at this
      have h2 := le_clear h1.good hall
      have h3 := h1.trans h2
      have h4 : ∀ τ : ES, τ.b.Good → τ.Le (τ.check (runPP m k planes o) m.sy) 4 := by
        intro τ hτ
        unfold ES.check
        split
        · exact ⟨rfl, rfl, hτ, by simp [ES.emit], fun _ _ => rfl⟩
        · exact ES.Le.refl hτ 4
      exact (h3.trans (h4 _ h3.good)).mono (by show 12 * b.w * stripesOf b.h + 0 + 4 ≤ _; rw [Nat.mul_assoc]; omega)
theorem passesOf_tot {m : MD} {planes o : Nat} : ∀ (n k : Nat) (b : BS), b.Good → totL (passesOf m planes o n k b) ≤ n * (12 * (b.w * b.h) + 4)
  | 0, _, _, _ => by simp [passesOf, totL]
  | n + 1, k, b, hg => by
    have h1 := out_le (m := m) hg (k := k) (planes := planes) (o := o)
    have h2 := passesOf_tot (m := m) (planes := planes) (o := o) n (k + 1) _ h1.good
    have h3 := h1.len
    rw [h1.w, h1.h] at h2
    rw [passesOf, totL, Nat.add_mul]
    simp at h2 h3 ⊢
    omega
theorem symRes_facts {xs : List Int} {w hh o : Int} {m : MD} (h0 : (symRes xs w hh o m).1 = 0) : ∃ (w' h' o' : Nat), planesOf xs ≤ 60 ∧ w' * h' = xs.length ∧ (fillTo w' h' xs xs.length).Good ∧
    (symRes xs w hh o m).2 = passesOf m (planesOf xs) o' (3 * planesOf xs - 2) 0 (fillTo w' h' xs xs.length) := by
  unfold symRes at h0 ⊢
  split at h0
  · simp at h0
  · rename_i hsz
    split at h0
    · simp at h0
    · rename_i hln
      split at h0
      · simp at h0
      · rename_i ho
        split at h0
        · rename_i hb
          have hp := inR_planes.1 hb
          rw [if_neg hsz, if_neg hln, if_neg ho, if_pos hb]
          simp only [Bool.not_eq_false, sized, decide_eq_true_eq] at hsz
          obtain ⟨w, rfl⟩ := Int.eq_ofNat_of_zero_le (show 0 ≤ w by omega)
          obtain ⟨hh, rfl⟩ := Int.eq_ofNat_of_zero_le (show 0 ≤ hh by omega)
          simp only [ne_eq, Decidable.not_not] at hln
          rw [← Int.natCast_mul] at hln
          have hl : xs.length = w * hh := by omega
          exact ⟨w, hh, o.toNat, hp, hl.symm, fillTo_good (newBS_good (by omega) (by omega) (by omega) (by omega)) hl _ (Nat.le_refl _) (by rw [List.take_of_length_le (Nat.le_refl _)]; exact hb), rfl⟩
        · simp at h0
theorem symRes_len {xs : List Int} {w hh o : Int} {m : MD} (h0 : (symRes xs w hh o m).1 = 0) : planesOf xs ≤ 60 ∧ (symRes xs w hh o m).2.length = 3 * planesOf xs - 2 := by
  obtain ⟨w', h', o', hp, _, _, he⟩ := symRes_facts h0
  rw [he, passesOf_len]; exact ⟨hp, rfl⟩
theorem symRes_tot {xs : List Int} {w hh o : Int} {m : MD} (hx : xs.length ≤ 400) : totL (symRes xs w hh o m).2 ≤ 900000 := by
  by_cases h0 : (symRes xs w hh o m).1 = 0
  · obtain ⟨w', h', o', hp, hl, hg, he⟩ := symRes_facts h0
    have h1 := passesOf_tot (m := m) (planes := planesOf xs) (o := o') (3 * planesOf xs - 2) 0 _ hg
    rw [he]
    have h2 : (3 * planesOf xs - 2) * (12 * (w' * h') + 4) ≤ 178 * (12 * 400 + 4) := Nat.mul_le_mul (by omega) (by omega)
    have h3 : (fillTo w' h' xs xs.length).w * (fillTo w' h' xs xs.length).h = w' * h' := rfl
    rw [h3] at h1
    omega
  · have : (symRes xs w hh o m).2 = [] := by
      unfold symRes at h0 ⊢
      repeat' split
      all_goals simp_all
    rw [this]; simp [totL]
theorem symRes_sym {xs : List Int} {w hh o : Int} {m : MD} (h0 : (symRes xs w hh o m).1 = 0) : ∀ i (h1 : i < (symRes xs w hh o m).2.length), ∀ s ∈ (symRes xs w hh o m).2[i], s.2 < 2 ∧ (rawOf m i = false → 0 ≤ s.1 ∧ s.1 < 19) := by
  obtain ⟨w', h', o', hp, hl, hg, he⟩ := symRes_facts h0
  rw [he]
  intro i h1 s hs
  obtain ⟨b', hb⟩ := passesOf_get m (planesOf xs) o' (3 * planesOf xs - 2) 0 _ i h1
  rw [hb, Nat.zero_add] at hs
  obtain ⟨q1, q2, q3, q4⟩ := ok_runSt m b' i (planesOf xs) o' s hs
  refine ⟨by omega, fun hr => ?_⟩
  rw [hr] at q4
  have : ¬ s.1 = -1 := fun x => by have := q4.1 x; simp at this
  omega

/-! The segments: no raw pass in a coded segment. -/
theorem segOk_plain {m : MD} (hb : m.byp = false) : ∀ (l : List Nat) (n : Nat), SegOk m n l
  | [], _ => trivial
  | c :: cs, n => ⟨fun _ j _ => by simp [rawOf, hb], segOk_plain hb cs (n + c)⟩
theorem segOk_ones {m : MD} : ∀ (l : List Nat) (n : Nat), (∀ c ∈ l, c ≤ 1) → SegOk m n l
  | [], _, _ => trivial
  | c :: cs, n, h => ⟨fun h0 j hj => by
      have := h c (List.mem_cons_self ..)
      have : j = 0 := by omega
      subst this; exact h0, segOk_ones cs (n + c) fun x hx => h x (List.mem_cons_of_mem _ hx)⟩
theorem sgGo_ones {m : MD} (hr : m.res = true) : ∀ (f left : Nat), ∀ c ∈ sgGo m f 1 left, c ≤ 1
  | 0, _, c, hc => by simp [sgGo] at hc
  | f + 1, left, c, hc => by
    unfold sgGo at hc
    split at hc
    · simp at hc
    · rcases List.mem_cons.1 hc with rfl | hc
      · omega
      · have : sgNext m 1 = 1 := by unfold sgNext; rw [if_neg (by simp [hr])]
        rw [this] at hc
        exact sgGo_ones hr f _ c hc
theorem segOk_byp {m : MD} (hb : m.byp = true) (hr : m.res = false) : ∀ (f sz left n : Nat), (sz = 10 ∧ n = 0) ∨ (sz = 2 ∧ n % 3 = 1 ∧ 10 ≤ n) ∨ (sz = 1 ∧ n % 3 = 0 ∧ 12 ≤ n) → SegOk m n (sgGo m f sz left)
  | 0, _, _, _, _ => trivial
  | f + 1, sz, left, n, h => by
    have hnx : sgNext m sz = if sz = 2 then 1 else 2 := by unfold sgNext; rw [if_pos ⟨hb, hr⟩]
    unfold sgGo
    by_cases h0 : left = 0
    · rw [if_pos h0]; trivial
    · rw [if_neg h0]
      refine ⟨fun h1 j hj => ?_, ?_⟩
      · rcases h with ⟨rfl, rfl⟩ | ⟨rfl, h2, h3⟩ | ⟨rfl, h2, h3⟩
        · have : j < 10 := by omega
          have : planeOf (0 + j) < 4 := by unfold planeOf; split <;> omega
          simp only [rawOf, Bool.and_eq_false_iff, decide_eq_false_iff_not]
          left; right; omega
        · have e1 : planeOf n = (n - 1) / 3 + 1 := by unfold planeOf; rw [if_neg (by omega)]
          have e2 : kindOf n = (n - 1) % 3 := by unfold kindOf; rw [if_neg (by omega)]
          have : rawOf m n = true := by
            simp only [rawOf, hb, Bool.true_and, Bool.and_eq_true, decide_eq_true_eq, e1, e2]
            omega
          rw [this] at h1; simp at h1
        · have : j = 0 := by omega
          subst this; exact h1
      · by_cases hlt : left < sz
        · have e : left - min sz left = 0 := by omega
          rw [e]
          cases f with
          | zero => trivial
          | succ f => unfold sgGo; rw [if_pos rfl]; trivial
        · have e : min sz left = sz := by omega
          rw [e]
          refine segOk_byp hb hr f _ _ _ ?_
          rw [hnx]
          rcases h with ⟨rfl, rfl⟩ | ⟨rfl, h2, h3⟩ | ⟨rfl, h2, h3⟩
          · right; left; simp
          · right; right; simp; omega
          · right; left; simp; omega
theorem segOk_all (m : MD) (n : Nat) : SegOk m 0 (segsOf m n) := by
  unfold segsOf
  split
  · trivial
  · cases hb : m.byp with
    | false => exact segOk_plain hb _ _
    | true =>
      cases hr : m.res with
      | true =>
        have : sgFirst m n = 1 := by unfold sgFirst; rw [if_pos hr]
        rw [this]
        exact segOk_ones _ _ (sgGo_ones hr _ _)
      | false =>
        have : sgFirst m n = 10 := by unfold sgFirst; rw [if_neg (by simp [hr]), if_pos hb]
        rw [this]
        exact segOk_byp hb hr _ _ _ _ (.inl ⟨rfl, rfl⟩)

/-- A coded block: its planes, the ends of its passes, its bytes. -/
structure Cd where
  pl : Nat
  ps : List Nat
  ds : List Nat
/-- What Encode answers: the error, the block. -/
def encRes (xs : List Int) (w h o : Int) (m : MD) : Int × Cd :=
  let r := symRes xs w h o m
  if r.1 ≠ 0 then (r.1, ⟨0, [], []⟩)
  else
    let q := encSegs m r.2 (segsOf m r.2.length) 0 (AE.begin (AE.base 19)) [] []
    if 65535 < q.2.length then (5, ⟨0, [], []⟩) else (0, ⟨planesOf xs, q.1, q.2⟩)
set_option maxRecDepth 10000

/-- A coded block as a value: its lists lie at and behind B. -/
structure CdV (B : Nat) (h : Heap) (v : Value) (r : Cd) : Prop where
  ex : ∃ pv dv, v = .agg #[.int .i64 (r.pl : Nat), pv, dv] ∧ OwnS h 1 pv r.ps.length (nI r.ps) ∧ OwnS h 1 dv r.ds.length (nU r.ds) ∧ (∀ id, sid pv = some id → B ≤ id ∧ sid dv ≠ some id) ∧ (∀ id, sid dv = some id → B ≤ id)
theorem CdV.none (B : Nat) (h : Heap) : CdV B h (.agg #[.int .i64 0, .slice none 0 0, .slice none 0 0]) ⟨0, [], []⟩ :=
  ⟨⟨_, _, rfl, OwnS.nil _ _, OwnS.nil _ _, fun id hid => by simp [sid] at hid, fun id hid => by simp [sid] at hid⟩⟩

section
variable {h : Heap} {R : Value → Heap → Prop} {k : List RItem}

set_option maxHeartbeats 4000000 in
theorem encode_c {s : Value} {xs : List Int} (hi : Ints h s xs) (hl : xs.length < 9000000000) (w hh o : Int) (m : MD) (hN : totL (symRes xs w hh o m).2 ≤ 900000) :
    ∃ v h', (∀ R, Ret tab 52 [s, .int .i64 w, .int .i64 hh, .int .i64 o, m.val] h R = R (.tuple #[v, .int .i64 (encRes xs w hh o m).1]) h') ∧ CdV h.length h' v (encRes xs w hh o m).2 ∧ (∀ id, id < h.length → blk? h' id = blk? h id) ∧ h.length ≤ h'.length := by
  have key : Ret tab 52 [s, .int .i64 w, .int .i64 hh, .int .i64 o, m.val] h fun v h' => ∃ c, v = .tuple #[c, .int .i64 (encRes xs w hh o m).1] ∧ CdV h.length h' c (encRes xs w hh o m).2 ∧ (∀ id, id < h.length → blk? h' id = blk? h id) ∧ h.length ≤ h'.length := by
    have main : ∀ R0 : Value → Heap → Prop, (∀ c h', CdV h.length h' c (encRes xs w hh o m).2 → (∀ id, id < h.length → blk? h' id = blk? h id) → h.length ≤ h'.length → R0 (.tuple #[c, .int .i64 (encRes xs w hh o m).1]) h') →
        Ret tab 52 [s, .int .i64 w, .int .i64 hh, .int .i64 o, m.val] h R0 := by
      intro R0 hR
      generalize hH1 : h ++ [some (⟨false, [.bool m.byp, .bool m.res, .bool m.rst, .bool m.cz, .bool m.sy]⟩ : Blk), some ⟨false, [.int .i64 0, .slice none 0 0, .slice none 0 0]⟩] = H1
      have l1 : H1.length = h.length + 2 := by rw [← hH1]; simp
      have k1 : ∀ id, id < h.length → blk? H1 id = blk? h id := fun id hid => by rw [← hH1]; exact app_lt hid
      have bM1 : blk? H1 h.length = some ⟨false, [.bool m.byp, .bool m.res, .bool m.rst, .bool m.cz, .bool m.sy]⟩ := by rw [← hH1, app_len]; rfl
      have bX1 : blk? H1 (h.length + 1) = some ⟨false, [.int .i64 0, .slice none 0 0, .slice none 0 0]⟩ := by rw [← hH1, app_add]; rfl
      have hi1 : Ints H1 s xs := hi.keep (by omega) (fun id hid _ => k1 id hid)
      obtain ⟨sv, H2, e1, o1⟩ := symbols_c hi1 hl w hh o m
      have len2 := o1.len
      obtain ⟨vs, hp⟩ := o1.pss
      have bM2 : blk? H2 h.length = some ⟨false, [.bool m.byp, .bool m.res, .bool m.rst, .bool m.cz, .bool m.sy]⟩ := by rw [o1.low _ (by omega)]; exact bM1
      have bX2 : blk? H2 (h.length + 1) = some ⟨false, [.int .i64 0, .slice none 0 0, .slice none 0 0]⟩ := by rw [o1.low _ (by omega)]; exact bX1
      have k2 : ∀ id, id < h.length → blk? H2 id = blk? h id := fun id hid => by rw [o1.low _ (by omega), k1 id hid]
      simp only [MD.val] at e1
      rw [enter52, show B52 = .seq (nthC 0 B52) (.seq (nthC 1 B52) (.seq (nthC 2 B52) (tlC 3 B52))) from rfl]
      generalize hT : tlC 3 B52 = tl
      simp only [nthC, tlC, fstC, B52]
      by_cases h0 : (symRes xs w hh o m).1 = 0
      case neg =>
        have hne : ((symRes xs w hh o m).1 != 0) = true := by simpa using h0
        have hr : encRes xs w hh o m = ((symRes xs w hh o m).1, ⟨0, [], []⟩) := by unfold encRes; simp only [ne_eq, h0, not_false_eq_true, if_true]
        rw [hr] at hR
        simp [MD.val, hH1, bM1, e1, hne, bX2, blk?_set_eq (blk?_lt bX2), finishV, R52, allSome, resV]
        refine hR _ _ (CdV.none _ _) (fun id hid => ?_) (by simp; omega)
        rw [blk?_set_ne (by omega), k2 id hid]
      have hne : ((symRes xs w hh o m).1 != 0) = false := by simpa using h0
      obtain ⟨hp60, hlen⟩ := symRes_len h0
      have hsym := symRes_sym h0
      have hr0 : encRes xs w hh o m = if 65535 < (encSegs m (symRes xs w hh o m).2 (segsOf m (symRes xs w hh o m).2.length) 0 (AE.begin (AE.base 19)) [] []).2.length then (5, ⟨0, [], []⟩) else (0, ⟨planesOf xs, (encSegs m (symRes xs w hh o m).2 (segsOf m (symRes xs w hh o m).2.length) 0 (AE.begin (AE.base 19)) [] []).1, (encSegs m (symRes xs w hh o m).2 (segsOf m (symRes xs w hh o m).2.length) 0 (AE.begin (AE.base 19)) [] []).2⟩) := by
        unfold encRes; simp only [ne_eq, h0, not_true_eq_false, if_false]
      rw [hr0] at hR
      generalize hls : (symRes xs w hh o m).2 = ls at *
      generalize hq : encSegs m ls (segsOf m ls.length) 0 (AE.begin (AE.base 19)) [] [] = q at *
      obtain ⟨PF, DF⟩ := q
      simp only at hR
      simp [MD.val, hH1, bM1, e1, hne]
      rw [← hT]
      clear hT e1
      -- the encoder
      obtain ⟨H3, e, pb, e2, hA, he, hpb, len3, k3⟩ := newEnc_c (h := H2) (n := 19) (by omega) (by omega)
      have hi3 : Ints H3 s xs := hi1.keep (by omega) (fun id hid _ => by rw [k3 id (by omega), o1.low id hid])
      have e3 := fun R => planes_c (R := R) hi3 hl
      generalize hH4 : H3 ++ [some (⟨false, [.int .i64 (planesOf xs : Nat), .slice none 0 0, .slice none 0 0]⟩ : Blk)] = H4
      have l4 : H4.length = H3.length + 1 := by rw [← hH4]; simp
      have k4 : ∀ id, id < H3.length → blk? H4 id = blk? H3 id := fun id hid => by rw [← hH4]; exact blk?_push_lt hid
      have bX4 : blk? H4 H3.length = some ⟨false, [.int .i64 (planesOf xs : Nat), .slice none 0 0, .slice none 0 0]⟩ := by rw [← hH4]; exact blk?_push_eq
      have bM4 : blk? H4 h.length = some ⟨false, [.bool m.byp, .bool m.res, .bool m.rst, .bool m.cz, .bool m.sy]⟩ := by rw [k4 _ (by omega), k3 _ (by omega)]; exact bM2
      obtain ⟨H5, gv, e4, og, k5, len5, gB⟩ := segs_c (h := H4) ls.length m (by omega)
      obtain ⟨sg1, sg2, sg3⟩ := segs_sum (m := m) (n := ls.length) (by omega)
      obtain ⟨ga, gc, hgv⟩ := og.sl.shape
      obtain ⟨sa, sc, hsv⟩ := hp.sl.shape
      have hvl := hp.len
      have hOI : OI H2 H5 e H3.length (.int .i64 (planesOf xs : Nat)) gv (segsOf m ls.length) (AE.begin (AE.base 19)) (.slice none 0 0) (.slice none 0 0) [] [] 0 := by
        refine ⟨⟨pb, _, [], 0, hA.keep fun id hid => ?_, by simp, fun id hid => ?_⟩, by simp [AE.begin, AE.base], ?_, OwnS.nil _ _, OwnS.nil _ _, og.sl, fun id hid => ⟨by have := gB id hid; omega, og.lt hid⟩, len3, fun id hid => by simp [sid] at hid, fun id hid => by simp [sid] at hid, fun id hid => ?_, by omega⟩
        · have := hA.own_lt hid
          rw [k5 id (by omega), k4 id this]
        · have := hA.own_lt hid
          refine ⟨?_, by omega, by simp [sid], by simp [sid], fun x => by have := gB id x; omega⟩
          rcases hid with rfl | rfl | hid
          · exact he
          · exact hpb
          · simp [sid] at hid
        · rw [k5 _ (by omega)]; exact bX4
        · rw [k5 _ (by omega), k4 _ (by omega), k3 id hid]
      have hL := fun K0 K1 K2 K3 K4 K5 K6 K7 K8 Kb Kd Kh Ki Kj Kk Kl Km Kn Ko Kp Kq Kr Ks Kt Ku Kv Kw Kx Ky Kz J0 J1 J2 J3 J4 J5 J6 J7 J8 J9 Ja Jb Jc Jd Je Jf Jg Jk Jl Jm Jn Jo Jp Jq Jr Js Jt Ju Jv Jw Jx Jy Jz Y0 Y1 Y2 Y3 Y4 Y5 Y6 Y7 Y8 Y9 Ya Yb Yc Yd Ye Yf Yg Yh Yi Yj Yk Yl Ym Yn Yo Yp Yq Yr Ys Yt Yu Yv Yw Yx Yy Yz Z0 Z1 Z2 Z3 Z4 Z5 Z6 Z7 Z8 Z9 Za Zb Zc Zd Ze Zf Zg Zh Zi Zj Zk Zl Zm Zn Zo Zp Zq Zr Zs Zt Zu Zv Zw Zx Zy Zz K0q K1q K2q K3q => seg_loop_e (R := R0) (k := [.code (tlC 8 B52)]) (M := h.length) (X0 := h.length + 1) (X := H3.length) (sv := sv) (gv := gv) (pl := .int .i64 (planesOf xs : Nat)) (e := e) (gs := segsOf m ls.length) (PF := PF) (DF := DF) hp bM2 (by omega) (by omega) (fun i h1 => hsym i h1)
        (fun H6 a pv dv N K0 K1 K2 K3 K4 K5 K6 K7 K8 Kb Kc Kd Ke Kg Kh Ki Kj Kk Kl Km Kn Ko Kp Kq Kr Ks Kt Ku Kv Kw Kx Ky Kz J0 J1 J2 J3 J4 J5 J6 J7 J8 J9 Ja Jb Jc Jd Je Jf Jg Jh Ji Jj Jk Jl Jm Jn Jo Jp Jq Jr Js Jt Ju Jv Jw Jx Jy Jz Y0 Y1 Y2 Y3 Y4 Y5 Y6 Y7 Y8 Y9 Ya Yb Yc Yd Ye Yf Yg Yh Yi Yj Yk Yl Ym Yn Yo Yp Yq Yr Ys Yt Yu Yv Yw Yx Yy Yz Z0 Z1 Z2 Z3 Z4 Z5 Z6 Z7 Z8 Z9 Za Zb Zc Zd Ze Zf Zg Zh Zi Zj Zk Zl Zm Zn Zo Zp Zq Zr Zs Zt Zu Zv Zw Zx Zy Zz K0q K1q K2q K3q I => by
          obtain ⟨da, dc, hdv⟩ := I.od.sl.shape
          have bx := I.bx
          have bX6 : blk? H6 (h.length + 1) = some ⟨false, [.int .i64 0, .slice none 0 0, .slice none 0 0]⟩ := by rw [I.low _ (by omega)]; exact bX2
          have hX6 := blk?_lt bX6
          have lowS : ∀ x : Option Blk, ∀ id, id < h.length → blk? (H6.set (h.length + 1) x) id = blk? h id := fun x id hid => by rw [blk?_set_ne (by omega), I.low id (by omega), k2 id hid]
          have len6 := I.len
          show Ok tab R52 [.code (.seq (nthC 8 B52) (tlC 9 B52))] _ H6 R0
          simp only [nthC, tlC, fstC, B52]
          by_cases hbig : 65535 < DF.length
          · rw [if_pos hbig] at hR
            have hb' : (65535 : Int) < (DF.length : Int) := by omega
            rw [hdv] at bx
            generalize hDl : DF.length = dl at *
            simp [bx, hb', bX6, blk?_set_eq hX6, finishV, R52, allSome, resV]
            exact hR _ _ (CdV.none _ _) (fun id hid => lowS _ id hid) (by simp; omega)
          · rw [if_neg hbig] at hR
            have hb' : ¬ (65535 : Int) < (DF.length : Int) := by omega
            rw [hdv] at bx
            have hne6 : ¬ h.length + 1 = H3.length := by omega
            generalize hDl : DF.length = dl at *
            simp [bx, hb', bX6, blk?_set_eq hX6, finishV, R52, allSome, resV]
            refine hR _ _ ⟨⟨pv, dv, by rw [hdv], I.op.of_blk fun id hid hb => ?_, ?_, fun id hid => ?_, fun id hid => ?_⟩⟩ (fun id hid => lowS _ id hid) (by simp; omega)
            · rw [blk?_set_ne (by have := (I.pB id hid).1; omega)]; exact hb
            · exact I.od.of_blk fun id hid hb => by rw [blk?_set_ne (by have := (I.dB id hid).1; omega)]; exact hb
            · have := I.pB id hid; exact ⟨by omega, this.2.2.1⟩
            · have := I.dB id hid; omega)
        (segsOf m ls.length).length 0 0 H5 (AE.begin (AE.base 19)) (.slice none 0 0) (.slice none 0 0) [] [] 0 K0 K1 K2 K3 K4 K5 K6 K7 K8 Kb Kd Kh Ki Kj Kk Kl Km Kn Ko Kp Kq Kr Ks Kt Ku Kv Kw Kx Ky Kz J0 J1 J2 J3 J4 J5 J6 J7 J8 J9 Ja Jb Jc Jd Je Jf Jg Jk Jl Jm Jn Jo Jp Jq Jr Js Jt Ju Jv Jw Jx Jy Jz Y0 Y1 Y2 Y3 Y4 Y5 Y6 Y7 Y8 Y9 Ya Yb Yc Yd Ye Yf Yg Yh Yi Yj Yk Yl Ym Yn Yo Yp Yq Yr Ys Yt Yu Yv Yw Yx Yy Yz Z0 Z1 Z2 Z3 Z4 Z5 Z6 Z7 Z8 Z9 Za Zb Zc Zd Ze Zf Zg Zh Zi Zj Zk Zl Zm Zn Zo Zp Zq Zr Zs Zt Zu Zv Zw Zx Zy Zz K0q K1q K2q K3q (by omega) hOI (by rw [List.drop_zero]; omega) (fun c hc => (sg3 c hc).1) (by rw [List.drop_zero]; exact segOk_all m _) (by rw [List.drop_zero]; omega) rfl (by simp; omega) (by rw [List.drop_zero]; exact hq)
      show Ok tab R52 [.code (.seq (nthC 3 B52) (.seq (nthC 4 B52) (.seq (nthC 5 B52) (.seq (nthC 6 B52) (.seq (nthC 7 B52) (tlC 8 B52))))))] _ H2 R0
      generalize hT : tlC 8 B52 = tl at *
      simp only [nthC, tlC, fstC, B52]
      simp only [Int.cast_ofNat_Int] at e2 hL
      have bM5 : blk? H4 h.length = some ⟨false, [.bool m.byp, .bool m.res, .bool m.rst, .bool m.cz, .bool m.sy]⟩ := bM4
      rw [hgv] at hL e4
      rw [hsv, hvl] at hL ⊢
      simp only [MD.val] at e4
      generalize (segsOf m ls.length).length = gl at *
      have b9 : blk? (H3 ++ [some (⟨false, [.int .i64 0, .slice none 0 0, .slice none 0 0]⟩ : Blk)]) H3.length = some ⟨false, [.int .i64 0, .slice none 0 0, .slice none 0 0]⟩ := blk?_push_eq
      have s9 : (H3 ++ [some (⟨false, [.int .i64 0, .slice none 0 0, .slice none 0 0]⟩ : Blk)]).set H3.length (some ⟨false, [.int .i64 (planesOf xs : Nat), .slice none 0 0, .slice none 0 0]⟩) = H4 := by rw [← hH4]; simp
      simp [e2, e3, b9, s9, bM4, e4]
      exact hL _ _ _ _ _ _ _ _ _ _ _ _ _ _ _ _ _ _ _ _ _ _ _ _ _ _ _ _ _ _ _ _ _ _ _ _ _ _ _ _ _ _ _ _ _ _ _ _ _ _ _ _ _ _ _ _ _ _ _ _ _ _ _ _ _ _ _ _ _ _ _ _ _ _ _ _ _ _ _ _ _ _ _ _ _ _ _ _ _ _ _ _ _ _ _ _ _ _ _ _ _ _ _ _ _ _ _ _ _ _ _ _ _ _ _ _ _ _ _ _ _ _ _ _ _ _ _ _ _ _ _ _ _ _ _ _ _ _ _
    exact main _ fun c h' a b d => ⟨c, rfl, a, b, d⟩
  obtain ⟨v, h', e, c, rfl, a, b, d⟩ := ret_ex key
  exact ⟨c, h', e, a, b, d⟩
end
set_option maxRecDepth 10000

/-- A call gives v and keeps what there is. -/
def Gives (f : Nat) (args : List Value) (h : Heap) (v : Value) : Prop :=
  ∃ h', (∀ R : Value → Heap → Prop, Ret tab f args h R = R v h') ∧ (∀ id, id < h.length → blk? h' id = blk? h id) ∧ h.length ≤ h'.length
theorem Gives.mk {f : Nat} {args : List Value} {h : Heap} {v : Value} (k : ∀ R0 : Value → Heap → Prop, (∀ h', (∀ id, id < h.length → blk? h' id = blk? h id) → h.length ≤ h'.length → R0 v h') → Ret tab f args h R0) : Gives f args h v := by
  obtain ⟨w, h', e, rfl, a, b⟩ := ret_ex (k (fun w h' => w = v ∧ (∀ id, id < h.length → blk? h' id = blk? h id) ∧ h.length ≤ h'.length) fun h' a b => ⟨rfl, a, b⟩)
  exact ⟨h', e, a, b⟩

/-- The last end of a pass, unless they are out of order. -/
def vgo : List Int → Int → Option Int
  | [], l => some l
  | x :: xs, l => if x < l then none else vgo xs x
def validP (pl : Int) (ps ds : List Int) : Int :=
  if pl < 0 ∨ 60 < pl then 2
  else if max 0 (3 * pl - 2) < (ps.length : Int) then 4
  else match vgo ps 0 with
    | none => 4
    | some l => if l ≠ (ds.length : Int) then 4 else if 65535 < ds.length then 5 else 0
def sameP (pl pl' : Int) (ps ps' ds ds' : List Int) : Bool := decide (pl = pl' ∧ ps = ps' ∧ ds = ds')

theorem mx2 {k k' : IntKind} {x y : Int} : max2V (.int k x) (.int k' y) = some (.int k (max x y)) := by
  have e : (if x < y then y else x) = max x y := by split <;> omega
  rw [max2V, e]

section
variable {h : Heap} {R : Value → Heap → Prop} {k : List RItem} {pv dv pv' dv' : Value} {pl pl' : Int} {ps ps' ds ds' : List Int} {m : MD}

theorem few_c (hp : Rk .i64 h pv ps) (hd : Rk .u8 h dv ds) : Gives 46 [.agg #[.int .i64 pl, pv, dv]] h (.bool (decide (ps.length ≤ 300 ∧ ds.length ≤ 20000))) := by
  refine Gives.mk fun R0 hR => ?_
  obtain ⟨pa, pc, hpv⟩ := hp.sl.shape
  obtain ⟨da, dc, hdv⟩ := hd.sl.shape
  generalize hH : h ++ [some (⟨false, [.int .i64 pl, pv, dv]⟩ : Blk)] = H
  have hb0 : blk? H h.length = some ⟨false, [.int .i64 pl, pv, dv]⟩ := by rw [← hH]; exact blk?_push_eq
  have hR' := hR H (fun id hid => by rw [← hH]; exact blk?_push_lt hid) (by rw [← hH]; simp)
  rw [hpv, hdv] at hH hb0
  rw [hpv, hdv, enter46, B46]
  by_cases h1 : ps.length ≤ 300
  · have h1' : (ps.length : Int) ≤ 300 := by omega
    by_cases h2 : ds.length ≤ 20000
    · have h2' : (ds.length : Int) ≤ 20000 := by omega
      simp [h1, h2] at hR'
      simp [k_guard, hH, hb0, h1', h2', fin46]
      exact hR'
    · have h2' : ¬ (ds.length : Int) ≤ 20000 := by omega
      simp [h1, h2] at hR'
      simp [k_guard, hH, hb0, h1', h2', fin46]
      exact hR'
  · have h1' : ¬ (ps.length : Int) ≤ 300 := by omega
    simp [h1] at hR'
    simp [k_guard, hH, hb0, h1', fin46]
    exact hR'

/-! ### The program's Valid -/
theorem vloop_p {B : Nat} (hp : Rk .i64 h pv ps) (hl : ps.length < 1000000) {X : Nat} (hk : ∀ (l : Int) (K0 K1 K3 K6 K7 K8 K9 Ka Kb Kc Kd Ke Kf Kg Kh Ki Kj Kk Kl Km Kn Ko Kp Kq Kr Ks Kt Ku Kv Kw Kx Ky Kz J0 J1 J2 J3 J4 J5 J6 J7 J8 J9 : Value), vgo ps 0 = some l → Ok tab R48 k #[K0,K1,ptr X,K3,.int .i64 0,.int .i64 l,K6,K7,K8,K9,Ka,Kb,Kc,Kd,Ke,Kf,Kg,Kh,Ki,Kj,Kk,Kl,Km,Kn,Ko,Kp,Kq,Kr,Ks,Kt,Ku,Kv,Kw,Kx,Ky,Kz,J0,J1,J2,J3,J4,J5,J6,J7,J8,J9] h R) (hb : vgo ps 0 = none → R (.int .i64 4) h) :
    ∀ (d i : Nat) (l : Int) (K0 K1 K3 K6 K7 K8 K9 Ka Kb Kc Kd Ke Kf Kg Kh Ki Kj Kk Kl Km Kn Ko Kp Kt Ku Kv Kw Kx Ky Kz J0 J1 J2 J3 J4 J5 J6 J7 J8 J9 : Value), i + d = ps.length → vgo (ps.drop i) l = vgo ps 0 → Ok tab R48 (.inLoop L48_0 :: .inBlock 0 :: k) #[K0,K1,ptr X,K3,.int .i64 0,.int .i64 l,K6,K7,K8,K9,Ka,Kb,Kc,Kd,Ke,Kf,Kg,Kh,Ki,Kj,Kk,Kl,Km,Kn,Ko,Kp,pv,.int .i64 (ps.length : Nat),.int .i64 (i : Nat),Kt,Ku,Kv,Kw,Kx,Ky,Kz,J0,J1,J2,J3,J4,J5,J6,J7,J8,J9] h R := by
  intro d
  induction d with
  | zero =>
    intro i l K0 K1 K3 K6 K7 K8 K9 Ka Kb Kc Kd Ke Kf Kg Kh Ki Kj Kk Kl Km Kn Ko Kp Kt Ku Kv Kw Kx Ky Kz J0 J1 J2 J3 J4 J5 J6 J7 J8 J9 hd hv
    obtain rfl : i = ps.length := by omega
    rw [List.drop_length] at hv
    rw [ok_round, l48_0, L48_0a, L48_0b]
    simp
    exact hk l _ _ _ _ _ _ _ _ _ _ _ _ _ _ _ _ _ _ _ _ _ _ _ _ _ _ _ _ _ _ _ _ _ _ _ _ _ _ _ _ _ _ _ hv.symm
  | succ d ih =>
    intro i l K0 K1 K3 K6 K7 K8 K9 Ka Kb Kc Kd Ke Kf Kg Kh Ki Kj Kk Kl Km Kn Ko Kp Kt Ku Kv Kw Kx Ky Kz J0 J1 J2 J3 J4 J5 J6 J7 J8 J9 hd hv
    have hi : i < ps.length := by omega
    have hlt : (i : Int) < (ps.length : Int) := by omega
    obtain ⟨id, off, b, hpv, hbk, hc⟩ := hp.get hi
    rw [List.drop_eq_getElem_cons hi] at hv
    simp only [vgo] at hv
    have hw : IntKind.i64.wrap ((i : Int) + 1) = ((i + 1 : Nat) : Int) := wrapN (n := i + 1) (by omega)
    have ih' := fun K0 K1 K3 K6 K7 K8 K9 Ka Kb Kc Kd Ke Kf Kg Kh Ki Kj Kk Kl Km Kn Ko Kp Kt Ku Kv Kw Kx Ky Kz J0 J1 J2 J3 J4 J5 J6 J7 J8 J9 => ih (i + 1) ps[i] K0 K1 K3 K6 K7 K8 K9 Ka Kb Kc Kd Ke Kf Kg Kh Ki Kj Kk Kl Km Kn Ko Kp Kt Ku Kv Kw Kx Ky Kz J0 J1 J2 J3 J4 J5 J6 J7 J8 J9 (by omega)
    generalize ((i + 1 : Nat) : Int) = i1 at *
    rw [ok_round, l48_0, L48_0a, L48_0b]
    by_cases hx : ps[i] < l
    · rw [if_pos hx] at hv
      rw [hpv]
      simp [k_guard, hlt, hbk, hc, hx, fin48]
      exact hb hv.symm
    · rw [if_neg hx] at hv
      rw [hpv] at ih' ⊢
      simp [k_guard, hlt, hbk, hc, hx, hw]
      exact ih' _ _ _ _ _ _ _ _ _ _ _ _ _ _ _ _ _ _ _ _ _ _ _ _ _ _ _ _ _ _ _ _ _ _ _ _ _ _ _ _ hv
theorem valid_c (hp : Rk .i64 h pv ps) (hd : Rk .u8 h dv ds) (hl : ps.length < 1000000) (hdl : ds.length < 1000000000) : Gives 48 [.agg #[.int .i64 pl, pv, dv], m.val] h (.int .i64 (validP pl ps ds)) := by
  refine Gives.mk fun R0 hR => ?_
  generalize hH : h ++ [some (⟨false, [.int .i64 pl, pv, dv]⟩ : Blk), some ⟨false, [.bool m.byp, .bool m.res, .bool m.rst, .bool m.cz, .bool m.sy]⟩] = H
  have hb0 : blk? H h.length = some ⟨false, [.int .i64 pl, pv, dv]⟩ := by rw [← hH, app_len]; rfl
  have hpH : Rk .i64 H pv ps := by rw [← hH]; exact hp.push _
  have hR' := hR H (fun id hid => by rw [← hH]; exact app_lt hid) (by rw [← hH]; simp)
  clear hR
  rw [enter48, show B48 = .seq (nthC 0 B48) (.seq (nthC 1 B48) (.seq (nthC 2 B48) (.seq (nthC 3 B48) (.seq (nthC 4 B48) (tlC 5 B48))))) from rfl]
  generalize hT : tlC 5 B48 = tl
  simp only [nthC, tlC, fstC, B48]
  obtain ⟨pa, pc, hpv⟩ := hp.sl.shape
  obtain ⟨da, dc, hdv⟩ := hd.sl.shape
  unfold validP at hR'
  by_cases h1 : pl < 0
  · rw [if_pos (.inl h1)] at hR'
    simp [k_guard, k_guardU, MD.val, hH, hb0, h1, fin48]
    exact hR'
  by_cases h2 : 60 < pl
  · rw [if_pos (.inr h2)] at hR'
    simp [k_guard, k_guardU, MD.val, hH, hb0, h1, h2, fin48]
    exact hR'
  rw [if_neg (by omega)] at hR'
  have w1 : IntKind.i64.wrap (3 * pl) = 3 * pl := by rw [wrapI (by omega) (by omega)]
  have w2 : IntKind.i64.wrap (3 * pl - 2) = 3 * pl - 2 := by rw [wrapI (by omega) (by omega)]
  by_cases h3 : max 0 (3 * pl - 2) < (ps.length : Int)
  · rw [if_pos h3] at hR'
    rw [hpv] at hH hb0
    simp [k_guard, k_guardU, MD.val, hH, hb0, h1, h2, h3, w1, w2, fold1, foldO, mx2, hpv, fin48]
    exact hR'
  rw [if_neg h3] at hR'
  have hL := fun K0 K1 K3 K6 K7 K8 K9 Ka Kb Kc Kd Ke Kf Kg Kh Ki Kj Kk Kl Km Kn Ko Kp Kt Ku Kv Kw Kx Ky Kz J0 J1 J2 J3 J4 J5 J6 J7 J8 J9 => vloop_p (R := R0) (B := 0) (k := [.code tl]) hpH hl (X := h.length)
    (fun l K0 K1 K3 K6 K7 K8 K9 Ka Kb Kc Kd Ke Kf Kg Kh Ki Kj Kk Kl Km Kn Ko Kp Kq Kr Ks Kt Ku Kv Kw Kx Ky Kz J0 J1 J2 J3 J4 J5 J6 J7 J8 J9 hv => by
      rw [hv] at hR'
      simp only at hR'
      rw [← hT]
      simp only [nthC, tlC, fstC, B48]
      by_cases h4 : l = (ds.length : Int)
      · rw [if_neg (by simp [h4])] at hR'
        by_cases h5 : 65535 < ds.length
        · rw [if_pos h5] at hR'
          have h5' : (65535 : Int) < (ds.length : Int) := by omega
          rw [hdv] at hb0
          simp [hb0, h4, h5', fin48]
          exact hR'
        · rw [if_neg h5] at hR'
          have h5' : ¬ (65535 : Int) < (ds.length : Int) := by omega
          rw [hdv] at hb0
          simp [hb0, h4, h5', fin48]
          exact hR'
      · rw [if_pos h4] at hR'
        have h4' : (l != (ds.length : Int)) = true := by simpa using h4
        rw [hdv] at hb0
        simp [hb0, h4', fin48]
        exact hR')
    (fun hv => by rw [hv] at hR'; exact hR') ps.length 0 0 K0 K1 K3 K6 K7 K8 K9 Ka Kb Kc Kd Ke Kf Kg Kh Ki Kj Kk Kl Km Kn Ko Kp Kt Ku Kv Kw Kx Ky Kz J0 J1 J2 J3 J4 J5 J6 J7 J8 J9 (by omega) (by rw [List.drop_zero])
  rw [hpv] at hH hb0 hL
  simp [k_guard, k_guardU, MD.val, hH, hb0, h1, h2, h3, w1, w2, fold1, foldO, mx2, hpv]
  exact hL _ _ _ _ _ _ _ _ _ _ _ _ _ _ _ _ _ _ _ _ _ _ _ _ _ _ _ _ _ _ _ _ _ _ _ _ _ _ _ _

/-! ### The reference's Valid -/
theorem vloop_r (hp : Rk .i64 h pv ps) (hl : ps.length < 1000000) {X : Nat} (hX : blk? h X = some ⟨false, [.int .i64 pl, pv, dv]⟩) (hk : ∀ (l : Int) (K0 K1 K3 K6 K7 K8 K9 Ka Kb Kc Kd Ke Kf Kg Kh Ki Kj Kk Kl Km Kn Ko Kp Kq Kr Ks Kt Ku Kv Kw Kx Ky Kz J0 J1 J2 J3 J4 J5 J6 J7 J8 J9 Ja Jb Jc Jd Je Jf : Value), vgo ps 0 = some l → Ok tab R49 k #[K0,K1,ptr X,K3,.int .i64 0,.int .i64 l,K6,K7,K8,K9,Ka,Kb,Kc,Kd,Ke,Kf,Kg,Kh,Ki,Kj,Kk,Kl,Km,Kn,Ko,Kp,Kq,Kr,Ks,Kt,Ku,Kv,Kw,Kx,Ky,Kz,J0,J1,J2,J3,J4,J5,J6,J7,J8,J9,Ja,Jb,Jc,Jd,Je,Jf] h R) (hb : vgo ps 0 = none → R (.int .i64 4) h) :
    ∀ (d i : Nat) (l : Int) (K0 K1 K3 K7 K8 K9 Ka Kb Kc Kd Ke Kf Kg Kh Ki Kj Kk Kl Km Kn Ko Kp Kq Kr Ks Kt Ku Kv Kw Kx Ky Kz J0 J1 J2 J3 J4 J5 J6 J7 J8 J9 Ja Jb Jc Jd Je Jf : Value), i + d = ps.length → vgo (ps.drop i) l = vgo ps 0 → Ok tab R49 (.inLoop L49_0 :: .inBlock 0 :: k) #[K0,K1,ptr X,K3,.int .i64 0,.int .i64 l,.int .i64 (i : Nat),K7,K8,K9,Ka,Kb,Kc,Kd,Ke,Kf,Kg,Kh,Ki,Kj,Kk,Kl,Km,Kn,Ko,Kp,Kq,Kr,Ks,Kt,Ku,Kv,Kw,Kx,Ky,Kz,J0,J1,J2,J3,J4,J5,J6,J7,J8,J9,Ja,Jb,Jc,Jd,Je,Jf] h R := by
  intro d
  obtain ⟨pa, pc, hps⟩ := hp.sl.shape
  induction d with
  | zero =>
    intro i l K0 K1 K3 K7 K8 K9 Ka Kb Kc Kd Ke Kf Kg Kh Ki Kj Kk Kl Km Kn Ko Kp Kq Kr Ks Kt Ku Kv Kw Kx Ky Kz J0 J1 J2 J3 J4 J5 J6 J7 J8 J9 Ja Jb Jc Jd Je Jf hd hv
    obtain rfl : i = ps.length := by omega
    rw [List.drop_length] at hv
    rw [hps] at hX
    rw [ok_round, l49_0, L49_0a, L49_0b]
    simp [hX]
    exact hk l _ _ _ _ _ _ _ _ _ _ _ _ _ _ _ _ _ _ _ _ _ _ _ _ _ _ _ _ _ _ _ _ _ _ _ _ _ _ _ _ _ _ _ _ _ _ _ _ _ hv.symm
  | succ d ih =>
    intro i l K0 K1 K3 K7 K8 K9 Ka Kb Kc Kd Ke Kf Kg Kh Ki Kj Kk Kl Km Kn Ko Kp Kq Kr Ks Kt Ku Kv Kw Kx Ky Kz J0 J1 J2 J3 J4 J5 J6 J7 J8 J9 Ja Jb Jc Jd Je Jf hd hv
    have hi : i < ps.length := by omega
    have hlt : (i : Int) < (ps.length : Int) := by omega
    obtain ⟨id, off, b, hpv, hbk, hc⟩ := hp.get hi
    rw [List.drop_eq_getElem_cons hi] at hv
    simp only [vgo] at hv
    have hw : IntKind.i64.wrap ((i : Int) + 1) = ((i + 1 : Nat) : Int) := wrapN (n := i + 1) (by omega)
    have ih' := fun K0 K1 K3 K7 K8 K9 Ka Kb Kc Kd Ke Kf Kg Kh Ki Kj Kk Kl Km Kn Ko Kp Kq Kr Ks Kt Ku Kv Kw Kx Ky Kz J0 J1 J2 J3 J4 J5 J6 J7 J8 J9 Ja Jb Jc Jd Je Jf => ih (i + 1) ps[i] K0 K1 K3 K7 K8 K9 Ka Kb Kc Kd Ke Kf Kg Kh Ki Kj Kk Kl Km Kn Ko Kp Kq Kr Ks Kt Ku Kv Kw Kx Ky Kz J0 J1 J2 J3 J4 J5 J6 J7 J8 J9 Ja Jb Jc Jd Je Jf (by omega)
    generalize ((i + 1 : Nat) : Int) = i1 at *
    rw [hpv] at hX
    rw [ok_round, l49_0, L49_0a, L49_0b]
    by_cases hx : ps[i] < l
    · rw [if_pos hx] at hv
      simp [k_guard, hX, hlt, hbk, hc, hx, fin49]
      exact hb hv.symm
    · rw [if_neg hx] at hv
      simp [k_guard, hX, hlt, hbk, hc, hx, hw]
      exact ih' _ _ _ _ _ _ _ _ _ _ _ _ _ _ _ _ _ _ _ _ _ _ _ _ _ _ _ _ _ _ _ _ _ _ _ _ _ _ _ _ _ _ _ _ _ _ _ _ hv
theorem valid_r (hp : Rk .i64 h pv ps) (hd : Rk .u8 h dv ds) (hl : ps.length < 1000000) (hdl : ds.length < 1000000000) : Gives 49 [.agg #[.int .i64 pl, pv, dv], m.val] h (.int .i64 (validP pl ps ds)) := by
  refine Gives.mk fun R0 hR => ?_
  generalize hH : h ++ [some (⟨false, [.int .i64 pl, pv, dv]⟩ : Blk), some ⟨false, [.bool m.byp, .bool m.res, .bool m.rst, .bool m.cz, .bool m.sy]⟩] = H
  have hb0 : blk? H h.length = some ⟨false, [.int .i64 pl, pv, dv]⟩ := by rw [← hH, app_len]; rfl
  have hpH : Rk .i64 H pv ps := by rw [← hH]; exact hp.push _
  have hR' := hR H (fun id hid => by rw [← hH]; exact app_lt hid) (by rw [← hH]; simp)
  clear hR
  rw [enter49, show B49 = .seq (nthC 0 B49) (.seq (nthC 1 B49) (.seq (nthC 2 B49) (.seq (nthC 3 B49) (.seq (nthC 4 B49) (tlC 5 B49))))) from rfl]
  generalize hT : tlC 5 B49 = tl
  simp only [nthC, tlC, fstC, B49]
  obtain ⟨pa, pc, hpv⟩ := hp.sl.shape
  obtain ⟨da, dc, hdv⟩ := hd.sl.shape
  unfold validP at hR'
  by_cases h1 : pl < 0
  · rw [if_pos (.inl h1)] at hR'
    simp [k_guard, k_guardU, MD.val, hH, hb0, h1, fin49]
    exact hR'
  by_cases h2 : 60 < pl
  · rw [if_pos (.inr h2)] at hR'
    simp [k_guard, k_guardU, MD.val, hH, hb0, h1, h2, fin49]
    exact hR'
  rw [if_neg (by omega)] at hR'
  have w1 : IntKind.i64.wrap (3 * pl) = 3 * pl := by rw [wrapI (by omega) (by omega)]
  have w2 : IntKind.i64.wrap (3 * pl - 2) = 3 * pl - 2 := by rw [wrapI (by omega) (by omega)]
  by_cases h3 : max 0 (3 * pl - 2) < (ps.length : Int)
  · rw [if_pos h3] at hR'
    rw [hpv] at hH hb0
    simp [k_guard, k_guardU, MD.val, hH, hb0, h1, h2, h3, w1, w2, fold1, foldO, mx2, hpv, fin49]
    exact hR'
  rw [if_neg h3] at hR'
  have hL := fun K0 K1 K3 K7 K8 K9 Ka Kb Kc Kd Ke Kf Kg Kh Ki Kj Kk Kl Km Kn Ko Kp Kq Kr Ks Kt Ku Kv Kw Kx Ky Kz J0 J1 J2 J3 J4 J5 J6 J7 J8 J9 Ja Jb Jc Jd Je Jf => vloop_r (R := R0) (k := [.code tl]) hpH hl (X := h.length) hb0
    (fun l K0 K1 K3 K6 K7 K8 K9 Ka Kb Kc Kd Ke Kf Kg Kh Ki Kj Kk Kl Km Kn Ko Kp Kq Kr Ks Kt Ku Kv Kw Kx Ky Kz J0 J1 J2 J3 J4 J5 J6 J7 J8 J9 Ja Jb Jc Jd Je Jf hv => by
      rw [hv] at hR'
      simp only at hR'
      rw [← hT]
      simp only [nthC, tlC, fstC, B49]
      by_cases h4 : l = (ds.length : Int)
      · rw [if_neg (by simp [h4])] at hR'
        by_cases h5 : 65535 < ds.length
        · rw [if_pos h5] at hR'
          have h5' : (65535 : Int) < (ds.length : Int) := by omega
          rw [hdv] at hb0
          simp [hb0, h4, h5', fin49]
          exact hR'
        · rw [if_neg h5] at hR'
          have h5' : ¬ (65535 : Int) < (ds.length : Int) := by omega
          rw [hdv] at hb0
          simp [hb0, h4, h5', fin49]
          exact hR'
      · rw [if_pos h4] at hR'
        have h4' : (l != (ds.length : Int)) = true := by simpa using h4
        rw [hdv] at hb0
        simp [hb0, h4', fin49]
        exact hR')
    (fun hv => by rw [hv] at hR'; exact hR') ps.length 0 0 K0 K1 K3 K7 K8 K9 Ka Kb Kc Kd Ke Kf Kg Kh Ki Kj Kk Kl Km Kn Ko Kp Kq Kr Ks Kt Ku Kv Kw Kx Ky Kz J0 J1 J2 J3 J4 J5 J6 J7 J8 J9 Ja Jb Jc Jd Je Jf (by omega) (by rw [List.drop_zero])
  rw [hpv] at hH hb0
  simp [k_guard, k_guardU, MD.val, hH, hb0, h1, h2, h3, w1, w2, fold1, foldO, mx2, hpv]
  exact hL _ _ _ _ _ _ _ _ _ _ _ _ _ _ _ _ _ _ _ _ _ _ _ _ _ _ _ _ _ _ _ _ _ _ _ _ _ _ _ _ _ _ _ _ _ _ _ _
end
set_option maxRecDepth 10000

/-- A coded block as a value: its lists lie at and behind B. -/
structure CI (B : Nat) (h : Heap) (v : Value) (pl : Int) (ps ds : List Int) : Prop where
  ex : ∃ pv dv, v = .agg #[.int .i64 pl, pv, dv] ∧ Rk .i64 h pv ps ∧ Rk .u8 h dv ds ∧ (∀ id, sid pv = some id → B ≤ id) ∧ (∀ id, sid dv = some id → B ≤ id)
theorem Rk.none (k : IntKind) (h : Heap) : Rk k h (.slice none 0 0) [] := ⟨(OwnS.nil _ _).sl, by simp, fun id b hid => by simp [sid] at hid, fun v hv => by cases hv⟩
theorem CI.none (B : Nat) (h : Heap) : CI B h (.agg #[.int .i64 0, .slice none 0 0, .slice none 0 0]) 0 [] [] :=
  ⟨⟨_, _, rfl, Rk.none _ _, Rk.none _ _, fun id hid => by simp [sid] at hid, fun id hid => by simp [sid] at hid⟩⟩
theorem CI.keep {B : Nat} {h h' : Heap} {v : Value} {pl : Int} {ps ds : List Int} (c : CI B h v pl ps ds) (hl : h.length ≤ h'.length) (hk : ∀ id, id < h.length → B ≤ id → blk? h' id = blk? h id) : CI B h' v pl ps ds := by
  obtain ⟨pv, dv, e, a, b, p, q⟩ := c.ex
  exact ⟨⟨pv, dv, e, a.keep hl fun id hid hs => hk id hid (p id hs), b.keep hl fun id hid hs => hk id hid (q id hs), p, q⟩⟩

/-- What Truncate answers. -/
def truncE (pl : Int) (ps ds : List Int) (n : Int) : Int := if validP pl ps ds ≠ 0 then validP pl ps ds else if n < 0 ∨ (ps.length : Int) < n then 2 else 0
def truncD (ps ds : List Int) (n : Nat) : List Int := if 0 < n then ds.take (ps.getD (n - 1) 0).toNat else []

theorem vgo_get : ∀ (ps : List Int) (l r : Int), vgo ps l = some r → ∀ i, i < ps.length → l ≤ ps.getD i 0 ∧ ps.getD i 0 ≤ r
  | [], _, _, _, i, h => by simp at h
  | x :: xs, l, r, hv, i, h => by
    unfold vgo at hv
    split at hv
    · cases hv
    · rename_i hx
      cases i with
      | zero =>
        refine ⟨by simp; omega, ?_⟩
        cases xs with
        | nil => simp [vgo] at hv; simp; omega
        | cons y ys => have := vgo_get (y :: ys) x r hv 0 (by simp); simp at this ⊢; omega
      | succ i =>
        have := vgo_get xs x r hv i (by simpa using h)
        simp only [List.getD_cons_succ]; omega
theorem valid_ends {pl : Int} {ps ds : List Int} (h : validP pl ps ds = 0) : 0 ≤ pl ∧ pl ≤ 60 ∧ ((ps.length : Int) ≤ max 0 (3 * pl - 2)) ∧ vgo ps 0 = some (ds.length : Int) ∧ ds.length ≤ 65535 := by
  unfold validP at h
  split at h
  · cases h
  · split at h
    · cases h
    · split at h
      · cases h
      · rename_i l hl
        split at h
        · cases h
        · rename_i h4
          split at h
          · cases h
          · rw [hl]; simp only [ne_eq, Decidable.not_not] at h4; subst h4; refine ⟨by omega, by omega, by omega, rfl, by omega⟩

section
variable {h : Heap} {R : Value → Heap → Prop} {k : List RItem} {pv dv pv' dv' : Value} {pl pl' : Int} {ps ps' ds ds' : List Int} {m : MD}

/-! ### Whether two are the same -/
theorem same_loop0 (hp : Rk .i64 h pv ps) (hp' : Rk .i64 h pv' ps') (hl : ps.length < 1000000) (he : ps.length = ps'.length) {X Y : Nat} (hX : blk? h X = some ⟨false, [.int .i64 pl, pv, dv]⟩) (hY : blk? h Y = some ⟨false, [.int .i64 pl', pv', dv']⟩)
    (hk : ∀ (K0 K1 K5 K6 K7 K8 K9 Ka Kb Kc Kd Ke Kf Kg Kh Ki Kj Kk Kl Km Kn Ko Kp Kq Kr Ks Kt Ku Kv Kw Kx Ky Kz J0 J1 J2 J3 J4 J5 J6 J7 J8 J9 Ja Jb Jc Jd Je Jf Jg Jh Ji Jj Jk Jl Jm Jn Jo Jp Jq Jr Js Jt : Value), ps = ps' → Ok tab R51 k #[K0,K1,ptr X,ptr Y,.bool false,K5,K6,K7,K8,K9,Ka,Kb,Kc,Kd,Ke,Kf,Kg,Kh,Ki,Kj,Kk,Kl,Km,Kn,Ko,Kp,Kq,Kr,Ks,Kt,Ku,Kv,Kw,Kx,Ky,Kz,J0,J1,J2,J3,J4,J5,J6,J7,J8,J9,Ja,Jb,Jc,Jd,Je,Jf,Jg,Jh,Ji,Jj,Jk,Jl,Jm,Jn,Jo,Jp,Jq,Jr,Js,Jt] h R) (hb : ps ≠ ps' → R (.bool false) h) :
    ∀ (d i : Nat) (K0 K1 K6 K7 K8 K9 Ka Kb Kc Kd Ke Kf Kg Kh Ki Kj Kk Kl Km Kn Ko Kp Kq Kr Ks Kt Ku Kv Kw Kx Ky Kz J0 J1 J2 J3 J4 J5 J6 J7 J8 J9 Ja Jb Jc Jd Je Jf Jg Jh Ji Jj Jk Jl Jm Jn Jo Jp Jq Jr Js Jt : Value), i + d = ps.length → ps.take i = ps'.take i → Ok tab R51 (.inLoop L51_0 :: .inBlock 0 :: k) #[K0,K1,ptr X,ptr Y,.bool false,.int .i64 (i : Nat),K6,K7,K8,K9,Ka,Kb,Kc,Kd,Ke,Kf,Kg,Kh,Ki,Kj,Kk,Kl,Km,Kn,Ko,Kp,Kq,Kr,Ks,Kt,Ku,Kv,Kw,Kx,Ky,Kz,J0,J1,J2,J3,J4,J5,J6,J7,J8,J9,Ja,Jb,Jc,Jd,Je,Jf,Jg,Jh,Ji,Jj,Jk,Jl,Jm,Jn,Jo,Jp,Jq,Jr,Js,Jt] h R := by
  intro d
  obtain ⟨pa, pc, hps⟩ := hp.sl.shape
  induction d with
  | zero =>
    intro i K0 K1 K6 K7 K8 K9 Ka Kb Kc Kd Ke Kf Kg Kh Ki Kj Kk Kl Km Kn Ko Kp Kq Kr Ks Kt Ku Kv Kw Kx Ky Kz J0 J1 J2 J3 J4 J5 J6 J7 J8 J9 Ja Jb Jc Jd Je Jf Jg Jh Ji Jj Jk Jl Jm Jn Jo Jp Jq Jr Js Jt hd hv
    obtain rfl : i = ps.length := by omega
    rw [List.take_of_length_le (Nat.le_refl _), he, List.take_of_length_le (Nat.le_refl _)] at hv
    rw [hps] at hX
    rw [ok_round, l51_0, L51_0a, L51_0b]
    simp [hX]
    exact hk _ _ _ _ _ _ _ _ _ _ _ _ _ _ _ _ _ _ _ _ _ _ _ _ _ _ _ _ _ _ _ _ _ _ _ _ _ _ _ _ _ _ _ _ _ _ _ _ _ _ _ _ _ _ _ _ _ _ _ _ _ _ _ hv
  | succ d ih =>
    intro i K0 K1 K6 K7 K8 K9 Ka Kb Kc Kd Ke Kf Kg Kh Ki Kj Kk Kl Km Kn Ko Kp Kq Kr Ks Kt Ku Kv Kw Kx Ky Kz J0 J1 J2 J3 J4 J5 J6 J7 J8 J9 Ja Jb Jc Jd Je Jf Jg Jh Ji Jj Jk Jl Jm Jn Jo Jp Jq Jr Js Jt hd hv
    have hi : i < ps.length := by omega
    have hi' : i < ps'.length := by omega
    have hlt : (i : Int) < (ps.length : Int) := by omega
    have hlt' : (i : Int) < (ps'.length : Int) := by omega
    obtain ⟨id, off, b, hpv, hbk, hc⟩ := hp.get hi
    obtain ⟨id', off', b', hpv', hbk', hc'⟩ := hp'.get hi'
    have hw : IntKind.i64.wrap ((i : Int) + 1) = ((i + 1 : Nat) : Int) := wrapN (n := i + 1) (by omega)
    have ih' := fun K0 K1 K6 K7 K8 K9 Ka Kb Kc Kd Ke Kf Kg Kh Ki Kj Kk Kl Km Kn Ko Kp Kq Kr Ks Kt Ku Kv Kw Kx Ky Kz J0 J1 J2 J3 J4 J5 J6 J7 J8 J9 Ja Jb Jc Jd Je Jf Jg Jh Ji Jj Jk Jl Jm Jn Jo Jp Jq Jr Js Jt => ih (i + 1) K0 K1 K6 K7 K8 K9 Ka Kb Kc Kd Ke Kf Kg Kh Ki Kj Kk Kl Km Kn Ko Kp Kq Kr Ks Kt Ku Kv Kw Kx Ky Kz J0 J1 J2 J3 J4 J5 J6 J7 J8 J9 Ja Jb Jc Jd Je Jf Jg Jh Ji Jj Jk Jl Jm Jn Jo Jp Jq Jr Js Jt (by omega)
    generalize hi1 : ((i + 1 : Nat) : Int) = i1 at *
    rw [hpv] at hX
    rw [hpv'] at hY
    rw [ok_round, l51_0, L51_0a, L51_0b]
    by_cases hx : ps[i] = ps'[i]
    · have hx' : (ps[i] != ps'[i]) = false := by simp [hx]
      have e : ps.take (i + 1) = ps'.take (i + 1) := by
        rw [List.take_succ_eq_append_getElem hi, List.take_succ_eq_append_getElem hi', hv, hx]
      simp [hX, hY, hlt, hlt', hbk, hbk', hc, hc', hx', hw]
      exact ih' _ _ _ _ _ _ _ _ _ _ _ _ _ _ _ _ _ _ _ _ _ _ _ _ _ _ _ _ _ _ _ _ _ _ _ _ _ _ _ _ _ _ _ _ _ _ _ _ _ _ _ _ _ _ _ _ _ _ _ _ _ _ e
    · have hx' : (ps[i] != ps'[i]) = true := by simpa using hx
      simp [hX, hY, hlt, hlt', hbk, hbk', hc, hc', hx', fin51]
      exact hb fun e => hx (by simp [e])
theorem same_loop1 (hd : Rk .u8 h dv ds) (hd' : Rk .u8 h dv' ds') (hl : ds.length < 1000000000) (he : ds.length = ds'.length) {X Y : Nat} (hX : blk? h X = some ⟨false, [.int .i64 pl, pv, dv]⟩) (hY : blk? h Y = some ⟨false, [.int .i64 pl', pv', dv']⟩)
    (hk : ∀ (K0 K1 K5 K6 K7 K8 K9 Ka Kb Kc Kd Ke Kf Kg Kh Ki Kj Kk Kl Km Kn Ko Kp Kq Kr Ks Kt Ku Kv Kw Kx Ky Kz J0 J1 J2 J3 J4 J5 J6 J7 J8 J9 Ja Jb Jc Jd Je Jf Jg Jh Ji Jj Jk Jl Jm Jn Jo Jp Jq Jr Js Jt : Value), ds = ds' → Ok tab R51 k #[K0,K1,ptr X,ptr Y,.bool false,K5,K6,K7,K8,K9,Ka,Kb,Kc,Kd,Ke,Kf,Kg,Kh,Ki,Kj,Kk,Kl,Km,Kn,Ko,Kp,Kq,Kr,Ks,Kt,Ku,Kv,Kw,Kx,Ky,Kz,J0,J1,J2,J3,J4,J5,J6,J7,J8,J9,Ja,Jb,Jc,Jd,Je,Jf,Jg,Jh,Ji,Jj,Jk,Jl,Jm,Jn,Jo,Jp,Jq,Jr,Js,Jt] h R) (hb : ds ≠ ds' → R (.bool false) h) :
    ∀ (d i : Nat) (K0 K1 K5 K7 K8 K9 Ka Kb Kc Kd Ke Kf Kg Kh Ki Kj Kk Kl Km Kn Ko Kp Kq Kr Ks Kt Ku Kv Kw Kx Ky Kz J0 J1 J2 J3 J4 J5 J6 J7 J8 J9 Ja Jb Jc Jd Je Jf Jg Jh Ji Jj Jk Jl Jm Jn Jo Jp Jq Jr Js Jt : Value), i + d = ds.length → ds.take i = ds'.take i → Ok tab R51 (.inLoop L51_1 :: .inBlock 2 :: k) #[K0,K1,ptr X,ptr Y,.bool false,K5,.int .i64 (i : Nat),K7,K8,K9,Ka,Kb,Kc,Kd,Ke,Kf,Kg,Kh,Ki,Kj,Kk,Kl,Km,Kn,Ko,Kp,Kq,Kr,Ks,Kt,Ku,Kv,Kw,Kx,Ky,Kz,J0,J1,J2,J3,J4,J5,J6,J7,J8,J9,Ja,Jb,Jc,Jd,Je,Jf,Jg,Jh,Ji,Jj,Jk,Jl,Jm,Jn,Jo,Jp,Jq,Jr,Js,Jt] h R := by
  intro d
  obtain ⟨pa, pc, hps⟩ := hd.sl.shape
  induction d with
  | zero =>
    intro i K0 K1 K5 K7 K8 K9 Ka Kb Kc Kd Ke Kf Kg Kh Ki Kj Kk Kl Km Kn Ko Kp Kq Kr Ks Kt Ku Kv Kw Kx Ky Kz J0 J1 J2 J3 J4 J5 J6 J7 J8 J9 Ja Jb Jc Jd Je Jf Jg Jh Ji Jj Jk Jl Jm Jn Jo Jp Jq Jr Js Jt hd hv
    obtain rfl : i = ds.length := by omega
    rw [List.take_of_length_le (Nat.le_refl _), he, List.take_of_length_le (Nat.le_refl _)] at hv
    rw [hps] at hX
    rw [ok_round, l51_1, L51_1a, L51_1b]
    simp [hX]
    exact hk _ _ _ _ _ _ _ _ _ _ _ _ _ _ _ _ _ _ _ _ _ _ _ _ _ _ _ _ _ _ _ _ _ _ _ _ _ _ _ _ _ _ _ _ _ _ _ _ _ _ _ _ _ _ _ _ _ _ _ _ _ _ _ hv
  | succ d ih =>
    intro i K0 K1 K5 K7 K8 K9 Ka Kb Kc Kd Ke Kf Kg Kh Ki Kj Kk Kl Km Kn Ko Kp Kq Kr Ks Kt Ku Kv Kw Kx Ky Kz J0 J1 J2 J3 J4 J5 J6 J7 J8 J9 Ja Jb Jc Jd Je Jf Jg Jh Ji Jj Jk Jl Jm Jn Jo Jp Jq Jr Js Jt hdd hv
    have hi : i < ds.length := by omega
    have hi' : i < ds'.length := by omega
    have hlt : (i : Int) < (ds.length : Int) := by omega
    have hlt' : (i : Int) < (ds'.length : Int) := by omega
    obtain ⟨id, off, b, hpv, hbk, hc⟩ := hd.get hi
    obtain ⟨id', off', b', hpv', hbk', hc'⟩ := hd'.get hi'
    have hw : IntKind.i64.wrap ((i : Int) + 1) = ((i + 1 : Nat) : Int) := wrapN (n := i + 1) (by omega)
    have ih' := fun K0 K1 K5 K7 K8 K9 Ka Kb Kc Kd Ke Kf Kg Kh Ki Kj Kk Kl Km Kn Ko Kp Kq Kr Ks Kt Ku Kv Kw Kx Ky Kz J0 J1 J2 J3 J4 J5 J6 J7 J8 J9 Ja Jb Jc Jd Je Jf Jg Jh Ji Jj Jk Jl Jm Jn Jo Jp Jq Jr Js Jt => ih (i + 1) K0 K1 K5 K7 K8 K9 Ka Kb Kc Kd Ke Kf Kg Kh Ki Kj Kk Kl Km Kn Ko Kp Kq Kr Ks Kt Ku Kv Kw Kx Ky Kz J0 J1 J2 J3 J4 J5 J6 J7 J8 J9 Ja Jb Jc Jd Je Jf Jg Jh Ji Jj Jk Jl Jm Jn Jo Jp Jq Jr Js Jt (by omega)
    generalize hi1 : ((i + 1 : Nat) : Int) = i1 at *
    rw [hpv] at hX
    rw [hpv'] at hY
    rw [ok_round, l51_1, L51_1a, L51_1b]
    by_cases hx : ds[i] = ds'[i]
    · have hx' : (ds[i] != ds'[i]) = false := by simp [hx]
      have e : ds.take (i + 1) = ds'.take (i + 1) := by
        rw [List.take_succ_eq_append_getElem hi, List.take_succ_eq_append_getElem hi', hv, hx]
      simp [hX, hY, hlt, hlt', hbk, hbk', hc, hc', hx', hw]
      exact ih' _ _ _ _ _ _ _ _ _ _ _ _ _ _ _ _ _ _ _ _ _ _ _ _ _ _ _ _ _ _ _ _ _ _ _ _ _ _ _ _ _ _ _ _ _ _ _ _ _ _ _ _ _ _ _ _ _ _ _ _ _ _ e
    · have hx' : (ds[i] != ds'[i]) = true := by simpa using hx
      simp [hX, hY, hlt, hlt', hbk, hbk', hc, hc', hx', fin51]
      exact hb fun e => hx (by simp [e])
theorem same_c (hp : Rk .i64 h pv ps) (hd : Rk .u8 h dv ds) (hp' : Rk .i64 h pv' ps') (hd' : Rk .u8 h dv' ds') (hl : ps.length < 1000000) (hdl : ds.length < 1000000000) :
    Gives 51 [.agg #[.int .i64 pl, pv, dv], .agg #[.int .i64 pl', pv', dv']] h (.bool (sameP pl pl' ps ps' ds ds')) := by
  refine Gives.mk fun R0 hR => ?_
  generalize hH : h ++ [some (⟨false, [.int .i64 pl, pv, dv]⟩ : Blk), some ⟨false, [.int .i64 pl', pv', dv']⟩] = H
  have hb0 : blk? H h.length = some ⟨false, [.int .i64 pl, pv, dv]⟩ := by rw [← hH, app_len]; rfl
  have hb1 : blk? H (h.length + 1) = some ⟨false, [.int .i64 pl', pv', dv']⟩ := by rw [← hH, app_add]; rfl
  have hpH : Rk .i64 H pv ps := by rw [← hH]; exact hp.push _
  have hpH' : Rk .i64 H pv' ps' := by rw [← hH]; exact hp'.push _
  have hdH : Rk .u8 H dv ds := by rw [← hH]; exact hd.push _
  have hdH' : Rk .u8 H dv' ds' := by rw [← hH]; exact hd'.push _
  have hR' := hR H (fun id hid => by rw [← hH]; exact app_lt hid) (by rw [← hH]; simp)
  clear hR
  rw [enter51, show B51 = .seq (nthC 0 B51) (.seq (nthC 1 B51) (.seq (nthC 2 B51) (tlC 3 B51))) from rfl]
  generalize hT : tlC 3 B51 = tl
  simp only [nthC, tlC, fstC, B51]
  obtain ⟨pa, pc, hpv⟩ := hp.sl.shape
  obtain ⟨da, dc, hdv⟩ := hd.sl.shape
  obtain ⟨pa', pc', hpv'⟩ := hp'.sl.shape
  obtain ⟨da', dc', hdv'⟩ := hd'.sl.shape
  by_cases h1 : pl = pl'
  case neg =>
    have e : sameP pl pl' ps ps' ds ds' = false := by simp [sameP, h1]
    have h1' : (pl != pl') = true := by simpa using h1
    rw [e] at hR'
    simp [k_guard, k_guardU, hH, hb0, hb1, h1', fin51]
    exact hR'
  have h1' : (pl != pl') = false := by simpa using h1
  by_cases h2 : ps.length = ps'.length
  case neg =>
    have e : sameP pl pl' ps ps' ds ds' = false := by
      simp only [sameP, decide_eq_false_iff_not]; rintro ⟨_, rfl, _⟩; exact h2 rfl
    have h2' : ((ps.length : Int) != (ps'.length : Int)) = true := by simp only [bne_iff_ne, ne_eq]; omega
    rw [e] at hR'
    rw [hpv] at hH hb0; rw [hpv'] at hH hb1
    rw [hpv, hpv']
    simp [k_guard, k_guardU, hH, hb0, hb1, h1', h2', fin51]
    exact hR'
  have h2' : ((ps.length : Int) != (ps'.length : Int)) = false := by simp [h2]
  by_cases h3 : ds.length = ds'.length
  case neg =>
    have e : sameP pl pl' ps ps' ds ds' = false := by
      simp only [sameP, decide_eq_false_iff_not]; rintro ⟨_, _, rfl⟩; exact h3 rfl
    have h3' : ((ds.length : Int) != (ds'.length : Int)) = true := by simp only [bne_iff_ne, ne_eq]; omega
    rw [e] at hR'
    rw [hpv, hdv] at hH hb0; rw [hpv', hdv'] at hH hb1
    rw [hpv, hpv', hdv, hdv']
    simp [k_guard, k_guardU, hH, hb0, hb1, h1', h2', h3', fin51]
    exact hR'
  have h3' : ((ds.length : Int) != (ds'.length : Int)) = false := by simp [h3]
  have hL0 := fun K0 K1 K6 K7 K8 K9 Ka Kb Kc Kd Ke Kf Kg Kh Ki Kj Kk Kl Km Kn Ko Kp Kq Kr Ks Kt Ku Kv Kw Kx Ky Kz J0 J1 J2 J3 J4 J5 J6 J7 J8 J9 Ja Jb Jc Jd Je Jf Jg Jh Ji Jj Jk Jl Jm Jn Jo Jp Jq Jr Js Jt => same_loop0 (R := R0) (k := [.code tl]) hpH hpH' hl h2 hb0 hb1
    (fun K0 K1 K5 K6 K7 K8 K9 Ka Kb Kc Kd Ke Kf Kg Kh Ki Kj Kk Kl Km Kn Ko Kp Kq Kr Ks Kt Ku Kv Kw Kx Ky Kz J0 J1 J2 J3 J4 J5 J6 J7 J8 J9 Ja Jb Jc Jd Je Jf Jg Jh Ji Jj Jk Jl Jm Jn Jo Jp Jq Jr Js Jt e1 => by
      have hL := fun K0 K1 K5 K7 K8 K9 Ka Kb Kc Kd Ke Kf Kg Kh Ki Kj Kk Kl Km Kn Ko Kp Kq Kr Ks Kt Ku Kv Kw Kx Ky Kz J0 J1 J2 J3 J4 J5 J6 J7 J8 J9 Ja Jb Jc Jd Je Jf Jg Jh Ji Jj Jk Jl Jm Jn Jo Jp Jq Jr Js Jt => same_loop1 (R := R0) (k := [.code (tlC 4 B51)]) hdH hdH' hdl h3 hb0 hb1
        (fun K0 K1 K5 K6 K7 K8 K9 Ka Kb Kc Kd Ke Kf Kg Kh Ki Kj Kk Kl Km Kn Ko Kp Kq Kr Ks Kt Ku Kv Kw Kx Ky Kz J0 J1 J2 J3 J4 J5 J6 J7 J8 J9 Ja Jb Jc Jd Je Jf Jg Jh Ji Jj Jk Jl Jm Jn Jo Jp Jq Jr Js Jt e2 => by
          have e : sameP pl pl' ps ps' ds ds' = true := by simp [sameP, h1, e1, e2]
          rw [e] at hR'
          simp only [nthC, tlC, fstC, B51]
          simp [fin51]
          exact hR')
        (fun e2 => by
          have e : sameP pl pl' ps ps' ds ds' = false := by simp [sameP, e2]
          rw [e] at hR'; exact hR') ds.length 0 K0 K1 K5 K7 K8 K9 Ka Kb Kc Kd Ke Kf Kg Kh Ki Kj Kk Kl Km Kn Ko Kp Kq Kr Ks Kt Ku Kv Kw Kx Ky Kz J0 J1 J2 J3 J4 J5 J6 J7 J8 J9 Ja Jb Jc Jd Je Jf Jg Jh Ji Jj Jk Jl Jm Jn Jo Jp Jq Jr Js Jt (by omega) rfl
      rw [← hT, show tlC 3 B51 = .seq (nthC 3 B51) (tlC 4 B51) from rfl]
      generalize tlC 4 B51 = tl4 at *
      simp only [nthC, tlC, fstC, B51]
      simp
      exact hL _ _ _ _ _ _ _ _ _ _ _ _ _ _ _ _ _ _ _ _ _ _ _ _ _ _ _ _ _ _ _ _ _ _ _ _ _ _ _ _ _ _ _ _ _ _ _ _ _ _ _ _ _ _ _ _ _ _ _ _ _ _)
    (fun e1 => by
      have e : sameP pl pl' ps ps' ds ds' = false := by simp [sameP, e1]
      rw [e] at hR'; exact hR') ps.length 0 K0 K1 K6 K7 K8 K9 Ka Kb Kc Kd Ke Kf Kg Kh Ki Kj Kk Kl Km Kn Ko Kp Kq Kr Ks Kt Ku Kv Kw Kx Ky Kz J0 J1 J2 J3 J4 J5 J6 J7 J8 J9 Ja Jb Jc Jd Je Jf Jg Jh Ji Jj Jk Jl Jm Jn Jo Jp Jq Jr Js Jt (by omega) rfl
  rw [hpv, hdv] at hH hb0; rw [hpv', hdv'] at hH hb1
  rw [hpv, hpv', hdv, hdv']
  simp [k_guard, k_guardU, hH, hb0, hb1, h1', h2', h3']
  exact hL0 _ _ _ _ _ _ _ _ _ _ _ _ _ _ _ _ _ _ _ _ _ _ _ _ _ _ _ _ _ _ _ _ _ _ _ _ _ _ _ _ _ _ _ _ _ _ _ _ _ _ _ _ _ _ _ _ _ _ _ _ _ _

/-! ### Truncate -/
set_option maxHeartbeats 1000000 in
theorem trunc_c (hp : Rk .i64 h pv ps) (hd : Rk .u8 h dv ds) (hl : ps.length < 1000000) (hdl : ds.length < 1000000000) (n : Int) :
    ∃ v h', (∀ R : Value → Heap → Prop, Ret tab 42 [.agg #[.int .i64 pl, pv, dv], .int .i64 n, m.val] h R = R (.tuple #[v, .int .i64 (truncE pl ps ds n)]) h') ∧
      (truncE pl ps ds n ≠ 0 → CI h.length h' v 0 [] []) ∧ (truncE pl ps ds n = 0 → CI h.length h' v pl (ps.take n.toNat) (truncD ps ds n.toNat)) ∧ (∀ id, id < h.length → blk? h' id = blk? h id) ∧ h.length ≤ h'.length := by
  have main : ∀ R0 : Value → Heap → Prop, (∀ v h', (truncE pl ps ds n ≠ 0 → CI h.length h' v 0 [] []) → (truncE pl ps ds n = 0 → CI h.length h' v pl (ps.take n.toNat) (truncD ps ds n.toNat)) → (∀ id, id < h.length → blk? h' id = blk? h id) → h.length ≤ h'.length → R0 (.tuple #[v, .int .i64 (truncE pl ps ds n)]) h') →
      Ret tab 42 [.agg #[.int .i64 pl, pv, dv], .int .i64 n, m.val] h R0 := by
    intro R0 hR
    generalize hH : h ++ [some (⟨false, [.int .i64 pl, pv, dv]⟩ : Blk), some ⟨false, [.bool m.byp, .bool m.res, .bool m.rst, .bool m.cz, .bool m.sy]⟩, some ⟨false, [.int .i64 0, .slice none 0 0, .slice none 0 0]⟩] = H
    have lH : H.length = h.length + 3 := by rw [← hH]; simp
    have hb0 : blk? H h.length = some ⟨false, [.int .i64 pl, pv, dv]⟩ := by rw [← hH, app_len]; rfl
    have hb1 : blk? H (h.length + 1) = some ⟨false, [.bool m.byp, .bool m.res, .bool m.rst, .bool m.cz, .bool m.sy]⟩ := by rw [← hH, app_add]; rfl
    have hb2 : blk? H (h.length + 2) = some ⟨false, [.int .i64 0, .slice none 0 0, .slice none 0 0]⟩ := by rw [← hH, app_add]; rfl
    have kH : ∀ id, id < h.length → blk? H id = blk? h id := fun id hid => by rw [← hH]; exact app_lt hid
    have hpH : Rk .i64 H pv ps := by rw [← hH]; exact hp.push _
    have hdH : Rk .u8 H dv ds := by rw [← hH]; exact hd.push _
    obtain ⟨H1, e1, k1, l1⟩ := valid_c (m := m) (pl := pl) hpH hdH hl hdl
    have hb0' : blk? H1 h.length = some ⟨false, [.int .i64 pl, pv, dv]⟩ := by rw [k1 _ (by omega)]; exact hb0
    have hb2' : blk? H1 (h.length + 2) = some ⟨false, [.int .i64 0, .slice none 0 0, .slice none 0 0]⟩ := by rw [k1 _ (by omega)]; exact hb2
    have hp1 : Rk .i64 H1 pv ps := hpH.keep l1 fun id hid _ => k1 id hid
    have hd1 : Rk .u8 H1 dv ds := hdH.keep l1 fun id hid _ => k1 id hid
    have kh1 : ∀ id, id < h.length → blk? H1 id = blk? h id := fun id hid => by rw [k1 id (by omega), kH id hid]
    simp only [MD.val] at e1
    rw [enter42, show B42 = .seq (nthC 0 B42) (.seq (nthC 1 B42) (.seq (nthC 2 B42) (tlC 3 B42))) from rfl]
    generalize hT : tlC 3 B42 = tl
    simp only [nthC, tlC, fstC, B42]
    obtain ⟨pa, pc, hpv⟩ := hp.sl.shape
    obtain ⟨da, dc, hdv⟩ := hd.sl.shape
    have lt2 := blk?_lt hb2'
    by_cases h1 : validP pl ps ds = 0
    case neg =>
      have h1' : (validP pl ps ds != 0) = true := by simpa using h1
      have e : truncE pl ps ds n = validP pl ps ds := by unfold truncE; rw [if_pos h1]
      rw [e] at hR
      simp [k_guard, k_guardU, MD.val, hH, hb0, hb1, e1, h1', hb2', blk?_set_eq lt2, finishV, R42, allSome, resV]
      exact hR _ _ (fun _ => CI.none _ _) (fun x => absurd x h1) (fun id hid => by rw [blk?_set_ne (by omega), kh1 id hid]) (by simp; omega)
    have h1' : (validP pl ps ds != 0) = false := by simpa using h1
    obtain ⟨pl0, pl1, hlen, hvg, hdl2⟩ := valid_ends h1
    by_cases h2 : n < 0
    · have e : truncE pl ps ds n = 2 := by unfold truncE; rw [if_neg (by simp [h1]), if_pos (.inl h2)]
      rw [e] at hR
      simp [k_guard, k_guardU, MD.val, hH, hb0, hb1, e1, h1', h2, hb2', blk?_set_eq lt2, finishV, R42, allSome, resV]
      exact hR _ _ (fun _ => CI.none _ _) (fun x => absurd x (by decide)) (fun id hid => by rw [blk?_set_ne (by omega), kh1 id hid]) (by simp; omega)
    obtain ⟨n, rfl⟩ := Int.eq_ofNat_of_zero_le (show 0 ≤ n by omega)
    by_cases h3 : ps.length < n
    · have e : truncE pl ps ds (n : Int) = 2 := by unfold truncE; rw [if_neg (by simp [h1]), if_pos (.inr (by omega))]
      have h3' : (ps.length : Int) < (n : Int) := by omega
      have h2' : ¬ (n : Int) < 0 := h2
      rw [e] at hR
      rw [hpv] at hH hb0 hb0' e1
      rw [hpv]
      simp [k_guard, k_guardU, MD.val, hH, hb0, hb1, e1, h1', hb0', h2', h3', hb2', blk?_set_eq lt2, finishV, R42, allSome, resV]
      exact hR _ _ (fun _ => CI.none _ _) (fun x => absurd x (by decide)) (fun id hid => by rw [blk?_set_ne (by omega), kh1 id hid]) (by simp; omega)
    have h3' : ¬ (ps.length : Int) < (n : Int) := by omega
    have e : truncE pl ps ds (n : Int) = 0 := by unfold truncE; rw [if_neg (by simp [h1]), if_neg (by omega)]
    rw [e] at hR
    simp only [ne_eq, not_true_eq_false, false_implies, forall_const, Int.toNat_natCast] at hR
    -- the passes
    obtain ⟨s1, es1, hs1⟩ := hp1.sub (l := 0) (t := n) (lo := none) (hi' := some (.int .i64 (n : Int))) (by omega) (by omega) (by simp [bndO, bnd]; omega) (by simp [bndO])
    rw [List.drop_zero] at hs1
    have hl1 : (ps.take n).length = n := by rw [List.length_take]; omega
    obtain ⟨t1, H2, a1, o1, l2, k2, g2⟩ := app_any (bytes := 8) (OwnS.nil H1 1) hs1.sl (by unfold roomCells; omega) (by omega)
    rw [Nat.zero_add, List.nil_append] at o1
    have k2' : ∀ id, id < H1.length → blk? H2 id = blk? H1 id := fun id hid => k2 id hid (by simp [sid])
    generalize hH3 : H2 ++ [some (⟨false, [.int .i64 pl, t1, .slice none 0 0]⟩ : Blk)] = H3
    have l3 : H3.length = H2.length + 1 := by rw [← hH3]; simp
    have b9 : blk? (H2 ++ [some (⟨false, [.int .i64 0, .slice none 0 0, .slice none 0 0]⟩ : Blk)]) H2.length = some ⟨false, [.int .i64 0, .slice none 0 0, .slice none 0 0]⟩ := blk?_push_eq
    have s9 : (H2 ++ [some (⟨false, [.int .i64 0, .slice none 0 0, .slice none 0 0]⟩ : Blk)]).set H2.length (some ⟨false, [.int .i64 pl, t1, .slice none 0 0]⟩) = H3 := by rw [← hH3]; simp
    have k3 : ∀ id, id < H2.length → blk? H3 id = blk? H2 id := fun id hid => by rw [← hH3]; exact blk?_push_lt hid
    have b3 : blk? H3 H2.length = some ⟨false, [.int .i64 pl, t1, .slice none 0 0]⟩ := by rw [← hH3]; exact blk?_push_eq
    have k31 : ∀ id, id < H1.length → blk? H3 id = blk? H1 id := fun id hid => by rw [k3 id (by omega), k2' id hid]
    have hb03 : blk? H3 h.length = some ⟨false, [.int .i64 pl, pv, dv]⟩ := by rw [k31 _ (by omega)]; exact hb0'
    have hb23 : blk? H3 (h.length + 2) = some ⟨false, [.int .i64 0, .slice none 0 0, .slice none 0 0]⟩ := by rw [k31 _ (by omega)]; exact hb2'
    have hb02 : blk? H2 h.length = some ⟨false, [.int .i64 pl, pv, dv]⟩ := by rw [k2' _ (by omega)]; exact hb0'
    have hp3 : Rk .i64 H3 pv ps := hp1.keep (by omega) fun id hid _ => k31 id hid
    have hd3 : Rk .u8 H3 dv ds := hd1.keep (by omega) fun id hid _ => k31 id hid
    have ht1 : Rk .i64 H3 t1 (ps.take n) := by
      refine Rk.own (o1.of_blk fun id hid hb => by rw [k3 id (by have := g2 id hid; omega)]; exact hb) ?_ (fun v hv => hp.rng v (List.mem_of_mem_take hv))
      obtain ⟨ta, tc, rfl⟩ := o1.sl.shape
      cases ta with
      | none => simp
      | some a => have := g2 a.block (by simp [sid]); simp; omega
    rw [← hT, show tlC 3 B42 = .seq (nthC 3 B42) (.seq (nthC 4 B42) (tlC 5 B42)) from rfl]
    generalize hT5 : tlC 5 B42 = tl5
    simp only [nthC, tlC, fstC, B42]
    have h2' : ¬ (n : Int) < 0 := h2
    obtain ⟨ta, tc, ht1s⟩ := o1.sl.shape
    rw [hl1] at ht1s
    -- the end
    have fin : ∀ (H5 : Heap) (dv5 : Value) (ds5 : List Int) (K0 K1 K2 K3 K4 K5 K8 Ka Kb Kc Kd Ke Kf Kg Kh Ki Kj Kk Kl Km Kn Ko Kp Kq Kr Ks Kt Ku Kv Kw Kx Ky Kz J0 J1 J2 J3 J4 J5 J6 J7 J8 J9 Ja Jb Jc Jd Je : Value), blk? H5 H2.length = some ⟨false, [.int .i64 pl, t1, dv5]⟩ → Rk .u8 H5 dv5 ds5 → (∀ id, sid dv5 = some id → H3.length ≤ id) → (∀ id, id < H3.length → id ≠ H2.length → blk? H5 id = blk? H3 id) → H3.length ≤ H5.length → ds5 = truncD ps ds n →
        Ok tab R42 [.code tl5] #[K0,K1,K2,K3,K4,K5,ptr (h.length + 2),.int .i64 0,K8,ptr H2.length,Ka,Kb,Kc,Kd,Ke,Kf,Kg,Kh,Ki,Kj,Kk,Kl,Km,Kn,Ko,Kp,Kq,Kr,Ks,Kt,Ku,Kv,Kw,Kx,Ky,Kz,J0,J1,J2,J3,J4,J5,J6,J7,J8,J9,Ja,Jb,Jc,Jd,Je] H5 R0 := by
      intro H5 dv5 ds5 K0 K1 K2 K3 K4 K5 K8 Ka Kb Kc Kd Ke Kf Kg Kh Ki Kj Kk Kl Km Kn Ko Kp Kq Kr Ks Kt Ku Kv Kw Kx Ky Kz J0 J1 J2 J3 J4 J5 J6 J7 J8 J9 Ja Jb Jc Jd Je b5 r5 g5 k5 l5 e5
      subst e5
      have b25 : blk? H5 (h.length + 2) = some ⟨false, [.int .i64 0, .slice none 0 0, .slice none 0 0]⟩ := by rw [k5 _ (by omega) (by omega)]; exact hb23
      have lt5 := blk?_lt b25
      have ne5 : ∀ x, blk? (H5.set (h.length + 2) x) (h.length + 2) = x := fun x => blk?_set_eq lt5
      rw [← hT5]
      simp only [nthC, tlC, fstC, B42]
      simp [b5, b25, ne5, finishV, R42, allSome, resV]
      refine hR _ _ ⟨⟨t1, dv5, rfl, ht1.keep (by simp; omega) fun id hid hs => ?_, r5.keep (by simp) fun id hid hs => ?_, fun id hid => by have := g2 id hid; omega, fun id hid => by have := g5 id hid; omega⟩⟩ (fun id hid => ?_) (by simp; omega)
      · have := g2 id hs
        rw [blk?_set_ne (by omega), k5 id hid (by omega)]
      · have := g5 id hs
        rw [blk?_set_ne (by omega)]
      · rw [blk?_set_ne (by omega), k5 id (by omega) (by omega), k31 id (by omega), kh1 id hid]
    by_cases h4 : n = 0
    · subst h4
      have fin' := fun K0 K1 K2 K3 K4 K5 K8 Ka Kb Kc Kd Ke Kf Kg Kh Ki Kj Kk Kl Km Kn Ko Kp Kq Kr Ks Kt Ku Kv Kw Kx Ky Kz J0 J1 J2 J3 J4 J5 J6 J7 J8 J9 Ja Jb Jc Jd Je => fin H3 (.slice none 0 0) [] K0 K1 K2 K3 K4 K5 K8 Ka Kb Kc Kd Ke Kf Kg Kh Ki Kj Kk Kl Km Kn Ko Kp Kq Kr Ks Kt Ku Kv Kw Kx Ky Kz J0 J1 J2 J3 J4 J5 J6 J7 J8 J9 Ja Jb Jc Jd Je b3 (Rk.none _ _) (fun id hid => by simp [sid] at hid) (fun _ _ _ => rfl) (Nat.le_refl _) (by simp [truncD])
      simp only [Int.cast_ofNat_Int] at es1 h3'
      rw [hpv] at hH hb0 hb0' hb02 e1 es1
      rw [ht1s] at a1 hH3 b3
      rw [hpv]
      simp [book, bookU, logOf, addLog, chk1, lookL, reload, k_guard, k_guardU, MD.val, hH, hb0, hb1, e1, h1', hb0', hb02, h2', h3', es1, a1, b9, hH3]
      exact fin' _ _ _ _ _ _ _ _ _ _ _ _ _ _ _ _ _ _ _ _ _ _ _ _ _ _ _ _ _ _ _ _ _ _ _ _ _ _ _ _ _ _ _ _ _ _ _ _
    -- the bytes
    have h4' : (0 : Int) < (n : Int) := by omega
    have hn1 : n - 1 < ps.length := by omega
    obtain ⟨q1, q2⟩ := vgo_get ps 0 _ hvg (n - 1) hn1
    obtain ⟨z, hz⟩ := Int.eq_ofNat_of_zero_le q1
    have hzl : z ≤ ds.length := by omega
    have hgd : ps.getD (n - 1) 0 = ps[n - 1] := by simp [hn1]
    rw [hgd] at hz
    obtain ⟨id, off, b, hpv3, hbk, hc⟩ := hp3.get hn1
    rw [hz] at hc
    obtain ⟨s2, es2, hs2⟩ := hd3.sub (l := 0) (t := z) (lo := none) (hi' := some (.int .i64 (z : Int))) (by omega) hzl (by simp [bndO, bnd]; omega) (by simp [bndO])
    rw [List.drop_zero] at hs2
    have hl2 : (ds.take z).length = z := by rw [List.length_take]; omega
    obtain ⟨t2, H4, a2, o2, l4, k4, g4⟩ := app_any (bytes := 1) (OwnS.nil H3 1) hs2.sl (by unfold roomCells; omega) (by omega)
    rw [Nat.zero_add, List.nil_append] at o2
    have k4' : ∀ id, id < H3.length → blk? H4 id = blk? H3 id := fun id hid => k4 id hid (by simp [sid])
    have b4 : blk? H4 H2.length = some ⟨false, [.int .i64 pl, t1, .slice none 0 0]⟩ := by rw [k4' _ (by omega)]; exact b3
    have lt4 := blk?_lt b4
    have ht2 : Rk .u8 (H4.set H2.length (some ⟨false, [.int .i64 pl, t1, t2]⟩)) t2 (ds.take z) := by
      refine Rk.own (o2.of_blk fun id hid hb => by rw [blk?_set_ne (by have := g4 id hid; omega)]; exact hb) ?_ (fun v hv => hd.rng v (List.mem_of_mem_take hv))
      obtain ⟨ta, tc, rfl⟩ := o2.sl.shape
      cases ta with
      | none => simp
      | some a => have := g4 a.block (by simp [sid]); simp; omega
    have fin' := fun K0 K1 K2 K3 K4 K5 K8 Ka Kb Kc Kd Ke Kf Kg Kh Ki Kj Kk Kl Km Kn Ko Kp Kq Kr Ks Kt Ku Kv Kw Kx Ky Kz J0 J1 J2 J3 J4 J5 J6 J7 J8 J9 Ja Jb Jc Jd Je => fin (H4.set H2.length (some ⟨false, [.int .i64 pl, t1, t2]⟩)) t2 (ds.take z) K0 K1 K2 K3 K4 K5 K8 Ka Kb Kc Kd Ke Kf Kg Kh Ki Kj Kk Kl Km Kn Ko Kp Kq Kr Ks Kt Ku Kv Kw Kx Ky Kz J0 J1 J2 J3 J4 J5 J6 J7 J8 J9 Ja Jb Jc Jd Je (blk?_set_eq lt4) ht2 (fun id hid => (g4 id hid).1) (fun id h1 h2 => by rw [blk?_set_ne (Ne.symm h2), k4' id h1]) (by simp; omega)
      (by unfold truncD; rw [if_pos (by omega), hgd, hz, Int.toNat_natCast])
    have hw : IntKind.i64.wrap ((n : Int) - 1) = ((n - 1 : Nat) : Int) := by rw [wrapI (by omega) (by omega)]; omega
    have hlt1 : ((n - 1 : Nat) : Int) < (ps.length : Int) := by omega
    have htn : (((n - 1 : Nat) : Int)).toNat = n - 1 := Int.toNat_natCast _
    have hge1 : (0 : Int) ≤ ((n - 1 : Nat) : Int) := by omega
    generalize hnn : ((n - 1 : Nat) : Int) = nn at *
    obtain ⟨ta2, tc2, ht2s⟩ := o2.sl.shape
    rw [hpv3] at hH hb0 hb0' hb02 e1 es1 hb03
    rw [ht1s] at a1 hH3 b3 b4 fin'
    rw [hl2] at ht2s
    have h4'' : 0 < n := by omega
    rw [ht2s] at a2 fin'
    rw [hpv3]
    simp [book, bookU, logOf, addLog, chk1, lookL, reload, k_guard, k_guardU, MD.val, hH, hb0, hb1, e1, h1', hb0', hb02, h2', h3', es1, a1, b9, hH3, h4', h4'', b3, hb03, hw, hlt1, hge1, htn, hbk, hc, es2, a2, b4]
    exact fin' _ _ _ _ _ _ _ _ _ _ _ _ _ _ _ _ _ _ _ _ _ _ _ _ _ _ _ _ _ _ _ _ _ _ _ _ _ _ _ _ _ _ _ _ _ _ _ _
  obtain ⟨v, h', e, w, rfl, a, b, c, d⟩ := ret_ex (main (fun v h' => ∃ w, v = .tuple #[w, .int .i64 (truncE pl ps ds n)] ∧ (truncE pl ps ds n ≠ 0 → CI h.length h' w 0 [] []) ∧ (truncE pl ps ds n = 0 → CI h.length h' w pl (ps.take n.toNat) (truncD ps ds n.toNat)) ∧ (∀ id, id < h.length → blk? h' id = blk? h id) ∧ h.length ≤ h'.length) fun v h' a b c d => ⟨v, rfl, a, b, c, d⟩)
  exact ⟨w, h', e, a, b, c, d⟩
end
set_option maxRecDepth 10000

deriving instance DecidableEq for Cd
def mdz : MD := ⟨false, false, false, false, false⟩
theorem ex1 : encRes [0] 1 1 0 mdz = (0, ⟨0, [], []⟩) := by decide +kernel
theorem ex2 : encRes [1] 1 1 0 mdz = (0, ⟨1, [1], [128]⟩) := by decide +kernel
theorem ex3 : encRes [-1] 1 1 3 mdz = (0, ⟨1, [1], [192]⟩) := by decide +kernel

theorem Sl.lit1 {h : Heap} {id : Nat} {v : Value} (hb : blk? h id = some ⟨false, [v]⟩) : Sl h 1 (.slice (some ⟨id, 0, none⟩) 1 1) 1 [v] := ⟨rfl, .inr ⟨id, 0, rfl, .inr ⟨_, hb, by simp, by simp⟩⟩⟩
theorem Ints.lit1 {h : Heap} {id : Nat} {v : Int} (hb : blk? h id = some ⟨false, [.int .i64 v]⟩) (hv : -9223372036854775808 ≤ v ∧ v < 9223372036854775808) : Ints h (.slice (some ⟨id, 0, none⟩) 1 1) [v] := by
  refine ⟨Sl.lit1 hb, by simp; exact blk?_lt hb, fun j b hj hb' n => ?_, fun w hw => by simp at hw; subst hw; exact hv⟩
  simp [sid] at hj; subst hj
  rw [hb] at hb'; injection hb' with hb'; subst hb'
  simp [belowL]
theorem Rk.ofI {h : Heap} {s : Value} {xs : List Nat} (ho : OwnS h 1 s xs.length (nI xs)) (hx : ∀ v ∈ xs, v < 9223372036854775808) : Rk .i64 h s (xs.map Int.ofNat) := by
  refine Rk.own (by rw [List.length_map]; simpa [kis, nI, Function.comp_def] using ho) ?_ (fun v hv => ?_)
  · obtain ⟨a, c, rfl⟩ := ho.sl.shape
    cases a with
    | none => simp
    | some a => have := ho.lt (id := a.block) (by simp [sid]); simp; omega
  · obtain ⟨w, hw, rfl⟩ := List.mem_map.1 hv
    have := hx w hw
    simp [Lit.wf, IntKind.min, IntKind.max, IntKind.signed, IntKind.bits]; omega
theorem Rk.ofU {h : Heap} {s : Value} {xs : List Nat} (ho : OwnS h 1 s xs.length (nU xs)) (hx : ∀ v ∈ xs, v < 256) : Rk .u8 h s (xs.map Int.ofNat) := by
  refine Rk.own (by rw [List.length_map]; simpa [kis, nU, Function.comp_def] using ho) ?_ (fun v hv => ?_)
  · obtain ⟨a, c, rfl⟩ := ho.sl.shape
    cases a with
    | none => simp
    | some a => have := ho.lt (id := a.block) (by simp [sid]); simp; omega
  · obtain ⟨w, hw, rfl⟩ := List.mem_map.1 hv
    have := hx w hw
    simp [Lit.wf, IntKind.min, IntKind.max, IntKind.signed, IntKind.bits]; omega
theorem CdV.ci {B : Nat} {h : Heap} {v : Value} {r : Cd} (c : CdV B h v r) (h1 : ∀ v ∈ r.ps, v < 9223372036854775808) (h2 : ∀ v ∈ r.ds, v < 256) : CI B h v r.pl (r.ps.map Int.ofNat) (r.ds.map Int.ofNat) := by
  obtain ⟨pv, dv, e, a, b, p, q⟩ := c.ex
  exact ⟨⟨pv, dv, e, Rk.ofI a h1, Rk.ofU b h2, fun id hid => (p id hid).1, q⟩⟩

section
variable {h : Heap} {R : Value → Heap → Prop} {k : List RItem}
theorem enc1 {v o : Int} {r : Cd} (hv : -9223372036854775808 ≤ v ∧ v < 9223372036854775808) (hr : encRes [v] 1 1 o mdz = (0, r)) (h1 : ∀ v ∈ r.ps, v < 9223372036854775808) (h2 : ∀ v ∈ r.ds, v < 256) :
    ∃ w h', (∀ R : Value → Heap → Prop, Ret tab 52 [.slice (some ⟨h.length, 0, none⟩) 1 1, .int .i64 1, .int .i64 1, .int .i64 o, .agg #[.bool false, .bool false, .bool false, .bool false, .bool false]] (h ++ [some ⟨false, [.int .i64 v]⟩]) R = R (.tuple #[w, .int .i64 0]) h') ∧
      CI (h.length + 1) h' w r.pl (r.ps.map Int.ofNat) (r.ds.map Int.ofNat) ∧ (∀ id, id < h.length → blk? h' id = blk? h id) ∧ h.length < h'.length := by
  obtain ⟨w, h', e, c, lo, le⟩ := encode_c (Ints.lit1 (h := h ++ [some ⟨false, [.int .i64 v]⟩]) (v := v) blk?_push_eq hv) (by simp) 1 1 o mdz (symRes_tot (by simp))
  rw [hr] at e c
  have hl : (h ++ [some (⟨false, [.int .i64 v]⟩ : Blk)]).length = h.length + 1 := by simp
  rw [hl] at c lo le
  exact ⟨w, h', e, c.ci h1 h2, fun id hid => by rw [lo id (by omega), blk?_push_lt hid], by omega⟩

set_option maxHeartbeats 2000000 in
theorem awake_c : Gives 47 [] h (.bool true) := by
  refine Gives.mk fun R0 hR => ?_
  obtain ⟨v1, H1, e1, c1, k1, l1⟩ := enc1 (h := h) (v := 0) (o := 0) (by omega) ex1 (by simp) (by simp)
  obtain ⟨p1, d1, rfl, P1, D1, _, _⟩ := c1.ex
  obtain ⟨pa1, pc1, hp1⟩ := P1.sl.shape
  obtain ⟨da1, dc1, hd1⟩ := D1.sl.shape
  generalize hA : H1 ++ [some (⟨false, [.int .i64 0, p1, d1]⟩ : Blk)] = A
  have lA : A.length = H1.length + 1 := by rw [← hA]; simp
  have bA : blk? A H1.length = some ⟨false, [.int .i64 0, p1, d1]⟩ := by rw [← hA]; exact blk?_push_eq
  have kA : ∀ id, id < H1.length → blk? A id = blk? H1 id := fun id hid => by rw [← hA]; exact blk?_push_lt hid
  obtain ⟨v2, H2, e2, c2, k2, l2⟩ := enc1 (h := A) (v := 1) (o := 0) (by omega) ex2 (by simp) (by simp)
  obtain ⟨p2, d2, rfl, P2, D2, _, _⟩ := c2.ex
  generalize hB : H2 ++ [some (⟨false, [.int .i64 1, p2, d2]⟩ : Blk)] = Bh
  have lB : Bh.length = H2.length + 1 := by rw [← hB]; simp
  have bB : blk? Bh H2.length = some ⟨false, [.int .i64 1, p2, d2]⟩ := by rw [← hB]; exact blk?_push_eq
  have kB : ∀ id, id < H2.length → blk? Bh id = blk? H2 id := fun id hid => by rw [← hB]; exact blk?_push_lt hid
  obtain ⟨v3, H3, e3, c3, k3, l3⟩ := enc1 (h := Bh) (v := -1) (o := 3) (by omega) ex3 (by simp) (by simp)
  obtain ⟨p3, d3, rfl, P3, D3, _, _⟩ := c3.ex
  generalize hC : H3 ++ [some (⟨false, [.int .i64 1, p3, d3]⟩ : Blk)] = C
  have lC : C.length = H3.length + 1 := by rw [← hC]; simp
  have bC : blk? C H3.length = some ⟨false, [.int .i64 1, p3, d3]⟩ := by rw [← hC]; exact blk?_push_eq
  have kC : ∀ id, id < H3.length → blk? C id = blk? H3 id := fun id hid => by rw [← hC]; exact blk?_push_lt hid
  have kBC : ∀ id, id < Bh.length → blk? C id = blk? Bh id := fun id hid => by rw [kC id (by omega), k3 id hid]
  have kAC : ∀ id, id < A.length → blk? C id = blk? A id := fun id hid => by rw [kBC id (by omega), kB id (by omega), k2 id hid]
  have khC : ∀ id, id < h.length → blk? C id = blk? h id := fun id hid => by rw [kAC id (by omega), kA id (by omega), k1 id hid]
  have b1C : blk? C H1.length = some ⟨false, [.int .i64 0, p1, d1]⟩ := by rw [kAC _ (by omega)]; exact bA
  have b2C : blk? C H2.length = some ⟨false, [.int .i64 1, p2, d2]⟩ := by rw [kBC _ (by omega)]; exact bB
  have P2C : Rk .i64 C p2 [1] := P2.keep (by omega) fun id hid _ => by rw [kBC id (by omega), kB id hid]
  have D2C : Rk .u8 C d2 [128] := D2.keep (by omega) fun id hid _ => by rw [kBC id (by omega), kB id hid]
  have D3C : Rk .u8 C d3 [192] := D3.keep (by omega) fun id hid _ => kC id hid
  -- truncated
  have ht : truncE 1 [1] [128] 0 = 0 := by decide
  obtain ⟨v4, H4, e4, _, c4, k4, l4⟩ := trunc_c (m := mdz) (pl := 1) P2C D2C (by simp) (by simp) 0
  rw [ht] at e4 c4
  obtain ⟨p4, d4, rfl, P4, D4, _, _⟩ := (c4 rfl).ex
  generalize hD : H4 ++ [some (⟨false, [.int .i64 1, p4, d4]⟩ : Blk)] = D
  have lD : D.length = H4.length + 1 := by rw [← hD]; simp
  have bD : blk? D H4.length = some ⟨false, [.int .i64 1, p4, d4]⟩ := by rw [← hD]; exact blk?_push_eq
  have kD : ∀ id, id < H4.length → blk? D id = blk? H4 id := fun id hid => by rw [← hD]; exact blk?_push_lt hid
  have kCD : ∀ id, id < C.length → blk? D id = blk? C id := fun id hid => by rw [kD id (by omega), k4 id hid]
  have b1D : blk? D H1.length = some ⟨false, [.int .i64 0, p1, d1]⟩ := by rw [kCD _ (by omega)]; exact b1C
  have b2D : blk? D H2.length = some ⟨false, [.int .i64 1, p2, d2]⟩ := by rw [kCD _ (by omega)]; exact b2C
  have b3D : blk? D H3.length = some ⟨false, [.int .i64 1, p3, d3]⟩ := by rw [kCD _ (by omega)]; exact bC
  have P2D : Rk .i64 D p2 [1] := P2C.keep (by omega) fun id hid _ => kCD id hid
  have D2D : Rk .u8 D d2 [128] := D2C.keep (by omega) fun id hid _ => kCD id hid
  have D3D : Rk .u8 D d3 [192] := D3C.keep (by omega) fun id hid _ => kCD id hid
  obtain ⟨i2, o2, q2, hp2, g2, n2⟩ := P2D.get (i := 0) (by simp)
  obtain ⟨i3, o3, q3, hd2, g3, n3⟩ := D2D.get (i := 0) (by simp)
  obtain ⟨i4, o4, q4, hd3, g4, n4⟩ := D3D.get (i := 0) (by simp)
  obtain ⟨pa4, pc4, hp4⟩ := P4.sl.shape
  obtain ⟨da4, dc4, hd4⟩ := D4.sl.shape
  obtain ⟨pa3, pc3, hp3⟩ := P3.sl.shape
  have hv : validP 1 [1] [128] = 0 := by decide
  obtain ⟨H5, e5, k5, l5⟩ := valid_c (m := mdz) (pl := 1) P2D D2D (by simp) (by simp)
  rw [hv] at e5
  have hR' := hR H5 (fun id hid => by rw [k5 id (by omega), kCD id (by omega), khC id hid]) (by omega)
  simp only [List.map_nil, List.map_cons, List.length_nil, List.length_cons, Nat.zero_add, List.getElem_cons_zero, Nat.add_zero, Int.toNat_zero, List.take_zero, truncD, Nat.lt_irrefl, if_false, Int.ofNat_eq_natCast, Int.cast_ofNat_Int] at hp1 hd1 hp2 hd2 hp3 hd3 hp4 hd4 n2 n3 n4
  simp only [MD.val, mdz, Int.cast_ofNat_Int] at e1 e2 e3 e4 e5
  rw [hp1, hd1] at e1 hA b1C b1D
  rw [hp2, hd2] at e2 hB b2C b2D e4 e5
  rw [hp3, hd3] at e3 hC bC b3D
  rw [hp4, hd4] at e4 hD bD
  rw [enter47, show B47 = .seq (nthC 0 B47) (.seq (nthC 1 B47) (.seq (nthC 2 B47) (.seq (nthC 3 B47) (tlC 4 B47)))) from rfl]
  generalize hT : tlC 4 B47 = tl
  simp only [nthC, tlC, fstC, B47]
  simp [repL, blk?_push_eq, e1, hA, e2, hB, e3, hC]
  rw [← hT, show tlC 4 B47 = .seq (nthC 4 B47) (.seq (nthC 5 B47) (tlC 6 B47)) from rfl]
  generalize hT : tlC 6 B47 = tl
  simp only [nthC, tlC, fstC, B47]
  simp [k_guard, k_guardU, blk?_push_eq, b1C, b2C, bC, e4, hD]
  rw [← hT]
  simp only [nthC, tlC, fstC, B47]
  simp [k_guard, k_guardU, b1D, b2D, b3D, bD, g2, g3, g4, n2, n3, n4, e5, fin47]
  exact hR'
end
set_option maxRecDepth 10000

/-! ### Truncated blocks, plain -/
def zEnd (ps : List Int) : Nat → Nat
  | 0 => 0
  | a + 1 => (ps.getD a 0).toNat
theorem truncD_eq (ps ds : List Int) (a : Nat) : truncD ps ds a = ds.take (zEnd ps a) := by
  cases a with
  | zero => simp [truncD, zEnd]
  | succ a => simp [truncD, zEnd]
theorem vgo_take : ∀ (ps : List Int) (l r : Int), vgo ps l = some r → ∀ a, a ≤ ps.length → vgo (ps.take a) l = some (if a = 0 then l else ps.getD (a - 1) 0)
  | ps, l, r, hv, 0, _ => by simp [vgo]
  | [], l, r, hv, a + 1, h => by simp at h
  | x :: xs, l, r, hv, a + 1, h => by
    unfold vgo at hv
    split at hv
    · cases hv
    · rename_i hx
      have := vgo_take xs x r hv a (by simpa using h)
      rw [List.take_succ_cons, vgo, if_neg hx, this]
      cases a with
      | zero => simp
      | succ a => simp
theorem vgo_last : ∀ (ps : List Int) (l r : Int), vgo ps l = some r → r = if ps.length = 0 then l else ps.getD (ps.length - 1) 0 := fun ps l r h => by
  have := vgo_take ps l r h ps.length (Nat.le_refl _)
  rw [List.take_of_length_le (Nat.le_refl _), h] at this
  injection this
section
variable {pl : Int} {ps ds : List Int} {a b : Nat}
theorem zEnd_le (hv : validP pl ps ds = 0) (ha : a ≤ ps.length) : zEnd ps a ≤ ds.length := by
  obtain ⟨_, _, _, hg, _⟩ := valid_ends hv
  cases a with
  | zero => simp [zEnd]
  | succ a => have := vgo_get ps 0 _ hg a (by omega); simp only [zEnd]; omega
theorem zEnd_mono (hv : validP pl ps ds = 0) (ha : a ≤ ps.length) (hb : b ≤ a) : zEnd ps b ≤ zEnd ps a := by
  obtain ⟨_, _, _, hg, _⟩ := valid_ends hv
  cases b with
  | zero => simp [zEnd]
  | succ b =>
    cases a with
    | zero => omega
    | succ a =>
      have h1 := vgo_take ps 0 _ hg (a + 1) ha
      rw [if_neg (by omega)] at h1
      have h2 := vgo_get _ 0 _ h1 b (by rw [List.length_take]; omega)
      have e : (ps.take (a + 1)).getD b 0 = ps.getD b 0 := by rw [List.getD_eq_getElem?_getD, List.getD_eq_getElem?_getD, List.getElem?_take, if_pos (by omega)]
      rw [e] at h2
      simp only [zEnd, Nat.add_sub_cancel] at h2 ⊢; omega
theorem zEnd_take (hb : b ≤ a) : zEnd (ps.take a) b = zEnd ps b := by
  cases b with
  | zero => rfl
  | succ b =>
    simp only [zEnd]
    rw [List.getD_eq_getElem?_getD, List.getD_eq_getElem?_getD, List.getElem?_take, if_pos (by omega)]
theorem cut_valid (hv : validP pl ps ds = 0) (ha : a ≤ ps.length) : validP pl (ps.take a) (truncD ps ds a) = 0 := by
  obtain ⟨h1, h2, h3, hg, h5⟩ := valid_ends hv
  have hz := zEnd_le hv ha
  have ht := vgo_take ps 0 _ hg a ha
  have hl : (truncD ps ds a).length = zEnd ps a := by rw [truncD_eq, List.length_take]; omega
  have e : (if a = 0 then (0 : Int) else ps.getD (a - 1) 0) = (zEnd ps a : Int) := by
    cases a with
    | zero => simp [zEnd]
    | succ a => have := vgo_get ps 0 _ hg a (by omega); simp only [zEnd, Nat.add_sub_cancel, Nat.succ_ne_zero, if_false]; omega
  rw [e] at ht
  unfold validP
  rw [if_neg (by omega), if_neg (by rw [List.length_take]; omega), ht]
  simp only [hl]
  rw [if_neg (by simp), if_neg (by omega)]
theorem cut_cut (hv : validP pl ps ds = 0) (ha : a ≤ ps.length) (hb : b ≤ a) : (ps.take a).take b = ps.take b ∧ truncD (ps.take a) (truncD ps ds a) b = truncD ps ds b := by
  refine ⟨by rw [List.take_take, Nat.min_eq_left hb], ?_⟩
  rw [truncD_eq, truncD_eq, truncD_eq, zEnd_take hb, List.take_take, Nat.min_eq_left (zEnd_mono hv ha hb)]
theorem cut_all (hv : validP pl ps ds = 0) : ps.take ps.length = ps ∧ truncD ps ds ps.length = ds := by
  refine ⟨List.take_of_length_le (Nat.le_refl _), ?_⟩
  obtain ⟨h1, h2, h3, hg, h5⟩ := valid_ends hv
  have hl := vgo_last ps 0 _ hg
  rw [truncD_eq]
  refine List.take_of_length_le ?_
  revert hl
  cases ps.length with
  | zero => intro hl; simp at hl; simp [zEnd, hl]
  | succ n => intro hl; simp at hl; simp only [zEnd, List.getD_eq_getElem?_getD]; omega
end

section
variable {h : Heap} {R : Value → Heap → Prop} {k : List RItem} {pv dv : Value} {pl : Int} {ps ds : List Int} {x1 x2 x3 x4 x5 : Bool}
theorem ret_validates (hp : Rk .i64 h pv ps) (hd : Rk .u8 h dv ds) : Ret tab 10 [.agg #[.int .i64 pl, pv, dv], .agg #[.bool x1, .bool x2, .bool x3, .bool x4, .bool x5]] h fun v _ => v = .bool true := by
  obtain ⟨pa, pc, hpv⟩ := hp.sl.shape
  obtain ⟨da, dc, hdv⟩ := hd.sl.shape
  generalize hH : h ++ [some (⟨false, [.int .i64 pl, pv, dv]⟩ : Blk), some ⟨false, [.bool x1, .bool x2, .bool x3, .bool x4, .bool x5]⟩] = H
  have b0 : blk? H h.length = some ⟨false, [.int .i64 pl, pv, dv]⟩ := by rw [← hH, app_len]; rfl
  have b1 : blk? H (h.length + 1) = some ⟨false, [.bool x1, .bool x2, .bool x3, .bool x4, .bool x5]⟩ := by rw [← hH, app_add]; rfl
  have lH : H.length = h.length + 2 := by rw [← hH]; simp
  have hpH : Rk .i64 H pv ps := by rw [← hH]; exact hp.push _
  have hdH : Rk .u8 H dv ds := by rw [← hH]; exact hd.push _
  obtain ⟨H1, e1, k1, l1⟩ := few_c (pl := pl) hpH hdH
  rw [enter10, B10]
  by_cases hf : ps.length ≤ 300 ∧ ds.length ≤ 20000
  case neg =>
    obtain ⟨H2, e2, k2, l2⟩ := awake_c (h := H1)
    rw [decide_eq_false hf] at e1
    rw [hpv, hdv] at hH b0 e1
    rw [hpv, hdv]
    simp [book, bookU, logOf, addLog, chk1, lookL, reload, hH, b0, b1, e1, e2, fin10]
  rw [decide_eq_true hf] at e1
  have b01 : blk? H1 h.length = some ⟨false, [.int .i64 pl, pv, dv]⟩ := by rw [k1 _ (by omega)]; exact b0
  have b11 : blk? H1 (h.length + 1) = some ⟨false, [.bool x1, .bool x2, .bool x3, .bool x4, .bool x5]⟩ := by rw [k1 _ (by omega)]; exact b1
  have hp1 : Rk .i64 H1 pv ps := hpH.keep l1 fun id hid _ => k1 id hid
  have hd1 : Rk .u8 H1 dv ds := hdH.keep l1 fun id hid _ => k1 id hid
  obtain ⟨H2, e2, k2, l2⟩ := valid_c (m := ⟨x1, x2, x3, x4, x5⟩) (pl := pl) hp1 hd1 (by omega) (by omega)
  have b02 : blk? H2 h.length = some ⟨false, [.int .i64 pl, pv, dv]⟩ := by rw [k2 _ (by omega)]; exact b01
  have b12 : blk? H2 (h.length + 1) = some ⟨false, [.bool x1, .bool x2, .bool x3, .bool x4, .bool x5]⟩ := by rw [k2 _ (by omega)]; exact b11
  have hp2 : Rk .i64 H2 pv ps := hp1.keep l2 fun id hid _ => k2 id hid
  have hd2 : Rk .u8 H2 dv ds := hd1.keep l2 fun id hid _ => k2 id hid
  obtain ⟨H3, e3, k3, l3⟩ := valid_r (m := ⟨x1, x2, x3, x4, x5⟩) (pl := pl) hp2 hd2 (by omega) (by omega)
  obtain ⟨H4, e4, k4, l4⟩ := awake_c (h := H3)
  simp only [MD.val] at e2 e3
  rw [hpv, hdv] at hH b0 e1 b01 b02 e2 e3
  rw [hpv, hdv]
  simp [book, bookU, logOf, addLog, chk1, lookL, reload, k_guard, k_guardP, k_guardU, hH, b0, b1, e1, b01, b11, e2, b02, b12, e3, e4, fin10]
end
set_option maxRecDepth 10000

section
variable {h : Heap} {R : Value → Heap → Prop} {k : List RItem} {pv dv : Value} {pl : Int} {ps ds : List Int} {m : MD} {x1 x2 x3 x4 x5 : Bool}

theorem own_empty (h : Heap) : OwnS (h ++ [some ⟨false, []⟩]) 1 (.slice (some ⟨h.length, 0, none⟩) 0 1) 0 [] := ⟨rfl, .inr ⟨h.length, rfl, blk?_push_eq⟩⟩

set_option maxHeartbeats 1000000 in
theorem trunc_r (hp : Rk .i64 h pv ps) (hd : Rk .u8 h dv ds) (hl : ps.length < 1000000) (hdl : ds.length < 1000000000) (n : Int) :
    ∃ v h', (∀ R : Value → Heap → Prop, Ret tab 50 [.agg #[.int .i64 pl, pv, dv], .int .i64 n, m.val] h R = R (.tuple #[v, .int .i64 (truncE pl ps ds n)]) h') ∧
      (truncE pl ps ds n ≠ 0 → CI h.length h' v 0 [] []) ∧ (truncE pl ps ds n = 0 → CI h.length h' v pl (ps.take n.toNat) (truncD ps ds n.toNat)) ∧ (∀ id, id < h.length → blk? h' id = blk? h id) ∧ h.length ≤ h'.length := by
  have main : ∀ R0 : Value → Heap → Prop, (∀ v h', (truncE pl ps ds n ≠ 0 → CI h.length h' v 0 [] []) → (truncE pl ps ds n = 0 → CI h.length h' v pl (ps.take n.toNat) (truncD ps ds n.toNat)) → (∀ id, id < h.length → blk? h' id = blk? h id) → h.length ≤ h'.length → R0 (.tuple #[v, .int .i64 (truncE pl ps ds n)]) h') →
      Ret tab 50 [.agg #[.int .i64 pl, pv, dv], .int .i64 n, m.val] h R0 := by
    intro R0 hR
    generalize hH : h ++ [some (⟨false, [.int .i64 pl, pv, dv]⟩ : Blk), some ⟨false, [.bool m.byp, .bool m.res, .bool m.rst, .bool m.cz, .bool m.sy]⟩, some ⟨false, [.int .i64 0, .slice none 0 0, .slice none 0 0]⟩] = H
    have lH : H.length = h.length + 3 := by rw [← hH]; simp
    have hb0 : blk? H h.length = some ⟨false, [.int .i64 pl, pv, dv]⟩ := by rw [← hH, app_len]; rfl
    have hb1 : blk? H (h.length + 1) = some ⟨false, [.bool m.byp, .bool m.res, .bool m.rst, .bool m.cz, .bool m.sy]⟩ := by rw [← hH, app_add]; rfl
    have hb2 : blk? H (h.length + 2) = some ⟨false, [.int .i64 0, .slice none 0 0, .slice none 0 0]⟩ := by rw [← hH, app_add]; rfl
    have kH : ∀ id, id < h.length → blk? H id = blk? h id := fun id hid => by rw [← hH]; exact app_lt hid
    have hpH : Rk .i64 H pv ps := by rw [← hH]; exact hp.push _
    have hdH : Rk .u8 H dv ds := by rw [← hH]; exact hd.push _
    obtain ⟨H1, e1, k1, l1⟩ := valid_r (m := m) (pl := pl) hpH hdH hl hdl
    have hb0' : blk? H1 h.length = some ⟨false, [.int .i64 pl, pv, dv]⟩ := by rw [k1 _ (by omega)]; exact hb0
    have hb2' : blk? H1 (h.length + 2) = some ⟨false, [.int .i64 0, .slice none 0 0, .slice none 0 0]⟩ := by rw [k1 _ (by omega)]; exact hb2
    have hp1 : Rk .i64 H1 pv ps := hpH.keep l1 fun id hid _ => k1 id hid
    have hd1 : Rk .u8 H1 dv ds := hdH.keep l1 fun id hid _ => k1 id hid
    have kh1 : ∀ id, id < h.length → blk? H1 id = blk? h id := fun id hid => by rw [k1 id (by omega), kH id hid]
    simp only [MD.val] at e1
    rw [enter50, show B50 = .seq (nthC 0 B50) (.seq (nthC 1 B50) (.seq (nthC 2 B50) (.seq (nthC 3 B50) (tlC 4 B50)))) from rfl]
    generalize hT : tlC 4 B50 = tl
    simp only [nthC, tlC, fstC, B50]
    obtain ⟨pa, pc, hpv⟩ := hp.sl.shape
    obtain ⟨da, dc, hdv⟩ := hd.sl.shape
    have lt2 := blk?_lt hb2'
    by_cases h1 : validP pl ps ds = 0
    case neg =>
      have h1' : (validP pl ps ds != 0) = true := by simpa using h1
      have e : truncE pl ps ds n = validP pl ps ds := by unfold truncE; rw [if_pos h1]
      rw [e] at hR
      simp [k_guard, k_guardU, MD.val, hH, hb0, hb1, e1, h1', hb2', blk?_set_eq lt2, finishV, R50, allSome, resV]
      exact hR _ _ (fun _ => CI.none _ _) (fun x => absurd x h1) (fun id hid => by rw [blk?_set_ne (by omega), kh1 id hid]) (by simp; omega)
    have h1' : (validP pl ps ds != 0) = false := by simpa using h1
    obtain ⟨pl0, pl1, hlen, hvg, hdl2⟩ := valid_ends h1
    by_cases h2 : n < 0
    · have e : truncE pl ps ds n = 2 := by unfold truncE; rw [if_neg (by simp [h1]), if_pos (.inl h2)]
      rw [e] at hR
      simp [k_guard, k_guardU, MD.val, hH, hb0, hb1, e1, h1', h2, hb2', blk?_set_eq lt2, finishV, R50, allSome, resV]
      exact hR _ _ (fun _ => CI.none _ _) (fun x => absurd x (by decide)) (fun id hid => by rw [blk?_set_ne (by omega), kh1 id hid]) (by simp; omega)
    obtain ⟨n, rfl⟩ := Int.eq_ofNat_of_zero_le (show 0 ≤ n by omega)
    by_cases h3 : ps.length < n
    · have e : truncE pl ps ds (n : Int) = 2 := by unfold truncE; rw [if_neg (by simp [h1]), if_pos (.inr (by omega))]
      have h3' : (ps.length : Int) < (n : Int) := by omega
      have h2' : ¬ (n : Int) < 0 := h2
      rw [e] at hR
      rw [hpv] at hH hb0 hb0' e1
      rw [hpv]
      simp [k_guard, k_guardU, MD.val, hH, hb0, hb1, e1, h1', hb0', h2', h3', hb2', blk?_set_eq lt2, finishV, R50, allSome, resV]
      exact hR _ _ (fun _ => CI.none _ _) (fun x => absurd x (by decide)) (fun id hid => by rw [blk?_set_ne (by omega), kh1 id hid]) (by simp; omega)
    have h3' : ¬ (ps.length : Int) < (n : Int) := by omega
    have e : truncE pl ps ds (n : Int) = 0 := by unfold truncE; rw [if_neg (by simp [h1]), if_neg (by omega)]
    rw [e] at hR
    simp only [ne_eq, not_true_eq_false, false_implies, forall_const, Int.toNat_natCast] at hR
    have h2' : ¬ (n : Int) < 0 := h2
    -- the new block
    generalize hH3 : H1 ++ [some (⟨false, [.int .i64 pl, .slice none 0 0, .slice none 0 0]⟩ : Blk)] = H3
    have l3 : H3.length = H1.length + 1 := by rw [← hH3]; simp
    have k3 : ∀ id, id < H1.length → blk? H3 id = blk? H1 id := fun id hid => by rw [← hH3]; exact blk?_push_lt hid
    have b3 : blk? H3 H1.length = some ⟨false, [.int .i64 pl, .slice none 0 0, .slice none 0 0]⟩ := by rw [← hH3]; exact blk?_push_eq
    have hb03 : blk? H3 h.length = some ⟨false, [.int .i64 pl, pv, dv]⟩ := by rw [k3 _ (by omega)]; exact hb0'
    have hb23 : blk? H3 (h.length + 2) = some ⟨false, [.int .i64 0, .slice none 0 0, .slice none 0 0]⟩ := by rw [k3 _ (by omega)]; exact hb2'
    rw [← hT, show tlC 4 B50 = .seq (nthC 4 B50) (.seq (nthC 5 B50) (tlC 6 B50)) from rfl]
    generalize hT5 : tlC 6 B50 = tl5
    simp only [nthC, tlC, fstC, B50]
    -- the end
    have fin : ∀ (H5 : Heap) (pv5 dv5 : Value) (K0 K1 K2 K3 K4 K5 K8 Ka Kb Kc Kd Ke Kf Kg Kh Ki Kj Kk Kl Km Kn Ko Kp Kq Kr Ks Kt Ku Kv Kw Kx Ky Kz J0 J1 J2 J3 J4 J5 J6 J7 J8 J9 Ja Jb Jc Jd Je Jf : Value), blk? H5 H1.length = some ⟨false, [.int .i64 pl, pv5, dv5]⟩ → Rk .i64 H5 pv5 (ps.take n) → Rk .u8 H5 dv5 (truncD ps ds n) → (∀ id, sid pv5 = some id → H3.length ≤ id) → (∀ id, sid dv5 = some id → H3.length ≤ id) → (∀ id, id < H1.length → blk? H5 id = blk? H1 id) → H3.length ≤ H5.length →
        Ok tab R50 [.code tl5] #[K0,K1,K2,K3,K4,K5,ptr (h.length + 2),.int .i64 0,K8,ptr H1.length,Ka,Kb,Kc,Kd,Ke,Kf,Kg,Kh,Ki,Kj,Kk,Kl,Km,Kn,Ko,Kp,Kq,Kr,Ks,Kt,Ku,Kv,Kw,Kx,Ky,Kz,J0,J1,J2,J3,J4,J5,J6,J7,J8,J9,Ja,Jb,Jc,Jd,Je,Jf] H5 R0 := by
      intro H5 pv5 dv5 K0 K1 K2 K3 K4 K5 K8 Ka Kb Kc Kd Ke Kf Kg Kh Ki Kj Kk Kl Km Kn Ko Kp Kq Kr Ks Kt Ku Kv Kw Kx Ky Kz J0 J1 J2 J3 J4 J5 J6 J7 J8 J9 Ja Jb Jc Jd Je Jf b5 q5 r5 f5 g5 k5 l5
      have b25 : blk? H5 (h.length + 2) = some ⟨false, [.int .i64 0, .slice none 0 0, .slice none 0 0]⟩ := by rw [k5 _ (by omega)]; exact hb2'
      have lt5 := blk?_lt b25
      have ne5 : ∀ x, blk? (H5.set (h.length + 2) x) (h.length + 2) = x := fun x => blk?_set_eq lt5
      rw [← hT5]
      simp only [nthC, tlC, fstC, B50]
      simp [b5, b25, ne5, finishV, R50, allSome, resV]
      refine hR _ _ ⟨⟨pv5, dv5, rfl, q5.keep (by simp) fun id hid hs => ?_, r5.keep (by simp) fun id hid hs => ?_, fun id hid => by have := f5 id hid; omega, fun id hid => by have := g5 id hid; omega⟩⟩ (fun id hid => ?_) (by simp; omega)
      · have := f5 id hs
        rw [blk?_set_ne (by omega)]
      · have := g5 id hs
        rw [blk?_set_ne (by omega)]
      · rw [blk?_set_ne (by omega), k5 id (by omega), kh1 id hid]
    by_cases h4 : n = 0
    · subst h4
      have fin' := fun K0 K1 K2 K3 K4 K5 K8 Ka Kb Kc Kd Ke Kf Kg Kh Ki Kj Kk Kl Km Kn Ko Kp Kq Kr Ks Kt Ku Kv Kw Kx Ky Kz J0 J1 J2 J3 J4 J5 J6 J7 J8 J9 Ja Jb Jc Jd Je Jf => fin H3 (.slice none 0 0) (.slice none 0 0) K0 K1 K2 K3 K4 K5 K8 Ka Kb Kc Kd Ke Kf Kg Kh Ki Kj Kk Kl Km Kn Ko Kp Kq Kr Ks Kt Ku Kv Kw Kx Ky Kz J0 J1 J2 J3 J4 J5 J6 J7 J8 J9 Ja Jb Jc Jd Je Jf b3 (by rw [List.take_zero]; exact Rk.none _ _) (by simp only [truncD, Nat.lt_irrefl, if_false]; exact Rk.none _ _) (fun id hid => by simp [sid] at hid) (fun id hid => by simp [sid] at hid) k3 (Nat.le_refl _)
      simp only [Int.cast_ofNat_Int] at h3'
      rw [hpv] at hH hb0 hb0' e1
      rw [hpv]
      simp [k_guard, k_guardU, MD.val, hH, hb0, hb1, e1, h1', hb0', h3', blk?_push_eq, hH3]
      exact fin' _ _ _ _ _ _ _ _ _ _ _ _ _ _ _ _ _ _ _ _ _ _ _ _ _ _ _ _ _ _ _ _ _ _ _ _ _ _ _ _ _ _ _ _ _ _ _ _ _
    -- the passes
    have hl1 : (ps.take n).length = n := by rw [List.length_take]; omega
    generalize hA1 : H3 ++ [some (⟨false, []⟩ : Blk)] = A1
    have lA1 : A1.length = H3.length + 1 := by rw [← hA1]; simp
    have kA1 : ∀ id, id < H3.length → blk? A1 id = blk? H3 id := fun id hid => by rw [← hA1]; exact blk?_push_lt hid
    have hb0A : blk? A1 h.length = some ⟨false, [.int .i64 pl, pv, dv]⟩ := by rw [kA1 _ (by omega)]; exact hb03
    have hpA : Rk .i64 A1 pv ps := hp1.keep (by omega) fun id hid _ => by rw [kA1 id (by omega), k3 id hid]
    have oA : OwnS A1 1 (.slice (some ⟨H3.length, 0, none⟩) 0 1) 0 [] := by rw [← hA1]; exact own_empty H3
    obtain ⟨s1, es1, hs1⟩ := hpA.sub (l := 0) (t := n) (lo := none) (hi' := some (.int .i64 (n : Int))) (by omega) (by omega) (by simp [bndO, bnd]; omega) (by simp [bndO])
    rw [List.drop_zero] at hs1
    obtain ⟨t1, H4, a1, o1, l4, k4, g4⟩ := app_any (bytes := 8) oA hs1.sl (by unfold roomCells; omega) (by omega)
    rw [Nat.zero_add, List.nil_append] at o1
    have k4' : ∀ id, id < H3.length → blk? H4 id = blk? H3 id := fun id hid => by rw [k4 id (by omega) (by simp [sid]; omega), kA1 id hid]
    have b4 : blk? H4 H1.length = some ⟨false, [.int .i64 pl, .slice none 0 0, .slice none 0 0]⟩ := by rw [k4' _ (by omega)]; exact b3
    have lt4 := blk?_lt b4
    generalize hH5 : H4.set H1.length (some ⟨false, [.int .i64 pl, t1, .slice none 0 0]⟩) = H5
    have l5 : H5.length = H4.length := by rw [← hH5]; simp
    have b5 : blk? H5 H1.length = some ⟨false, [.int .i64 pl, t1, .slice none 0 0]⟩ := by rw [← hH5]; exact blk?_set_eq lt4
    have k5 : ∀ id, id < H1.length → blk? H5 id = blk? H1 id := fun id hid => by rw [← hH5, blk?_set_ne (by omega), k4' id (by omega), k3 id hid]
    have o5 : OwnS H5 1 t1 (ps.take n).length (kis .i64 (ps.take n)) := o1.of_blk fun id hid hb => by rw [← hH5, blk?_set_ne (by have := g4 id hid; omega)]; exact hb
    -- the bytes
    generalize hA2 : H5 ++ [some (⟨false, []⟩ : Blk)] = A2
    have lA2 : A2.length = H5.length + 1 := by rw [← hA2]; simp
    have kA2 : ∀ id, id < H5.length → blk? A2 id = blk? H5 id := fun id hid => by rw [← hA2]; exact blk?_push_lt hid
    have kA2' : ∀ id, id < H1.length → blk? A2 id = blk? H1 id := fun id hid => by rw [kA2 id (by omega), k5 id hid]
    have hb0B : blk? A2 h.length = some ⟨false, [.int .i64 pl, pv, dv]⟩ := by rw [kA2' _ (by omega)]; exact hb0'
    have hpB : Rk .i64 A2 pv ps := hp1.keep (by omega) fun id hid _ => kA2' id hid
    have hdB : Rk .u8 A2 dv ds := hd1.keep (by omega) fun id hid _ => kA2' id hid
    have oB : OwnS A2 1 (.slice (some ⟨H5.length, 0, none⟩) 0 1) 0 [] := by rw [← hA2]; exact own_empty H5
    have hn1 : n - 1 < ps.length := by omega
    obtain ⟨q1, q2⟩ := vgo_get ps 0 _ hvg (n - 1) hn1
    obtain ⟨z, hz⟩ := Int.eq_ofNat_of_zero_le q1
    have hzl : z ≤ ds.length := by omega
    have hgd : ps.getD (n - 1) 0 = ps[n - 1] := by simp [hn1]
    rw [hgd] at hz
    obtain ⟨id, off, b, hpv3, hbk, hc⟩ := hpB.get hn1
    rw [hz] at hc
    obtain ⟨s2, es2, hs2⟩ := hdB.sub (l := 0) (t := z) (lo := none) (hi' := some (.int .i64 (z : Int))) (by omega) hzl (by simp [bndO, bnd]; omega) (by simp [bndO])
    rw [List.drop_zero] at hs2
    have hl2 : (ds.take z).length = z := by rw [List.length_take]; omega
    obtain ⟨t2, H6, a2, o2, l6, k6, g6⟩ := app_any (bytes := 1) oB hs2.sl (by unfold roomCells; omega) (by omega)
    rw [Nat.zero_add, List.nil_append] at o2
    have k6' : ∀ id, id < H5.length → blk? H6 id = blk? H5 id := fun id hid => by rw [k6 id (by omega) (by simp [sid]; omega), kA2 id hid]
    have b6 : blk? H6 H1.length = some ⟨false, [.int .i64 pl, t1, .slice none 0 0]⟩ := by rw [k6' _ (by omega)]; exact b5
    have lt6 := blk?_lt b6
    have rk1 : Rk .i64 (H6.set H1.length (some ⟨false, [.int .i64 pl, t1, t2]⟩)) t1 (ps.take n) := by
      refine Rk.own (o5.of_blk fun id hid hb => by have := g4 id hid; rw [blk?_set_ne (by omega), k6' id (by omega)]; exact hb) ?_ (fun v hv => hp.rng v (List.mem_of_mem_take hv))
      obtain ⟨ta, tc, rfl⟩ := o1.sl.shape
      cases ta with
      | none => simp
      | some a => have := g4 a.block (by simp [sid]); simp; omega
    have rk2 : Rk .u8 (H6.set H1.length (some ⟨false, [.int .i64 pl, t1, t2]⟩)) t2 (ds.take z) := by
      refine Rk.own (o2.of_blk fun id hid hb => by rw [blk?_set_ne (by have := g6 id hid; omega)]; exact hb) ?_ (fun v hv => hd.rng v (List.mem_of_mem_take hv))
      obtain ⟨ta, tc, rfl⟩ := o2.sl.shape
      cases ta with
      | none => simp
      | some a => have := g6 a.block (by simp [sid]); simp; omega
    have etd : ds.take z = truncD ps ds n := by unfold truncD; rw [if_pos (by omega), hgd, hz, Int.toNat_natCast]
    rw [etd] at rk2
    have fin' := fun K0 K1 K2 K3 K4 K5 K8 Ka Kb Kc Kd Ke Kf Kg Kh Ki Kj Kk Kl Km Kn Ko Kp Kq Kr Ks Kt Ku Kv Kw Kx Ky Kz J0 J1 J2 J3 J4 J5 J6 J7 J8 J9 Ja Jb Jc Jd Je Jf => fin (H6.set H1.length (some ⟨false, [.int .i64 pl, t1, t2]⟩)) t1 t2 K0 K1 K2 K3 K4 K5 K8 Ka Kb Kc Kd Ke Kf Kg Kh Ki Kj Kk Kl Km Kn Ko Kp Kq Kr Ks Kt Ku Kv Kw Kx Ky Kz J0 J1 J2 J3 J4 J5 J6 J7 J8 J9 Ja Jb Jc Jd Je Jf (blk?_set_eq lt6) rk1 rk2 (fun id hid => by have := g4 id hid; omega) (fun id hid => by have := g6 id hid; omega) (fun id h1 => by rw [blk?_set_ne (by omega), k6' id (by omega), k5 id h1]) (by simp; omega)
    have hw : IntKind.i64.wrap ((n : Int) - 1) = ((n - 1 : Nat) : Int) := by rw [wrapI (by omega) (by omega)]; omega
    have hlt1 : ((n - 1 : Nat) : Int) < (ps.length : Int) := by omega
    have htn : (((n - 1 : Nat) : Int)).toNat = n - 1 := Int.toNat_natCast _
    have hge1 : (0 : Int) ≤ ((n - 1 : Nat) : Int) := by omega
    have h4' : (0 : Int) < (n : Int) := by omega
    have h4'' : 0 < n := by omega
    generalize hnn : ((n - 1 : Nat) : Int) = nn at *
    obtain ⟨ta, tc, ht1s⟩ := o1.sl.shape
    obtain ⟨ta2, tc2, ht2s⟩ := o2.sl.shape
    rw [hl1] at ht1s
    rw [hl2] at ht2s
    rw [hpv3] at hH hb0 hb0' e1 es1 hb03 hb0A hb0B
    rw [ht1s] at a1 b5 b6 hH5 fin'
    rw [ht2s] at a2 fin'
    rw [hpv3]
    simp [repL, book, bookU, logOf, addLog, chk1, lookL, reload, k_guard, k_guardU, MD.val, hH, hb0, hb1, e1, h1', hb0', h2', h3', blk?_push_eq, hH3, h4', h4'', hA1, hb0A, es1, a1, b4, hH5, hA2, hb0B, hw, hlt1, hge1, htn, hbk, hc, es2, a2, b6]
    exact fin' _ _ _ _ _ _ _ _ _ _ _ _ _ _ _ _ _ _ _ _ _ _ _ _ _ _ _ _ _ _ _ _ _ _ _ _ _ _ _ _ _ _ _ _ _ _ _ _ _
  obtain ⟨v, h', e, w, rfl, a, b, c, d⟩ := ret_ex (main (fun v h' => ∃ w, v = .tuple #[w, .int .i64 (truncE pl ps ds n)] ∧ (truncE pl ps ds n ≠ 0 → CI h.length h' w 0 [] []) ∧ (truncE pl ps ds n = 0 → CI h.length h' w pl (ps.take n.toNat) (truncD ps ds n.toNat)) ∧ (∀ id, id < h.length → blk? h' id = blk? h id) ∧ h.length ≤ h'.length) fun v h' a b c d => ⟨v, rfl, a, b, c, d⟩)
  exact ⟨w, h', e, a, b, c, d⟩

theorem ret_truncates {n : Int} (hp : Rk .i64 h pv ps) (hd : Rk .u8 h dv ds) : Ret tab 11 [.agg #[.int .i64 pl, pv, dv], .int .i64 n, .agg #[.bool x1, .bool x2, .bool x3, .bool x4, .bool x5]] h fun v _ => v = .bool true := by
  obtain ⟨pa, pc, hpv⟩ := hp.sl.shape
  obtain ⟨da, dc, hdv⟩ := hd.sl.shape
  generalize hH : h ++ [some (⟨false, [.int .i64 pl, pv, dv]⟩ : Blk), some ⟨false, [.bool x1, .bool x2, .bool x3, .bool x4, .bool x5]⟩] = H
  have b0 : blk? H h.length = some ⟨false, [.int .i64 pl, pv, dv]⟩ := by rw [← hH, app_len]; rfl
  have b1 : blk? H (h.length + 1) = some ⟨false, [.bool x1, .bool x2, .bool x3, .bool x4, .bool x5]⟩ := by rw [← hH, app_add]; rfl
  have lH : H.length = h.length + 2 := by rw [← hH]; simp
  have hpH : Rk .i64 H pv ps := by rw [← hH]; exact hp.push _
  have hdH : Rk .u8 H dv ds := by rw [← hH]; exact hd.push _
  obtain ⟨H1, e1, k1, l1⟩ := few_c (pl := pl) hpH hdH
  rw [enter11, B11]
  by_cases hf : ps.length ≤ 300 ∧ ds.length ≤ 20000
  case neg =>
    obtain ⟨H2, e2, k2, l2⟩ := awake_c (h := H1)
    rw [decide_eq_false hf] at e1
    rw [hpv, hdv] at hH b0 e1
    rw [hpv, hdv]
    simp [hH, b0, b1, e1, e2, fin11]
  rw [decide_eq_true hf] at e1
  have b01 : blk? H1 h.length = some ⟨false, [.int .i64 pl, pv, dv]⟩ := by rw [k1 _ (by omega)]; exact b0
  have b11 : blk? H1 (h.length + 1) = some ⟨false, [.bool x1, .bool x2, .bool x3, .bool x4, .bool x5]⟩ := by rw [k1 _ (by omega)]; exact b1
  have hp1 : Rk .i64 H1 pv ps := hpH.keep l1 fun id hid _ => k1 id hid
  have hd1 : Rk .u8 H1 dv ds := hdH.keep l1 fun id hid _ => k1 id hid
  obtain ⟨v2, H2, e2, n2, y2, k2, l2⟩ := trunc_c (m := ⟨x1, x2, x3, x4, x5⟩) (pl := pl) hp1 hd1 (by omega) (by omega) n
  -- one form for both outcomes
  have one : ∃ pl2 ps2 ds2, (∀ {B : Nat} {G : Heap} {v : Value}, (truncE pl ps ds n ≠ 0 → CI B G v 0 [] []) → (truncE pl ps ds n = 0 → CI B G v pl (ps.take n.toNat) (truncD ps ds n.toNat)) → CI B G v pl2 ps2 ds2) ∧ ps2.length ≤ 300 ∧ ds2.length ≤ 20000 := by
    by_cases ht : truncE pl ps ds n = 0
    · refine ⟨pl, ps.take n.toNat, truncD ps ds n.toNat, fun _ h => h ht, ?_, ?_⟩
      · rw [List.length_take]; omega
      · rw [truncD_eq, List.length_take]; omega
    · exact ⟨0, [], [], fun h _ => h ht, by simp, by simp⟩
  obtain ⟨pl2, ps2, ds2, hone, q1, q2⟩ := one
  obtain ⟨p2, d2, rfl, P2, D2, _, _⟩ := (hone n2 y2).ex
  generalize hA : H2 ++ [some (⟨false, [.int .i64 pl2, p2, d2]⟩ : Blk)] = A
  have lA : A.length = H2.length + 1 := by rw [← hA]; simp
  have kA : ∀ id, id < H2.length → blk? A id = blk? H2 id := fun id hid => by rw [← hA]; exact blk?_push_lt hid
  have bA : blk? A H2.length = some ⟨false, [.int .i64 pl2, p2, d2]⟩ := by rw [← hA]; exact blk?_push_eq
  have b0A : blk? A h.length = some ⟨false, [.int .i64 pl, pv, dv]⟩ := by rw [kA _ (by omega), k2 _ (by omega)]; exact b01
  have b1A : blk? A (h.length + 1) = some ⟨false, [.bool x1, .bool x2, .bool x3, .bool x4, .bool x5]⟩ := by rw [kA _ (by omega), k2 _ (by omega)]; exact b11
  have hpA : Rk .i64 A pv ps := hp1.keep (by omega) fun id hid _ => by rw [kA id (by omega), k2 id hid]
  have hdA : Rk .u8 A dv ds := hd1.keep (by omega) fun id hid _ => by rw [kA id (by omega), k2 id hid]
  have P2A : Rk .i64 A p2 ps2 := P2.keep (by omega) fun id hid _ => kA id hid
  have D2A : Rk .u8 A d2 ds2 := D2.keep (by omega) fun id hid _ => kA id hid
  obtain ⟨v3, H3, e3, n3, y3, k3, l3⟩ := trunc_r (m := ⟨x1, x2, x3, x4, x5⟩) (pl := pl) hpA hdA (by omega) (by omega) n
  obtain ⟨p3, d3, rfl, P3, D3, _, _⟩ := (hone n3 y3).ex
  generalize hB : H3 ++ [some (⟨false, [.int .i64 pl2, p3, d3]⟩ : Blk)] = Bh
  have lB : Bh.length = H3.length + 1 := by rw [← hB]; simp
  have kB : ∀ id, id < H3.length → blk? Bh id = blk? H3 id := fun id hid => by rw [← hB]; exact blk?_push_lt hid
  have bB : blk? Bh H3.length = some ⟨false, [.int .i64 pl2, p3, d3]⟩ := by rw [← hB]; exact blk?_push_eq
  have bAB : blk? Bh H2.length = some ⟨false, [.int .i64 pl2, p2, d2]⟩ := by rw [kB _ (by omega), k3 _ (by omega)]; exact bA
  have P2B : Rk .i64 Bh p2 ps2 := P2A.keep (by omega) fun id hid _ => by rw [kB id (by omega), k3 id hid]
  have D2B : Rk .u8 Bh d2 ds2 := D2A.keep (by omega) fun id hid _ => by rw [kB id (by omega), k3 id hid]
  have P3B : Rk .i64 Bh p3 ps2 := P3.keep (by omega) fun id hid _ => kB id hid
  have D3B : Rk .u8 Bh d3 ds2 := D3.keep (by omega) fun id hid _ => kB id hid
  obtain ⟨H4, e4, k4, l4⟩ := same_c (pl := pl2) (pl' := pl2) P2B D2B P3B D3B (by omega) (by omega)
  have hsm : sameP pl2 pl2 ps2 ps2 ds2 ds2 = true := by simp [sameP]
  rw [hsm] at e4
  obtain ⟨H5, e5, _, _⟩ := awake_c (h := H4)
  obtain ⟨pa2, pc2, hp2⟩ := P2.sl.shape
  obtain ⟨da2, dc2, hd2⟩ := D2.sl.shape
  obtain ⟨pa3, pc3, hp3⟩ := P3.sl.shape
  obtain ⟨da3, dc3, hd3⟩ := D3.sl.shape
  simp only [MD.val] at e2 e3
  rw [hp2, hd2] at e2 hA bAB e4
  rw [hp3, hd3] at e3 hB bB e4
  rw [hpv, hdv] at hH b0 e1 b01 e2 b0A e3
  rw [hpv, hdv]
  simp [k_guard, k_guardU, hH, b0, b1, e1, b01, b11, e2, blk?_push_eq, hA, b0A, b1A, e3, hB, bAB, bB, e4, e5, fin11]
end
end Go.Proofs.Ytjpjohchdfoeaaa
