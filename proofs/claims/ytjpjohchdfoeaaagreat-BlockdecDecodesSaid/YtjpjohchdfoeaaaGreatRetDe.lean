/-
  The reference's decoding, followed: the segments, and Symbols.
  A pass of the reference with the bits of symbols.
  A pass of the reference with the bits of symbols: what was asked for, compared.
  A pass of the reference with the bits of symbols: perform.
  Values of the reference: the passes.
  Values of the reference.
  Values of the reference comes to what the program's does.
  The reference's block decoder: the contract of Decode.
  BlockdecDecodes: the walk.
-/
import Derived.Test.YtjpjohchdfoeaaaGreatZe
import Derived.Test.YtjpjohchdfoeaaaGreatVals2
namespace Go.Proofs.YtjpjohchdfoeaaaGreat
open Go Go.Sim
set_option linter.unusedSimpArgs false
set_option linter.unusedVariables false
set_option maxRecDepth 10000
structure ZO (Q : Nat → Prop) (hB h : Heap) (X6 X11 p c d : Nat) (pl : Int) (pv dv0 : Value) (m : MD) (lv : Value) (vs : List Value) (s : Rdg) : Prop where
 b6 : blk? h X6 = some ⟨false,[.int .i64 pl,pv,dv0]⟩
 b11 : blk? h X11 = some ⟨false,[.bool m.byp,.bool m.res,.bool m.rst,.bool m.cz,.bool m.sy]⟩
 cb : CB h false p c s.b
 good : s.b.Good
 zd : ∃ pb dv D on,ZD h d pb dv D on s.a (s.ls.length * 20000 + 4) ∧ ∀ id,ownE d pb dv id → ¬ KpO Q X6 X11 p vs id ∧ id ≠ c ∧ sid lv ≠ some id
 ol : OwnS h 1 lv vs.length vs
 vl : vs.length = s.ls.length
 each : ∀ i (h1 : i < vs.length) (h2 : i < s.ls.length),OwnS h 2 vs[i] s.ls[i].length (encS s.ls[i])
 kp : ∀ id,KpO Q X6 X11 p vs id → id ≠ c ∧ sid lv ≠ some id ∧ id < h.length
 nl : sid lv ≠ some c
 low : ∀ id,Q id → blk? h id = blk? hB id
 len : hB.length ≤ h.length
 small : ∀ l ∈ s.ls,l.length ≤ 20000
 cB : ¬ Q c ∧ c ≠ X6 ∧ c ≠ X11
theorem ZI.zo {Q : Nat → Prop} {hB h : Heap} {X6 X11 p c d pb q : Nat} {pl : Int} {pv dv0 : Value} {m : MD} {dv rs : Value} {D : List Nat} {on : Bool} {rd : List Nat × Nat} {lv : Value} {vs : List Value} {s : Rdg} {N : Nat}
  (I : ZI Q hB h X6 X11 p c d pb q pl pv dv0 m dv rs D on rd lv vs s N) (hN : N ≤ s.ls.length * 20000 + 4) : ZO Q hB h X6 X11 p c d pl pv dv0 m lv vs s :=
 ⟨I.b6,I.b11,I.cb,I.good,⟨pb,dv,D,on,I.zd.mono hN,fun id hid => ⟨fun x => (I.kp id x).1 (.inl hid),(I.no id (.inl hid)).1,(I.no id (.inl hid)).2⟩⟩,I.ol,I.vl,I.each,fun id hid => (I.kp id hid).2,I.nl,I.low,I.len,I.small,I.cB⟩
section
variable {R : Value → Heap → Prop} {h : Heap}
set_option maxHeartbeats 4000000 in
theorem zseg_loop {Q : Nat → Prop} {hB : Heap} {X6 X11 p c d : Nat} {pl o : Int} {pv dv0 gv : Value} {m : MD} {k : List RItem} {sF : Rdg} {gs : List Nat} {ps : List Int} {ds : List Nat}
  (hg : Sl hB 1 gv gs.length (nI gs)) (hgq : ∀ id,sid gv = some id → Q id) (hp : Rk .i64 hB pv ps) (hpq : ∀ id,sid pv = some id → Q id) (hd : Rk .u8 hB dv0 (ds.map Int.ofNat)) (hdq : ∀ id,sid dv0 = some id → Q id)
  (hc1 : ∀ x ∈ gs,1 ≤ x) (hps : ∀ x ∈ ps,0 ≤ x) (hz : ∀ i j,i ≤ j → j ≤ ps.length → zE ps i ≤ zE ps j ∧ zE ps j ≤ ds.length) (hdl : ds.length < 100000000) (hds : ∀ x ∈ ds,x < 256) (hpl : ps.length ≤ 178) (hgn : gs.length ≤ 178)
  (hk : ∀ (h : Heap) (lv : Value) (vs : List Value) (K0 K1 K2 K3 K4 K5 K6 K7 K8 K9 Ka Kb Kc Ke Kf Kg Kh Ki Kj Kk Kl Km Kn Ko Kp Kq Kr Ks Kt Ku Kv Kw Kx Ky Kz J0 J1 J2 J3 J4 J5 J6 J7 J8 J9 Ja Jb Jc Jd Je Jf Jg Jh Ji Jj Jk Jl Jm Jn Jo Jp Jq Jr Js Jt Ju Jv Jw Jx Jy Jz Y0 Y1 Y2 Y3 Y4 Y5 Y6 Y7 Y8 Y9 Ya Yb Yc Yd Ye Yf Yg Yh Yi Yj Yk Yl Ym Yn Yo Yp Yq Yr Ys Yt Yu Yv Yw Yx Yy Yz Z0 Z1 Z2 Z3 Z4 Z5 Z6 : Value),ZO Q hB h X6 X11 p c d pl pv dv0 m lv vs sF → Ok tab R31 k #[K0,K1,K2,K3,K4,K5,K6,K7,K8,K9,Ka,Kb,Kc,lv,Ke,Kf,Kg,Kh,Ki,Kj,Kk,Kl,Km,Kn,Ko,Kp,Kq,Kr,Ks,Kt,Ku,Kv,Kw,Kx,Ky,Kz,J0,J1,J2,J3,J4,J5,J6,J7,J8,J9,Ja,Jb,Jc,Jd,Je,Jf,Jg,Jh,Ji,Jj,Jk,Jl,Jm,Jn,Jo,Jp,Jq,Jr,Js,Jt,Ju,Jv,Jw,Jx,Jy,Jz,Y0,Y1,Y2,Y3,Y4,Y5,Y6,Y7,Y8,Y9,Ya,Yb,Yc,Yd,Ye,Yf,Yg,Yh,Yi,Yj,Yk,Yl,Ym,Yn,Yo,Yp,Yq,Yr,Ys,Yt,Yu,Yv,Yw,Yx,Yy,Yz,Z0,Z1,Z2,Z3,Z4,Z5,Z6] h R) :
  ∀ (j gi : Nat) (h : Heap) (lv : Value) (vs : List Value) (s : Rdg) (beg : Nat) (K0 K1 K2 K3 K5 K7 K8 K9 Ka Kc Kf Kh Km Kn Ko Kp Kq Kr Ks Kt Ku Kv Kw Kx Ky Kz J0 J1 J2 J3 J4 J5 J6 J7 J8 J9 Ja Jb Jc Jd Je Jf Jg Jh Ji Jj Jk Jl Jm Jn Jo Jp Jq Jr Js Jt Ju Jv Jw Jx Jy Jz Y0 Y1 Y2 Y3 Y4 Y5 Y6 Y7 Y8 Y9 Ya Yb Yc Yd Ye Yf Yg Yh Yi Yj Yk Yl Ym Yn Yo Yp Yq Yr Ys Yt Yu Yv Yw Yx Yy Yz Z0 Z1 Z2 Z3 Z4 Z5 Z6 : Value),gi + j = gs.length → ZO Q hB h X6 X11 p c d pl pv dv0 m lv vs s → s.ls.length + sumL (gs.drop gi) ≤ ps.length → beg = zE ps s.ls.length → SegAll m s.ls.length (gs.drop gi) →
   segsR m pl o ps ds (gs.drop gi) beg s = sF →
   Ok tab R31 (.inLoop L31_1 :: .inBlock 0 :: k) #[K0,K1,K2,K3,.int .i64 o,K5,ptr X6,K7,K8,K9,Ka,ptr X11,Kc,lv,ptr p,Kf,ptr d,Kh,gv,.int .i64 (s.ls.length : Nat),.int .i64 (beg : Nat),.int .i64 (gi : Nat),Km,Kn,Ko,Kp,Kq,Kr,Ks,Kt,Ku,Kv,Kw,Kx,Ky,Kz,J0,J1,J2,J3,J4,J5,J6,J7,J8,J9,Ja,Jb,Jc,Jd,Je,Jf,Jg,Jh,Ji,Jj,Jk,Jl,Jm,Jn,Jo,Jp,Jq,Jr,Js,Jt,Ju,Jv,Jw,Jx,Jy,Jz,Y0,Y1,Y2,Y3,Y4,Y5,Y6,Y7,Y8,Y9,Ya,Yb,Yc,Yd,Ye,Yf,Yg,Yh,Yi,Yj,Yk,Yl,Ym,Yn,Yo,Yp,Yq,Yr,Ys,Yt,Yu,Yv,Yw,Yx,Yy,Yz,Z0,Z1,Z2,Z3,Z4,Z5,Z6] h R := by
 intro j
 induction j with
 | zero =>
  intro gi h lv vs s beg K0 K1 K2 K3 K5 K7 K8 K9 Ka Kc Kf Kh Km Kn Ko Kp Kq Kr Ks Kt Ku Kv Kw Kx Ky Kz J0 J1 J2 J3 J4 J5 J6 J7 J8 J9 Ja Jb Jc Jd Je Jf Jg Jh Ji Jj Jk Jl Jm Jn Jo Jp Jq Jr Js Jt Ju Jv Jw Jx Jy Jz Y0 Y1 Y2 Y3 Y4 Y5 Y6 Y7 Y8 Y9 Ya Yb Yc Yd Ye Yf Yg Yh Yi Yj Yk Yl Ym Yn Yo Yp Yq Yr Ys Yt Yu Yv Yw Yx Yy Yz Z0 Z1 Z2 Z3 Z4 Z5 Z6 hgi I hn hbeg hsg hF
  obtain rfl : gi = gs.length := by omega
  rw [List.drop_length] at hF
  simp only [segsR] at hF
  subst hF
  have hk' := fun K0 K1 K2 K3 K4 K5 K6 K7 K8 K9 Ka Kb Kc Ke Kf Kg Kh Ki Kj Kk Kl Km Kn Ko Kp Kq Kr Ks Kt Ku Kv Kw Kx Ky Kz J0 J1 J2 J3 J4 J5 J6 J7 J8 J9 Ja Jb Jc Jd Je Jf Jg Jh Ji Jj Jk Jl Jm Jn Jo Jp Jq Jr Js Jt Ju Jv Jw Jx Jy Jz Y0 Y1 Y2 Y3 Y4 Y5 Y6 Y7 Y8 Y9 Ya Yb Yc Yd Ye Yf Yg Yh Yi Yj Yk Yl Ym Yn Yo Yp Yq Yr Ys Yt Yu Yv Yw Yx Yy Yz Z0 Z1 Z2 Z3 Z4 Z5 Z6 => hk h lv vs K0 K1 K2 K3 K4 K5 K6 K7 K8 K9 Ka Kb Kc Ke Kf Kg Kh Ki Kj Kk Kl Km Kn Ko Kp Kq Kr Ks Kt Ku Kv Kw Kx Ky Kz J0 J1 J2 J3 J4 J5 J6 J7 J8 J9 Ja Jb Jc Jd Je Jf Jg Jh Ji Jj Jk Jl Jm Jn Jo Jp Jq Jr Js Jt Ju Jv Jw Jx Jy Jz Y0 Y1 Y2 Y3 Y4 Y5 Y6 Y7 Y8 Y9 Ya Yb Yc Yd Ye Yf Yg Yh Yi Yj Yk Yl Ym Yn Yo Yp Yq Yr Ys Yt Yu Yv Yw Yx Yy Yz Z0 Z1 Z2 Z3 Z4 Z5 Z6 I
  have hg2 : Sl h 1 gv gs.length (nI gs) := hg.of_sid fun id b hid hb => by rw [I.low id (hgq id hid)]; exact hb
  obtain ⟨ga,gc,egv⟩ := hg2.shape
  rw [egv]
  rw [ok_round,l31_1,L31_1a,L31_1b]
  simp
  exact hk' ..
 | succ j ih =>
  intro gi h lv vs s beg K0 K1 K2 K3 K5 K7 K8 K9 Ka Kc Kf Kh Km Kn Ko Kp Kq Kr Ks Kt Ku Kv Kw Kx Ky Kz J0 J1 J2 J3 J4 J5 J6 J7 J8 J9 Ja Jb Jc Jd Je Jf Jg Jh Ji Jj Jk Jl Jm Jn Jo Jp Jq Jr Js Jt Ju Jv Jw Jx Jy Jz Y0 Y1 Y2 Y3 Y4 Y5 Y6 Y7 Y8 Y9 Ya Yb Yc Yd Ye Yf Yg Yh Yi Yj Yk Yl Ym Yn Yo Yp Yq Yr Ys Yt Yu Yv Yw Yx Yy Yz Z0 Z1 Z2 Z3 Z4 Z5 Z6 hgi I hn hbeg hsg hF
  have hgl : gi < gs.length := by omega
  have hlt : (gi : Int) < (gs.length : Int) := by omega
  have hdrop : gs.drop gi = gs[gi] :: gs.drop (gi + 1) := List.drop_eq_getElem_cons hgl
  have hcp := hc1 gs[gi] (List.getElem_mem hgl)
  rw [hdrop] at hF hn hsg
  simp only [sumL] at hn
  simp only [segsR] at hF
  simp only [SegAll] at hsg
  obtain ⟨hall,hsg2⟩ := hsg
  have hg2 : Sl h 1 gv gs.length (nI gs) := hg.of_sid fun id b hid hb => by rw [I.low id (hgq id hid)]; exact hb
  have rk : ∀ {G : Heap} {kd : IntKind} {w : Value} {xs : List Int},Rk kd hB w xs → (∀ id,sid w = some id → Q id) → (∀ id,Q id → blk? G id = blk? hB id) → hB.length ≤ G.length → Rk kd G w xs := fun r hq hl hle => r.keep hle fun id _ hs => hl id (hq id hs)
  have hp2 := rk hp hpq I.low I.len
  obtain ⟨gid,goff,gb,egv,hgb,hgc⟩ := hg2.get hgl
  have hgd0 : gs.getD gi 0 = gs[gi] := by rw [List.getD_eq_getElem?_getD,List.getElem?_eq_getElem hgl]; rfl
  have hgc0 := hgc 0 (by omega)
  rw [Nat.mul_one,Nat.add_zero,Nat.add_zero,nI_get hgl,hgd0] at hgc0
  generalize hcc : gs[gi] = cnt at *
  have hni : s.ls.length + cnt - 1 < ps.length := by omega
  obtain ⟨pid,poff,pbk,epv,hpb,hpc⟩ := hp2.get hni
  have hpe : ps.getD (s.ls.length + cnt - 1) 0 = ps[s.ls.length + cnt - 1] := by rw [List.getD_eq_getElem?_getD,List.getElem?_eq_getElem hni]; rfl
  have hp0 := hps ps[s.ls.length + cnt - 1] (List.getElem_mem hni)
  obtain ⟨e,he⟩ := Int.eq_ofNat_of_zero_le hp0
  have hze : zE ps (s.ls.length + cnt) = e := by unfold zE; rw [if_neg (by omega),hpe,he]; rfl
  obtain ⟨z1,z2⟩ := hz s.ls.length (s.ls.length + cnt) (by omega) (by omega)
  rw [hze,← hbeg] at z1
  rw [hze] at z2
  rw [hpe,he,Int.toNat_natCast] at hF
  rw [he] at hpc
  have hvl := I.vl
  obtain ⟨la,lc,hlv⟩ := I.ol.sl.shape
  obtain ⟨pb,dv,D0,on,Z0,iS⟩ := I.zd
  have kk6 := I.kp X6 (.inr (.inl rfl))
  have kk11 := I.kp X11 (.inr (.inr (.inl rfl)))
  have kkp := I.kp p (.inr (.inr (.inr (.inl rfl))))
  have hcl := blk?_lt I.cb.blkc
  have lvlt : ∀ id,sid lv = some id → id < h.length := fun id hid => I.ol.lt hid
  have hDd : Dig (segD ds beg e) := fun x hx => hds x (List.mem_of_mem_take (List.mem_of_mem_drop hx))
  have hDl : (segD ds beg e).length < 100000000 := by unfold segD; rw [List.length_drop,List.length_take]; omega
  have own_lt : ∀ id,ownE d pb dv id → id < h.length := fun id hid => Z0.lt hid
  have hd1 := rk hd hdq I.low I.len
  obtain ⟨sv,es,hsl⟩ := seg_sl hd1 z1 z2
  obtain ⟨h1,q',svv,eN,J,kx,lx,fo⟩ := znewReader_c hsl hDd hDl
  have hraw := fun H R => raw_r (h := H) (R := R) (n := s.ls.length) (by omega) m
  simp only [MD.val] at hraw
  have w1 : IntKind.i64.wrap ((s.ls.length : Int) + (cnt : Int)) = ((s.ls.length + cnt : Nat) : Int) := by rw [wrapI (by omega) (by omega)]; omega
  have w2 : IntKind.i64.wrap (((s.ls.length + cnt : Nat) : Int) - 1) = ((s.ls.length + cnt - 1 : Nat) : Int) := by rw [wrapI (by omega) (by omega)]; omega
  have w3 : IntKind.i64.wrap ((gi : Int) + 1) = ((gi + 1 : Nat) : Int) := wrapN (n := gi + 1) (by omega)
  have hi1 : ((s.ls.length + cnt - 1 : Nat) : Int) < (ps.length : Int) := by omega
  have hi0 : (0 : Int) ≤ ((s.ls.length + cnt - 1 : Nat) : Int) := by omega
  have hit : (((s.ls.length + cnt - 1 : Nat) : Int)).toNat = s.ls.length + cnt - 1 := Int.toNat_natCast _
  have mkZI : ∀ (h2 : Heap) (dv' : Value) (D : List Nat) (on' : Bool) (s1 : Rdg),s1.b = s.b → s1.ls = s.ls → (∀ id,id < h.length → ¬ ownE d pb dv id → blk? h2 id = blk? h id) → ZD h2 d pb dv' D on' s1.a (s.ls.length * 20000 + 4) → RB h2 q' svv (segD ds beg e) 0 →
    (∀ id,ownE d pb dv' id → (ownE d pb dv id ∨ h.length ≤ id) ∧ ¬ ownR q' svv id) → h.length ≤ h2.length → ZI Q hB h2 X6 X11 p c d pb q' pl pv dv0 m dv' svv D on' (segD ds beg e,0) lv vs s1 (s.ls.length * 20000 + 4) := by
   intro h2 dv' D on' s1 eb el kK Z J2 hf l2
   have kO : ∀ id,KpO Q X6 X11 p vs id → blk? h2 id = blk? h id := fun id hid => kK id (I.kp id hid).2.2 (fun x => (iS id x).1 hid)
   have newZ : ∀ id,ownZq d pb q' dv' svv id → ownE d pb dv id ∨ h.length ≤ id := fun id hid => hid.elim (fun x => (hf id x).1) fun x => .inr (fo id x)
   refine ⟨by rw [kO X6 (.inr (.inl rfl))]; exact I.b6,by rw [kO X11 (.inr (.inr (.inl rfl)))]; exact I.b11,⟨by rw [eb,kO p (.inr (.inr (.inr (.inl rfl))))]; exact I.cb.blkp,by rw [eb,kK c hcl (fun x => (iS c x).2.1 rfl)]; exact I.cb.blkc,by rw [eb]; exact I.cb.ok⟩,by rw [eb]; exact I.good,Z,J2,by simp,fun id hid => (hf id hid).2,
    own_lv I.ol fun id hid => kK id (lvlt id hid) (fun x => (iS id x).2.2 hid),by rw [el]; exact I.vl,fun i h1 h2 => ?_,fun id hid => ?_,fun id hid => ?_,I.nl,fun id hid => by rw [kO id (.inl hid)]; exact I.low id hid,by have := I.len; omega,by rw [el]; exact I.small,I.cB⟩
   ·have e2 : s1.ls[i] = s.ls[i]'(by rw [← el]; exact h2) := by simp only [el]
    rw [e2]
    exact own_lv (I.each i h1 (by rw [← el]; exact h2)) fun id hid => kO id (.inr (.inr (.inr (.inr ⟨_,List.getElem_mem h1,hid⟩))))
   ·obtain ⟨q1,q2,q3⟩ := I.kp id hid
    exact ⟨fun x => (newZ id x).elim (fun y => (iS id y).1 hid) (fun y => by omega),q1,q2,by omega⟩
   ·rcases newZ id hid with y | y
    ·exact (iS id y).2
    ·exact ⟨by omega,fun x => by have := lvlt _ x; omega⟩
  have hb62 := I.b6
  have hb112 := I.b11
  have e6 : blk? h1 X6 = some ⟨false,[.int .i64 pl,pv,dv0]⟩ := by rw [kx X6 kk6.2.2]; exact I.b6
  have behind : ∀ (h9 : Heap) (lv9 : Value) (vs9 : List Value) (s9 : Rdg) (K0 K1 K2 K3 K5 K7 K8 K9 Ka Kc Kf Kh Kn Ko Kp Kq Kr Ks Kt Ku Kv Kw Kx Ky Kz J0 J1 J2 J3 J4 J5 J6 J7 J8 J9 Ja Jb Jc Jd Je Jf Jg Jh Ji Jj Jk Jl Jm Jn Jo Jp Jq Jr Js Jt Ju Jv Jw Jx Jy Jz Y0 Y1 Y2 Y3 Y4 Y5 Y6 Y7 Y8 Y9 Ya Yb Yc Yd Ye Yf Yg Yh Yi Yj Yk Yl Ym Yn Yo Yp Yq Yr Ys Yt Yu Yv Yw Yx Yy Yz Z0 Z1 Z2 Z3 Z4 Z5 Z6 : Value),ZO Q hB h9 X6 X11 p c d pl pv dv0 m lv9 vs9 s9 → s9.ls.length = s.ls.length + cnt → segsR m pl o ps ds (gs.drop (gi + 1)) e s9 = sF →
    Ok tab R31 (.code (tlC 5 (inB (nthC 0 L31_1b))) :: .inBlock 1 :: .code (tlC 1 L31_1b) :: .inLoop L31_1 :: .inBlock 0 :: k) #[K0,K1,K2,K3,.int .i64 o,K5,ptr X6,K7,K8,K9,Ka,ptr X11,Kc,lv9,ptr p,Kf,ptr d,Kh,gv,.int .i64 (s9.ls.length : Nat),.int .i64 (beg : Nat),.int .i64 (gi : Nat),.int .i64 (e : Nat),Kn,Ko,Kp,Kq,Kr,Ks,Kt,Ku,Kv,Kw,Kx,Ky,Kz,J0,J1,J2,J3,J4,J5,J6,J7,J8,J9,Ja,Jb,Jc,Jd,Je,Jf,Jg,Jh,Ji,Jj,Jk,Jl,Jm,Jn,Jo,Jp,Jq,Jr,Js,Jt,Ju,Jv,Jw,Jx,Jy,Jz,Y0,Y1,Y2,Y3,Y4,Y5,Y6,Y7,Y8,Y9,Ya,Yb,Yc,Yd,Ye,Yf,Yg,Yh,Yi,Yj,Yk,Yl,Ym,Yn,Yo,Yp,Yq,Yr,Ys,Yt,Yu,Yv,Yw,Yx,Yy,Yz,Z0,Z1,Z2,Z3,Z4,Z5,Z6] h9 R := by
   intro h9 lv9 vs9 s9 K0 K1 K2 K3 K5 K7 K8 K9 Ka Kc Kf Kh Kn Ko Kp Kq Kr Ks Kt Ku Kv Kw Kx Ky Kz J0 J1 J2 J3 J4 J5 J6 J7 J8 J9 Ja Jb Jc Jd Je Jf Jg Jh Ji Jj Jk Jl Jm Jn Jo Jp Jq Jr Js Jt Ju Jv Jw Jx Jy Jz Y0 Y1 Y2 Y3 Y4 Y5 Y6 Y7 Y8 Y9 Ya Yb Yc Yd Ye Yf Yg Yh Yi Yj Yk Yl Ym Yn Yo Yp Yq Yr Ys Yt Yu Yv Yw Yx Yy Yz Z0 Z1 Z2 Z3 Z4 Z5 Z6 I9 hl9 hF9
   have ih' := fun K0 K1 K2 K3 K5 K7 K8 K9 Ka Kc Kf Kh Km Kn Ko Kp Kq Kr Ks Kt Ku Kv Kw Kx Ky Kz J0 J1 J2 J3 J4 J5 J6 J7 J8 J9 Ja Jb Jc Jd Je Jf Jg Jh Ji Jj Jk Jl Jm Jn Jo Jp Jq Jr Js Jt Ju Jv Jw Jx Jy Jz Y0 Y1 Y2 Y3 Y4 Y5 Y6 Y7 Y8 Y9 Ya Yb Yc Yd Ye Yf Yg Yh Yi Yj Yk Yl Ym Yn Yo Yp Yq Yr Ys Yt Yu Yv Yw Yx Yy Yz Z0 Z1 Z2 Z3 Z4 Z5 Z6 => ih (gi + 1) h9 lv9 vs9 s9 e K0 K1 K2 K3 K5 K7 K8 K9 Ka Kc Kf Kh Km Kn Ko Kp Kq Kr Ks Kt Ku Kv Kw Kx Ky Kz J0 J1 J2 J3 J4 J5 J6 J7 J8 J9 Ja Jb Jc Jd Je Jf Jg Jh Ji Jj Jk Jl Jm Jn Jo Jp Jq Jr Js Jt Ju Jv Jw Jx Jy Jz Y0 Y1 Y2 Y3 Y4 Y5 Y6 Y7 Y8 Y9 Ya Yb Yc Yd Ye Yf Yg Yh Yi Yj Yk Yl Ym Yn Yo Yp Yq Yr Ys Yt Yu Yv Yw Yx Yy Yz Z0 Z1 Z2 Z3 Z4 Z5 Z6 (by omega) I9 (by omega) (by rw [hl9,hze]) (by rw [hl9]; exact hsg2) hF9
   generalize ((gi + 1 : Nat) : Int) = gi1 at *
   simp only [nthC,tlC,fstC,inB,L31_1b]
   simp [w3]
   exact ih' ..
  have go : ∀ (h2 : Heap) (dv' : Value) (D : List Nat) (on' : Bool) (s1 : Rdg) (K0 K1 K2 K3 K5 K7 K8 K9 Ka Kc Kf Kh Kq Kr Ks Kt Ku Kv Kw Kx Ky Kz J0 J1 J2 J3 J4 J5 J6 J7 J8 J9 Ja Jb Jc Jd Je Jf Jg Jh Ji Jj Jk Jl Jm Jn Jo Jp Jq Jr Js Jt Ju Jv Jw Jx Jy Jz Y0 Y1 Y2 Y3 Y4 Y5 Y6 Y7 Y8 Y9 Ya Yb Yc Yd Ye Yf Yg Yh Yi Yj Yk Yl Ym Yn Yo Yp Yq Yr Ys Yt Yu Yv Yw Yx Yy Yz Z0 Z1 Z2 Z3 Z4 Z5 Z6 : Value),ZI Q hB h2 X6 X11 p c d pb q' pl pv dv0 m dv' svv D on' (segD ds beg e,0) lv vs s1 (s.ls.length * 20000 + 4) → s1.ls = s.ls → ((rawOf m s.ls.length = false → on' = true ∧ s1.raw = none) ∧ (rawOf m s.ls.length = true → s1.raw = some (segD ds beg e,0))) → segsR m pl o ps ds (gs.drop (gi + 1)) e (passesR m pl o cnt s.ls.length s1) = sF →
    Ok tab R31 (.inLoop L31_0 :: .inBlock 2 :: .code (tlC 5 (inB (nthC 0 L31_1b))) :: .inBlock 1 :: .code (tlC 1 L31_1b) :: .inLoop L31_1 :: .inBlock 0 :: k) #[K0,K1,K2,K3,.int .i64 o,K5,ptr X6,K7,K8,K9,Ka,ptr X11,Kc,lv,ptr p,Kf,ptr d,Kh,gv,.int .i64 (s.ls.length : Nat),.int .i64 (beg : Nat),.int .i64 (gi : Nat),.int .i64 (e : Nat),.bool (rawOf m s.ls.length),ptr q',.int .i64 0,Kq,Kr,Ks,Kt,Ku,Kv,Kw,Kx,Ky,Kz,J0,J1,J2,J3,J4,J5,J6,J7,J8,J9,Ja,Jb,Jc,Jd,Je,Jf,Jg,Jh,Ji,Jj,Jk,Jl,Jm,Jn,Jo,Jp,Jq,Jr,Js,Jt,Ju,Jv,Jw,Jx,Jy,Jz,Y0,Y1,Y2,Y3,Y4,Y5,Y6,Y7,Y8,Y9,Ya,Yb,Yc,Yd,Ye,Yf,Yg,Yh,Yi,Yj,Yk,Yl,Ym,Yn,Yo,Yp,Yq,Yr,Ys,Yt,Yu,Yv,Yw,Yx,Yy,Yz,Z0,Z1,Z2,Z3,Z4,Z5,Z6] h2 R := by
   intro h2 dv' D on' s1 K0 K1 K2 K3 K5 K7 K8 K9 Ka Kc Kf Kh Kq Kr Ks Kt Ku Kv Kw Kx Ky Kz J0 J1 J2 J3 J4 J5 J6 J7 J8 J9 Ja Jb Jc Jd Je Jf Jg Jh Ji Jj Jk Jl Jm Jn Jo Jp Jq Jr Js Jt Ju Jv Jw Jx Jy Jz Y0 Y1 Y2 Y3 Y4 Y5 Y6 Y7 Y8 Y9 Ya Yb Yc Yd Ye Yf Yg Yh Yi Yj Yk Yl Ym Yn Yo Yp Yq Yr Ys Yt Yu Yv Yw Yx Yy Yz Z0 Z1 Z2 Z3 Z4 Z5 Z6 I2 el hlk hF2
   have hPL := fun K0 K1 K2 K3 K5 K7 K8 K9 Ka Kc Kf Kh Kq Kr Ks Kt Ku Kv Kw Kx Ky Kz J0 J1 J2 J3 J4 J5 J6 J7 J8 J9 Ja Jb Jc Jd Je Jf Jg Jh Ji Jj Jk Jl Jm Jn Jo Jp Jq Jr Js Jt Ju Jv Jw Jx Jy Jz Y0 Y1 Y2 Y3 Y4 Y5 Y6 Y7 Y8 Y9 Ya Yb Yc Yd Ye Yf Yg Yh Yi Yj Yk Yl Ym Yn Yo Yp Yq Yr Ys Yt Yu Yv Yw Yx Yy Yz Z0 Z1 Z2 Z3 Z4 Z5 Z6 => zpass_loop (k := .code (tlC 5 (inB (nthC 0 L31_1b))) :: .inBlock 1 :: .code (tlC 1 L31_1b) :: .inLoop L31_1 :: .inBlock 0 :: k) (o := o) (v20 := .int .i64 (beg : Nat)) (v22 := .int .i64 (e : Nat)) (rw := rawOf m s.ls.length) (sF := passesR m pl o cnt s1.ls.length s1) (R := R) (hB := hB) (X6 := X6) (X11 := X11) (p := p) (c := c) (d := d) (q := q') (pl := pl) (pv := pv) (dv0 := dv0) (dv := dv') (rs := svv) (D := D) (m := m) hg hgq hgl hcc (by omega)
    (fun h9 pb9 on9 rd9 lv9 vs9 N9 K0 K1 K2 K3 K5 K7 K8 K9 Ka Kc Kf Kh Kn Ko Kp Kq Kr Ks Kt Ku Kv Kw Kx Ky Kz J0 J1 J2 J3 J4 J5 J6 J7 J8 J9 Ja Jb Jc Jd Je Jf Jg Jh Ji Jj Jk Jl Jm Jn Jo Jp Jq Jr Js Jt Ju Jv Jw Jx Jy Jz Y0 Y1 Y2 Y3 Y4 Y5 Y6 Y7 Y8 Y9 Ya Yb Yc Yd Ye Yf Yg Yh Yi Yj Yk Yl Ym Yn Yo Yp Yq Yr Ys Yt Yu Yv Yw Yx Yy Yz Z0 Z1 Z2 Z3 Z4 Z5 Z6 I9 hN9 => behind h9 lv9 vs9 _ _ _ _ _ _ _ _ _ _ _ _ _ _ _ _ _ _ _ _ _ _ _ _ _ _ _ _ _ _ _ _ _ _ _ _ _ _ _ _ _ _ _ _ _ _ _ _ _ _ _ _ _ _ _ _ _ _ _ _ _ _ _ _ _ _ _ _ _ _ _ _ _ _ _ _ _ _ _ _ _ _ _ _ _ _ _ _ _ _ _ _ _ _ _ _ _ _ _ _ _ _ _ _ _ (I9.zo hN9) (by rw [passesR_len,el]) (by rw [el]; exact hF2))
    cnt 0 h2 pb on' _ lv vs s1 _ K0 K1 K2 K3 K5 K7 K8 K9 Ka Kc Kf Kh Kq Kr Ks Kt Ku Kv Kw Kx Ky Kz J0 J1 J2 J3 J4 J5 J6 J7 J8 J9 Ja Jb Jc Jd Je Jf Jg Jh Ji Jj Jk Jl Jm Jn Jo Jp Jq Jr Js Jt Ju Jv Jw Jx Jy Jz Y0 Y1 Y2 Y3 Y4 Y5 Y6 Y7 Y8 Y9 Ya Yb Yc Yd Ye Yf Yg Yh Yi Yj Yk Yl Ym Yn Yo Yp Yq Yr Ys Yt Yu Yv Yw Yx Yy Yz Z0 Z1 Z2 Z3 Z4 Z5 Z6 (by omega) I2 (by rw [el]; omega) (by rw [el]; omega) (fun i hi => by rw [el]; exact hall i hi) hlk rfl
   rw [el] at hPL
   exact hPL ..
  clear ih behind
  rw [hvl] at hlv
  rw [epv] at e6 hb62
  generalize hnc : ((s.ls.length + cnt : Nat) : Int) = nc at *
  generalize hnc1 : ((s.ls.length + cnt - 1 : Nat) : Int) = nc1 at *
  cases hrw : rawOf m s.ls.length with
  | true =>
   rw [hrw] at hF hraw go
   simp only [if_true] at hF
   have I2 := mkZI h1 dv D0 on { s with raw := some (segD ds beg e,0) } rfl rfl (fun id h3 _ => kx id h3) (Z0.keep fun id hid => kx id (own_lt id hid)) J
    (fun id hid => ⟨.inl hid,fun x => by have := own_lt id hid; have := fo id x; omega⟩) lx
   have go' := fun K0 K1 K2 K3 K5 K7 K8 K9 Ka Kc Kf Kh Kq Kr Ks Kt Ku Kv Kw Kx Ky Kz J0 J1 J2 J3 J4 J5 J6 J7 J8 J9 Ja Jb Jc Jd Je Jf Jg Jh Ji Jj Jk Jl Jm Jn Jo Jp Jq Jr Js Jt Ju Jv Jw Jx Jy Jz Y0 Y1 Y2 Y3 Y4 Y5 Y6 Y7 Y8 Y9 Ya Yb Yc Yd Ye Yf Yg Yh Yi Yj Yk Yl Ym Yn Yo Yp Yq Yr Ys Yt Yu Yv Yw Yx Yy Yz Z0 Z1 Z2 Z3 Z4 Z5 Z6 => go _ _ _ _ _ K0 K1 K2 K3 K5 K7 K8 K9 Ka Kc Kf Kh Kq Kr Ks Kt Ku Kv Kw Kx Ky Kz J0 J1 J2 J3 J4 J5 J6 J7 J8 J9 Ja Jb Jc Jd Je Jf Jg Jh Ji Jj Jk Jl Jm Jn Jo Jp Jq Jr Js Jt Ju Jv Jw Jx Jy Jz Y0 Y1 Y2 Y3 Y4 Y5 Y6 Y7 Y8 Y9 Ya Yb Yc Yd Ye Yf Yg Yh Yi Yj Yk Yl Ym Yn Yo Yp Yq Yr Ys Yt Yu Yv Yw Yx Yy Yz Z0 Z1 Z2 Z3 Z4 Z5 Z6 I2 rfl ⟨fun x => (by cases x),fun _ => rfl⟩ hF
   clear go
   rw [egv] at go' ⊢
   rw [hlv] at go' ⊢
   rw [ok_round,l31_1,L31_1a,show L31_1b = .seq (.block 1 (.seq (nthC 0 (inB (nthC 0 L31_1b))) (.seq (nthC 1 (inB (nthC 0 L31_1b))) (.seq (nthC 2 (inB (nthC 0 L31_1b))) (.seq (nthC 3 (inB (nthC 0 L31_1b))) (.seq (nthC 4 (inB (nthC 0 L31_1b))) (tlC 5 (inB (nthC 0 L31_1b))))))))) (tlC 1 L31_1b) from rfl]
   generalize tlC 5 (inB (nthC 0 L31_1b)) = tl5 at *
   generalize tlC 1 L31_1b = tl1 at *
   simp only [nthC,tlC,fstC,inB,L31_1b]
   simp [hlt,hgb,hgc0,hb62,w1,w2,hi1,hi0,hit,hpb,hpc,hb112,hraw,e6,es,eN]
   exact go' ..
  | false =>
   rw [hrw] at hF hraw go
   simp only [Bool.false_eq_true,if_false] at hF
   obtain ⟨n0,st0,iD0⟩ := Z0.dp
   have iD1 : DP h1 d pb dv D0 n0 s.a.p s.a.value s.a.size st0 := iD0.keep fun id hid => kx id (own_lt id hid)
   have hsl1 : Sl h1 1 sv (segD ds beg e).length (nU (segD ds beg e)) := hsl.of_sid fun id b hid hb => by rw [kx id (blk?_lt hb)]; exact hb
   obtain ⟨h2,dv',eS,Ix,Fx⟩ := zstart_c iD1 (by have := Z0.h19; omega) hsl1 hDd hDl
   have lx2 := Fx.len
   have kx2 : ∀ id,id < h1.length → ¬ ownE d pb dv id → blk? h2 id = blk? h1 id := fun id h3 h4 => Fx.same id h3 (fun y => h4 (.inl y)) (fun y => h4 (.inr (.inl y))) (fun y => h4 (.inr (.inr y)))
   have frE : ∀ id,ownE d pb dv' id → ownE d pb dv id ∨ h1.length ≤ id := fun id hid => by
    rcases hid with hid | hid | hid
    ·exact .inl (.inl hid)
    ·exact .inl (.inr (.inl hid))
    ·rcases Fx.fresh id hid with y | y
     ·exact .inl (.inr (.inr y))
     ·exact .inr y.1
   have I2 := mkZI h2 dv' (segD ds beg e) true { s with a := AD.start s.a.p (segD ds beg e),raw := none } rfl rfl
    (fun id h3 h4 => by rw [kx2 id (by omega) h4,kx id h3])
    ⟨⟨4,by omega,.inl ⟨rfl,⟨Ix,rfl,AD.start_ok Z0.ps hDd,by simp only [AD.start]; have := Z0.h19; omega⟩⟩⟩,Z0.h19,Z0.ps,hDd,hDl⟩
    (J.keep fun id hid => kx2 id (J.own_lt hid) (fun y => by have := own_lt id y; have := fo id hid; omega))
    (fun id hid => ⟨(frE id hid).imp_right (by omega),fun x => by
     have h5 := fo id x
     have h6 := J.own_lt x
     rcases frE id hid with y | y
     ·have := own_lt id y; omega
     ·omega⟩) (by omega)
   have go' := fun K0 K1 K2 K3 K5 K7 K8 K9 Ka Kc Kf Kh Kq Kr Ks Kt Ku Kv Kw Kx Ky Kz J0 J1 J2 J3 J4 J5 J6 J7 J8 J9 Ja Jb Jc Jd Je Jf Jg Jh Ji Jj Jk Jl Jm Jn Jo Jp Jq Jr Js Jt Ju Jv Jw Jx Jy Jz Y0 Y1 Y2 Y3 Y4 Y5 Y6 Y7 Y8 Y9 Ya Yb Yc Yd Ye Yf Yg Yh Yi Yj Yk Yl Ym Yn Yo Yp Yq Yr Ys Yt Yu Yv Yw Yx Yy Yz Z0 Z1 Z2 Z3 Z4 Z5 Z6 => go _ _ _ _ _ K0 K1 K2 K3 K5 K7 K8 K9 Ka Kc Kf Kh Kq Kr Ks Kt Ku Kv Kw Kx Ky Kz J0 J1 J2 J3 J4 J5 J6 J7 J8 J9 Ja Jb Jc Jd Je Jf Jg Jh Ji Jj Jk Jl Jm Jn Jo Jp Jq Jr Js Jt Ju Jv Jw Jx Jy Jz Y0 Y1 Y2 Y3 Y4 Y5 Y6 Y7 Y8 Y9 Ya Yb Yc Yd Ye Yf Yg Yh Yi Yj Yk Yl Ym Yn Yo Yp Yq Yr Ys Yt Yu Yv Yw Yx Yy Yz Z0 Z1 Z2 Z3 Z4 Z5 Z6 I2 rfl ⟨fun _ => ⟨rfl,rfl⟩,fun x => (by cases x)⟩ hF
   clear go
   rw [egv] at go' ⊢
   rw [hlv] at go' ⊢
   rw [ok_round,l31_1,L31_1a,show L31_1b = .seq (.block 1 (.seq (nthC 0 (inB (nthC 0 L31_1b))) (.seq (nthC 1 (inB (nthC 0 L31_1b))) (.seq (nthC 2 (inB (nthC 0 L31_1b))) (.seq (nthC 3 (inB (nthC 0 L31_1b))) (.seq (nthC 4 (inB (nthC 0 L31_1b))) (tlC 5 (inB (nthC 0 L31_1b))))))))) (tlC 1 L31_1b) from rfl]
   generalize tlC 5 (inB (nthC 0 L31_1b)) = tl5 at *
   generalize tlC 1 L31_1b = tl1 at *
   simp only [nthC,tlC,fstC,inB,L31_1b]
   simp [hlt,hgb,hgc0,hb62,w1,w2,hi1,hi0,hit,hpb,hpc,hb112,hraw,e6,es,eN,eS]
   exact go' ..
set_option maxHeartbeats 4000000 in
theorem zsyms_c {pv dv0 : Value} {pl o : Int} {ps : List Int} {ds : List Nat} {n w hh : Nat} (m : MD) (hp : Rk .i64 h pv ps) (hd : Rk .u8 h dv0 (ds.map Int.ofNat)) (hps : ∀ x ∈ ps,0 ≤ x) (hz : ∀ i j,i ≤ j → j ≤ ps.length → zE ps i ≤ zE ps j ∧ zE ps j ≤ ds.length)
  (hdl : ds.length < 100000000) (hds : ∀ x ∈ ds,x < 256) (hpl : ps.length ≤ 178) (hn : n ≤ ps.length) (w1 : 1 ≤ w) (w2 : w ≤ 64) (h1 : 1 ≤ hh) (h2 : hh ≤ 64) :
  ∃ lv h',(∀ R : Value → Heap → Prop,Ret tab 31 [.agg #[.int .i64 pl,pv,dv0],.int .i64 (n : Nat),.int .i64 (w : Nat),.int .i64 (hh : Nat),.int .i64 o,m.val] h R = R lv h') ∧
   RdV h.length h' lv (readP m pl o ps ds n w hh).ls ∧ (∀ id,id < h.length → blk? h' id = blk? h id) ∧ h.length ≤ h'.length := by
 have key : ∀ R0 : Value → Heap → Prop,(∀ lv h',RdV h.length h' lv (readP m pl o ps ds n w hh).ls → (∀ id,id < h.length → blk? h' id = blk? h id) → h.length ≤ h'.length → R0 lv h') →
   Ret tab 31 [.agg #[.int .i64 pl,pv,dv0],.int .i64 (n : Nat),.int .i64 (w : Nat),.int .i64 (hh : Nat),.int .i64 o,m.val] h R0 := by
  intro R0 hR
  generalize hH : h ++ [some (⟨false,[.int .i64 pl,pv,dv0]⟩ : Blk),some ⟨false,[.bool m.byp,.bool m.res,.bool m.rst,.bool m.cz,.bool m.sy]⟩,some ⟨false,[]⟩] = H
  have lH : H.length = h.length + 3 := by rw [← hH]; simp
  have kH : ∀ id,id < h.length → blk? H id = blk? h id := fun id hid => by rw [← hH]; exact app_lt hid
  have b6 : blk? H h.length = some ⟨false,[.int .i64 pl,pv,dv0]⟩ := by rw [← hH,app_len]; rfl
  have b11 : blk? H (h.length + 1) = some ⟨false,[.bool m.byp,.bool m.res,.bool m.rst,.bool m.cz,.bool m.sy]⟩ := by rw [← hH,app_add]; rfl
  have b13 : blk? H (h.length + 2) = some ⟨false,[]⟩ := by rw [← hH,app_add]; rfl
  have e1 := fun R => new_r (h := H) (R := R) w1 w2 h1 h2
  have cb1 := newHeap_cb H w1 w2 h1 h2
  have k1 := newHeap_low H w hh
  have l1 := newHeap_len H w hh
  generalize newHeap H w hh = H1 at *
  obtain ⟨H2,d,pb,e2,iD,hdB,hpB,l2,k2⟩ := zdec_new (h := H1)
  obtain ⟨gv,H3,e3,og,gB,k3,l3⟩ := segments_x (h := H2) (n := n) (by omega) m
  obtain ⟨sg1,sg2,sg3⟩ := segs_sum (m := m) (n := n) (by omega)
  have k13 : ∀ id,id < H1.length → blk? H3 id = blk? H1 id := fun id hid => by rw [k3 id (by omega),k2 id hid]
  have kH3 : ∀ id,id < H.length → blk? H3 id = blk? H id := fun id hid => by rw [k13 id (by omega),k1 id hid]
  have kh3 : ∀ id,id < h.length → blk? H3 id = blk? h id := fun id hid => by rw [kH3 id (by omega),kH id hid]
  obtain ⟨ga,gc,hgv⟩ := og.shape
  have iD3 : DP H3 d pb (.slice none 0 0) [] 0 (AE.base 19) 0 0 false := iD.keep fun id hid => k3 id (iD.own_lt hid)
  have oE : ∀ id,ownE d pb (.slice none 0 0) id → H1.length ≤ id ∧ id < H2.length := fun id hid => by
   have := iD.own_lt hid
   rcases hid with rfl | rfl | hid
   ·exact ⟨hdB,this⟩
   ·exact ⟨hpB,this⟩
   ·simp [sid] at hid
  have gl : ∀ id,sid gv = some id → H2.length ≤ id ∧ id < H3.length := gB
  have hp3 : Rk .i64 H3 pv ps := hp.keep (by omega) fun id hid _ => kh3 id hid
  have hd3 : Rk .u8 H3 dv0 (ds.map Int.ofNat) := hd.keep (by omega) fun id hid _ => kh3 id hid
  have I0 : ZO (fun id => id < h.length ∨ sid gv = some id) H3 H3 h.length (h.length + 1) (H.length + 1) H.length d pl pv dv0 m (.slice (some ⟨h.length + 2,0,none⟩) 0 1) [] ⟨⟨AE.base 19,[],0,0⟩,none,newBS w hh,(n : Int),[]⟩ := by
   refine ⟨by rw [kH3 _ (by omega)]; exact b6,by rw [kH3 _ (by omega)]; exact b11,⟨by rw [k13 _ (by omega)]; exact cb1.blkp,by rw [k13 _ (by omega)]; exact cb1.blkc,cb1.ok⟩,newBS_good w1 w2 h1 h2,⟨_,_,[],false,⟨⟨0,by omega,.inr ⟨rfl,iD3⟩⟩,by simp [AE.base],base_ok 19,(by intro x hx; cases hx),by simp⟩,fun id hid => ⟨?_,?_,?_⟩⟩,⟨by simp,.inr ⟨h.length + 2,by simp,by rw [kH3 _ (by omega)]; exact b13⟩⟩,rfl,fun i h1 _ => by simp at h1,fun id hid => ?_,by simp [sid]; omega,fun _ _ => rfl,Nat.le_refl _,fun l hl => (by cases hl),⟨?_,by omega,by omega⟩⟩
   ·have := oE id hid
    rintro ((x | x) | x | x | x | ⟨w,hw,_⟩)
    ·omega
    ·have := gl id x; omega
    ·omega
    ·omega
    ·omega
    ·cases hw
   ·have := oE id hid; omega
   ·have := oE id hid; simp [sid]; omega
   ·have : id ≠ H.length ∧ id ≠ h.length + 2 ∧ id < H3.length := by
     rcases hid with (x | x) | x | x | x | ⟨w,hw,_⟩
     ·omega
     ·have := gl id x; omega
     ·omega
     ·omega
     ·omega
     ·cases hw
    exact ⟨this.1,by simp [sid]; omega,this.2.2⟩
   ·rintro (x | x)
    ·omega
    ·have := gl _ x; omega
  have hL := fun K0 K1 K2 K3 K5 K7 K8 K9 Ka Kc Kf Kh Km Kn Ko Kp Kq Kr Ks Kt Ku Kv Kw Kx Ky Kz J0 J1 J2 J3 J4 J5 J6 J7 J8 J9 Ja Jb Jc Jd Je Jf Jg Jh Ji Jj Jk Jl Jm Jn Jo Jp Jq Jr Js Jt Ju Jv Jw Jx Jy Jz Y0 Y1 Y2 Y3 Y4 Y5 Y6 Y7 Y8 Y9 Ya Yb Yc Yd Ye Yf Yg Yh Yi Yj Yk Yl Ym Yn Yo Yp Yq Yr Ys Yt Yu Yv Yw Yx Yy Yz Z0 Z1 Z2 Z3 Z4 Z5 Z6 => zseg_loop (R := R0) (k := [.code (tlC 7 B31)]) (o := o) (sF := readP m pl o ps ds n w hh) (Q := fun id => id < h.length ∨ sid gv = some id) (hB := H3) og (fun id hid => .inr hid) hp3 (fun id hid => .inl (hp.lt hid)) hd3 (fun id hid => .inl (hd.lt hid))
   (fun x hx => (sg3 x hx).1) hps hz hdl hds hpl (by omega)
   (fun h9 lv vs K0 K1 K2 K3 K4 K5 K6 K7 K8 K9 Ka Kb Kc Ke Kf Kg Kh Ki Kj Kk Kl Km Kn Ko Kp Kq Kr Ks Kt Ku Kv Kw Kx Ky Kz J0 J1 J2 J3 J4 J5 J6 J7 J8 J9 Ja Jb Jc Jd Je Jf Jg Jh Ji Jj Jk Jl Jm Jn Jo Jp Jq Jr Js Jt Ju Jv Jw Jx Jy Jz Y0 Y1 Y2 Y3 Y4 Y5 Y6 Y7 Y8 Y9 Ya Yb Yc Yd Ye Yf Yg Yh Yi Yj Yk Yl Ym Yn Yo Yp Yq Yr Ys Yt Yu Yv Yw Yx Yy Yz Z0 Z1 Z2 Z3 Z4 Z5 Z6 I9 => by
    obtain ⟨ta,tc,ht⟩ := I9.ol.sl.shape
    have hR' := hR lv h9 ⟨⟨vs,I9.ol,I9.vl,I9.each,I9.small⟩⟩ (fun id hid => by rw [I9.low id (.inl hid),kh3 id hid]) (by have := I9.len; omega)
    simp only [nthC,tlC,fstC,B31]
    simp [fin31]
    exact hR')
   (segsOf m n).length 0 H3 (.slice (some ⟨h.length + 2,0,none⟩) 0 1) [] _ 0 K0 K1 K2 K3 K5 K7 K8 K9 Ka Kc Kf Kh Km Kn Ko Kp Kq Kr Ks Kt Ku Kv Kw Kx Ky Kz J0 J1 J2 J3 J4 J5 J6 J7 J8 J9 Ja Jb Jc Jd Je Jf Jg Jh Ji Jj Jk Jl Jm Jn Jo Jp Jq Jr Js Jt Ju Jv Jw Jx Jy Jz Y0 Y1 Y2 Y3 Y4 Y5 Y6 Y7 Y8 Y9 Ya Yb Yc Yd Ye Yf Yg Yh Yi Yj Yk Yl Ym Yn Yo Yp Yq Yr Ys Yt Yu Yv Yw Yx Yy Yz Z0 Z1 Z2 Z3 Z4 Z5 Z6 (by omega) I0 (by rw [List.drop_zero]; simp; omega) (by simp [zE]) (by rw [List.drop_zero]; exact segAll_all m n) (by rw [List.drop_zero]; rfl)
  have b112 : blk? H2 (h.length + 1) = some ⟨false,[.bool m.byp,.bool m.res,.bool m.rst,.bool m.cz,.bool m.sy]⟩ := by rw [k2 _ (by omega),k1 _ (by omega)]; exact b11
  simp only [MD.val,Int.cast_ofNat_Int] at e2 e3 hL
  rw [hgv] at e3 hL
  generalize (segsOf m n).length = gl at *
  rw [enter31,show B31 = .seq (nthC 0 B31) (.seq (nthC 1 B31) (.seq (nthC 2 B31) (.seq (nthC 3 B31) (.seq (nthC 4 B31) (.seq (nthC 5 B31) (.seq (nthC 6 B31) (tlC 7 B31))))))) from rfl]
  generalize tlC 7 B31 = tl at *
  simp only [nthC,tlC,fstC,B31]
  simp [MD.val,repL,hH,e1,e2,b112,e3]
  exact hL ..
 obtain ⟨v,h',e,a,b,c⟩ := ret_ex (key (fun v h' => RdV h.length h' v (readP m pl o ps ds n w hh).ls ∧ (∀ id,id < h.length → blk? h' id = blk? h id) ∧ h.length ≤ h'.length) fun lv h' a b c => ⟨a,b,c⟩)
 exact ⟨v,h',e,a,b,c⟩
end
structure PerL (hM H : Heap) (bv : Value) (l : List Int) : Prop where
 low : ∀ id,id < hM.length → blk? H id = blk? hM id
 sbk : blk? H hM.length = some ⟨false,[.pointer none,.pointer none,bv,.slice none 0 0]⟩
 own : OwnS H 1 bv l.length (i64s l)
 far : ∀ id,sid bv = some id → hM.length < id
 len : hM.length < H.length
theorem PerL.step {hM H : Heap} {bv : Value} {l : List Int} (r : PerL hM H bv l) (hl : l.length < 1000000) (x y : Int) :
  ∃ bv' H',appendV (H ++ [some ⟨false,[.int .i64 x,.int .i64 y]⟩,some ⟨false,[.int .i64 y]⟩]) 1 8 bv (.slice (some ⟨H.length + 1,0,none⟩) 1 1) = some (bv',H') ∧ blk? H' hM.length = some ⟨false,[.pointer none,.pointer none,bv,.slice none 0 0]⟩ ∧
   (∃ z n,bv' = .slice (some ⟨z,0,none⟩) n 1) ∧ PerL hM (H'.set hM.length (some ⟨false,[.pointer none,.pointer none,bv',.slice none 0 0]⟩)) bv' (l ++ [y]) := by
 have hsl : Sl (H ++ [some ⟨false,[.int .i64 x,.int .i64 y]⟩,some ⟨false,[.int .i64 y]⟩]) 1 (.slice (some ⟨H.length + 1,0,none⟩) 1 1) 1 [.int .i64 y] := ⟨by simp,.inr ⟨H.length + 1,0,rfl,.inr ⟨_,by rw [app_add]; rfl,by simp,by simp⟩⟩⟩
 have ho : OwnS (H ++ [some ⟨false,[.int .i64 x,.int .i64 y]⟩,some ⟨false,[.int .i64 y]⟩]) 1 bv l.length (i64s l) := r.own.of_blk fun id _ hb => by rw [app_lt (blk?_lt hb)]; exact hb
 obtain ⟨H',ha,hK,hHl,hHs⟩ := own_append (bytes := 8) ho hsl (by unfold roomCells; omega) (by omega) (by omega)
 simp only [List.length_append,List.length_cons,List.length_nil,Nat.zero_add,Nat.reduceAdd] at ha hK hHl hHs
 have hlen := r.len
 have hk : ∀ id,id < H.length → sid bv ≠ some id → blk? H' id = blk? H id := fun id hid hne => by rw [hHs id (by omega) hne,app_lt hid]
 have hsb : sid bv ≠ some hM.length := fun e => by have := r.far _ e; omega
 refine ⟨.slice (some ⟨H.length + 2,0,none⟩) (l.length + 1) 1,H',ha,(hk _ hlen hsb).trans r.sbk,⟨_,_,rfl⟩,⟨fun id hid => ?_,blk?_set_eq (by omega),⟨by simp [i64s],.inr ⟨H.length + 2,by simp,?_⟩⟩,fun id hid => ?_,by simp; omega⟩⟩
 ·rw [blk?_set_ne (by omega),hk id (by omega) (fun e => by have := r.far _ e; omega)]; exact r.low id hid
 ·rw [blk?_set_ne (by omega),hK]; simp [i64s]
 ·simp [sid] at hid; omega
section
variable {hM : Heap} {R : Value → Heap → Prop}
set_option maxRecDepth 10000 in
theorem per_loop {sv v0 v1 v2 v3 v10 v12 : Value} {ss : List (Int × Int)} (hs : Sl hM 2 sv ss.length (encP ss)) (hl : ss.length < 1000000) {k : List RItem}
  (hk : ∀ (H : Heap) (bv : Value) (K4 K6 K7 K8 K9 Kb Ke Kf Kg Kh Ki Kj Kk Kl Km Kn Ko Kp Kq Kr Ks Kt Ku Kv Kw Kx Ky Kz J0 J1 J2 J3 J4 J5 J6 J7 J8 J9 Ja Jb Jc Jd Je Jf Jg Jh Ji Jj Jk Jl Jm Jn Jo Jp Jq Jr Js Jt Ju Jv Jw Jx Jy Jz Y0 Y1 Y2 Y3 Y4 Y5 Y6 Y7 Y8 Y9 Ya Yb Yc Yd Ye Yf Yg Yh Yi Yj Yk Yl Ym Yn Yo Yp Yq Yr : Value),PerL hM H bv (ss.map (·.2)) → Ok tab R70 k #[v0,v1,v2,v3,K4,sv,K6,K7,K8,K9,v10,Kb,v12,ptr hM.length,Ke,Kf,Kg,Kh,Ki,Kj,Kk,Kl,Km,Kn,Ko,Kp,Kq,Kr,Ks,Kt,Ku,Kv,Kw,Kx,Ky,Kz,J0,J1,J2,J3,J4,J5,J6,J7,J8,J9,Ja,Jb,Jc,Jd,Je,Jf,Jg,Jh,Ji,Jj,Jk,Jl,Jm,Jn,Jo,Jp,Jq,Jr,Js,Jt,Ju,Jv,Jw,Jx,Jy,Jz,Y0,Y1,Y2,Y3,Y4,Y5,Y6,Y7,Y8,Y9,Ya,Yb,Yc,Yd,Ye,Yf,Yg,Yh,Yi,Yj,Yk,Yl,Ym,Yn,Yo,Yp,Yq,Yr] H R) :
  ∀ (n i : Nat) (H : Heap) (bv : Value) (K4 K6 K7 K8 K9 Kb Ke Kf Kg Kh Ki Kj Kk Ko Kp Kq Kr Ks Kt Ku Kv Kw Kx Ky Kz J0 J1 J2 J3 J4 J5 J6 J7 J8 J9 Ja Jb Jc Jd Je Jf Jg Jh Ji Jj Jk Jl Jm Jn Jo Jp Jq Jr Js Jt Ju Jv Jw Jx Jy Jz Y0 Y1 Y2 Y3 Y4 Y5 Y6 Y7 Y8 Y9 Ya Yb Yc Yd Ye Yf Yg Yh Yi Yj Yk Yl Ym Yn Yo Yp Yq Yr : Value),n = ss.length - i → i ≤ ss.length → PerL hM H bv ((ss.take i).map (·.2)) →
   Ok tab R70 (.inLoop L70_0 :: .inBlock 0 :: k) #[v0,v1,v2,v3,K4,sv,K6,K7,K8,K9,v10,Kb,v12,ptr hM.length,Ke,Kf,Kg,Kh,Ki,Kj,Kk,sv,.int .i64 ss.length,.int .i64 i,Ko,Kp,Kq,Kr,Ks,Kt,Ku,Kv,Kw,Kx,Ky,Kz,J0,J1,J2,J3,J4,J5,J6,J7,J8,J9,Ja,Jb,Jc,Jd,Je,Jf,Jg,Jh,Ji,Jj,Jk,Jl,Jm,Jn,Jo,Jp,Jq,Jr,Js,Jt,Ju,Jv,Jw,Jx,Jy,Jz,Y0,Y1,Y2,Y3,Y4,Y5,Y6,Y7,Y8,Y9,Ya,Yb,Yc,Yd,Ye,Yf,Yg,Yh,Yi,Yj,Yk,Yl,Ym,Yn,Yo,Yp,Yq,Yr] H R := by
 intro n
 induction n with
 | zero =>
  intro i H bv;intros;rename_i hn hi r
  have hlt : ¬ ((i : Int) < ss.length) := by omega
  rw [ok_round,l70_0,L70_0a,L70_0b]
  simp [hlt]
  rw [List.take_of_length_le (by omega)] at r
  exact hk H bv _ _ _ _ _ _ _ _ _ _ _ _ _ _ _ _ _ _ _ _ _ _ _ _ _ _ _ _ _ _ _ _ _ _ _ _ _ _ _ _ _ _ _ _ _ _ _ _ _ _ _ _ _ _ _ _ _ _ _ _ _ _ _ _ _ _ _ _ _ _ _ _ _ _ _ _ _ _ _ _ _ _ _ _ _ _ _ _ _ _ _ _ r
 | succ n ih =>
  intro i H bv;intros;rename_i hn hi r
  have hlt : ((i : Int) < ss.length) := by omega
  have hil : i < ss.length := by omega
  have hw : IntKind.i64.wrap ((i : Int) + 1) = ((i + 1 : Nat) : Int) := wrapN (n := i + 1) (by omega)
  obtain ⟨id,off,b,hsv,hbk,ht,hle⟩ := encP_at hs hil
  have hb1 : blk? H id = some b := by rw [r.low _ (blk?_lt hbk)]; exact hbk
  obtain ⟨_,H',ha,hsb,⟨z,nz,rfl⟩,r'⟩ := r.step (by simp; omega) ss[i].1 ss[i].2
  have hrr : (ss.take i).map (·.2) ++ [ss[i].2] = (ss.take (i + 1)).map (·.2) := by rw [List.take_succ_eq_append_getElem hil,List.map_append]; rfl
  rw [hrr] at r'
  have ih' := fun K4 K6 K7 K8 K9 Kb Ke Kf Kg Kh Ki Kj Kk Ko Kp Kq Kr Ks Kt Ku Kv Kw Kx Ky Kz J0 J1 J2 J3 J4 J5 J6 J7 J8 J9 Ja Jb Jc Jd Je Jf Jg Jh Ji Jj Jk Jl Jm Jn Jo Jp Jq Jr Js Jt Ju Jv Jw Jx Jy Jz Y0 Y1 Y2 Y3 Y4 Y5 Y6 Y7 Y8 Y9 Ya Yb Yc Yd Ye Yf Yg Yh Yi Yj Yk Yl Ym Yn Yo Yp Yq Yr => ih (i + 1) _ _ K4 K6 K7 K8 K9 Kb Ke Kf Kg Kh Ki Kj Kk Ko Kp Kq Kr Ks Kt Ku Kv Kw Kx Ky Kz J0 J1 J2 J3 J4 J5 J6 J7 J8 J9 Ja Jb Jc Jd Je Jf Jg Jh Ji Jj Jk Jl Jm Jn Jo Jp Jq Jr Js Jt Ju Jv Jw Jx Jy Jz Y0 Y1 Y2 Y3 Y4 Y5 Y6 Y7 Y8 Y9 Ya Yb Yc Yd Ye Yf Yg Yh Yi Yj Yk Yl Ym Yn Yo Yp Yq Yr (by omega) (by omega) r'
  have hlen := r.len
  have hs0 : blk? (H ++ [some (⟨false,[.int .i64 ss[i].1,.int .i64 ss[i].2]⟩ : Blk)]) hM.length = some ⟨false,[.pointer none,.pointer none,bv,.slice none 0 0]⟩ := blk?_push r.sbk
  obtain ⟨ba,bc,hbsh⟩ := r.own.sl.shape
  have hcb : isCell bv = true := by rw [hbsh]; rfl
  rw [ok_round,l70_0,L70_0a,L70_0b]
  generalize ss[i].1 = x at *
  generalize ss[i].2 = y at *
  generalize ((i + 1 : Nat) : Int) = wi at *
  subst hsv
  have hK : ∀ y : Blk,blk? (H ++ [some y]) H.length = some y := fun y => blk?_push_eq
  simp [hlt,hil,hw,hb1,ht,hle,hK,hs0,hcb,repL,ha,hsb,app_len,app_add,app_zero,app_succ,app_set,app_setk]
  exact ih' ..
end
theorem encP_w {h : Heap} {sv : Value} {s : List (Int × Int)} (hs : Sl h 2 sv s.length (encP s)) {i : Nat} (hi : i < s.length) :
  ∃ id off b,sv = .slice (some ⟨id,off,none⟩) s.length 2 ∧ blk? h id = some b ∧ b.cells[off + i * 2]? = some (.int .i64 s[i].1) ∧ b.cells[off + i * 2 + 1]? = some (.int .i64 s[i].2) := by
 obtain ⟨id,off,b,rfl,hb,hc⟩ := hs.get hi
 obtain ⟨g0,g1⟩ := encP_get s i hi
 have c0 := hc 0 (by omega)
 have c1 := hc 1 (by omega)
 rw [Nat.add_zero,Nat.add_zero,g0] at c0
 rw [g1] at c1
 exact ⟨id,off,b,rfl,hb,c0,c1⟩
def fitsTo (ss qs : List (Int × Int)) (i : Nat) : Prop := ∀ j (hj : j < qs.length),j < i → ∃ p,ss[j]? = some p ∧ p.1 = qs[j].1 ∧ (p.2 = 0 ∨ p.2 = 1)
section
variable {h : Heap} {R : Value → Heap → Prop}
set_option maxRecDepth 10000 in
set_option maxHeartbeats 1000000 in
theorem cmp_loop {sv av v13 v16 : Value} {ss qs : List (Int × Int)} (hs : Sl h 2 sv ss.length (encP ss)) (ha : Sl h 2 av qs.length (encP qs)) (hl : ss.length < 1000000) (hq : qs.length < 1000000) {k : List RItem}
  (hk : fits ss qs → ∀ (H : Heap) (K0 K1 K2 K3 K4 K6 K7 K8 K9 Ka Kb Ke Kf Kh Ki Kj Kk Kl Km Kn Ko Kp Kq Kr Ks Kt Ku Kv Kw Kx Ky Kz J0 J1 J2 J3 J4 J5 J6 J7 J8 J9 Ja Jb Jc Jd Je Jf Jg Jh Ji Jj Jk Jl Jm Jn Jo Jp Jq Jr Js Jt Ju Jv Jw Jx Jy Jz Y0 Y1 Y2 Y3 Y4 Y5 Y6 Y7 Y8 Y9 Ya Yb Yc Yd Ye Yf Yg Yh Yi Yj Yk Yl Ym Yn Yo Yp Yq Yr : Value),(∀ id,id < h.length → blk? H id = blk? h id) → h.length ≤ H.length → Ok tab R70 k #[K0,K1,K2,K3,K4,sv,K6,K7,K8,K9,Ka,Kb,.int .i64 0,v13,Ke,Kf,v16,Kh,Ki,Kj,Kk,Kl,Km,Kn,Ko,Kp,Kq,Kr,Ks,Kt,Ku,Kv,Kw,Kx,Ky,Kz,J0,J1,J2,J3,J4,J5,J6,J7,J8,J9,Ja,Jb,Jc,Jd,Je,Jf,Jg,Jh,Ji,Jj,Jk,Jl,Jm,Jn,Jo,Jp,Jq,Jr,Js,Jt,Ju,Jv,Jw,Jx,Jy,Jz,Y0,Y1,Y2,Y3,Y4,Y5,Y6,Y7,Y8,Y9,Ya,Yb,Yc,Yd,Ye,Yf,Yg,Yh,Yi,Yj,Yk,Yl,Ym,Yn,Yo,Yp,Yq,Yr] H R)
  (hbad : ¬ fits ss qs → ∀ H : Heap,(∀ id,id < h.length → blk? H id = blk? h id) → h.length ≤ H.length → R (.int .i64 8) H) :
  ∀ (n i : Nat) (H : Heap) (K0 K1 K2 K3 K4 K6 K7 K8 K9 Ka Kb Ke Kf Kh Ki Kj Kk Kl Km Kn Ko Kp Kq Kr Ks Kt Ku Kv Kw Kx Ky Kz J0 J1 J2 J3 J4 J5 J6 J7 J8 J9 Ja Jb Jc Jg Jh Ji Jj Jk Jl Jm Jn Jo Jp Jq Jr Js Jt Ju Jv Jw Jx Jy Jz Y0 Y1 Y2 Y3 Y4 Y5 Y6 Y7 Y8 Y9 Ya Yb Yc Yd Ye Yf Yg Yh Yi Yj Yk Yl Ym Yn Yo Yp Yq Yr : Value),n = qs.length - i → i ≤ qs.length → fitsTo ss qs i → (∀ id,id < h.length → blk? H id = blk? h id) → h.length ≤ H.length →
   Ok tab R70 (.inLoop L70_1 :: .inBlock 2 :: k) #[K0,K1,K2,K3,K4,sv,K6,K7,K8,K9,Ka,Kb,.int .i64 0,v13,Ke,Kf,v16,Kh,Ki,Kj,Kk,Kl,Km,Kn,Ko,Kp,Kq,Kr,Ks,Kt,Ku,Kv,Kw,Kx,Ky,Kz,J0,J1,J2,J3,J4,J5,J6,J7,J8,J9,Ja,Jb,Jc,av,.int .i64 qs.length,.int .i64 i,Jg,Jh,Ji,Jj,Jk,Jl,Jm,Jn,Jo,Jp,Jq,Jr,Js,Jt,Ju,Jv,Jw,Jx,Jy,Jz,Y0,Y1,Y2,Y3,Y4,Y5,Y6,Y7,Y8,Y9,Ya,Yb,Yc,Yd,Ye,Yf,Yg,Yh,Yi,Yj,Yk,Yl,Ym,Yn,Yo,Yp,Yq,Yr] H R := by
 intro n
 induction n with
 | zero =>
  intro i H;intros;rename_i hn hi hf low hle
  have hlt : ¬ ((i : Int) < qs.length) := by omega
  rw [ok_round,l70_1,L70_1a,L70_1b]
  simp [hlt]
  exact hk (fun j hj => hf j hj (by omega)) H _ _ _ _ _ _ _ _ _ _ _ _ _ _ _ _ _ _ _ _ _ _ _ _ _ _ _ _ _ _ _ _ _ _ _ _ _ _ _ _ _ _ _ _ _ _ _ _ _ _ _ _ _ _ _ _ _ _ _ _ _ _ _ _ _ _ _ _ _ _ _ _ _ _ _ _ _ _ _ _ _ _ _ _ _ _ _ _ _ _ _ _ _ _ _ _ low hle
 | succ n ih =>
  intro i H;intros;rename_i hn hi hf low hle
  have hlt : ((i : Int) < qs.length) := by omega
  have hil : i < qs.length := by omega
  have hw : IntKind.i64.wrap ((i : Int) + 1) = ((i + 1 : Nat) : Int) := wrapN (n := i + 1) (by omega)
  obtain ⟨id,off,b,hav,hbk,ht,hle2⟩ := encP_at ha hil
  have hb1 : blk? H id = some b := by rw [low _ (blk?_lt hbk)]; exact hbk
  obtain ⟨sa,sc,hsh⟩ := hs.shape
  have low' : ∀ x : Option Blk,∀ id,id < h.length → blk? (H ++ [x]) id = blk? h id := fun x id hid => by rw [blk?_push_lt (by omega)]; exact low id hid
  have hle' : ∀ x : Option Blk,h.length ≤ (H ++ [x]).length := fun x => by simp; omega
  have ih' := fun (hf' : fitsTo ss qs (i + 1)) K0 K1 K2 K3 K4 K6 K7 K8 K9 Ka Kb Ke Kf Kh Ki Kj Kk Kl Km Kn Ko Kp Kq Kr Ks Kt Ku Kv Kw Kx Ky Kz J0 J1 J2 J3 J4 J5 J6 J7 J8 J9 Ja Jb Jc Jg Jh Ji Jj Jk Jl Jm Jn Jo Jp Jq Jr Js Jt Ju Jv Jw Jx Jy Jz Y0 Y1 Y2 Y3 Y4 Y5 Y6 Y7 Y8 Y9 Ya Yb Yc Yd Ye Yf Yg Yh Yi Yj Yk Yl Ym Yn Yo Yp Yq Yr => ih (i + 1) (H ++ [some ⟨false,[.int .i64 qs[i].1,.int .i64 qs[i].2]⟩]) K0 K1 K2 K3 K4 K6 K7 K8 K9 Ka Kb Ke Kf Kh Ki Kj Kk Kl Km Kn Ko Kp Kq Kr Ks Kt Ku Kv Kw Kx Ky Kz J0 J1 J2 J3 J4 J5 J6 J7 J8 J9 Ja Jb Jc Jg Jh Ji Jj Jk Jl Jm Jn Jo Jp Jq Jr Js Jt Ju Jv Jw Jx Jy Jz Y0 Y1 Y2 Y3 Y4 Y5 Y6 Y7 Y8 Y9 Ya Yb Yc Yd Ye Yf Yg Yh Yi Yj Yk Yl Ym Yn Yo Yp Yq Yr (by omega) (by omega) hf' (low' _) (hle' _)
  have hK : ∀ y : Blk,blk? (H ++ [some y]) H.length = some y := fun y => blk?_push_eq
  have hbad' := fun hn => hbad hn (H ++ [some ⟨false,[.int .i64 qs[i].1,.int .i64 qs[i].2]⟩]) (low' _) (hle' _)
  rw [ok_round,l70_1,L70_1a,L70_1b]
  by_cases his : i < ss.length
  ·obtain ⟨id2,off2,b2,hsv,hbk2,c0,c1⟩ := encP_w hs his
   have hb2 : blk? (H ++ [some ⟨false,[.int .i64 qs[i].1,.int .i64 qs[i].2]⟩]) id2 = some b2 := by rw [low' _ _ (blk?_lt hbk2)]; exact hbk2
   have hge : ¬ ((ss.length : Int) ≤ i) := by omega
   have hget : ss[i]? = some ss[i] := List.getElem?_eq_getElem his
   have hnf : ¬ (ss[i].1 = qs[i].1 ∧ (ss[i].2 = 0 ∨ ss[i].2 = 1)) → ¬ fits ss qs := fun hc hf' => by
    obtain ⟨p,e1,e2,e3⟩ := hf' i hil
    rw [hget] at e1; injection e1 with e1; subst e1
    exact hc ⟨e2,e3⟩
   have hyf : ss[i].1 = qs[i].1 ∧ (ss[i].2 = 0 ∨ ss[i].2 = 1) → fitsTo ss qs (i + 1) := fun hc j hj hji => by
    by_cases hj' : j < i
    ·exact hf j hj hj'
    ·obtain rfl : j = i := by omega
     exact ⟨_,hget,hc.1,hc.2⟩
   generalize ss[i].1 = p1 at *
   generalize ss[i].2 = p2 at *
   generalize qs[i].1 = q1 at *
   generalize qs[i].2 = q2 at *
   generalize ((i + 1 : Nat) : Int) = wi at *
   subst hav
   subst hsv
   by_cases h1 : p1 = q1
   ·subst h1
    by_cases h2 : p2 = 0
    ·subst h2
     simp [-List.cons_append,-List.append_assoc,k_guard,k_guardU,hlt,hil,his,hge,hw,hb1,ht,hle2,hK,hb2,c0,c1]
     exact ih' (hyf ⟨rfl,.inl rfl⟩) ..
    ·have h2' : (p2 != 0) = true := by simp [h2]
     by_cases h3 : p2 = 1
     ·subst h3
      simp [-List.cons_append,-List.append_assoc,k_guard,k_guardU,hlt,hil,his,hge,hw,hb1,ht,hle2,hK,hb2,c0,c1]
      exact ih' (hyf ⟨rfl,.inr rfl⟩) ..
     ·have h3' : (p2 != 1) = true := by simp [h3]
      simp [-List.cons_append,-List.append_assoc,k_guard,k_guardU,hlt,hil,his,hge,hw,hb1,ht,hle2,hK,hb2,c0,c1,h2',h3',fin70]
      exact hbad' (hnf (by simp [h2,h3]))
   ·have h1' : (p1 != q1) = true := by simp [h1]
    simp [-List.cons_append,-List.append_assoc,k_guard,k_guardU,hlt,hil,his,hge,hw,hb1,ht,hle2,hK,hb2,c0,c1,h1',fin70]
    exact hbad' (hnf (by simp [h1]))
  ·have hge : ((ss.length : Int) ≤ i) := by omega
   have hnf : ¬ fits ss qs := fun hf' => by
    obtain ⟨p,e1,_⟩ := hf' i hil
    rw [List.getElem?_eq_none (by omega)] at e1; cases e1
   generalize qs[i].1 = q1 at *
   generalize qs[i].2 = q2 at *
   subst hav
   subst hsh
   simp [-List.cons_append,-List.append_assoc,k_guard,k_guardU,hlt,hil,hge,hw,hb1,ht,hle2,hK,fin70]
   exact hbad' hnf
end
def bitsOf (ss : List (Int × Int)) : List Int := ss.map (·.2)
def perD (m : MD) (b : BS) (n planes o : Int) (ss : List (Int × Int)) : (BS × Bool) × List (Int × Int) := dOut (askB (bitsOf ss)) m b n planes o []
def perE (m : MD) (b : BS) (n planes o : Int) (ss : List (Int × Int)) : Int :=
 if ¬ fits ss (perD m b n planes o ss).2 then 8 else if dErr n planes o (perD m b n planes o ss).1.2 = 0 ∧ (perD m b n planes o ss).2.length < ss.length then 8 else dErr n planes o (perD m b n planes o ss).1.2
structure PerR (h h' : Heap) (p c : Nat) (b : BS) : Prop where
 cb : CB h' false p c b
 good : b.Good
 same : ∀ id,id < h.length → id ≠ c → blk? h' id = blk? h id
 len : h.length ≤ h'.length
section
variable {h : Heap} {p c : Nat} {b : BS}
set_option maxRecDepth 10000 in
set_option maxHeartbeats 1000000 in
theorem perform_q (hb : CB h false p c b) (hg : b.Good) {sv : Value} {ss : List (Int × Int)} (hs : Sl h 2 sv ss.length (encP ss)) (svf : ∀ id,sid sv = some id → id < h.length ∧ id ≠ c) (hl : ss.length < 900000) (n planes o : Int) (m : MD) :
  ∃ h',(∀ R,Ret tab 70 [ptr p,.int .i64 n,.int .i64 planes,.int .i64 o,m.val,sv] h R = R (.int .i64 (perE m b n planes o ss)) h') ∧ PerR h h' p c (perD m b n planes o ss).1.1 := by
 have key : Ret tab 70 [ptr p,.int .i64 n,.int .i64 planes,.int .i64 o,m.val,sv] h fun v h' => v = .int .i64 (perE m b n planes o ss) ∧ PerR h h' p c (perD m b n planes o ss).1.1 := by
  obtain ⟨byp,res,rst,cz,sy⟩ := m
  generalize hM : h ++ [some (⟨false,[.bool byp,.bool res,.bool rst,.bool cz,.bool sy]⟩ : Blk)] = M
  have lowM : ∀ id,id < h.length → blk? M id = blk? h id := fun id hid => by rw [← hM]; exact app_lt hid
  have lenM : M.length = h.length + 1 := by rw [← hM]; simp
  have hmode : blk? M h.length = some ⟨false,[.bool byp,.bool res,.bool rst,.bool cz,.bool sy]⟩ := by rw [← hM]; exact blk?_push_eq
  have lp := blk?_lt hb.blkp
  have lc := blk?_lt hb.blkc
  have hsM : Sl M 2 sv ss.length (encP ss) := hs.of_sid fun id b _ hb => by rw [lowM _ (blk?_lt hb)]; exact hb
  obtain ⟨sa,sc,hsh⟩ := hs.shape
  have r0 : PerL M (M ++ [some ⟨false,[.pointer none,.pointer none,.slice none 0 0,.slice none 0 0]⟩]) (.slice none 0 0) ((ss.take 0).map (·.2)) :=
   ⟨fun id hid => app_lt hid,blk?_push_eq,OwnS.nil _ _,fun id hid => by simp [sid] at hid,by simp⟩
  rw [enter70,show B70 = .seq (nthC 0 B70) (.seq (nthC 1 B70) (.seq (nthC 2 B70) (.seq (nthC 3 B70) (.seq (nthC 4 B70) (tlC 5 B70))))) from rfl]
  generalize hT : tlC 5 B70 = tl
  simp only [nthC,tlC,fstC,B70,MD.val]
  rw [hsh]
  have hX : h ++ [some (⟨false,[.bool byp,.bool res,.bool rst,.bool cz,.bool sy]⟩ : Blk),some ⟨false,[.pointer none,.pointer none,.slice none 0 0,.slice none 0 0]⟩] = M ++ [some ⟨false,[.pointer none,.pointer none,.slice none 0 0,.slice none 0 0]⟩] := by rw [← hM]; simp
  simp [hX]
  rw [← hsh,← lenM]
  refine per_loop hsM (by omega) ?_ _ 0 _ _ _ _ _ _ _ _ _ _ _ _ _ _ _ _ _ _ _ _ _ _ _ _ _ _ _ _ _ _ _ _ _ _ _ _ _ _ _ _ _ _ _ _ _ _ _ _ _ _ _ _ _ _ _ _ _ _ _ _ _ _ _ _ _ _ _ _ _ _ _ _ _ _ _ _ _ _ _ _ _ _ _ _ _ _ _ _ _ _ _ rfl (Nat.zero_le _) r0
  intro H bv;intros;rename_i r
  have hMl := r.len
  have cbH : CB H false p c b := ⟨by rw [r.low _ (by omega),lowM _ lp]; exact hb.blkp,by rw [r.low _ (by omega),lowM _ lc]; exact hb.blkc,hb.ok⟩
  have hbl : (bitsOf ss).length < 1000000 := by simp [bitsOf]; omega
  have rr : RelR c M.length bv (bitsOf ss) H (.slice none 0 0) [] :=
   ⟨r.sbk,OwnS.nil _ _,r.own.sl,fun id hid => ⟨r.own.lt hid,by have := r.far id hid; omega,by have := r.far id hid; omega,by simp [sid]⟩,fun id hid => by simp [sid] at hid,by omega,by omega⟩
  have hpn : ¬ ownA M.length (Value.slice none 0 0) p := by
   rintro (e | e)
   ·omega
   ·simp [sid] at e
  obtain ⟨av,H2,e2,r2⟩ := run_q (A := srcR c M.length bv (bitsOf ss) hbl) (t := Value.slice none 0 0) (s := ([] : List (Int × Int))) cbH hg.rng rr hpn hMl (by show 0 + 100000 < 1000000; omega) n planes o ⟨byp,res,rst,cz,sy⟩
  change ∀ R,Ret tab _ _ H R = R (.int .i64 (dErr n planes o (perD ⟨byp,res,rst,cz,sy⟩ b n planes o ss).1.2)) H2 at e2
  change DRes (srcR c M.length bv (bitsOf ss) hbl) H H2 p (Value.slice none 0 0) av (perD ⟨byp,res,rst,cz,sy⟩ b n planes o ss).1.1 (perD ⟨byp,res,rst,cz,sy⟩ b n planes o ss).2 at r2
  have hsz := (dOut_le (bits := bitsOf ss) (m := ⟨byp,res,rst,cz,sy⟩) hg (n := n) (planes := planes) (o := o) (s := [])).2
  change (perD ⟨byp,res,rst,cz,sy⟩ b n planes o ss).2.length ≤ 0 + 20000 at hsz
  obtain ⟨E,hE⟩ : ∃ E,perE ⟨byp,res,rst,cz,sy⟩ b n planes o ss = E := ⟨_,rfl⟩
  rw [hE]
  unfold perE at hE
  generalize dErr n planes o (perD ⟨byp,res,rst,cz,sy⟩ b n planes o ss).1.2 = e at *
  generalize (perD ⟨byp,res,rst,cz,sy⟩ b n planes o ss).1.1 = b1 at *
  generalize (perD ⟨byp,res,rst,cz,sy⟩ b n planes o ss).2 = qs at *
  have rq : RelR c M.length bv (bitsOf ss) H2 av qs := r2.rel
  have st := r2.st
  have k2 : ∀ id,id < H.length → id ≠ c → ¬ ownA M.length (.slice none 0 0) id → blk? H2 id = blk? H id := st.same
  have own0 : ∀ id,id < M.length → ¬ ownA M.length (.slice none 0 0) id := fun id hid e => by
   rcases e with e | e
   ·omega
   ·simp [sid] at e
  have low2 : ∀ id,id < h.length → id ≠ c → blk? H2 id = blk? h id := fun id hid hc => by rw [k2 id (by omega) hc (own0 id (by omega)),r.low id (by omega),lowM id hid]
  have hl2 : H.length ≤ H2.length := st.len
  have hm2 : blk? H h.length = some ⟨false,[.bool byp,.bool res,.bool rst,.bool cz,.bool sy]⟩ := by rw [r.low _ (by omega)]; exact hmode
  have hs2 : Sl H2 2 sv ss.length (encP ss) := hs.of_sid fun id b hid hb => by rw [low2 id (svf id hid).1 (svf id hid).2]; exact hb
  obtain ⟨aa,ac,hav⟩ := rq.own.sl.shape
  have hsb2 := rq.blk
  simp only [MD.val] at e2
  rw [hav] at hsb2
  have fin : ∀ H' : Heap,(∀ id,id < H2.length → blk? H' id = blk? H2 id) → H2.length ≤ H'.length → PerR h H' p c b1 := fun H' low le =>
   ⟨⟨by rw [low _ (blk?_lt r2.cb.blkp)]; exact r2.cb.blkp,by rw [low _ (blk?_lt r2.cb.blkc)]; exact r2.cb.blkc,r2.cb.ok⟩,r2.good,fun id hid hc => by rw [low id (by omega)]; exact low2 id hid hc,by omega⟩
  have hgo := fun (k : List RItem) hk hbad => cmp_loop (v13 := ptr M.length) (v16 := .int .i64 e) (k := k) (R := fun v h' => v = .int .i64 E ∧ PerR h h' p c b1) hs2 rq.own.sl (by omega) (by omega) hk hbad qs.length 0 H2
  rw [hav] at hgo
  simp [hm2,e2,hsb2]
  refine hgo _ (fun hf => ?_) (fun hf => ?_) _ _ _ _ _ _ _ _ _ _ _ _ _ _ _ _ _ _ _ _ _ _ _ _ _ _ _ _ _ _ _ _ _ _ _ _ _ _ _ _ _ _ _ _ _ _ _ _ _ _ _ _ _ _ _ _ _ _ _ _ _ _ _ _ _ _ _ _ _ _ _ _ _ _ _ _ _ _ _ _ _ _ _ _ _ _ _ _ _ _ _ _ _ rfl (Nat.zero_le _) (fun j hj h0 => by omega) (fun _ _ => rfl) (Nat.le_refl _)
  ·intro H';intros;rename_i low le
   have hsb3 : blk? H' M.length = _ := (low _ (blk?_lt rq.blk)).trans hsb2
   rw [if_neg (by simpa using hf)] at hE
   rw [← hT]
   simp only [tlC,B70]
   rw [hsh]
   by_cases he : e = 0
   ·subst he
    by_cases hlt : qs.length < ss.length
    ·have hltI : (qs.length : Int) < ss.length := by omega
     rw [if_pos ⟨rfl,hlt⟩] at hE
     subst hE
     simp [k_guard,k_guardU,hsb3,hlt,hltI,fin70]
     exact fin H' low le
    ·have hltI : ¬ (qs.length : Int) < ss.length := by omega
     rw [if_neg (fun e => hlt e.2)] at hE
     subst hE
     simp [k_guard,k_guardU,hsb3,hlt,hltI,fin70]
     exact fin H' low le
   ·have he' : (e == 0) = false := by simp [he]
    rw [if_neg (fun x => he x.1)] at hE
    subst hE
    simp [k_guard,k_guardU,hsb3,he,he',fin70]
    exact fin H' low le
  ·intro H' low le
   rw [if_pos hf] at hE
   exact ⟨by rw [← hE],fin H' low le⟩
 obtain ⟨v,h',e,rfl,rs⟩ := ret_ex key
 exact ⟨h',e,rs⟩
end
theorem per_play {m : MD} {b : BS} {n P o : Nat} {ss : List (Int × Int)} (herr : runErr (n : Int) (P : Int) (o : Int) = 0) :
  ((dRun m b n P o).play ss = none → perE m b n P o ss = 8) ∧ ∀ r l',(dRun m b n P o).play ss = some (r,l') → (perD m b n P o ss).1 = r ∧ perE m b n P o ss = if r.2 = false then 16 else match l' with | [] => 0 | _ :: _ => 8 := by
 have hD : perD m b n P o ss = (dRun m b n P o).run (askB (ss.map (·.2))) [] := by
  unfold perD dOut; rw [if_pos herr]; simp only [Int.toNat_natCast]; rfl
 have hde : ∀ r,dErr (n : Int) (P : Int) (o : Int) r = cond r 0 16 := fun r => by unfold dErr; rw [herr]; simp
 obtain ⟨pl1,pl2⟩ := askB_play ss (dRun m b n P o) [] (Nat.zero_le _) (fun i hi => by simp at hi)
 rw [List.length_nil,List.drop_zero] at pl1 pl2
 refine ⟨fun h => ?_,fun r l' h => ?_⟩
 ·unfold perE
  rw [hD,if_pos (pl2 h)]
 ·obtain ⟨s',e1,e2,e3,e4⟩ := pl1 r l' h
  unfold perE
  rw [hD,e1]
  refine ⟨rfl,?_⟩
  rw [if_neg (fun x => x e2),hde]
  cases hr : r.2
  ·simp
  ·simp only [cond_true,true_and,Bool.true_eq_false,if_false]
   by_cases hlt : s'.length < ss.length
   ·rw [if_pos hlt]
    rw [List.drop_eq_getElem_cons hlt] at e4
    rw [e4]
   ·rw [if_neg hlt]
    rw [List.drop_of_length_le (by omega)] at e4
    rw [e4]
theorem vLoop_step {m : MD} {b : BS} {n P o : Nat} {ss : List (Int × Int)} {ls : List (List (Int × Int))} (herr : runErr (n : Int) (P : Int) (o : Int) = 0) :
  (perE m b n P o ss = 0 → vLoop m P o n b (ss :: ls) = vLoop m P o (n + 1) (perD m b n P o ss).1.1 ls) ∧ (perE m b n P o ss ≠ 0 → (vLoop m P o n b (ss :: ls)).2 = perE m b n P o ss) := by
 obtain ⟨h1,h2⟩ := per_play (m := m) (b := b) (ss := ss) herr
 rw [vLoop]
 cases hp : (dRun m b n P o).play ss with
 | none =>
  rw [h1 hp]
  exact ⟨fun h => absurd h (by decide),fun _ => rfl⟩
 | some q =>
  obtain ⟨r,l'⟩ := q
  obtain ⟨e1,e2⟩ := h2 r l' hp
  rw [e1,e2]
  simp only
  split
  ·exact ⟨fun h => absurd h (by decide),fun _ => rfl⟩
  ·cases l' with
   | nil => exact ⟨fun _ => rfl,fun h => absurd rfl h⟩
   | cons y l' => exact ⟨fun h => absurd h (by simp),fun _ => rfl⟩
set_option maxRecDepth 10000 in
set_option maxHeartbeats 1000000 in
theorem valsq_loop {h0 : Heap} {M p c : Nat} {m : MD} {s v12 v13 : Value} {vs : List Value} {ls : List (List (Int × Int))} {P O w hh : Nat} (hp : PsI h0 s vs ls) (hrow : ∀ l ∈ ls,l.length < 900000) (hP : P ≤ 60) (hP1 : 0 < ls.length → 1 ≤ P) (hO : O ≤ 3) (hn : ls.length ≤ 3 * P - 2) {k : List RItem} {R : Value → Heap → Prop} :
  ∀ (n i : Nat) (H : Heap) (b : BS) (K5 K6 K7 K8 K9 Ka Ke Kg Ki Kj Kk Kl Km Kn Ko Kp Kq Kr Ks Kt Ku Kv Kw Kx Ky Kz J0 J1 J2 J3 J4 J5 J6 J7 J8 J9 Ja Jb Jc Jd Je Jf Jg Jh Ji Jj Jk Jl Jm Jn Jo Jp Jq Jr Js Jt Ju Jv Jw Jx Jy Jz Y0 Y1 Y2 Y3 Y4 Y5 Y6 Y7 Y8 Y9 Ya Yb Yc Yd Ye Yf Yg Yh Yi Yj Yk Yl Ym Yn Yo Yp Yq Yr Ys Yt Yu Yv Yw Yx Yy Yz Z0 Z1 Z2 Z3 Z4 Z5 Z6 Z7 Z8 Z9 Za Zb Zc Zd Ze Zf Zg Zh Zi Zj Zk Zl Zm Zn Zo Zp Zq Zr Zs Zt Zu Zv : Value),n = ls.length - i → i ≤ ls.length → VLv h0 H M p c m w hh b →
   (∀ (H' : Heap) (b' : BS) (K5 K6 K7 K8 K9 Ka Ke Kg Kh Ki Kj Kk Kl Km Kn Ko Kp Kq Kr Ks Kt Ku Kv Kw Kx Ky Kz J0 J1 J2 J3 J4 J5 J6 J7 J8 J9 Ja Jb Jc Jd Je Jf Jg Jh Ji Jj Jk Jl Jm Jn Jo Jp Jq Jr Js Jt Ju Jv Jw Jx Jy Jz Y0 Y1 Y2 Y3 Y4 Y5 Y6 Y7 Y8 Y9 Ya Yb Yc Yd Ye Yf Yg Yh Yi Yj Yk Yl Ym Yn Yo Yp Yq Yr Ys Yt Yu Yv Yw Yx Yy Yz Z0 Z1 Z2 Z3 Z4 Z5 Z6 Z7 Z8 Z9 Za Zb Zc Zd Ze Zf Zg Zh Zi Zj Zk Zl Zm Zn Zo Zp Zq Zr Zs Zt Zu Zv : Value),vLoop m P O i b (ls.drop i) = (b',0) → VLv h0 H' M p c m w hh b' → Ok tab R30 k #[s,.int .i64 P,.int .i64 w,.int .i64 hh,.int .i64 O,K5,K6,K7,K8,K9,Ka,ptr M,v12,v13,Ke,ptr p,Kg,Kh,Ki,Kj,Kk,Kl,Km,Kn,Ko,Kp,Kq,Kr,Ks,Kt,Ku,Kv,Kw,Kx,Ky,Kz,J0,J1,J2,J3,J4,J5,J6,J7,J8,J9,Ja,Jb,Jc,Jd,Je,Jf,Jg,Jh,Ji,Jj,Jk,Jl,Jm,Jn,Jo,Jp,Jq,Jr,Js,Jt,Ju,Jv,Jw,Jx,Jy,Jz,Y0,Y1,Y2,Y3,Y4,Y5,Y6,Y7,Y8,Y9,Ya,Yb,Yc,Yd,Ye,Yf,Yg,Yh,Yi,Yj,Yk,Yl,Ym,Yn,Yo,Yp,Yq,Yr,Ys,Yt,Yu,Yv,Yw,Yx,Yy,Yz,Z0,Z1,Z2,Z3,Z4,Z5,Z6,Z7,Z8,Z9,Za,Zb,Zc,Zd,Ze,Zf,Zg,Zh,Zi,Zj,Zk,Zl,Zm,Zn,Zo,Zp,Zq,Zr,Zs,Zt,Zu,Zv] H' R) →
   (∀ (H' : Heap) (e : Int),(vLoop m P O i b (ls.drop i)).2 = e → e ≠ 0 → (∀ id,id < h0.length → blk? H' id = blk? h0 id) → h0.length ≤ H'.length → R (.tuple #[.slice none 0 0,.slice none 0 0,.int .i64 e]) H') →
   Ok tab R30 (.inLoop L30_0 :: .inBlock 0 :: k) #[s,.int .i64 P,.int .i64 w,.int .i64 hh,.int .i64 O,K5,K6,K7,K8,K9,Ka,ptr M,v12,v13,Ke,ptr p,Kg,.int .i64 i,Ki,Kj,Kk,Kl,Km,Kn,Ko,Kp,Kq,Kr,Ks,Kt,Ku,Kv,Kw,Kx,Ky,Kz,J0,J1,J2,J3,J4,J5,J6,J7,J8,J9,Ja,Jb,Jc,Jd,Je,Jf,Jg,Jh,Ji,Jj,Jk,Jl,Jm,Jn,Jo,Jp,Jq,Jr,Js,Jt,Ju,Jv,Jw,Jx,Jy,Jz,Y0,Y1,Y2,Y3,Y4,Y5,Y6,Y7,Y8,Y9,Ya,Yb,Yc,Yd,Ye,Yf,Yg,Yh,Yi,Yj,Yk,Yl,Ym,Yn,Yo,Yp,Yq,Yr,Ys,Yt,Yu,Yv,Yw,Yx,Yy,Yz,Z0,Z1,Z2,Z3,Z4,Z5,Z6,Z7,Z8,Z9,Za,Zb,Zc,Zd,Ze,Zf,Zg,Zh,Zi,Zj,Zk,Zl,Zm,Zn,Zo,Zp,Zq,Zr,Zs,Zt,Zu,Zv] H R := by
 intro n
 obtain ⟨sa0,sc0,hss⟩ := hp.sl.shape
 rw [hp.len] at hss
 induction n with
 | zero =>
  intro i H b;intros;rename_i hm hi vl hk hx
  have hlt : ¬ ((i : Int) < ls.length) := by omega
  rw [List.drop_of_length_le (by omega)] at hk
  rw [ok_round,l30_0,L30_0a,L30_0b]
  rw [hss] at hk ⊢
  simp [hlt]
  exact hk H b _ _ _ _ _ _ _ _ _ _ _ _ _ _ _ _ _ _ _ _ _ _ _ _ _ _ _ _ _ _ _ _ _ _ _ _ _ _ _ _ _ _ _ _ _ _ _ _ _ _ _ _ _ _ _ _ _ _ _ _ _ _ _ _ _ _ _ _ _ _ _ _ _ _ _ _ _ _ _ _ _ _ _ _ _ _ _ _ _ _ _ _ _ _ _ _ _ _ _ _ _ _ _ _ _ _ _ _ _ _ _ _ _ _ _ _ _ _ _ _ _ _ _ _ _ _ _ _ _ _ _ rfl vl
 | succ n ih =>
  intro i H b;intros;rename_i hm hi vl hk hx
  have hil : i < ls.length := by omega
  have hivs : i < vs.length := by rw [hp.len]; exact hil
  have hlt : ((i : Int) < ls.length) := by omega
  have hw : IntKind.i64.wrap ((i : Int) + 1) = ((i + 1 : Nat) : Int) := wrapN (n := i + 1) (by omega)
  have hpH := hp.keep vl.len vl.low
  obtain ⟨id,off,bk,hs,hbk,hc⟩ := hpH.sl.get hivs
  have hc0 := hc 0 (by omega)
  rw [Nat.mul_one,Nat.add_zero,Nat.add_zero,List.getElem?_eq_getElem hivs] at hc0
  have hsl := hpH.each i hivs hil
  have hfar := hp.lt i hivs
  obtain ⟨d1,d2⟩ := vl.d
  have hlM := blk?_lt vl.box
  have hlen0 := vl.len
  have herr : runErr (i : Int) (P : Int) (O : Int) = 0 := by unfold runErr; rw [if_neg (by omega),if_neg (by omega)]
  obtain ⟨H2,e,pr⟩ := perform_q vl.cb vl.good hsl (fun id hid => by have := hfar id hid; omega) (hrow _ (List.getElem_mem hil)) i P O m
  have hst := vLoop_step (m := m) (b := b) (ss := ls[i]) (ls := ls.drop (i + 1)) herr
  rw [List.drop_eq_getElem_cons hil] at hk hx
  have hle : b.Le (perD m b i P O ls[i]).1.1 := (dOut_le vl.good).1
  generalize vs[i] = sv at *
  generalize ls[i] = l at *
  have hlow2 : ∀ id,id < h0.length → blk? H2 id = blk? h0 id := fun id hid => by rw [pr.same id (by omega) (by omega)]; exact vl.low id hid
  have hlen2 := pr.len
  have hbox := vl.box
  obtain ⟨sa,scc,hsh⟩ := hsl.shape
  rw [hs] at hss
  injection hss with hss1 hss2 hss3
  rw [ok_round,l30_0,L30_0a,L30_0b]
  simp only [MD.val] at e
  generalize perE m b i P O l = er at *
  subst hsh
  subst hs
  rw [hss2] at *
  have hivl : i < ls.length := hil
  by_cases he : er = 0
  ·subst he
   rw [hst.1 rfl] at hk hx
   have vl2 : VLv h0 H2 M p c m w hh (perD m b i P O l).1.1 := ⟨hlow2,by omega,by rw [pr.same M hlM d2]; exact vl.box,pr.cb,pr.good,⟨d1,d2⟩,hle.w.trans vl.bw,hle.h.trans vl.bh,vl.dp⟩
   have ih' := fun K5 K6 K7 K8 K9 Ka Ke Kg Ki Kj Kk Kl Km Kn Ko Kp Kq Kr Ks Kt Ku Kv Kw Kx Ky Kz J0 J1 J2 J3 J4 J5 J6 J7 J8 J9 Ja Jb Jc Jd Je Jf Jg Jh Ji Jj Jk Jl Jm Jn Jo Jp Jq Jr Js Jt Ju Jv Jw Jx Jy Jz Y0 Y1 Y2 Y3 Y4 Y5 Y6 Y7 Y8 Y9 Ya Yb Yc Yd Ye Yf Yg Yh Yi Yj Yk Yl Ym Yn Yo Yp Yq Yr Ys Yt Yu Yv Yw Yx Yy Yz Z0 Z1 Z2 Z3 Z4 Z5 Z6 Z7 Z8 Z9 Za Zb Zc Zd Ze Zf Zg Zh Zi Zj Zk Zl Zm Zn Zo Zp Zq Zr Zs Zt Zu Zv => ih (i + 1) H2 _ K5 K6 K7 K8 K9 Ka Ke Kg Ki Kj Kk Kl Km Kn Ko Kp Kq Kr Ks Kt Ku Kv Kw Kx Ky Kz J0 J1 J2 J3 J4 J5 J6 J7 J8 J9 Ja Jb Jc Jd Je Jf Jg Jh Ji Jj Jk Jl Jm Jn Jo Jp Jq Jr Js Jt Ju Jv Jw Jx Jy Jz Y0 Y1 Y2 Y3 Y4 Y5 Y6 Y7 Y8 Y9 Ya Yb Yc Yd Ye Yf Yg Yh Yi Yj Yk Yl Ym Yn Yo Yp Yq Yr Ys Yt Yu Yv Yw Yx Yy Yz Z0 Z1 Z2 Z3 Z4 Z5 Z6 Z7 Z8 Z9 Za Zb Zc Zd Ze Zf Zg Zh Zi Zj Zk Zl Zm Zn Zo Zp Zq Zr Zs Zt Zu Zv (by omega) (by omega) vl2 hk hx
   generalize ((i + 1 : Nat) : Int) = wi at *
   simp [hlt,hivl,hbk,hc0,hbox,e,hw]
   exact ih' ..
  ·have he' : (er != 0) = true := by simp [he]
   simp [hlt,hivl,hbk,hc0,hbox,e,he,he',fin30]
   exact hx H2 er (hst.2 he) he hlow2 (by omega)
theorem get_at {b : BS} (ho : b.Ok) {i : Nat} (hi : i < b.w * b.h) : b.cs[i]? = some (b.get ((i % b.w : Nat) : Int) ((i / b.w : Nat) : Int)) := by
 have hw := ho.w1
 have h1 := BS.get_in ho (inb_divmod (i := i) (h := b.h) (w := b.w) (by omega) hi b.cs)
 have h2 := idx_divmod (w := b.w) (h := b.h) (i := i) (by omega) b.cs
 rw [show (⟨b.w,b.h,b.cs⟩ : BS) = b from rfl] at h2
 rw [h2] at h1
 exact h1
section
variable {h0 : Heap} {p c : Nat} {b : BS} {P n : Nat} {pl kd : Int} {k : List RItem} {R : Value → Heap → Prop} {a0 : Option Addr} {c0 : Nat}
set_option maxRecDepth 10000 in
set_option maxHeartbeats 1000000 in
theorem valo_loop (hP : P ≤ 60) (hpl : -1 ≤ pl ∧ pl ≤ 100) (hn1 : n < 1000000) (hl0 : n = 0 → ∀ t,leftOf P n t = P) (hl1 : n ≠ 0 → ∀ t,leftOf P n t = if kd = 2 ∨ t = true then P - 1 - pl else P - pl)
  (hk : ∀ (H' : Heap) (v1' v2' : Value) (K0 K1 K2 K3 K4 K5 K6 K7 K8 K9 Ka Kb Ke Kf Kg Kh Ki Kj Kk Kl Km Kn Ko Kp Kq Kr Ks Kt Ku Kv Kw Kx Ky Kz J0 J1 J2 J3 J4 J5 J6 J7 J8 J9 Ja Jb Jc Jd Je Jf Jg Jh Ji Jj Jk Jl Jm Jn Jo Jp Jq Jr Js Jt Ju Jv Jw Jx Jy Jz Y0 Y1 Y2 Y3 Y4 Y5 Y6 Y7 Y8 Y9 Ya Yb Yc Yd Ye Yf Yg Yh Yi Yj Yk Yl Ym Yn Yo Yp Yq Yr Ys Yt Yu Yv Yw Yx Yy Yz Z0 Z1 Z2 Z3 Z4 Z5 Z6 Z7 Z8 Z9 Za Zb Zc Zd Ze Zf Zg Zh Zi Zj Zk Zl Zm Zn Zo Zp Zq Zr Zs Zt Zu Zv : Value),VB h0 H' p c b v1' v2' (valsTo b (b.w * b.h)) (missTo P n b (b.w * b.h)) → Ok tab R30 k #[K0,K1,K2,K3,K4,K5,K6,K7,K8,K9,Ka,Kb,v1',v2',Ke,Kf,Kg,Kh,Ki,Kj,Kk,Kl,Km,Kn,Ko,Kp,Kq,Kr,Ks,Kt,Ku,Kv,Kw,Kx,Ky,Kz,J0,J1,J2,J3,J4,J5,J6,J7,J8,J9,Ja,Jb,Jc,Jd,Je,Jf,Jg,Jh,Ji,Jj,Jk,Jl,Jm,Jn,Jo,Jp,Jq,Jr,Js,Jt,Ju,Jv,Jw,Jx,Jy,Jz,Y0,Y1,Y2,Y3,Y4,Y5,Y6,Y7,Y8,Y9,Ya,Yb,Yc,Yd,Ye,Yf,Yg,Yh,Yi,Yj,Yk,Yl,Ym,Yn,Yo,Yp,Yq,Yr,Ys,Yt,Yu,Yv,Yw,Yx,Yy,Yz,Z0,Z1,Z2,Z3,Z4,Z5,Z6,Z7,Z8,Z9,Za,Zb,Zc,Zd,Ze,Zf,Zg,Zh,Zi,Zj,Zk,Zl,Zm,Zn,Zo,Zp,Zq,Zr,Zs,Zt,Zu,Zv] H' R) :
  ∀ (m i : Nat) (H : Heap) (v1 v2 : Value) (K4 K5 K6 K7 K8 K9 Ka Kb Ke Kg Kh Ki Km Kn Ko Kp Kq Kr Ks Kt Ku Kv Kw Kx Ky Kz J0 J1 J2 J3 J4 J5 J6 J7 J8 J9 Ja Jb Jc Jd Je Jf Jg Jh Ji Jj Jk Jl Jm Jn Jo Jp Jq Jr Js Jt Ju Jv Jw Jx Jy Jz Y0 Y1 Y2 Y3 Y4 Y5 Y6 Y7 Y8 Y9 Ya Yb Yc Yd Ye Yf Yg Yh Yi Yj Yk Yl Ym Yn Yo Yp Yq Yr Ys Yt Yu Yv Yw Yx Yy Yz Z0 Z1 Z2 Z3 Z4 Z5 Z6 Z7 Z8 Z9 Za Zb Zc Zd Ze Zf Zg Zh Zi Zj Zk Zl Zm Zn Zo Zp Zq Zr Zs Zt Zu Zv : Value),m = b.w * b.h - i → i ≤ b.w * b.h → VB h0 H p c b v1 v2 (valsTo b i) (missTo P n b i) →
   Ok tab R30 (.inLoop L30_1 :: .inBlock 2 :: k) #[.slice a0 n c0,.int .i64 P,.int .i64 b.w,.int .i64 b.h,K4,K5,K6,K7,K8,K9,Ka,Kb,v1,v2,Ke,ptr p,Kg,Kh,Ki,.int .i64 pl,.int .i64 kd,.int .i64 i,Km,Kn,Ko,Kp,Kq,Kr,Ks,Kt,Ku,Kv,Kw,Kx,Ky,Kz,J0,J1,J2,J3,J4,J5,J6,J7,J8,J9,Ja,Jb,Jc,Jd,Je,Jf,Jg,Jh,Ji,Jj,Jk,Jl,Jm,Jn,Jo,Jp,Jq,Jr,Js,Jt,Ju,Jv,Jw,Jx,Jy,Jz,Y0,Y1,Y2,Y3,Y4,Y5,Y6,Y7,Y8,Y9,Ya,Yb,Yc,Yd,Ye,Yf,Yg,Yh,Yi,Yj,Yk,Yl,Ym,Yn,Yo,Yp,Yq,Yr,Ys,Yt,Yu,Yv,Yw,Yx,Yy,Yz,Z0,Z1,Z2,Z3,Z4,Z5,Z6,Z7,Z8,Z9,Za,Zb,Zc,Zd,Ze,Zf,Zg,Zh,Zi,Zj,Zk,Zl,Zm,Zn,Zo,Zp,Zq,Zr,Zs,Zt,Zu,Zv] H R := by
 intro m
 induction m with
 | zero =>
  intro i H v1 v2;intros;rename_i hm hi vb
  have hw2 := vb.cb.ok.w2
  have hh2 := vb.cb.ok.h2
  have hm64 : b.w * b.h ≤ 64 * 64 := Nat.mul_le_mul hw2 hh2
  have hmw : IntKind.i64.wrap ((b.w : Int) * (b.h : Int)) = ((b.w * b.h : Nat) : Int) := by rw [← Int.natCast_mul]; exact wrapN (by omega)
  have hlt : ¬ ((i : Int) < ((b.w * b.h : Nat) : Int)) := by omega
  obtain rfl : i = b.w * b.h := by omega
  rw [ok_round,l30_1,L30_1a,L30_1b]
  generalize ((b.w * b.h : Nat) : Int) = wh at *
  simp [hmw,hlt]
  exact hk H v1 v2 _ _ _ _ _ _ _ _ _ _ _ _ _ _ _ _ _ _ _ _ _ _ _ _ _ _ _ _ _ _ _ _ _ _ _ _ _ _ _ _ _ _ _ _ _ _ _ _ _ _ _ _ _ _ _ _ _ _ _ _ _ _ _ _ _ _ _ _ _ _ _ _ _ _ _ _ _ _ _ _ _ _ _ _ _ _ _ _ _ _ _ _ _ _ _ _ _ _ _ _ _ _ _ _ _ _ _ _ _ _ _ _ _ _ _ _ _ _ _ _ _ _ _ _ _ _ _ _ _ _ _ _ _ _ _ _ _ _ vb
 | succ m ih =>
  intro i H v1 v2;intros;rename_i hm hi vb
  have hw1 := vb.cb.ok.w1
  have hw2 := vb.cb.ok.w2
  have hh2 := vb.cb.ok.h2
  have hm64 : b.w * b.h ≤ 64 * 64 := Nat.mul_le_mul hw2 hh2
  have hil : i < b.w * b.h := by omega
  have hmw : IntKind.i64.wrap ((b.w : Int) * (b.h : Int)) = ((b.w * b.h : Nat) : Int) := by rw [← Int.natCast_mul]; exact wrapN (by omega)
  have hlt : ((i : Int) < ((b.w * b.h : Nat) : Int)) := by omega
  have hw : IntKind.i64.wrap ((i : Int) + 1) = ((i + 1 : Nat) : Int) := wrapN (n := i + 1) (by omega)
  have hgi := get_at vb.cb.ok hil
  have hcl : i < b.cs.length := by rw [vb.cb.ok.len]; exact hil
  have hmod : (i : Int).tmod (b.w : Int) = ((i % b.w : Nat) : Int) := rfl
  have hdiv : (i : Int).tdiv (b.w : Int) = ((i / b.w : Nat) : Int) := rfl
  have hdw : IntKind.i64.wrap ((i / b.w : Nat) : Int) = ((i / b.w : Nat) : Int) := wrapN (by have := Nat.div_le_self i b.w; omega)
  have hw0 : ¬ b.w = 0 := by omega
  have hwa : IntKind.i64.wrap ((P : Int) - 1) = (P : Int) - 1 := wrapI (by omega) (by omega)
  have hwb : IntKind.i64.wrap ((P : Int) - 1 - pl) = (P : Int) - 1 - pl := wrapI (by omega) (by omega)
  have hwc : IntKind.i64.wrap ((P : Int) - pl) = (P : Int) - pl := wrapI (by omega) (by omega)
  have hv := fun R => value_r (R := R) (x := ((i % b.w : Nat) : Int)) (y := ((i / b.w : Nat) : Int)) vb.cb
  obtain ⟨H1,e1,vb1⟩ := vb.push1 (by rw [valsTo_len (by omega)]; omega) (b.get ((i % b.w : Nat) : Int) ((i / b.w : Nat) : Int)).v
  have ht := fun R => touched_r (R := R) (x := ((i % b.w : Nat) : Int)) (y := ((i / b.w : Nat) : Int)) vb1.cb
  obtain ⟨H2,e2,vb2⟩ := vb1.swap.push1 (by rw [missTo_len (by omega)]; omega) (leftOf P n (b.get ((i % b.w : Nat) : Int) ((i / b.w : Nat) : Int)).t)
  have vb3 := vb2.swap
  rw [← valsTo_succ hgi,← missTo_succ (P := P) (n := n) hgi] at vb3
  rw [valsTo_len (by omega)] at e1 vb3
  rw [missTo_len (by omega)] at e2 vb3
  have hl1' := fun h => hl1 h (b.get ((i % b.w : Nat) : Int) ((i / b.w : Nat) : Int)).t
  have hl0' := fun h => hl0 h (b.get ((i % b.w : Nat) : Int) ((i / b.w : Nat) : Int)).t
  have ih' := fun K4 K5 K6 K7 K8 K9 Ka Kb Ke Kg Kh Ki Km Kn Ko Kp Kq Kr Ks Kt Ku Kv Kw Kx Ky Kz J0 J1 J2 J3 J4 J5 J6 J7 J8 J9 Ja Jb Jc Jd Je Jf Jg Jh Ji Jj Jk Jl Jm Jn Jo Jp Jq Jr Js Jt Ju Jv Jw Jx Jy Jz Y0 Y1 Y2 Y3 Y4 Y5 Y6 Y7 Y8 Y9 Ya Yb Yc Yd Ye Yf Yg Yh Yi Yj Yk Yl Ym Yn Yo Yp Yq Yr Ys Yt Yu Yv Yw Yx Yy Yz Z0 Z1 Z2 Z3 Z4 Z5 Z6 Z7 Z8 Z9 Za Zb Zc Zd Ze Zf Zg Zh Zi Zj Zk Zl Zm Zn Zo Zp Zq Zr Zs Zt Zu Zv => ih (i + 1) H2 _ _ K4 K5 K6 K7 K8 K9 Ka Kb Ke Kg Kh Ki Km Kn Ko Kp Kq Kr Ks Kt Ku Kv Kw Kx Ky Kz J0 J1 J2 J3 J4 J5 J6 J7 J8 J9 Ja Jb Jc Jd Je Jf Jg Jh Ji Jj Jk Jl Jm Jn Jo Jp Jq Jr Js Jt Ju Jv Jw Jx Jy Jz Y0 Y1 Y2 Y3 Y4 Y5 Y6 Y7 Y8 Y9 Ya Yb Yc Yd Ye Yf Yg Yh Yi Yj Yk Yl Ym Yn Yo Yp Yq Yr Ys Yt Yu Yv Yw Yx Yy Yz Z0 Z1 Z2 Z3 Z4 Z5 Z6 Z7 Z8 Z9 Za Zb Zc Zd Ze Zf Zg Zh Zi Zj Zk Zl Zm Zn Zo Zp Zq Zr Zs Zt Zu Zv (by omega) (by omega) vb3
  rw [ok_round,l30_1,L30_1a,L30_1b]
  generalize leftOf P n (b.get ((i % b.w : Nat) : Int) ((i / b.w : Nat) : Int)).t = lf at *
  generalize (b.get ((i % b.w : Nat) : Int) ((i / b.w : Nat) : Int)).v = vv at *
  generalize (b.get ((i % b.w : Nat) : Int) ((i / b.w : Nat) : Int)).t = tt at *
  generalize ((b.w * b.h : Nat) : Int) = wh at *
  generalize ((i / b.w : Nat) : Int) = yy at *
  generalize ((i % b.w : Nat) : Int) = xx at *
  generalize ((i + 1 : Nat) : Int) = wi at *
  by_cases h1 : n = 0
  ·have h1' : ((n : Int) == 0) = true := by simp [h1]
   have := hl0' h1
   subst this
   simp [k_guard,k_guardU,hmw,hlt,hmod,hdiv,hdw,hw0,hv,repL,e1,h1',e2,hw]
   exact ih' ..
  ·have h1' : ((n : Int) == 0) = false := by simp [h1]
   have hl := hl1' h1
   by_cases h2 : kd = 2
   ·have h2' : (kd == 2) = true := by simp [h2]
    rw [if_pos (.inl h2)] at hl
    subst hl
    simp [k_guard,k_guardU,hmw,hlt,hmod,hdiv,hdw,hw0,hv,repL,e1,h1',h2',hwa,hwb,e2,hw]
    exact ih' ..
   ·have h2' : (kd == 2) = false := by simp [h2]
    cases tt
    ·rw [if_neg (by simp [h2])] at hl
     subst hl
     simp [k_guard,k_guardU,hmw,hlt,hmod,hdiv,hdw,hw0,hv,repL,e1,h1',h2',ht,hwc,e2,hw]
     exact ih' ..
    ·rw [if_pos (.inr rfl)] at hl
     subst hl
     simp [k_guard,k_guardU,hmw,hlt,hmod,hdiv,hdw,hw0,hv,repL,e1,h1',h2',ht,hwa,hwb,e2,hw]
     exact ih' ..
end
theorem pass_neg1 {h : Heap} {R : Value → Heap → Prop} : Ret tab 32 [.int .i64 (-1)] h R = R (.tuple #[.int .i64 (-1),.int .i64 (-1)]) h := by
 rw [enter32,B32]
 simp [fin32]
set_option maxRecDepth 10000 in
set_option maxHeartbeats 1000000 in
theorem values_q {h : Heap} {s : Value} {vs : List Value} {ls : List (List (Int × Int))} (hp : PsI h s vs ls) (hl : ls.length < 100000) (hrow : ∀ l ∈ ls,l.length < 900000) (P w hh o : Int) (hPr : -9223372036854775808 ≤ P ∧ P < 9223372036854775808) (m : MD) :
    ∃ v1 v2 h',(∀ R,Ret tab 30 [s,.int .i64 P,.int .i64 w,.int .i64 hh,.int .i64 o,m.val] h R = R (.tuple #[v1,v2,.int .i64 (valRes ls P w hh o m).1]) h') ∧ VOut h h' v1 v2 (valRes ls P w hh o m) := by
  have key : Ret tab 30 [s,.int .i64 P,.int .i64 w,.int .i64 hh,.int .i64 o,m.val] h fun v h' => ∃ v1 v2,v = .tuple #[v1,v2,.int .i64 (valRes ls P w hh o m).1] ∧ VOut h h' v1 v2 (valRes ls P w hh o m) := by
    obtain ⟨a,cc,hs⟩ := hp.sl.shape
    rw [hp.len] at hs
    rw [enter30,show B30 = .seq (nthC 0 B30) (.seq (nthC 1 B30) (.seq (nthC 2 B30) (.seq (nthC 3 B30) (tlC 4 B30)))) from rfl]
    generalize hT : tlC 4 B30 = tl
    simp only [nthC,tlC,fstC,B30]
    have hkp : ∀ x : Option Blk,∀ id,id < h.length → blk? (h ++ [x]) id = blk? h id := fun x id hid => blk?_push_lt hid
    have hbadr : ∀ e,valErr ls.length P w hh o = e → e ≠ 0 → valRes ls P w hh o m = (e,[],[]) := fun e he h0 => by unfold valRes; rw [he,if_pos h0]
    by_cases hb2 : (w < 1 ∨ 64 < w ∨ hh < 1 ∨ 64 < hh) ∨ P < 0 ∨ 60 < P
    · have hr := hbadr 2 (by unfold valErr; rw [if_pos]; rcases hb2 with hb2 | hb2; · left; simp [sized]; omega
                             · exact .inr hb2) (by decide)
      rw [hr]
      by_cases c1 : w < 1
      · simp [MD.val,k_guard,k_guardU,c1,fin30]
        exact ⟨_,_,⟨rfl,rfl⟩,VOut.bad (hkp _) (by simp) _⟩
      by_cases c2 : 64 < w
      · simp [MD.val,k_guard,k_guardU,c1,c2,fin30]
        exact ⟨_,_,⟨rfl,rfl⟩,VOut.bad (hkp _) (by simp) _⟩
      by_cases c3 : hh < 1
      · simp [MD.val,k_guard,k_guardU,c1,c2,c3,fin30]
        exact ⟨_,_,⟨rfl,rfl⟩,VOut.bad (hkp _) (by simp) _⟩
      by_cases c4 : 64 < hh
      · simp [MD.val,k_guard,k_guardU,c1,c2,c3,c4,fin30]
        exact ⟨_,_,⟨rfl,rfl⟩,VOut.bad (hkp _) (by simp) _⟩
      by_cases c5 : P < 0
      · simp [MD.val,k_guard,k_guardU,c1,c2,c3,c4,c5,fin30]
        exact ⟨_,_,⟨rfl,rfl⟩,VOut.bad (hkp _) (by simp) _⟩
      · have c6 : 60 < P := by omega
        simp [MD.val,k_guard,k_guardU,c1,c2,c3,c4,c5,c6,fin30]
        exact ⟨_,_,⟨rfl,rfl⟩,VOut.bad (hkp _) (by simp) _⟩
    have c1 : ¬ w < 1 := by omega
    have c2 : ¬ 64 < w := by omega
    have c3 : ¬ hh < 1 := by omega
    have c4 : ¬ 64 < hh := by omega
    have c5 : ¬ P < 0 := by omega
    have c6 : ¬ 60 < P := by omega
    have hsz : sized w hh = true := by simp [sized]; omega
    have hne2 : ¬ (¬ sized w hh = true ∨ P < 0 ∨ 60 < P) := by rw [hsz]; simp; omega
    have hm1 : IntKind.i64.wrap (3 * P) = 3 * P := wrapI (by omega) (by omega)
    have hm2 : IntKind.i64.wrap (3 * P - 2) = 3 * P - 2 := wrapI (by omega) (by omega)
    have hmx : fold1 max2V [.int .i64 0,.int .i64 (3 * P - 2)] = some (.int .i64 (max 0 (3 * P - 2))) := by
      simp only [fold1,foldO,max2V]
      congr 2
      split <;> omega
    by_cases hln : max 0 (3 * P - 2) < (ls.length : Int)
    · have hr := hbadr 4 (by unfold valErr; rw [if_neg hne2,if_pos hln]) (by decide)
      rw [hr]
      simp [MD.val,k_guard,k_guardU,c1,c2,c3,c4,c5,c6,hs,hm1,hm2,hmx,hln,fin30]
      exact ⟨_,_,⟨rfl,rfl⟩,VOut.bad (hkp _) (by simp) _⟩
    have hvo := fun R => validOrient_r (h := h ++ [some ⟨false,[.bool m.byp,.bool m.res,.bool m.rst,.bool m.cz,.bool m.sy]⟩]) (R := R) (o := o)
    by_cases ho : 0 ≤ o ∧ o ≤ 3
    case neg =>
      have hr := hbadr 3 (by unfold valErr; rw [if_neg hne2,if_neg hln,if_pos (by omega)]) (by decide)
      rw [decide_eq_false ho] at hvo
      rw [hr]
      simp [MD.val,k_guard,k_guardU,c1,c2,c3,c4,c5,c6,hs,hm1,hm2,hmx,hln,hvo,fin30]
      exact ⟨_,_,⟨rfl,rfl⟩,VOut.bad (hkp _) (by simp) _⟩
    rw [decide_eq_true ho] at hvo
    obtain ⟨P,rfl⟩ := Int.eq_ofNat_of_zero_le (show 0 ≤ P by omega)
    obtain ⟨o,rfl⟩ := Int.eq_ofNat_of_zero_le (show 0 ≤ o by omega)
    obtain ⟨w,rfl⟩ := Int.eq_ofNat_of_zero_le (show 0 ≤ w by omega)
    obtain ⟨hh,rfl⟩ := Int.eq_ofNat_of_zero_le (show 0 ≤ hh by omega)
    have w1 : 1 ≤ w := by omega
    have w2 : w ≤ 64 := by omega
    have h1 : 1 ≤ hh := by omega
    have h2 : hh ≤ 64 := by omega
    have herr : valErr ls.length (P : Int) w hh o = 0 := by unfold valErr; rw [if_neg hne2,if_neg hln,if_neg (by omega)]
    generalize hr : valRes ls (P : Int) w hh o m = r
    have hr' : r = if (vLoop m P o 0 (newBS w hh) ls).2 ≠ 0 then ((vLoop m P o 0 (newBS w hh) ls).2,[],[]) else (0,(vLoop m P o 0 (newBS w hh) ls).1.cs.map (·.v),(vLoop m P o 0 (newBS w hh) ls).1.cs.map fun c => leftOf P ls.length c.t) := by
      rw [← hr]; unfold valRes; rw [herr,if_neg (by simp)]; simp only [Int.toNat_natCast]
    have hnew := fun H R => new_r (h := H) (R := R) w1 w2 h1 h2
    have hls : ∀ H : Heap,(newHeap H w hh).length = H.length + 2 := fun H => newHeap_len H w hh
    have hlow : ∀ x : Option Blk,∀ id,id < h.length → blk? (newHeap (h ++ [x]) w hh) id = blk? h id := fun x id hid => by
      rw [newHeap_low _ _ _ id (by simp; omega)]; exact hkp x id hid
    simp [MD.val,k_guard,k_guardU,c1,c2,c3,c4,c5,c6,hs,hm1,hm2,hmx,hln,hvo]
    rw [← hT]
    simp only [tlC,B30]
    generalize hH : newHeap (h ++ [some (⟨false,[.bool m.byp,.bool m.res,.bool m.rst,.bool m.cz,.bool m.sy]⟩ : Blk)]) w hh = H
    have hlowH : ∀ id,id < h.length → blk? H id = blk? h id := by rw [← hH]; exact hlow _
    have hlenH : H.length = h.length + 3 := by rw [← hH,hls]; simp
    have vl : VLv h H h.length (h.length + 2) (h.length + 1) m w hh (newBS w hh) := by
      refine ⟨hlowH,by omega,?_,?_,newBS_good w1 w2 h1 h2,⟨by omega,by omega⟩,rfl,rfl,by omega⟩
      · rw [← hH,newHeap_low _ _ _ _ (by simp)]; exact blk?_push_eq
      · rw [← hH]
        have := newHeap_cb (h ++ [some (⟨false,[.bool m.byp,.bool m.res,.bool m.rst,.bool m.cz,.bool m.sy]⟩ : Blk)]) w1 w2 h1 h2
        simpa using this
    have hvn : (vLoop m P o 0 (newBS w hh) (ls.drop 0)) = vLoop m P o 0 (newBS w hh) ls := rfl
    simp [hnew,hH]
    rw [← hs]
    refine valsq_loop (w := w) (hh := hh) hp hrow (by omega) (by omega) (by omega) (by omega) ls.length 0 H (newBS w hh) _ _ _ _ _ _ _ _ _ _ _ _ _ _ _ _ _ _ _ _ _ _ _ _ _ _ _ _ _ _ _ _ _ _ _ _ _ _ _ _ _ _ _ _ _ _ _ _ _ _ _ _ _ _ _ _ _ _ _ _ _ _ _ _ _ _ _ _ _ _ _ _ _ _ _ _ _ _ _ _ _ _ _ _ _ _ _ _ _ _ _ _ _ _ _ _ _ _ _ _ _ _ _ _ _ _ _ _ _ _ _ _ _ _ _ _ _ _ _ _ _ _ _ _ _ _ _ _ _ _ rfl (by omega) vl ?_ ?_
    · intro H1 b';intros;rename_i hv vl1
      rw [hvn] at hv
      rw [hv] at hr'
      simp only [ne_eq,not_true_eq_false,if_false] at hr'
      have hbw := vl1.bw
      have hbh := vl1.bh
      have lp := blk?_lt vl1.cb.blkp
      have lc := blk?_lt vl1.cb.blkc
      have hvb : VB h H1 (h.length + 2) (h.length + 1) b' (.slice none 0 0) (.slice none 0 0) (valsTo b' 0) (missTo P ls.length b' 0) :=
        ⟨vl1.low,vl1.len,vl1.cb,by simp [valsTo,i64s]; exact OwnS.nil _ _,by simp [missTo,i64s]; exact OwnS.nil _ _,fun id hid => by simp [sid] at hid,fun id hid => by simp [sid] at hid,fun id hid => by simp [sid] at hid⟩
      have fin : ∀ (pl kd : Int),(-1 ≤ pl ∧ pl ≤ 100) → (ls.length ≠ 0 → ∀ t,leftOf P ls.length t = if kd = 2 ∨ t = true then P - 1 - pl else P - pl) → ∀ K4 K5 K6 K7 K8 K9 Ka Kb Ke Kg Kh Ki Km Kn Ko Kp Kq Kr Ks Kt Ku Kv Kw Kx Ky Kz J0 J1 J2 J3 J4 J5 J6 J7 J8 J9 Ja Jb Jc Jd Je Jf Jg Jh Ji Jj Jk Jl Jm Jn Jo Jp Jq Jr Js Jt Ju Jv Jw Jx Jy Jz Y0 Y1 Y2 Y3 Y4 Y5 Y6 Y7 Y8 Y9 Ya Yb Yc Yd Ye Yf Yg Yh Yi Yj Yk Yl Ym Yn Yo Yp Yq Yr Ys Yt Yu Yv Yw Yx Yy Yz Z0 Z1 Z2 Z3 Z4 Z5 Z6 Z7 Z8 Z9 Za Zb Zc Zd Ze Zf Zg Zh Zi Zj Zk Zl Zm Zn Zo Zp Zq Zr Zs Zt Zu Zv : Value,
          Ok tab R30 (.inLoop L30_1 :: .inBlock 2 :: [.code (tlC 8 B30)]) #[s,.int .i64 P,.int .i64 w,.int .i64 hh,K4,K5,K6,K7,K8,K9,Ka,Kb,.slice none 0 0,.slice none 0 0,Ke,ptr (h.length + 2),Kg,Kh,Ki,.int .i64 pl,.int .i64 kd,.int .i64 0,Km,Kn,Ko,Kp,Kq,Kr,Ks,Kt,Ku,Kv,Kw,Kx,Ky,Kz,J0,J1,J2,J3,J4,J5,J6,J7,J8,J9,Ja,Jb,Jc,Jd,Je,Jf,Jg,Jh,Ji,Jj,Jk,Jl,Jm,Jn,Jo,Jp,Jq,Jr,Js,Jt,Ju,Jv,Jw,Jx,Jy,Jz,Y0,Y1,Y2,Y3,Y4,Y5,Y6,Y7,Y8,Y9,Ya,Yb,Yc,Yd,Ye,Yf,Yg,Yh,Yi,Yj,Yk,Yl,Ym,Yn,Yo,Yp,Yq,Yr,Ys,Yt,Yu,Yv,Yw,Yx,Yy,Yz,Z0,Z1,Z2,Z3,Z4,Z5,Z6,Z7,Z8,Z9,Za,Zb,Zc,Zd,Ze,Zf,Zg,Zh,Zi,Zj,Zk,Zl,Zm,Zn,Zo,Zp,Zq,Zr,Zs,Zt,Zu,Zv] H1
            fun v h' => ∃ v1 v2,v = .tuple #[v1,v2,.int .i64 r.1] ∧ VOut h h' v1 v2 r := by
        intro pl kd hpl hl1;intros
        rw [← hbw,← hbh,hs]
        refine valo_loop (P := P) (n := ls.length) (by omega) hpl (by omega) (fun h t => by unfold leftOf; rw [if_pos h]) hl1 ?_ _ 0 _ _ _ _ _ _ _ _ _ _ _ _ _ _ _ _ _ _ _ _ _ _ _ _ _ _ _ _ _ _ _ _ _ _ _ _ _ _ _ _ _ _ _ _ _ _ _ _ _ _ _ _ _ _ _ _ _ _ _ _ _ _ _ _ _ _ _ _ _ _ _ _ _ _ _ _ _ _ _ _ _ _ _ _ _ _ _ _ _ _ _ _ _ _ _ _ _ _ _ _ _ _ _ _ _ _ _ _ _ _ _ _ _ _ _ _ _ _ _ _ _ _ _ _ _ _ _ _ _ _ _ _ _ rfl (Nat.zero_le _) hvb
        intro H' v1' v2';intros;rename_i vb
        have hfl : b'.w * b'.h = b'.cs.length := vl1.cb.ok.len.symm
        have ev : valsTo b' (b'.w * b'.h) = b'.cs.map (·.v) := by unfold valsTo; rw [List.take_of_length_le (by omega)]
        have em : missTo P ls.length b' (b'.w * b'.h) = b'.cs.map fun c => leftOf P ls.length c.t := by unfold missTo; rw [List.take_of_length_le (by omega)]
        rw [ev,em] at vb
        simp [tlC,B30,fin30]
        rw [hr']
        exact ⟨v1',v2',⟨rfl,rfl,rfl⟩,by simpa using vb.o1,by simpa using vb.o2,vb.low,vb.len⟩
      simp only [tlC,B30] at fin
      by_cases hn0 : ls.length = 0
      · have hw0 : IntKind.i64.wrap ((ls.length : Int) - 1) = -1 := by rw [hn0]; decide
        have hnn := fun h R => pass_neg1 (h := h) (R := R)
        have f := fin (-1) (-1) (by omega) (fun h => absurd hn0 h)
        rw [hs] at f ⊢
        simp [hw0,hnn]
        exact f ..
      · have hw0 : IntKind.i64.wrap ((ls.length : Int) - 1) = ((ls.length - 1 : Nat) : Int) := by rw [wrapI (by omega) (by omega)]; omega
        have hnn := fun h R => pass_r (h := h) (R := R) (n := ls.length - 1) (by omega)
        have hpo : planeOf (ls.length - 1) ≤ P - 1 := planeOf_le (by omega) (by omega)
        have f := fin (planeOf (ls.length - 1) : Nat) (kindOf (ls.length - 1) : Nat) (by omega) (fun _ t => by
          rw [leftOf_pos hn0]
          by_cases hk : kindOf (ls.length - 1) = 2
          · rw [if_neg (by simp [hk]),if_pos (.inl (by omega))]; omega
          · cases t
            · rw [if_pos (by simp [hk]),if_neg (by simp; omega)]; omega
            · rw [if_neg (by simp),if_pos (.inr rfl)]; omega)
        rw [hs] at f ⊢
        generalize ((planeOf (ls.length - 1) : Nat) : Int) = pl at *
        generalize ((kindOf (ls.length - 1) : Nat) : Int) = kd at *
        generalize ((ls.length - 1 : Nat) : Int) = n1 at *
        simp [hw0,hnn]
        exact f ..
    · intro H1 e he h0 low len
      rw [hvn] at he
      rw [he,if_pos h0] at hr'
      rw [hr']
      exact ⟨_,_,rfl,VOut.bad low len _⟩
  obtain ⟨v,h',e,v1,v2,rfl,rs⟩ := ret_ex key
  exact ⟨v1,v2,h',e,rs⟩
set_option maxRecDepth 10000
section
variable {h : Heap} {pv dv : Value} {pl : Int} {ps : List Int} {ds : List Nat} {m : MD}
theorem validBlock_c {R : Value → Heap → Prop} (w hh o : Int) : Ret tab 67 [.int .i64 w,.int .i64 hh,.int .i64 o] h R = R (.int .i64 (if w < 1 ∨ 64 < w ∨ hh < 1 ∨ 64 < hh then 2 else if o < 0 ∨ 3 < o then 3 else 0)) h := by
 rw [enter67,B67]
 by_cases c3 : w < 1
 ·rw [if_pos (.inl c3)]
  simp [k_guard,k_guardU,c3,fin67]
 by_cases c4 : 64 < w
 ·rw [if_pos (.inr (.inl c4))]
  simp [k_guard,k_guardU,c3,c4,fin67]
 by_cases c5 : hh < 1
 ·rw [if_pos (.inr (.inr (.inl c5)))]
  simp [k_guard,k_guardU,c3,c4,c5,fin67]
 by_cases c6 : 64 < hh
 ·rw [if_pos (.inr (.inr (.inr c6)))]
  simp [k_guard,k_guardU,c3,c4,c5,c6,fin67]
 rw [if_neg (by omega)]
 by_cases c7 : o < 0
 ·rw [if_pos (.inl c7)]
  simp [k_guard,k_guardU,c3,c4,c5,c6,c7,fin67]
 by_cases c8 : 3 < o
 ·rw [if_pos (.inr c8)]
  simp [k_guard,k_guardU,c3,c4,c5,c6,c7,c8,fin67]
 rw [if_neg (by omega)]
 simp [k_guard,k_guardU,c3,c4,c5,c6,c7,c8,fin67]
set_option maxHeartbeats 1000000 in
theorem zcheck_c {ds : List Int} (hp : Rk .i64 h pv ps) (hd : Rk .u8 h dv ds) (hl : ps.length < 1000000) (hdl : ds.length < 1000000000) (n w hh o : Int) :
  Gives 29 [.agg #[.int .i64 pl,pv,dv],.int .i64 n,.int .i64 w,.int .i64 hh,.int .i64 o,m.val] h (.int .i64 (checkP pl ps ds n w hh o)) := by
 refine Gives.mk fun R0 hR => ?_
 generalize hH : h ++ [some (⟨false,[.int .i64 pl,pv,dv]⟩ : Blk),some ⟨false,[.bool m.byp,.bool m.res,.bool m.rst,.bool m.cz,.bool m.sy]⟩] = H
 have lH : H.length = h.length + 2 := by rw [← hH]; simp
 have b0 : blk? H h.length = some ⟨false,[.int .i64 pl,pv,dv]⟩ := by rw [← hH,app_len]; rfl
 have b1 : blk? H (h.length + 1) = some ⟨false,[.bool m.byp,.bool m.res,.bool m.rst,.bool m.cz,.bool m.sy]⟩ := by rw [← hH,app_add]; rfl
 have hpH : Rk .i64 H pv ps := by rw [← hH]; exact hp.push _
 have hdH : Rk .u8 H dv ds := by rw [← hH]; exact hd.push _
 obtain ⟨H1,e1,k1,l1⟩ := valid_r (m := m) (pl := pl) hpH hdH hl hdl
 have b01 : blk? H1 h.length = some ⟨false,[.int .i64 pl,pv,dv]⟩ := by rw [k1 _ (by omega)]; exact b0
 have hR' := hR H1 (fun id hid => by rw [k1 id (by omega),← hH]; exact app_lt hid) (by omega)
 clear hR
 obtain ⟨pa,pc,hpv⟩ := hp.sl.shape
 simp only [MD.val] at e1
 unfold checkP at hR'
 have eb := fun R => validBlock_c (h := H1) (R := R) w hh o
 rw [enter29,B29]
 by_cases v0 : validP pl ps ds = 0
 case neg =>
  have v0' : (validP pl ps ds != 0) = true := by simpa using v0
  rw [if_pos v0] at hR'
  simp [k_guard,k_guardU,MD.val,hH,b0,b1,e1,v0',fin29]
  exact hR'
 have v0' : (validP pl ps ds != 0) = false := by simpa using v0
 rw [if_neg (by simp [v0])] at hR'
 rw [hpv] at hH b0 b01 e1
 rw [hpv]
 by_cases c1 : n < 0
 ·rw [if_pos (.inl c1)] at hR'
  simp [k_guard,k_guardU,MD.val,hH,b0,b1,e1,v0',c1,fin29]
  exact hR'
 by_cases c2 : (ps.length : Int) < n
 ·rw [if_pos (.inr (.inl c2))] at hR'
  simp [k_guard,k_guardU,MD.val,hH,b0,b1,e1,v0',b01,c1,c2,fin29]
  exact hR'
 have ee : (if n < 0 ∨ (ps.length : Int) < n ∨ w < 1 ∨ 64 < w ∨ hh < 1 ∨ 64 < hh then (2 : Int) else if o < 0 ∨ 3 < o then 3 else 0) = if w < 1 ∨ 64 < w ∨ hh < 1 ∨ 64 < hh then 2 else if o < 0 ∨ 3 < o then 3 else 0 := by
  by_cases hc : w < 1 ∨ 64 < w ∨ hh < 1 ∨ 64 < hh
  ·rw [if_pos hc,if_pos (.inr (.inr hc))]
  ·rw [if_neg hc,if_neg (by omega)]
 rw [ee] at hR'
 generalize (if w < 1 ∨ 64 < w ∨ hh < 1 ∨ 64 < hh then (2 : Int) else if o < 0 ∨ 3 < o then 3 else 0) = X at *
 simp [k_guard,k_guardU,MD.val,hH,b0,b1,e1,v0',b01,c1,c2,eb,fin29]
 exact hR'
theorem zreadC {n w hh o : Int} (hp : Rk .i64 h pv ps) (hd : Rk .u8 h dv (ds.map Int.ofNat)) (hds : ∀ x ∈ ds,x < 256) (hc : checkP pl ps (ds.map Int.ofNat) n w hh o = 0) :
  ∃ lv h',(∀ R : Value → Heap → Prop,Ret tab 31 [.agg #[.int .i64 pl,pv,dv],.int .i64 n,.int .i64 w,.int .i64 hh,.int .i64 o,m.val] h R = R lv h') ∧
   RdV h.length h' lv (readP m pl o ps ds n.toNat w.toNat hh.toNat).ls ∧ (∀ id,id < h.length → blk? h' id = blk? h id) ∧ h.length ≤ h'.length := by
 obtain ⟨hv,n0,n1,w1,w2,h1,h2,o0,o1⟩ := check_ok hc
 obtain ⟨p0,p1,p2,_,p4⟩ := valid_ends hv
 obtain ⟨z0,z1⟩ := valid_zE hv
 simp only [List.length_map] at z1 p4
 obtain ⟨n,rfl⟩ := Int.eq_ofNat_of_zero_le n0
 obtain ⟨w,rfl⟩ := Int.eq_ofNat_of_zero_le (show 0 ≤ w by omega)
 obtain ⟨hh,rfl⟩ := Int.eq_ofNat_of_zero_le (show 0 ≤ hh by omega)
 simp only [Int.toNat_natCast]
 exact zsyms_c m hp hd z0 z1 (by omega) hds (by omega) (by omega) (by omega) (by omega) (by omega) (by omega)
set_option maxHeartbeats 1000000 in
theorem decode_z {n w hh o : Int} (hp : Rk .i64 h pv ps) (hd : Rk .u8 h dv (ds.map Int.ofNat)) (hds : ∀ x ∈ ds,x < 256) (hl : ps.length < 1000000) (hdl : ds.length < 1000000000) :
  ∃ v1 v2 h',(∀ R : Value → Heap → Prop,Ret tab 12 [.agg #[.int .i64 pl,pv,dv],.int .i64 n,.int .i64 w,.int .i64 hh,.int .i64 o,m.val] h R = R (.tuple #[v1,v2,.int .i64 (decP m pl ps ds n w hh o).1]) h') ∧ VOut h h' v1 v2 (decP m pl ps ds n w hh o) := by
 have key : ∀ R0 : Value → Heap → Prop,(∀ v1 v2 h',VOut h h' v1 v2 (decP m pl ps ds n w hh o) → R0 (.tuple #[v1,v2,.int .i64 (decP m pl ps ds n w hh o).1]) h') → Ret tab 12 [.agg #[.int .i64 pl,pv,dv],.int .i64 n,.int .i64 w,.int .i64 hh,.int .i64 o,m.val] h R0 := by
  intro R0 hR
  generalize hH : h ++ [some (⟨false,[.int .i64 pl,pv,dv]⟩ : Blk),some ⟨false,[.bool m.byp,.bool m.res,.bool m.rst,.bool m.cz,.bool m.sy]⟩] = H
  have lH : H.length = h.length + 2 := by rw [← hH]; simp
  have kH : ∀ id,id < h.length → blk? H id = blk? h id := fun id hid => by rw [← hH]; exact app_lt hid
  have b0 : blk? H h.length = some ⟨false,[.int .i64 pl,pv,dv]⟩ := by rw [← hH,app_len]; rfl
  have b1 : blk? H (h.length + 1) = some ⟨false,[.bool m.byp,.bool m.res,.bool m.rst,.bool m.cz,.bool m.sy]⟩ := by rw [← hH,app_add]; rfl
  have hpH : Rk .i64 H pv ps := by rw [← hH]; exact hp.push _
  have hdH : Rk .u8 H dv (ds.map Int.ofNat) := by rw [← hH]; exact hd.push _
  obtain ⟨H1,e1,k1,l1⟩ := zcheck_c (m := m) (pl := pl) hpH hdH hl (by rw [List.length_map]; exact hdl) n w hh o
  have b01 : blk? H1 h.length = some ⟨false,[.int .i64 pl,pv,dv]⟩ := by rw [k1 _ (by omega)]; exact b0
  have b11 : blk? H1 (h.length + 1) = some ⟨false,[.bool m.byp,.bool m.res,.bool m.rst,.bool m.cz,.bool m.sy]⟩ := by rw [k1 _ (by omega)]; exact b1
  simp only [MD.val] at e1
  rw [enter12,B12]
  by_cases hc : checkP pl ps (ds.map Int.ofNat) n w hh o = 0
  case neg =>
   have hc' : (checkP pl ps (ds.map Int.ofNat) n w hh o != 0) = true := by simpa using hc
   have e : decP m pl ps ds n w hh o = (checkP pl ps (ds.map Int.ofNat) n w hh o,[],[]) := by unfold decP; rw [if_pos hc]
   rw [e] at hR
   simp [MD.val,hH,b0,b1,e1,hc',fin12]
   exact hR _ _ _ (VOut.bad (fun id hid => by rw [k1 id (by omega),kH id hid]) (by omega) _)
  have hc' : (checkP pl ps (ds.map Int.ofNat) n w hh o != 0) = false := by simpa using hc
  have e : decP m pl ps ds n w hh o = valRes ((readP m pl o ps ds n.toNat w.toNat hh.toNat).ls.map toI) pl w hh o m := by unfold decP; rw [if_neg (by simp [hc])]
  rw [e] at hR
  obtain ⟨hv,_⟩ := check_ok hc
  obtain ⟨p0,p1,p2,_,p4⟩ := valid_ends hv
  have hp1 : Rk .i64 H1 pv ps := hpH.keep l1 fun id hid _ => k1 id hid
  have hd1 : Rk .u8 H1 dv (ds.map Int.ofNat) := hdH.keep l1 fun id hid _ => k1 id hid
  obtain ⟨lv,H2,e2,r2,k2,l2⟩ := zreadC (m := m) hp1 hd1 hds hc
  obtain ⟨vs,q2⟩ := r2.psI
  obtain ⟨vs',_,_,_,hsm⟩ := r2.ex
  have b02 : blk? H2 h.length = some ⟨false,[.int .i64 pl,pv,dv]⟩ := by rw [k2 _ (by omega)]; exact b01
  have b12 : blk? H2 (h.length + 1) = some ⟨false,[.bool m.byp,.bool m.res,.bool m.rst,.bool m.cz,.bool m.sy]⟩ := by rw [k2 _ (by omega)]; exact b11
  have hlen : (readP m pl o ps ds n.toNat w.toNat hh.toNat).ls.length < 100000 := by
   obtain ⟨_,c1,c2,_⟩ := check_ok hc
   rw [readP_len m pl o ps ds (by omega)]; omega
  obtain ⟨v1,v2,H3,e3,V3⟩ := values_q q2 (by simpa using hlen) (fun l hl => by
   obtain ⟨l',hl',rfl⟩ := List.mem_map.1 hl
   have := hsm l' hl'
   simp [toI]; omega) pl w hh o (by omega) m
  simp only [MD.val] at e2 e3
  simp [book,bookU,logOf,addLog,chk1,lookL,reload,veq,MD.val,hH,b0,b1,e1,hc',b01,b11,e2,b02,b12,e3,fin12]
  exact hR _ _ _ ⟨V3.o1,V3.o2,fun id hid => by rw [V3.low id (by omega),k2 id (by omega),k1 id (by omega),kH id hid],by have := V3.len; omega⟩
 obtain ⟨v,h',e,v1,v2,rfl,a⟩ := ret_ex (key (fun v h' => ∃ v1 v2,v = .tuple #[v1,v2,.int .i64 (decP m pl ps ds n w hh o).1] ∧ VOut h h' v1 v2 (decP m pl ps ds n w hh o)) fun v1 v2 h' a => ⟨v1,v2,rfl,a⟩)
 exact ⟨v1,v2,h',e,a⟩
end
set_option maxRecDepth 10000
section
variable {h : Heap} {pv dv : Value} {pl : Int} {ps ds : List Int} {x1 x2 x3 x4 x5 : Bool}
set_option maxHeartbeats 4000000 in
theorem ret_decodes {n w hh o : Int} (hp : Rk .i64 h pv ps) (hd : Rk .u8 h dv ds) :
  Ret tab 3 [.agg #[.int .i64 pl,pv,dv],.int .i64 n,.agg #[.int .i64 w,.int .i64 hh,.int .i64 o,.bool x1,.bool x2,.bool x3,.bool x4,.bool x5]] h fun v _ => v = .bool true := by
 obtain ⟨dn,rfl,hdn⟩ := Rk.nat hd
 obtain ⟨pa,pc,hpv⟩ := hp.sl.shape
 obtain ⟨da,dc,hdv⟩ := hd.sl.shape
 rw [List.length_map] at hdv
 generalize hH : h ++ [some (⟨false,[.int .i64 pl,pv,dv]⟩ : Blk),some ⟨false,[.int .i64 w,.int .i64 hh,.int .i64 o,.bool x1,.bool x2,.bool x3,.bool x4,.bool x5]⟩] = H
 have b0 : blk? H h.length = some ⟨false,[.int .i64 pl,pv,dv]⟩ := by rw [← hH,app_len]; rfl
 have b2 : blk? H (h.length + 1) = some ⟨false,[.int .i64 w,.int .i64 hh,.int .i64 o,.bool x1,.bool x2,.bool x3,.bool x4,.bool x5]⟩ := by rw [← hH,app_add]; rfl
 have lH : H.length = h.length + 2 := by rw [← hH]; simp
 have hpH : Rk .i64 H pv ps := by rw [← hH]; exact hp.push _
 have hdH : Rk .u8 H dv (dn.map Int.ofNat) := by rw [← hH]; exact hd.push _
 obtain ⟨H1,e1,k1,l1⟩ := few18_c (pl := pl) (w := w) (hh := hh) (o := o) (x1 := x1) (x2 := x2) (x3 := x3) (x4 := x4) (x5 := x5) hpH hdH
 have low : ∀ {G : Heap},(∀ id,id < H.length → blk? G id = blk? H id) → H.length ≤ G.length → blk? G h.length = some ⟨false,[.int .i64 pl,pv,dv]⟩ ∧ blk? G (h.length + 1) = some ⟨false,[.int .i64 w,.int .i64 hh,.int .i64 o,.bool x1,.bool x2,.bool x3,.bool x4,.bool x5]⟩ ∧ Rk .i64 G pv ps ∧ Rk .u8 G dv (dn.map Int.ofNat) := fun kG lG =>
  ⟨by rw [kG _ (by omega)]; exact b0,by rw [kG _ (by omega)]; exact b2,hpH.keep lG fun id hid _ => kG id hid,hdH.keep lG fun id hid _ => kG id hid⟩
 rw [enter3,B3]
 cases hf : few18P ps.length (dn.map Int.ofNat).length w hh with
 | false =>
  obtain ⟨H2,e2,k2,l2⟩ := awake18_c (h := H1)
  rw [hf] at e1
  rw [hpv,hdv] at hH b0 e1
  rw [hpv,hdv]
  simp [hH,b0,b2,e1,e2,fin3]
 | true =>
 rw [hf] at e1
 obtain ⟨f1,f2,_⟩ : ps.length ≤ 300 ∧ (dn.map Int.ofNat).length ≤ 20000 ∧ (w < 1 ∨ 64 < w ∨ hh < 1 ∨ 64 < hh ∨ w * hh ≤ 144) := by simpa only [few18P,decide_eq_true_eq] using hf
 rw [List.length_map] at f2
 obtain ⟨b01,b21,hp1,hd1⟩ := low k1 l1
 obtain ⟨v3,y3,H3,e3,V3⟩ := decode_c (m := ⟨x1,x2,x3,x4,x5⟩) (pl := pl) (n := n) (w := w) (hh := hh) (o := o) hp1 hd1 hdn (by omega) (by omega)
 have k3 := V3.low
 have l3 := V3.len
 obtain ⟨b03,b23,hp3,hd3⟩ := low (G := H3) (fun id hid => by rw [k3 id (by omega),k1 id hid]) (by omega)
 obtain ⟨v4,y4,H4,e4,V4⟩ := decode_z (m := ⟨x1,x2,x3,x4,x5⟩) (pl := pl) (n := n) (w := w) (hh := hh) (o := o) hp3 hd3 hdn (by omega) (by omega)
 have k4 := V4.low
 have l4 := V4.len
 obtain ⟨dl1,dl2⟩ := decP_len ⟨x1,x2,x3,x4,x5⟩ pl ps dn n w hh o
 generalize decP ⟨x1,x2,x3,x4,x5⟩ pl ps dn n w hh o = X at *
 obtain ⟨X0,X1,X2⟩ := X
 simp only [MD.val] at e3 e4
 have o3 : OwnS H4 1 v3 X1.length (i64s X1) := V3.o1.of_blk fun id hid hb => by have := V3.o1.lt hid; rw [k4 id (by omega)]; exact hb
 have q3 : OwnS H4 1 y3 X2.length (i64s X2) := V3.o2.of_blk fun id hid hb => by have := V3.o2.lt hid; rw [k4 id (by omega)]; exact hb
 have o4 : OwnS H4 1 v4 X1.length (i64s X1) := V4.o1
 have q4 : OwnS H4 1 y4 X2.length (i64s X2) := V4.o2
 have dl1' : X1.length ≤ 4096 := dl1
 have dl2' : X2.length ≤ 4096 := dl2
 have s1 := fun R => same_18 (R := R) o3.sl o4.sl (by omega)
 have s2 := fun R => same_18 (R := R) q3.sl q4.sl (by omega)
 simp only [decide_true] at s1 s2
 obtain ⟨H7,e7,_,_⟩ := awake18_c (h := H4)
 obtain ⟨va3,vc3,hv3⟩ := o3.sl.shape
 obtain ⟨ya3,yc3,hy3⟩ := q3.sl.shape
 obtain ⟨va4,vc4,hv4⟩ := o4.sl.shape
 obtain ⟨ya4,yc4,hy4⟩ := q4.sl.shape
 rw [hv3,hy3] at e3
 rw [hv4,hy4] at e4
 rw [hv3,hv4] at s1
 rw [hy3,hy4] at s2
 rw [hpv,hdv] at hH b0 e1 b01 b03 e3 e4
 rw [hpv,hdv]
 simp [k_guard,k_guardU,hH,b0,b2,e1,b01,b21,e3,b03,b23,e4,s1,s2,e7,fin3]
end
end Go.Proofs.YtjpjohchdfoeaaaGreat
