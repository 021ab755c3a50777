/-
  The reference's decoding, followed: the segments, and Symbols.
  A pass of the reference with the bits of symbols.
  A pass of the reference with the bits of symbols: what was asked for, compared.
  A pass of the reference with the bits of symbols: perform.
  Values of the reference: the passes.
  Values of the reference.
  Values of the reference comes to what the program's does.
  The reference's block decoder: the contract of Decode.
  The sound passes: what the decoder's marks say is what the last four symbols of a cleanup pass say. Plain.
  The reference's block decoder: the contract of Sound.
  BlockdecSounds: the walk.
-/
import Derived.Test.YtjpjohchdfoeaaaGreatZe
import Derived.Test.YtjpjohchdfoeaaaGreatTc
namespace Go.Proofs.YtjpjohchdfoeaaaGreat
open Go Go.Sim
set_option linter.unusedSimpArgs false
set_option linter.unusedVariables false
set_option maxRecDepth 10000
structure ZO (Q : Nat → Prop) (hB h : Heap) (X6 X11 p c d : Nat) (pl : Int) (pv dv0 : Value) (m : MD) (lv : Value) (vs : List Value) (s : Rdg) : Prop where
 b6 : blk? h X6 = some ⟨false,[.int .i64 pl,pv,dv0]⟩
 b11 : blk? h X11 = some ⟨false,[.bool m.byp,.bool m.res,.bool m.rst,.bool m.cz,.bool m.sy]⟩
 cb : CB h false p c s.b
 good : s.b.Good
 zd : ∃ pb dv D on,ZD h d pb dv D on s.a (s.ls.length * 20000 + 4) ∧ ∀ id,ownE d pb dv id → ¬ KpO Q X6 X11 p vs id ∧ id ≠ c ∧ sid lv ≠ some id
 ol : OwnS h 1 lv vs.length vs
 vl : vs.length = s.ls.length
 each : ∀ i (h1 : i < vs.length) (h2 : i < s.ls.length),OwnS h 2 vs[i] s.ls[i].length (encS s.ls[i])
 kp : ∀ id,KpO Q X6 X11 p vs id → id ≠ c ∧ sid lv ≠ some id ∧ id < h.length
 nl : sid lv ≠ some c
 low : ∀ id,Q id → blk? h id = blk? hB id
 len : hB.length ≤ h.length
 small : ∀ l ∈ s.ls,l.length ≤ 20000
 cB : ¬ Q c ∧ c ≠ X6 ∧ c ≠ X11
theorem ZI.zo {Q : Nat → Prop} {hB h : Heap} {X6 X11 p c d pb q : Nat} {pl : Int} {pv dv0 : Value} {m : MD} {dv rs : Value} {D : List Nat} {on : Bool} {rd : List Nat × Nat} {lv : Value} {vs : List Value} {s : Rdg} {N : Nat}
  (I : ZI Q hB h X6 X11 p c d pb q pl pv dv0 m dv rs D on rd lv vs s N) (hN : N ≤ s.ls.length * 20000 + 4) : ZO Q hB h X6 X11 p c d pl pv dv0 m lv vs s :=
 ⟨I.b6,I.b11,I.cb,I.good,⟨pb,dv,D,on,I.zd.mono hN,fun id hid => ⟨fun x => (I.kp id x).1 (.inl hid),(I.no id (.inl hid)).1,(I.no id (.inl hid)).2⟩⟩,I.ol,I.vl,I.each,fun id hid => (I.kp id hid).2,I.nl,I.low,I.len,I.small,I.cB⟩
section
variable {R : Value → Heap → Prop} {h : Heap}
set_option maxHeartbeats 4000000 in
theorem zseg_loop {Q : Nat → Prop} {hB : Heap} {X6 X11 p c d : Nat} {pl o : Int} {pv dv0 gv : Value} {m : MD} {k : List RItem} {sF : Rdg} {gs : List Nat} {ps : List Int} {ds : List Nat}
  (hg : Sl hB 1 gv gs.length (nI gs)) (hgq : ∀ id,sid gv = some id → Q id) (hp : Rk .i64 hB pv ps) (hpq : ∀ id,sid pv = some id → Q id) (hd : Rk .u8 hB dv0 (ds.map Int.ofNat)) (hdq : ∀ id,sid dv0 = some id → Q id)
  (hc1 : ∀ x ∈ gs,1 ≤ x) (hps : ∀ x ∈ ps,0 ≤ x) (hz : ∀ i j,i ≤ j → j ≤ ps.length → zE ps i ≤ zE ps j ∧ zE ps j ≤ ds.length) (hdl : ds.length < 100000000) (hds : ∀ x ∈ ds,x < 256) (hpl : ps.length ≤ 178) (hgn : gs.length ≤ 178)
  (hk : ∀ (h : Heap) (lv : Value) (vs : List Value) (K0 K1 K2 K3 K4 K5 K6 K7 K8 K9 Ka Kb Kc Ke Kf Kg Kh Ki Kj Kk Kl Km Kn Ko Kp Kq Kr Ks Kt Ku Kv Kw Kx Ky Kz J0 J1 J2 J3 J4 J5 J6 J7 J8 J9 Ja Jb Jc Jd Je Jf Jg Jh Ji Jj Jk Jl Jm Jn Jo Jp Jq Jr Js Jt Ju Jv Jw Jx Jy Jz Y0 Y1 Y2 Y3 Y4 Y5 Y6 Y7 Y8 Y9 Ya Yb Yc Yd Ye Yf Yg Yh Yi Yj Yk Yl Ym Yn Yo Yp Yq Yr Ys Yt Yu Yv Yw Yx Yy Yz Z0 Z1 Z2 Z3 Z4 Z5 Z6 : Value),ZO Q hB h X6 X11 p c d pl pv dv0 m lv vs sF → Ok tab R31 k #[K0,K1,K2,K3,K4,K5,K6,K7,K8,K9,Ka,Kb,Kc,lv,Ke,Kf,Kg,Kh,Ki,Kj,Kk,Kl,Km,Kn,Ko,Kp,Kq,Kr,Ks,Kt,Ku,Kv,Kw,Kx,Ky,Kz,J0,J1,J2,J3,J4,J5,J6,J7,J8,J9,Ja,Jb,Jc,Jd,Je,Jf,Jg,Jh,Ji,Jj,Jk,Jl,Jm,Jn,Jo,Jp,Jq,Jr,Js,Jt,Ju,Jv,Jw,Jx,Jy,Jz,Y0,Y1,Y2,Y3,Y4,Y5,Y6,Y7,Y8,Y9,Ya,Yb,Yc,Yd,Ye,Yf,Yg,Yh,Yi,Yj,Yk,Yl,Ym,Yn,Yo,Yp,Yq,Yr,Ys,Yt,Yu,Yv,Yw,Yx,Yy,Yz,Z0,Z1,Z2,Z3,Z4,Z5,Z6] h R) :
  ∀ (j gi : Nat) (h : Heap) (lv : Value) (vs : List Value) (s : Rdg) (beg : Nat) (K0 K1 K2 K3 K5 K7 K8 K9 Ka Kc Kf Kh Km Kn Ko Kp Kq Kr Ks Kt Ku Kv Kw Kx Ky Kz J0 J1 J2 J3 J4 J5 J6 J7 J8 J9 Ja Jb Jc Jd Je Jf Jg Jh Ji Jj Jk Jl Jm Jn Jo Jp Jq Jr Js Jt Ju Jv Jw Jx Jy Jz Y0 Y1 Y2 Y3 Y4 Y5 Y6 Y7 Y8 Y9 Ya Yb Yc Yd Ye Yf Yg Yh Yi Yj Yk Yl Ym Yn Yo Yp Yq Yr Ys Yt Yu Yv Yw Yx Yy Yz Z0 Z1 Z2 Z3 Z4 Z5 Z6 : Value),gi + j = gs.length → ZO Q hB h X6 X11 p c d pl pv dv0 m lv vs s → s.ls.length + sumL (gs.drop gi) ≤ ps.length → beg = zE ps s.ls.length → SegAll m s.ls.length (gs.drop gi) →
   segsR m pl o ps ds (gs.drop gi) beg s = sF →
   Ok tab R31 (.inLoop L31_1 :: .inBlock 0 :: k) #[K0,K1,K2,K3,.int .i64 o,K5,ptr X6,K7,K8,K9,Ka,ptr X11,Kc,lv,ptr p,Kf,ptr d,Kh,gv,.int .i64 (s.ls.length : Nat),.int .i64 (beg : Nat),.int .i64 (gi : Nat),Km,Kn,Ko,Kp,Kq,Kr,Ks,Kt,Ku,Kv,Kw,Kx,Ky,Kz,J0,J1,J2,J3,J4,J5,J6,J7,J8,J9,Ja,Jb,Jc,Jd,Je,Jf,Jg,Jh,Ji,Jj,Jk,Jl,Jm,Jn,Jo,Jp,Jq,Jr,Js,Jt,Ju,Jv,Jw,Jx,Jy,Jz,Y0,Y1,Y2,Y3,Y4,Y5,Y6,Y7,Y8,Y9,Ya,Yb,Yc,Yd,Ye,Yf,Yg,Yh,Yi,Yj,Yk,Yl,Ym,Yn,Yo,Yp,Yq,Yr,Ys,Yt,Yu,Yv,Yw,Yx,Yy,Yz,Z0,Z1,Z2,Z3,Z4,Z5,Z6] h R := by
 intro j
 induction j with
 | zero =>
  intro gi h lv vs s beg K0 K1 K2 K3 K5 K7 K8 K9 Ka Kc Kf Kh Km Kn Ko Kp Kq Kr Ks Kt Ku Kv Kw Kx Ky Kz J0 J1 J2 J3 J4 J5 J6 J7 J8 J9 Ja Jb Jc Jd Je Jf Jg Jh Ji Jj Jk Jl Jm Jn Jo Jp Jq Jr Js Jt Ju Jv Jw Jx Jy Jz Y0 Y1 Y2 Y3 Y4 Y5 Y6 Y7 Y8 Y9 Ya Yb Yc Yd Ye Yf Yg Yh Yi Yj Yk Yl Ym Yn Yo Yp Yq Yr Ys Yt Yu Yv Yw Yx Yy Yz Z0 Z1 Z2 Z3 Z4 Z5 Z6 hgi I hn hbeg hsg hF
  obtain rfl : gi = gs.length := by omega
  rw [List.drop_length] at hF
  simp only [segsR] at hF
  subst hF
  have hk' := fun K0 K1 K2 K3 K4 K5 K6 K7 K8 K9 Ka Kb Kc Ke Kf Kg Kh Ki Kj Kk Kl Km Kn Ko Kp Kq Kr Ks Kt Ku Kv Kw Kx Ky Kz J0 J1 J2 J3 J4 J5 J6 J7 J8 J9 Ja Jb Jc Jd Je Jf Jg Jh Ji Jj Jk Jl Jm Jn Jo Jp Jq Jr Js Jt Ju Jv Jw Jx Jy Jz Y0 Y1 Y2 Y3 Y4 Y5 Y6 Y7 Y8 Y9 Ya Yb Yc Yd Ye Yf Yg Yh Yi Yj Yk Yl Ym Yn Yo Yp Yq Yr Ys Yt Yu Yv Yw Yx Yy Yz Z0 Z1 Z2 Z3 Z4 Z5 Z6 => hk h lv vs K0 K1 K2 K3 K4 K5 K6 K7 K8 K9 Ka Kb Kc Ke Kf Kg Kh Ki Kj Kk Kl Km Kn Ko Kp Kq Kr Ks Kt Ku Kv Kw Kx Ky Kz J0 J1 J2 J3 J4 J5 J6 J7 J8 J9 Ja Jb Jc Jd Je Jf Jg Jh Ji Jj Jk Jl Jm Jn Jo Jp Jq Jr Js Jt Ju Jv Jw Jx Jy Jz Y0 Y1 Y2 Y3 Y4 Y5 Y6 Y7 Y8 Y9 Ya Yb Yc Yd Ye Yf Yg Yh Yi Yj Yk Yl Ym Yn Yo Yp Yq Yr Ys Yt Yu Yv Yw Yx Yy Yz Z0 Z1 Z2 Z3 Z4 Z5 Z6 I
  have hg2 : Sl h 1 gv gs.length (nI gs) := hg.of_sid fun id b hid hb => by rw [I.low id (hgq id hid)]; exact hb
  obtain ⟨ga,gc,egv⟩ := hg2.shape
  rw [egv]
  rw [ok_round,l31_1,L31_1a,L31_1b]
  simp
  exact hk' ..
 | succ j ih =>
  intro gi h lv vs s beg K0 K1 K2 K3 K5 K7 K8 K9 Ka Kc Kf Kh Km Kn Ko Kp Kq Kr Ks Kt Ku Kv Kw Kx Ky Kz J0 J1 J2 J3 J4 J5 J6 J7 J8 J9 Ja Jb Jc Jd Je Jf Jg Jh Ji Jj Jk Jl Jm Jn Jo Jp Jq Jr Js Jt Ju Jv Jw Jx Jy Jz Y0 Y1 Y2 Y3 Y4 Y5 Y6 Y7 Y8 Y9 Ya Yb Yc Yd Ye Yf Yg Yh Yi Yj Yk Yl Ym Yn Yo Yp Yq Yr Ys Yt Yu Yv Yw Yx Yy Yz Z0 Z1 Z2 Z3 Z4 Z5 Z6 hgi I hn hbeg hsg hF
  have hgl : gi < gs.length := by omega
  have hlt : (gi : Int) < (gs.length : Int) := by omega
  have hdrop : gs.drop gi = gs[gi] :: gs.drop (gi + 1) := List.drop_eq_getElem_cons hgl
  have hcp := hc1 gs[gi] (List.getElem_mem hgl)
  rw [hdrop] at hF hn hsg
  simp only [sumL] at hn
  simp only [segsR] at hF
  simp only [SegAll] at hsg
  obtain ⟨hall,hsg2⟩ := hsg
  have hg2 : Sl h 1 gv gs.length (nI gs) := hg.of_sid fun id b hid hb => by rw [I.low id (hgq id hid)]; exact hb
  have rk : ∀ {G : Heap} {kd : IntKind} {w : Value} {xs : List Int},Rk kd hB w xs → (∀ id,sid w = some id → Q id) → (∀ id,Q id → blk? G id = blk? hB id) → hB.length ≤ G.length → Rk kd G w xs := fun r hq hl hle => r.keep hle fun id _ hs => hl id (hq id hs)
  have hp2 := rk hp hpq I.low I.len
  obtain ⟨gid,goff,gb,egv,hgb,hgc⟩ := hg2.get hgl
  have hgd0 : gs.getD gi 0 = gs[gi] := by rw [List.getD_eq_getElem?_getD,List.getElem?_eq_getElem hgl]; rfl
  have hgc0 := hgc 0 (by omega)
  rw [Nat.mul_one,Nat.add_zero,Nat.add_zero,nI_get hgl,hgd0] at hgc0
  generalize hcc : gs[gi] = cnt at *
  have hni : s.ls.length + cnt - 1 < ps.length := by omega
  obtain ⟨pid,poff,pbk,epv,hpb,hpc⟩ := hp2.get hni
  have hpe : ps.getD (s.ls.length + cnt - 1) 0 = ps[s.ls.length + cnt - 1] := by rw [List.getD_eq_getElem?_getD,List.getElem?_eq_getElem hni]; rfl
  have hp0 := hps ps[s.ls.length + cnt - 1] (List.getElem_mem hni)
  obtain ⟨e,he⟩ := Int.eq_ofNat_of_zero_le hp0
  have hze : zE ps (s.ls.length + cnt) = e := by unfold zE; rw [if_neg (by omega),hpe,he]; rfl
  obtain ⟨z1,z2⟩ := hz s.ls.length (s.ls.length + cnt) (by omega) (by omega)
  rw [hze,← hbeg] at z1
  rw [hze] at z2
  rw [hpe,he,Int.toNat_natCast] at hF
  rw [he] at hpc
  have hvl := I.vl
  obtain ⟨la,lc,hlv⟩ := I.ol.sl.shape
  obtain ⟨pb,dv,D0,on,Z0,iS⟩ := I.zd
  have kk6 := I.kp X6 (.inr (.inl rfl))
  have kk11 := I.kp X11 (.inr (.inr (.inl rfl)))
  have kkp := I.kp p (.inr (.inr (.inr (.inl rfl))))
  have hcl := blk?_lt I.cb.blkc
  have lvlt : ∀ id,sid lv = some id → id < h.length := fun id hid => I.ol.lt hid
  have hDd : Dig (segD ds beg e) := fun x hx => hds x (List.mem_of_mem_take (List.mem_of_mem_drop hx))
  have hDl : (segD ds beg e).length < 100000000 := by unfold segD; rw [List.length_drop,List.length_take]; omega
  have own_lt : ∀ id,ownE d pb dv id → id < h.length := fun id hid => Z0.lt hid
  have hd1 := rk hd hdq I.low I.len
  obtain ⟨sv,es,hsl⟩ := seg_sl hd1 z1 z2
  obtain ⟨h1,q',svv,eN,J,kx,lx,fo⟩ := znewReader_c hsl hDd hDl
  have hraw := fun H R => raw_r (h := H) (R := R) (n := s.ls.length) (by omega) m
  simp only [MD.val] at hraw
  have w1 : IntKind.i64.wrap ((s.ls.length : Int) + (cnt : Int)) = ((s.ls.length + cnt : Nat) : Int) := by rw [wrapI (by omega) (by omega)]; omega
  have w2 : IntKind.i64.wrap (((s.ls.length + cnt : Nat) : Int) - 1) = ((s.ls.length + cnt - 1 : Nat) : Int) := by rw [wrapI (by omega) (by omega)]; omega
  have w3 : IntKind.i64.wrap ((gi : Int) + 1) = ((gi + 1 : Nat) : Int) := wrapN (n := gi + 1) (by omega)
  have hi1 : ((s.ls.length + cnt - 1 : Nat) : Int) < (ps.length : Int) := by omega
  have hi0 : (0 : Int) ≤ ((s.ls.length + cnt - 1 : Nat) : Int) := by omega
  have hit : (((s.ls.length + cnt - 1 : Nat) : Int)).toNat = s.ls.length + cnt - 1 := Int.toNat_natCast _
  have mkZI : ∀ (h2 : Heap) (dv' : Value) (D : List Nat) (on' : Bool) (s1 : Rdg),s1.b = s.b → s1.ls = s.ls → (∀ id,id < h.length → ¬ ownE d pb dv id → blk? h2 id = blk? h id) → ZD h2 d pb dv' D on' s1.a (s.ls.length * 20000 + 4) → RB h2 q' svv (segD ds beg e) 0 →
    (∀ id,ownE d pb dv' id → (ownE d pb dv id ∨ h.length ≤ id) ∧ ¬ ownR q' svv id) → h.length ≤ h2.length → ZI Q hB h2 X6 X11 p c d pb q' pl pv dv0 m dv' svv D on' (segD ds beg e,0) lv vs s1 (s.ls.length * 20000 + 4) := by
   intro h2 dv' D on' s1 eb el kK Z J2 hf l2
   have kO : ∀ id,KpO Q X6 X11 p vs id → blk? h2 id = blk? h id := fun id hid => kK id (I.kp id hid).2.2 (fun x => (iS id x).1 hid)
   have newZ : ∀ id,ownZq d pb q' dv' svv id → ownE d pb dv id ∨ h.length ≤ id := fun id hid => hid.elim (fun x => (hf id x).1) fun x => .inr (fo id x)
   refine ⟨by rw [kO X6 (.inr (.inl rfl))]; exact I.b6,by rw [kO X11 (.inr (.inr (.inl rfl)))]; exact I.b11,⟨by rw [eb,kO p (.inr (.inr (.inr (.inl rfl))))]; exact I.cb.blkp,by rw [eb,kK c hcl (fun x => (iS c x).2.1 rfl)]; exact I.cb.blkc,by rw [eb]; exact I.cb.ok⟩,by rw [eb]; exact I.good,Z,J2,by simp,fun id hid => (hf id hid).2,
    own_lv I.ol fun id hid => kK id (lvlt id hid) (fun x => (iS id x).2.2 hid),by rw [el]; exact I.vl,fun i h1 h2 => ?_,fun id hid => ?_,fun id hid => ?_,I.nl,fun id hid => by rw [kO id (.inl hid)]; exact I.low id hid,by have := I.len; omega,by rw [el]; exact I.small,I.cB⟩
   ·have e2 : s1.ls[i] = s.ls[i]'(by rw [← el]; exact h2) := by simp only [el]
    rw [e2]
    exact own_lv (I.each i h1 (by rw [← el]; exact h2)) fun id hid => kO id (.inr (.inr (.inr (.inr ⟨_,List.getElem_mem h1,hid⟩))))
   ·obtain ⟨q1,q2,q3⟩ := I.kp id hid
    exact ⟨fun x => (newZ id x).elim (fun y => (iS id y).1 hid) (fun y => by omega),q1,q2,by omega⟩
   ·rcases newZ id hid with y | y
    ·exact (iS id y).2
    ·exact ⟨by omega,fun x => by have := lvlt _ x; omega⟩
  have hb62 := I.b6
  have hb112 := I.b11
  have e6 : blk? h1 X6 = some ⟨false,[.int .i64 pl,pv,dv0]⟩ := by rw [kx X6 kk6.2.2]; exact I.b6
  have behind : ∀ (h9 : Heap) (lv9 : Value) (vs9 : List Value) (s9 : Rdg) (K0 K1 K2 K3 K5 K7 K8 K9 Ka Kc Kf Kh Kn Ko Kp Kq Kr Ks Kt Ku Kv Kw Kx Ky Kz J0 J1 J2 J3 J4 J5 J6 J7 J8 J9 Ja Jb Jc Jd Je Jf Jg Jh Ji Jj Jk Jl Jm Jn Jo Jp Jq Jr Js Jt Ju Jv Jw Jx Jy Jz Y0 Y1 Y2 Y3 Y4 Y5 Y6 Y7 Y8 Y9 Ya Yb Yc Yd Ye Yf Yg Yh Yi Yj Yk Yl Ym Yn Yo Yp Yq Yr Ys Yt Yu Yv Yw Yx Yy Yz Z0 Z1 Z2 Z3 Z4 Z5 Z6 : Value),ZO Q hB h9 X6 X11 p c d pl pv dv0 m lv9 vs9 s9 → s9.ls.length = s.ls.length + cnt → segsR m pl o ps ds (gs.drop (gi + 1)) e s9 = sF →
    Ok tab R31 (.code (tlC 5 (inB (nthC 0 L31_1b))) :: .inBlock 1 :: .code (tlC 1 L31_1b) :: .inLoop L31_1 :: .inBlock 0 :: k) #[K0,K1,K2,K3,.int .i64 o,K5,ptr X6,K7,K8,K9,Ka,ptr X11,Kc,lv9,ptr p,Kf,ptr d,Kh,gv,.int .i64 (s9.ls.length : Nat),.int .i64 (beg : Nat),.int .i64 (gi : Nat),.int .i64 (e : Nat),Kn,Ko,Kp,Kq,Kr,Ks,Kt,Ku,Kv,Kw,Kx,Ky,Kz,J0,J1,J2,J3,J4,J5,J6,J7,J8,J9,Ja,Jb,Jc,Jd,Je,Jf,Jg,Jh,Ji,Jj,Jk,Jl,Jm,Jn,Jo,Jp,Jq,Jr,Js,Jt,Ju,Jv,Jw,Jx,Jy,Jz,Y0,Y1,Y2,Y3,Y4,Y5,Y6,Y7,Y8,Y9,Ya,Yb,Yc,Yd,Ye,Yf,Yg,Yh,Yi,Yj,Yk,Yl,Ym,Yn,Yo,Yp,Yq,Yr,Ys,Yt,Yu,Yv,Yw,Yx,Yy,Yz,Z0,Z1,Z2,Z3,Z4,Z5,Z6] h9 R := by
   intro h9 lv9 vs9 s9 K0 K1 K2 K3 K5 K7 K8 K9 Ka Kc Kf Kh Kn Ko Kp Kq Kr Ks Kt Ku Kv Kw Kx Ky Kz J0 J1 J2 J3 J4 J5 J6 J7 J8 J9 Ja Jb Jc Jd Je Jf Jg Jh Ji Jj Jk Jl Jm Jn Jo Jp Jq Jr Js Jt Ju Jv Jw Jx Jy Jz Y0 Y1 Y2 Y3 Y4 Y5 Y6 Y7 Y8 Y9 Ya Yb Yc Yd Ye Yf Yg Yh Yi Yj Yk Yl Ym Yn Yo Yp Yq Yr Ys Yt Yu Yv Yw Yx Yy Yz Z0 Z1 Z2 Z3 Z4 Z5 Z6 I9 hl9 hF9
   have ih' := fun K0 K1 K2 K3 K5 K7 K8 K9 Ka Kc Kf Kh Km Kn Ko Kp Kq Kr Ks Kt Ku Kv Kw Kx Ky Kz J0 J1 J2 J3 J4 J5 J6 J7 J8 J9 Ja Jb Jc Jd Je Jf Jg Jh Ji Jj Jk Jl Jm Jn Jo Jp Jq Jr Js Jt Ju Jv Jw Jx Jy Jz Y0 Y1 Y2 Y3 Y4 Y5 Y6 Y7 Y8 Y9 Ya Yb Yc Yd Ye Yf Yg Yh Yi Yj Yk Yl Ym Yn Yo Yp Yq Yr Ys Yt Yu Yv Yw Yx Yy Yz Z0 Z1 Z2 Z3 Z4 Z5 Z6 => ih (gi + 1) h9 lv9 vs9 s9 e K0 K1 K2 K3 K5 K7 K8 K9 Ka Kc Kf Kh Km Kn Ko Kp Kq Kr Ks Kt Ku Kv Kw Kx Ky Kz J0 J1 J2 J3 J4 J5 J6 J7 J8 J9 Ja Jb Jc Jd Je Jf Jg Jh Ji Jj Jk Jl Jm Jn Jo Jp Jq Jr Js Jt Ju Jv Jw Jx Jy Jz Y0 Y1 Y2 Y3 Y4 Y5 Y6 Y7 Y8 Y9 Ya Yb Yc Yd Ye Yf Yg Yh Yi Yj Yk Yl Ym Yn Yo Yp Yq Yr Ys Yt Yu Yv Yw Yx Yy Yz Z0 Z1 Z2 Z3 Z4 Z5 Z6 (by omega) I9 (by omega) (by rw [hl9,hze]) (by rw [hl9]; exact hsg2) hF9
   generalize ((gi + 1 : Nat) : Int) = gi1 at *
   simp only [nthC,tlC,fstC,inB,L31_1b]
   simp [w3]
   exact ih' ..
  have go : ∀ (h2 : Heap) (dv' : Value) (D : List Nat) (on' : Bool) (s1 : Rdg) (K0 K1 K2 K3 K5 K7 K8 K9 Ka Kc Kf Kh Kq Kr Ks Kt Ku Kv Kw Kx Ky Kz J0 J1 J2 J3 J4 J5 J6 J7 J8 J9 Ja Jb Jc Jd Je Jf Jg Jh Ji Jj Jk Jl Jm Jn Jo Jp Jq Jr Js Jt Ju Jv Jw Jx Jy Jz Y0 Y1 Y2 Y3 Y4 Y5 Y6 Y7 Y8 Y9 Ya Yb Yc Yd Ye Yf Yg Yh Yi Yj Yk Yl Ym Yn Yo Yp Yq Yr Ys Yt Yu Yv Yw Yx Yy Yz Z0 Z1 Z2 Z3 Z4 Z5 Z6 : Value),ZI Q hB h2 X6 X11 p c d pb q' pl pv dv0 m dv' svv D on' (segD ds beg e,0) lv vs s1 (s.ls.length * 20000 + 4) → s1.ls = s.ls → ((rawOf m s.ls.length = false → on' = true ∧ s1.raw = none) ∧ (rawOf m s.ls.length = true → s1.raw = some (segD ds beg e,0))) → segsR m pl o ps ds (gs.drop (gi + 1)) e (passesR m pl o cnt s.ls.length s1) = sF →
    Ok tab R31 (.inLoop L31_0 :: .inBlock 2 :: .code (tlC 5 (inB (nthC 0 L31_1b))) :: .inBlock 1 :: .code (tlC 1 L31_1b) :: .inLoop L31_1 :: .inBlock 0 :: k) #[K0,K1,K2,K3,.int .i64 o,K5,ptr X6,K7,K8,K9,Ka,ptr X11,Kc,lv,ptr p,Kf,ptr d,Kh,gv,.int .i64 (s.ls.length : Nat),.int .i64 (beg : Nat),.int .i64 (gi : Nat),.int .i64 (e : Nat),.bool (rawOf m s.ls.length),ptr q',.int .i64 0,Kq,Kr,Ks,Kt,Ku,Kv,Kw,Kx,Ky,Kz,J0,J1,J2,J3,J4,J5,J6,J7,J8,J9,Ja,Jb,Jc,Jd,Je,Jf,Jg,Jh,Ji,Jj,Jk,Jl,Jm,Jn,Jo,Jp,Jq,Jr,Js,Jt,Ju,Jv,Jw,Jx,Jy,Jz,Y0,Y1,Y2,Y3,Y4,Y5,Y6,Y7,Y8,Y9,Ya,Yb,Yc,Yd,Ye,Yf,Yg,Yh,Yi,Yj,Yk,Yl,Ym,Yn,Yo,Yp,Yq,Yr,Ys,Yt,Yu,Yv,Yw,Yx,Yy,Yz,Z0,Z1,Z2,Z3,Z4,Z5,Z6] h2 R := by
   intro h2 dv' D on' s1 K0 K1 K2 K3 K5 K7 K8 K9 Ka Kc Kf Kh Kq Kr Ks Kt Ku Kv Kw Kx Ky Kz J0 J1 J2 J3 J4 J5 J6 J7 J8 J9 Ja Jb Jc Jd Je Jf Jg Jh Ji Jj Jk Jl Jm Jn Jo Jp Jq Jr Js Jt Ju Jv Jw Jx Jy Jz Y0 Y1 Y2 Y3 Y4 Y5 Y6 Y7 Y8 Y9 Ya Yb Yc Yd Ye Yf Yg Yh Yi Yj Yk Yl Ym Yn Yo Yp Yq Yr Ys Yt Yu Yv Yw Yx Yy Yz Z0 Z1 Z2 Z3 Z4 Z5 Z6 I2 el hlk hF2
   have hPL := fun K0 K1 K2 K3 K5 K7 K8 K9 Ka Kc Kf Kh Kq Kr Ks Kt Ku Kv Kw Kx Ky Kz J0 J1 J2 J3 J4 J5 J6 J7 J8 J9 Ja Jb Jc Jd Je Jf Jg Jh Ji Jj Jk Jl Jm Jn Jo Jp Jq Jr Js Jt Ju Jv Jw Jx Jy Jz Y0 Y1 Y2 Y3 Y4 Y5 Y6 Y7 Y8 Y9 Ya Yb Yc Yd Ye Yf Yg Yh Yi Yj Yk Yl Ym Yn Yo Yp Yq Yr Ys Yt Yu Yv Yw Yx Yy Yz Z0 Z1 Z2 Z3 Z4 Z5 Z6 => zpass_loop (k := .code (tlC 5 (inB (nthC 0 L31_1b))) :: .inBlock 1 :: .code (tlC 1 L31_1b) :: .inLoop L31_1 :: .inBlock 0 :: k) (o := o) (v20 := .int .i64 (beg : Nat)) (v22 := .int .i64 (e : Nat)) (rw := rawOf m s.ls.length) (sF := passesR m pl o cnt s1.ls.length s1) (R := R) (hB := hB) (X6 := X6) (X11 := X11) (p := p) (c := c) (d := d) (q := q') (pl := pl) (pv := pv) (dv0 := dv0) (dv := dv') (rs := svv) (D := D) (m := m) hg hgq hgl hcc (by omega)
    (fun h9 pb9 on9 rd9 lv9 vs9 N9 K0 K1 K2 K3 K5 K7 K8 K9 Ka Kc Kf Kh Kn Ko Kp Kq Kr Ks Kt Ku Kv Kw Kx Ky Kz J0 J1 J2 J3 J4 J5 J6 J7 J8 J9 Ja Jb Jc Jd Je Jf Jg Jh Ji Jj Jk Jl Jm Jn Jo Jp Jq Jr Js Jt Ju Jv Jw Jx Jy Jz Y0 Y1 Y2 Y3 Y4 Y5 Y6 Y7 Y8 Y9 Ya Yb Yc Yd Ye Yf Yg Yh Yi Yj Yk Yl Ym Yn Yo Yp Yq Yr Ys Yt Yu Yv Yw Yx Yy Yz Z0 Z1 Z2 Z3 Z4 Z5 Z6 I9 hN9 => behind h9 lv9 vs9 _ _ _ _ _ _ _ _ _ _ _ _ _ _ _ _ _ _ _ _ _ _ _ _ _ _ _ _ _ _ _ _ _ _ _ _ _ _ _ _ _ _ _ _ _ _ _ _ _ _ _ _ _ _ _ _ _ _ _ _ _ _ _ _ _ _ _ _ _ _ _ _ _ _ _ _ _ _ _ _ _ _ _ _ _ _ _ _ _ _ _ _ _ _ _ _ _ _ _ _ _ _ _ _ _ (I9.zo hN9) (by rw [passesR_len,el]) (by rw [el]; exact hF2))
    cnt 0 h2 pb on' _ lv vs s1 _ K0 K1 K2 K3 K5 K7 K8 K9 Ka Kc Kf Kh Kq Kr Ks Kt Ku Kv Kw Kx Ky Kz J0 J1 J2 J3 J4 J5 J6 J7 J8 J9 Ja Jb Jc Jd Je Jf Jg Jh Ji Jj Jk Jl Jm Jn Jo Jp Jq Jr Js Jt Ju Jv Jw Jx Jy Jz Y0 Y1 Y2 Y3 Y4 Y5 Y6 Y7 Y8 Y9 Ya Yb Yc Yd Ye Yf Yg Yh Yi Yj Yk Yl Ym Yn Yo Yp Yq Yr Ys Yt Yu Yv Yw Yx Yy Yz Z0 Z1 Z2 Z3 Z4 Z5 Z6 (by omega) I2 (by rw [el]; omega) (by rw [el]; omega) (fun i hi => by rw [el]; exact hall i hi) hlk rfl
   rw [el] at hPL
   exact hPL ..
  clear ih behind
  rw [hvl] at hlv
  rw [epv] at e6 hb62
  generalize hnc : ((s.ls.length + cnt : Nat) : Int) = nc at *
  generalize hnc1 : ((s.ls.length + cnt - 1 : Nat) : Int) = nc1 at *
  cases hrw : rawOf m s.ls.length with
  | true =>
   rw [hrw] at hF hraw go
   simp only [if_true] at hF
   have I2 := mkZI h1 dv D0 on { s with raw := some (segD ds beg e,0) } rfl rfl (fun id h3 _ => kx id h3) (Z0.keep fun id hid => kx id (own_lt id hid)) J
    (fun id hid => ⟨.inl hid,fun x => by have := own_lt id hid; have := fo id x; omega⟩) lx
   have go' := fun K0 K1 K2 K3 K5 K7 K8 K9 Ka Kc Kf Kh Kq Kr Ks Kt Ku Kv Kw Kx Ky Kz J0 J1 J2 J3 J4 J5 J6 J7 J8 J9 Ja Jb Jc Jd Je Jf Jg Jh Ji Jj Jk Jl Jm Jn Jo Jp Jq Jr Js Jt Ju Jv Jw Jx Jy Jz Y0 Y1 Y2 Y3 Y4 Y5 Y6 Y7 Y8 Y9 Ya Yb Yc Yd Ye Yf Yg Yh Yi Yj Yk Yl Ym Yn Yo Yp Yq Yr Ys Yt Yu Yv Yw Yx Yy Yz Z0 Z1 Z2 Z3 Z4 Z5 Z6 => go _ _ _ _ _ K0 K1 K2 K3 K5 K7 K8 K9 Ka Kc Kf Kh Kq Kr Ks Kt Ku Kv Kw Kx Ky Kz J0 J1 J2 J3 J4 J5 J6 J7 J8 J9 Ja Jb Jc Jd Je Jf Jg Jh Ji Jj Jk Jl Jm Jn Jo Jp Jq Jr Js Jt Ju Jv Jw Jx Jy Jz Y0 Y1 Y2 Y3 Y4 Y5 Y6 Y7 Y8 Y9 Ya Yb Yc Yd Ye Yf Yg Yh Yi Yj Yk Yl Ym Yn Yo Yp Yq Yr Ys Yt Yu Yv Yw Yx Yy Yz Z0 Z1 Z2 Z3 Z4 Z5 Z6 I2 rfl ⟨fun x => (by cases x),fun _ => rfl⟩ hF
   clear go
   rw [egv] at go' ⊢
   rw [hlv] at go' ⊢
   rw [ok_round,l31_1,L31_1a,show L31_1b = .seq (.block 1 (.seq (nthC 0 (inB (nthC 0 L31_1b))) (.seq (nthC 1 (inB (nthC 0 L31_1b))) (.seq (nthC 2 (inB (nthC 0 L31_1b))) (.seq (nthC 3 (inB (nthC 0 L31_1b))) (.seq (nthC 4 (inB (nthC 0 L31_1b))) (tlC 5 (inB (nthC 0 L31_1b))))))))) (tlC 1 L31_1b) from rfl]
   generalize tlC 5 (inB (nthC 0 L31_1b)) = tl5 at *
   generalize tlC 1 L31_1b = tl1 at *
   simp only [nthC,tlC,fstC,inB,L31_1b]
   simp [hlt,hgb,hgc0,hb62,w1,w2,hi1,hi0,hit,hpb,hpc,hb112,hraw,e6,es,eN]
   exact go' ..
  | false =>
   rw [hrw] at hF hraw go
   simp only [Bool.false_eq_true,if_false] at hF
   obtain ⟨n0,st0,iD0⟩ := Z0.dp
   have iD1 : DP h1 d pb dv D0 n0 s.a.p s.a.value s.a.size st0 := iD0.keep fun id hid => kx id (own_lt id hid)
   have hsl1 : Sl h1 1 sv (segD ds beg e).length (nU (segD ds beg e)) := hsl.of_sid fun id b hid hb => by rw [kx id (blk?_lt hb)]; exact hb
   obtain ⟨h2,dv',eS,Ix,Fx⟩ := zstart_c iD1 (by have := Z0.h19; omega) hsl1 hDd hDl
   have lx2 := Fx.len
   have kx2 : ∀ id,id < h1.length → ¬ ownE d pb dv id → blk? h2 id = blk? h1 id := fun id h3 h4 => Fx.same id h3 (fun y => h4 (.inl y)) (fun y => h4 (.inr (.inl y))) (fun y => h4 (.inr (.inr y)))
   have frE : ∀ id,ownE d pb dv' id → ownE d pb dv id ∨ h1.length ≤ id := fun id hid => by
    rcases hid with hid | hid | hid
    ·exact .inl (.inl hid)
    ·exact .inl (.inr (.inl hid))
    ·rcases Fx.fresh id hid with y | y
     ·exact .inl (.inr (.inr y))
     ·exact .inr y.1
   have I2 := mkZI h2 dv' (segD ds beg e) true { s with a := AD.start s.a.p (segD ds beg e),raw := none } rfl rfl
    (fun id h3 h4 => by rw [kx2 id (by omega) h4,kx id h3])
    ⟨⟨4,by omega,.inl ⟨rfl,⟨Ix,rfl,AD.start_ok Z0.ps hDd,by simp only [AD.start]; have := Z0.h19; omega⟩⟩⟩,Z0.h19,Z0.ps,hDd,hDl⟩
    (J.keep fun id hid => kx2 id (J.own_lt hid) (fun y => by have := own_lt id y; have := fo id hid; omega))
    (fun id hid => ⟨(frE id hid).imp_right (by omega),fun x => by
     have h5 := fo id x
     have h6 := J.own_lt x
     rcases frE id hid with y | y
     ·have := own_lt id y; omega
     ·omega⟩) (by omega)
   have go' := fun K0 K1 K2 K3 K5 K7 K8 K9 Ka Kc Kf Kh Kq Kr Ks Kt Ku Kv Kw Kx Ky Kz J0 J1 J2 J3 J4 J5 J6 J7 J8 J9 Ja Jb Jc Jd Je Jf Jg Jh Ji Jj Jk Jl Jm Jn Jo Jp Jq Jr Js Jt Ju Jv Jw Jx Jy Jz Y0 Y1 Y2 Y3 Y4 Y5 Y6 Y7 Y8 Y9 Ya Yb Yc Yd Ye Yf Yg Yh Yi Yj Yk Yl Ym Yn Yo Yp Yq Yr Ys Yt Yu Yv Yw Yx Yy Yz Z0 Z1 Z2 Z3 Z4 Z5 Z6 => go _ _ _ _ _ K0 K1 K2 K3 K5 K7 K8 K9 Ka Kc Kf Kh Kq Kr Ks Kt Ku Kv Kw Kx Ky Kz J0 J1 J2 J3 J4 J5 J6 J7 J8 J9 Ja Jb Jc Jd Je Jf Jg Jh Ji Jj Jk Jl Jm Jn Jo Jp Jq Jr Js Jt Ju Jv Jw Jx Jy Jz Y0 Y1 Y2 Y3 Y4 Y5 Y6 Y7 Y8 Y9 Ya Yb Yc Yd Ye Yf Yg Yh Yi Yj Yk Yl Ym Yn Yo Yp Yq Yr Ys Yt Yu Yv Yw Yx Yy Yz Z0 Z1 Z2 Z3 Z4 Z5 Z6 I2 rfl ⟨fun _ => ⟨rfl,rfl⟩,fun x => (by cases x)⟩ hF
   clear go
   rw [egv] at go' ⊢
   rw [hlv] at go' ⊢
   rw [ok_round,l31_1,L31_1a,show L31_1b = .seq (.block 1 (.seq (nthC 0 (inB (nthC 0 L31_1b))) (.seq (nthC 1 (inB (nthC 0 L31_1b))) (.seq (nthC 2 (inB (nthC 0 L31_1b))) (.seq (nthC 3 (inB (nthC 0 L31_1b))) (.seq (nthC 4 (inB (nthC 0 L31_1b))) (tlC 5 (inB (nthC 0 L31_1b))))))))) (tlC 1 L31_1b) from rfl]
   generalize tlC 5 (inB (nthC 0 L31_1b)) = tl5 at *
   generalize tlC 1 L31_1b = tl1 at *
   simp only [nthC,tlC,fstC,inB,L31_1b]
   simp [hlt,hgb,hgc0,hb62,w1,w2,hi1,hi0,hit,hpb,hpc,hb112,hraw,e6,es,eN,eS]
   exact go' ..
set_option maxHeartbeats 4000000 in
theorem zsyms_c {pv dv0 : Value} {pl o : Int} {ps : List Int} {ds : List Nat} {n w hh : Nat} (m : MD) (hp : Rk .i64 h pv ps) (hd : Rk .u8 h dv0 (ds.map Int.ofNat)) (hps : ∀ x ∈ ps,0 ≤ x) (hz : ∀ i j,i ≤ j → j ≤ ps.length → zE ps i ≤ zE ps j ∧ zE ps j ≤ ds.length)
  (hdl : ds.length < 100000000) (hds : ∀ x ∈ ds,x < 256) (hpl : ps.length ≤ 178) (hn : n ≤ ps.length) (w1 : 1 ≤ w) (w2 : w ≤ 64) (h1 : 1 ≤ hh) (h2 : hh ≤ 64) :
  ∃ lv h',(∀ R : Value → Heap → Prop,Ret tab 31 [.agg #[.int .i64 pl,pv,dv0],.int .i64 (n : Nat),.int .i64 (w : Nat),.int .i64 (hh : Nat),.int .i64 o,m.val] h R = R lv h') ∧
   RdV h.length h' lv (readP m pl o ps ds n w hh).ls ∧ (∀ id,id < h.length → blk? h' id = blk? h id) ∧ h.length ≤ h'.length := by
 have key : ∀ R0 : Value → Heap → Prop,(∀ lv h',RdV h.length h' lv (readP m pl o ps ds n w hh).ls → (∀ id,id < h.length → blk? h' id = blk? h id) → h.length ≤ h'.length → R0 lv h') →
   Ret tab 31 [.agg #[.int .i64 pl,pv,dv0],.int .i64 (n : Nat),.int .i64 (w : Nat),.int .i64 (hh : Nat),.int .i64 o,m.val] h R0 := by
  intro R0 hR
  generalize hH : h ++ [some (⟨false,[.int .i64 pl,pv,dv0]⟩ : Blk),some ⟨false,[.bool m.byp,.bool m.res,.bool m.rst,.bool m.cz,.bool m.sy]⟩,some ⟨false,[]⟩] = H
  have lH : H.length = h.length + 3 := by rw [← hH]; simp
  have kH : ∀ id,id < h.length → blk? H id = blk? h id := fun id hid => by rw [← hH]; exact app_lt hid
  have b6 : blk? H h.length = some ⟨false,[.int .i64 pl,pv,dv0]⟩ := by rw [← hH,app_len]; rfl
  have b11 : blk? H (h.length + 1) = some ⟨false,[.bool m.byp,.bool m.res,.bool m.rst,.bool m.cz,.bool m.sy]⟩ := by rw [← hH,app_add]; rfl
  have b13 : blk? H (h.length + 2) = some ⟨false,[]⟩ := by rw [← hH,app_add]; rfl
  have e1 := fun R => new_r (h := H) (R := R) w1 w2 h1 h2
  have cb1 := newHeap_cb H w1 w2 h1 h2
  have k1 := newHeap_low H w hh
  have l1 := newHeap_len H w hh
  generalize newHeap H w hh = H1 at *
  obtain ⟨H2,d,pb,e2,iD,hdB,hpB,l2,k2⟩ := zdec_new (h := H1)
  obtain ⟨gv,H3,e3,og,gB,k3,l3⟩ := segments_x (h := H2) (n := n) (by omega) m
  obtain ⟨sg1,sg2,sg3⟩ := segs_sum (m := m) (n := n) (by omega)
  have k13 : ∀ id,id < H1.length → blk? H3 id = blk? H1 id := fun id hid => by rw [k3 id (by omega),k2 id hid]
  have kH3 : ∀ id,id < H.length → blk? H3 id = blk? H id := fun id hid => by rw [k13 id (by omega),k1 id hid]
  have kh3 : ∀ id,id < h.length → blk? H3 id = blk? h id := fun id hid => by rw [kH3 id (by omega),kH id hid]
  obtain ⟨ga,gc,hgv⟩ := og.shape
  have iD3 : DP H3 d pb (.slice none 0 0) [] 0 (AE.base 19) 0 0 false := iD.keep fun id hid => k3 id (iD.own_lt hid)
  have oE : ∀ id,ownE d pb (.slice none 0 0) id → H1.length ≤ id ∧ id < H2.length := fun id hid => by
   have := iD.own_lt hid
   rcases hid with rfl | rfl | hid
   ·exact ⟨hdB,this⟩
   ·exact ⟨hpB,this⟩
   ·simp [sid] at hid
  have gl : ∀ id,sid gv = some id → H2.length ≤ id ∧ id < H3.length := gB
  have hp3 : Rk .i64 H3 pv ps := hp.keep (by omega) fun id hid _ => kh3 id hid
  have hd3 : Rk .u8 H3 dv0 (ds.map Int.ofNat) := hd.keep (by omega) fun id hid _ => kh3 id hid
  have I0 : ZO (fun id => id < h.length ∨ sid gv = some id) H3 H3 h.length (h.length + 1) (H.length + 1) H.length d pl pv dv0 m (.slice (some ⟨h.length + 2,0,none⟩) 0 1) [] ⟨⟨AE.base 19,[],0,0⟩,none,newBS w hh,(n : Int),[]⟩ := by
   refine ⟨by rw [kH3 _ (by omega)]; exact b6,by rw [kH3 _ (by omega)]; exact b11,⟨by rw [k13 _ (by omega)]; exact cb1.blkp,by rw [k13 _ (by omega)]; exact cb1.blkc,cb1.ok⟩,newBS_good w1 w2 h1 h2,⟨_,_,[],false,⟨⟨0,by omega,.inr ⟨rfl,iD3⟩⟩,by simp [AE.base],base_ok 19,(by intro x hx; cases hx),by simp⟩,fun id hid => ⟨?_,?_,?_⟩⟩,⟨by simp,.inr ⟨h.length + 2,by simp,by rw [kH3 _ (by omega)]; exact b13⟩⟩,rfl,fun i h1 _ => by simp at h1,fun id hid => ?_,by simp [sid]; omega,fun _ _ => rfl,Nat.le_refl _,fun l hl => (by cases hl),⟨?_,by omega,by omega⟩⟩
   ·have := oE id hid
    rintro ((x | x) | x | x | x | ⟨w,hw,_⟩)
    ·omega
    ·have := gl id x; omega
    ·omega
    ·omega
    ·omega
    ·cases hw
   ·have := oE id hid; omega
   ·have := oE id hid; simp [sid]; omega
   ·have : id ≠ H.length ∧ id ≠ h.length + 2 ∧ id < H3.length := by
     rcases hid with (x | x) | x | x | x | ⟨w,hw,_⟩
     ·omega
     ·have := gl id x; omega
     ·omega
     ·omega
     ·omega
     ·cases hw
    exact ⟨this.1,by simp [sid]; omega,this.2.2⟩
   ·rintro (x | x)
    ·omega
    ·have := gl _ x; omega
  have hL := fun K0 K1 K2 K3 K5 K7 K8 K9 Ka Kc Kf Kh Km Kn Ko Kp Kq Kr Ks Kt Ku Kv Kw Kx Ky Kz J0 J1 J2 J3 J4 J5 J6 J7 J8 J9 Ja Jb Jc Jd Je Jf Jg Jh Ji Jj Jk Jl Jm Jn Jo Jp Jq Jr Js Jt Ju Jv Jw Jx Jy Jz Y0 Y1 Y2 Y3 Y4 Y5 Y6 Y7 Y8 Y9 Ya Yb Yc Yd Ye Yf Yg Yh Yi Yj Yk Yl Ym Yn Yo Yp Yq Yr Ys Yt Yu Yv Yw Yx Yy Yz Z0 Z1 Z2 Z3 Z4 Z5 Z6 => zseg_loop (R := R0) (k := [.code (tlC 7 B31)]) (o := o) (sF := readP m pl o ps ds n w hh) (Q := fun id => id < h.length ∨ sid gv = some id) (hB := H3) og (fun id hid => .inr hid) hp3 (fun id hid => .inl (hp.lt hid)) hd3 (fun id hid => .inl (hd.lt hid))
   (fun x hx => (sg3 x hx).1) hps hz hdl hds hpl (by omega)
   (fun h9 lv vs K0 K1 K2 K3 K4 K5 K6 K7 K8 K9 Ka Kb Kc Ke Kf Kg Kh Ki Kj Kk Kl Km Kn Ko Kp Kq Kr Ks Kt Ku Kv Kw Kx Ky Kz J0 J1 J2 J3 J4 J5 J6 J7 J8 J9 Ja Jb Jc Jd Je Jf Jg Jh Ji Jj Jk Jl Jm Jn Jo Jp Jq Jr Js Jt Ju Jv Jw Jx Jy Jz Y0 Y1 Y2 Y3 Y4 Y5 Y6 Y7 Y8 Y9 Ya Yb Yc Yd Ye Yf Yg Yh Yi Yj Yk Yl Ym Yn Yo Yp Yq Yr Ys Yt Yu Yv Yw Yx Yy Yz Z0 Z1 Z2 Z3 Z4 Z5 Z6 I9 => by
    obtain ⟨ta,tc,ht⟩ := I9.ol.sl.shape
    have hR' := hR lv h9 ⟨⟨vs,I9.ol,I9.vl,I9.each,I9.small⟩⟩ (fun id hid => by rw [I9.low id (.inl hid),kh3 id hid]) (by have := I9.len; omega)
    simp only [nthC,tlC,fstC,B31]
    simp [fin31]
    exact hR')
   (segsOf m n).length 0 H3 (.slice (some ⟨h.length + 2,0,none⟩) 0 1) [] _ 0 K0 K1 K2 K3 K5 K7 K8 K9 Ka Kc Kf Kh Km Kn Ko Kp Kq Kr Ks Kt Ku Kv Kw Kx Ky Kz J0 J1 J2 J3 J4 J5 J6 J7 J8 J9 Ja Jb Jc Jd Je Jf Jg Jh Ji Jj Jk Jl Jm Jn Jo Jp Jq Jr Js Jt Ju Jv Jw Jx Jy Jz Y0 Y1 Y2 Y3 Y4 Y5 Y6 Y7 Y8 Y9 Ya Yb Yc Yd Ye Yf Yg Yh Yi Yj Yk Yl Ym Yn Yo Yp Yq Yr Ys Yt Yu Yv Yw Yx Yy Yz Z0 Z1 Z2 Z3 Z4 Z5 Z6 (by omega) I0 (by rw [List.drop_zero]; simp; omega) (by simp [zE]) (by rw [List.drop_zero]; exact segAll_all m n) (by rw [List.drop_zero]; rfl)
  have b112 : blk? H2 (h.length + 1) = some ⟨false,[.bool m.byp,.bool m.res,.bool m.rst,.bool m.cz,.bool m.sy]⟩ := by rw [k2 _ (by omega),k1 _ (by omega)]; exact b11
  simp only [MD.val,Int.cast_ofNat_Int] at e2 e3 hL
  rw [hgv] at e3 hL
  generalize (segsOf m n).length = gl at *
  rw [enter31,show B31 = .seq (nthC 0 B31) (.seq (nthC 1 B31) (.seq (nthC 2 B31) (.seq (nthC 3 B31) (.seq (nthC 4 B31) (.seq (nthC 5 B31) (.seq (nthC 6 B31) (tlC 7 B31))))))) from rfl]
  generalize tlC 7 B31 = tl at *
  simp only [nthC,tlC,fstC,B31]
  simp [MD.val,repL,hH,e1,e2,b112,e3]
  exact hL ..
 obtain ⟨v,h',e,a,b,c⟩ := ret_ex (key (fun v h' => RdV h.length h' v (readP m pl o ps ds n w hh).ls ∧ (∀ id,id < h.length → blk? h' id = blk? h id) ∧ h.length ≤ h'.length) fun lv h' a b c => ⟨a,b,c⟩)
 exact ⟨v,h',e,a,b,c⟩
end
structure PerL (hM H : Heap) (bv : Value) (l : List Int) : Prop where
 low : ∀ id,id < hM.length → blk? H id = blk? hM id
 sbk : blk? H hM.length = some ⟨false,[.pointer none,.pointer none,bv,.slice none 0 0]⟩
 own : OwnS H 1 bv l.length (i64s l)
 far : ∀ id,sid bv = some id → hM.length < id
 len : hM.length < H.length
theorem PerL.step {hM H : Heap} {bv : Value} {l : List Int} (r : PerL hM H bv l) (hl : l.length < 1000000) (x y : Int) :
  ∃ bv' H',appendV (H ++ [some ⟨false,[.int .i64 x,.int .i64 y]⟩,some ⟨false,[.int .i64 y]⟩]) 1 8 bv (.slice (some ⟨H.length + 1,0,none⟩) 1 1) = some (bv',H') ∧ blk? H' hM.length = some ⟨false,[.pointer none,.pointer none,bv,.slice none 0 0]⟩ ∧
   (∃ z n,bv' = .slice (some ⟨z,0,none⟩) n 1) ∧ PerL hM (H'.set hM.length (some ⟨false,[.pointer none,.pointer none,bv',.slice none 0 0]⟩)) bv' (l ++ [y]) := by
 have hsl : Sl (H ++ [some ⟨false,[.int .i64 x,.int .i64 y]⟩,some ⟨false,[.int .i64 y]⟩]) 1 (.slice (some ⟨H.length + 1,0,none⟩) 1 1) 1 [.int .i64 y] := ⟨by simp,.inr ⟨H.length + 1,0,rfl,.inr ⟨_,by rw [app_add]; rfl,by simp,by simp⟩⟩⟩
 have ho : OwnS (H ++ [some ⟨false,[.int .i64 x,.int .i64 y]⟩,some ⟨false,[.int .i64 y]⟩]) 1 bv l.length (i64s l) := r.own.of_blk fun id _ hb => by rw [app_lt (blk?_lt hb)]; exact hb
 obtain ⟨H',ha,hK,hHl,hHs⟩ := own_append (bytes := 8) ho hsl (by unfold roomCells; omega) (by omega) (by omega)
 simp only [List.length_append,List.length_cons,List.length_nil,Nat.zero_add,Nat.reduceAdd] at ha hK hHl hHs
 have hlen := r.len
 have hk : ∀ id,id < H.length → sid bv ≠ some id → blk? H' id = blk? H id := fun id hid hne => by rw [hHs id (by omega) hne,app_lt hid]
 have hsb : sid bv ≠ some hM.length := fun e => by have := r.far _ e; omega
 refine ⟨.slice (some ⟨H.length + 2,0,none⟩) (l.length + 1) 1,H',ha,(hk _ hlen hsb).trans r.sbk,⟨_,_,rfl⟩,⟨fun id hid => ?_,blk?_set_eq (by omega),⟨by simp [i64s],.inr ⟨H.length + 2,by simp,?_⟩⟩,fun id hid => ?_,by simp; omega⟩⟩
 ·rw [blk?_set_ne (by omega),hk id (by omega) (fun e => by have := r.far _ e; omega)]; exact r.low id hid
 ·rw [blk?_set_ne (by omega),hK]; simp [i64s]
 ·simp [sid] at hid; omega
section
variable {hM : Heap} {R : Value → Heap → Prop}
end
section
variable {h : Heap} {R : Value → Heap → Prop}
end
section
variable {h : Heap} {p c : Nat} {b : BS}
end
section
variable {h0 : Heap} {p c : Nat} {b : BS} {P n : Nat} {pl kd : Int} {k : List RItem} {R : Value → Heap → Prop} {a0 : Option Addr} {c0 : Nat}
end
set_option maxRecDepth 10000
section
variable {h : Heap} {pv dv : Value} {pl : Int} {ps : List Int} {ds : List Nat} {m : MD}
theorem validBlock_c {R : Value → Heap → Prop} (w hh o : Int) : Ret tab 67 [.int .i64 w,.int .i64 hh,.int .i64 o] h R = R (.int .i64 (if w < 1 ∨ 64 < w ∨ hh < 1 ∨ 64 < hh then 2 else if o < 0 ∨ 3 < o then 3 else 0)) h := by
 rw [enter67,B67]
 by_cases c3 : w < 1
 ·rw [if_pos (.inl c3)]
  simp [k_guard,k_guardU,c3,fin67]
 by_cases c4 : 64 < w
 ·rw [if_pos (.inr (.inl c4))]
  simp [k_guard,k_guardU,c3,c4,fin67]
 by_cases c5 : hh < 1
 ·rw [if_pos (.inr (.inr (.inl c5)))]
  simp [k_guard,k_guardU,c3,c4,c5,fin67]
 by_cases c6 : 64 < hh
 ·rw [if_pos (.inr (.inr (.inr c6)))]
  simp [k_guard,k_guardU,c3,c4,c5,c6,fin67]
 rw [if_neg (by omega)]
 by_cases c7 : o < 0
 ·rw [if_pos (.inl c7)]
  simp [k_guard,k_guardU,c3,c4,c5,c6,c7,fin67]
 by_cases c8 : 3 < o
 ·rw [if_pos (.inr c8)]
  simp [k_guard,k_guardU,c3,c4,c5,c6,c7,c8,fin67]
 rw [if_neg (by omega)]
 simp [k_guard,k_guardU,c3,c4,c5,c6,c7,c8,fin67]
set_option maxHeartbeats 1000000 in
theorem zcheck_c {ds : List Int} (hp : Rk .i64 h pv ps) (hd : Rk .u8 h dv ds) (hl : ps.length < 1000000) (hdl : ds.length < 1000000000) (n w hh o : Int) :
  Gives 29 [.agg #[.int .i64 pl,pv,dv],.int .i64 n,.int .i64 w,.int .i64 hh,.int .i64 o,m.val] h (.int .i64 (checkP pl ps ds n w hh o)) := by
 refine Gives.mk fun R0 hR => ?_
 generalize hH : h ++ [some (⟨false,[.int .i64 pl,pv,dv]⟩ : Blk),some ⟨false,[.bool m.byp,.bool m.res,.bool m.rst,.bool m.cz,.bool m.sy]⟩] = H
 have lH : H.length = h.length + 2 := by rw [← hH]; simp
 have b0 : blk? H h.length = some ⟨false,[.int .i64 pl,pv,dv]⟩ := by rw [← hH,app_len]; rfl
 have b1 : blk? H (h.length + 1) = some ⟨false,[.bool m.byp,.bool m.res,.bool m.rst,.bool m.cz,.bool m.sy]⟩ := by rw [← hH,app_add]; rfl
 have hpH : Rk .i64 H pv ps := by rw [← hH]; exact hp.push _
 have hdH : Rk .u8 H dv ds := by rw [← hH]; exact hd.push _
 obtain ⟨H1,e1,k1,l1⟩ := valid_r (m := m) (pl := pl) hpH hdH hl hdl
 have b01 : blk? H1 h.length = some ⟨false,[.int .i64 pl,pv,dv]⟩ := by rw [k1 _ (by omega)]; exact b0
 have hR' := hR H1 (fun id hid => by rw [k1 id (by omega),← hH]; exact app_lt hid) (by omega)
 clear hR
 obtain ⟨pa,pc,hpv⟩ := hp.sl.shape
 simp only [MD.val] at e1
 unfold checkP at hR'
 have eb := fun R => validBlock_c (h := H1) (R := R) w hh o
 rw [enter29,B29]
 by_cases v0 : validP pl ps ds = 0
 case neg =>
  have v0' : (validP pl ps ds != 0) = true := by simpa using v0
  rw [if_pos v0] at hR'
  simp [k_guard,k_guardU,MD.val,hH,b0,b1,e1,v0',fin29]
  exact hR'
 have v0' : (validP pl ps ds != 0) = false := by simpa using v0
 rw [if_neg (by simp [v0])] at hR'
 rw [hpv] at hH b0 b01 e1
 rw [hpv]
 by_cases c1 : n < 0
 ·rw [if_pos (.inl c1)] at hR'
  simp [k_guard,k_guardU,MD.val,hH,b0,b1,e1,v0',c1,fin29]
  exact hR'
 by_cases c2 : (ps.length : Int) < n
 ·rw [if_pos (.inr (.inl c2))] at hR'
  simp [k_guard,k_guardU,MD.val,hH,b0,b1,e1,v0',b01,c1,c2,fin29]
  exact hR'
 have ee : (if n < 0 ∨ (ps.length : Int) < n ∨ w < 1 ∨ 64 < w ∨ hh < 1 ∨ 64 < hh then (2 : Int) else if o < 0 ∨ 3 < o then 3 else 0) = if w < 1 ∨ 64 < w ∨ hh < 1 ∨ 64 < hh then 2 else if o < 0 ∨ 3 < o then 3 else 0 := by
  by_cases hc : w < 1 ∨ 64 < w ∨ hh < 1 ∨ 64 < hh
  ·rw [if_pos hc,if_pos (.inr (.inr hc))]
  ·rw [if_neg hc,if_neg (by omega)]
 rw [ee] at hR'
 generalize (if w < 1 ∨ 64 < w ∨ hh < 1 ∨ 64 < hh then (2 : Int) else if o < 0 ∨ 3 < o then 3 else 0) = X at *
 simp [k_guard,k_guardU,MD.val,hH,b0,b1,e1,v0',b01,c1,c2,eb,fin29]
 exact hR'
theorem zreadC {n w hh o : Int} (hp : Rk .i64 h pv ps) (hd : Rk .u8 h dv (ds.map Int.ofNat)) (hds : ∀ x ∈ ds,x < 256) (hc : checkP pl ps (ds.map Int.ofNat) n w hh o = 0) :
  ∃ lv h',(∀ R : Value → Heap → Prop,Ret tab 31 [.agg #[.int .i64 pl,pv,dv],.int .i64 n,.int .i64 w,.int .i64 hh,.int .i64 o,m.val] h R = R lv h') ∧
   RdV h.length h' lv (readP m pl o ps ds n.toNat w.toNat hh.toNat).ls ∧ (∀ id,id < h.length → blk? h' id = blk? h id) ∧ h.length ≤ h'.length := by
 obtain ⟨hv,n0,n1,w1,w2,h1,h2,o0,o1⟩ := check_ok hc
 obtain ⟨p0,p1,p2,_,p4⟩ := valid_ends hv
 obtain ⟨z0,z1⟩ := valid_zE hv
 simp only [List.length_map] at z1 p4
 obtain ⟨n,rfl⟩ := Int.eq_ofNat_of_zero_le n0
 obtain ⟨w,rfl⟩ := Int.eq_ofNat_of_zero_le (show 0 ≤ w by omega)
 obtain ⟨hh,rfl⟩ := Int.eq_ofNat_of_zero_le (show 0 ≤ hh by omega)
 simp only [Int.toNat_natCast]
 exact zsyms_c m hp hd z0 z1 (by omega) hds (by omega) (by omega) (by omega) (by omega) (by omega) (by omega)
end
def badL (l : List (Int × Nat)) : Bool := decide (l.length < 4) || ((l.getD (l.length - 4) (0,0)).2 != 1 || ((l.getD (l.length - 3) (0,0)).2 != 0 || ((l.getD (l.length - 2) (0,0)).2 != 1 || (l.getD (l.length - 1) (0,0)).2 != 0)))
theorem badL_four (l : List (Int × Nat)) (c1 c2 c3 c4 : Int) (b1 b2 b3 b4 : Nat) : badL (l ++ [(c1,b1),(c2,b2),(c3,b3),(c4,b4)]) = (b1 != 1 || (b2 != 0 || (b3 != 1 || b4 != 0))) := by
 unfold badL
 have hl : (l ++ [(c1,b1),(c2,b2),(c3,b3),(c4,b4)]).length = l.length + 4 := by simp
 rw [hl]
 have e : ∀ j,j < 4 → (l ++ [(c1,b1),(c2,b2),(c3,b3),(c4,b4)]).getD (l.length + j) (0,0) = [(c1,b1),(c2,b2),(c3,b3),(c4,b4)].getD j (0,0) := fun j hj => by
  rw [List.getD_eq_getElem?_getD,List.getD_eq_getElem?_getD,List.getElem?_append_right (by omega)]
  simp
 rw [show l.length + 4 - 4 = l.length + 0 from by omega,show l.length + 4 - 3 = l.length + 1 from by omega,show l.length + 4 - 2 = l.length + 2 from by omega,show l.length + 4 - 1 = l.length + 3 from by omega,e 0 (by omega),e 1 (by omega),e 2 (by omega),e 3 (by omega)]
 simp
 intro h; omega
theorem RS.ask_l (s : RS) (x : Int) : ∃ bt : Nat,bt < 2 ∧ (s.ask x).1 = (bt == 1) ∧ (s.ask x).2.l = s.l ++ [(x,bt)] := ⟨_,askA_lt _ _ _,rfl,rfl⟩
theorem clean_mark (P : PP) (b : BS) (s : RS) : ((dclean P b true).run RS.ask s).1.2 = !badL ((dclean P b true).run RS.ask s).2.l := by
 unfold dclean dcheck
 rw [Tr.run_bind]
 generalize (dstripes P b 0 (stripesOf b.h)).run RS.ask s = r
 obtain ⟨b1,s1⟩ := r
 simp only [if_true,dchk]
 rw [Tr.run_bind,Tr.run_ask,Tr.run_ask,Tr.run_ask,Tr.run_ask,Tr.run_ret,Tr.run_ret]
 obtain ⟨t1,h1,e1,l1⟩ := s1.ask_l (P.cx 18)
 generalize s1.ask (P.cx 18) = r1 at *
 obtain ⟨a1,s2⟩ := r1
 simp only at e1 l1 ⊢
 obtain ⟨t2,h2,e2,l2⟩ := s2.ask_l (P.cx 18)
 generalize s2.ask (P.cx 18) = r2 at *
 obtain ⟨a2,s3⟩ := r2
 simp only at e2 l2 ⊢
 obtain ⟨t3,h3,e3,l3⟩ := s3.ask_l (P.cx 18)
 generalize s3.ask (P.cx 18) = r3 at *
 obtain ⟨a3,s4⟩ := r3
 simp only at e3 l3 ⊢
 obtain ⟨t4,h4,e4,l4⟩ := s4.ask_l (P.cx 18)
 generalize s4.ask (P.cx 18) = r4 at *
 obtain ⟨a4,s5⟩ := r4
 simp only at e4 l4 ⊢
 have el : s5.l = s1.l ++ [(P.cx 18,t1),(P.cx 18,t2),(P.cx 18,t3),(P.cx 18,t4)] := by rw [l4,l3,l2,l1]; simp
 rw [el,badL_four]
 subst e1 e2 e3 e4
 have f : ∀ t : Nat,t < 2 → t = 0 ∨ t = 1 := fun t ht => by omega
 rcases f t1 h1 with rfl | rfl <;> rcases f t2 h2 with rfl | rfl <;> rcases f t3 h3 with rfl | rfl <;> rcases f t4 h4 with rfl | rfl <;> rfl
theorem pass_mark {m : MD} (hsy : m.sy = true) {pl o : Int} {i : Nat} (he : runErr i pl o = 0) (a : AD) (raw : Option (List Nat × Nat)) (b : BS) :
  (dErr i pl o (passR m pl o i a raw b).1.2 = 16) ↔ (kindOf i = 2 ∧ badL (passR m pl o i a raw b).2.l = true) := by
 rw [dErr_16]
 simp only [he,true_and]
 unfold passR dOut
 rw [if_pos he,Int.toNat_natCast]
 unfold dRun
 by_cases h0 : kindOf i = 0
 ·rw [if_pos h0,Tr.run_bind]
  simp [h0,Tr.run_ret]
 ·rw [if_neg h0]
  by_cases h1 : kindOf i = 1
  ·rw [if_pos h1,Tr.run_bind]
   simp [h1,Tr.run_ret]
  ·rw [if_neg h1,hsy,clean_mark]
   have h2 : kindOf i = 2 := by
    have : kindOf i = 0 ∨ kindOf i = 1 ∨ kindOf i = 2 := by unfold kindOf; split <;> omega
    omega
   simp [h2]
def markAt (i : Nat) : Int := max 0 (3 * (planeOf i : Int) - 2)
def sndMin : Int → Nat → List (List (Int × Nat)) → Int
 | a,_,[] => a
 | a,i,l :: ls => sndMin (if kindOf i = 2 ∧ badL l = true then min a (markAt i) else a) (i + 1) ls
def sndL (n : Int) : Nat → List (List (Int × Nat)) → Int
 | _,[] => n
 | i,l :: ls => if kindOf i = 2 ∧ badL l = true then markAt i else sndL n (i + 1) ls
theorem sndMin_snoc : ∀ (ls : List (List (Int × Nat))) (a : Int) (i : Nat) (l : List (Int × Nat)),sndMin a i (ls ++ [l]) = if kindOf (i + ls.length) = 2 ∧ badL l = true then min (sndMin a i ls) (markAt (i + ls.length)) else sndMin a i ls
 | [],a,i,l => rfl
 | x :: ls,a,i,l => by
  simp only [List.cons_append,sndMin,List.length_cons]
  rw [sndMin_snoc ls _ (i + 1) l,show i + 1 + ls.length = i + (ls.length + 1) from by omega]
theorem markAt_mono {i j : Nat} (h : i ≤ j) : markAt i ≤ markAt j := by
 have : planeOf i ≤ planeOf j := by unfold planeOf; split <;> split <;> omega
 unfold markAt; omega
theorem markAt_le (i : Nat) : markAt i ≤ i := by
 have : 3 * planeOf i ≤ i + 2 := by unfold planeOf; split <;> omega
 unfold markAt; omega
theorem sndMin_low : ∀ (ls : List (List (Int × Nat))) (a : Int) (i : Nat),a ≤ markAt i → sndMin a i ls = a
 | [],_,_,_ => rfl
 | l :: ls,a,i,h => by
  have h1 := markAt_mono (Nat.le_add_right i 1)
  simp only [sndMin]
  split
  ·rw [show min a (markAt i) = a from by omega]
   exact sndMin_low ls a (i + 1) (by omega)
  ·exact sndMin_low ls a (i + 1) (by omega)
theorem sndMin_eq (n : Int) : ∀ (ls : List (List (Int × Nat))) (i : Nat),((i + ls.length : Nat) : Int) ≤ n → sndMin n i ls = sndL n i ls
 | [],_,_ => rfl
 | l :: ls,i,h => by
  simp only [List.length_cons] at h
  have h1 := markAt_le i
  simp only [sndMin,sndL]
  split
  ·rw [show min n (markAt i) = markAt i from by omega]
   exact sndMin_low ls _ _ (markAt_mono (Nat.le_add_right i 1))
  ·exact sndMin_eq n ls (i + 1) (by omega)
theorem passesR_snd {m : MD} (hsy : m.sy = true) {pl o : Int} {n : Int} : ∀ (q : Nat) (s : Rdg),(∀ j : Nat,j < s.ls.length + q → runErr j pl o = 0) → s.snd = sndMin n 0 s.ls → (passesR m pl o q s.ls.length s).snd = sndMin n 0 (passesR m pl o q s.ls.length s).ls
 | 0,s,_,h => h
 | q + 1,s,he,h => by
  simp only [passesR]
  have hm := pass_mark hsy (he s.ls.length (by omega)) s.a s.raw s.b
  generalize passR m pl o s.ls.length s.a s.raw s.b = r at *
  have := passesR_snd hsy (pl := pl) (o := o) (n := n) q ⟨r.2.a,r.2.raw,r.1.1,sndR pl o s.ls.length r.1.2 s.snd,s.ls ++ [r.2.l]⟩ (fun j hj => he j (by simp at hj; omega)) (by
   simp only
   rw [sndMin_snoc,Nat.zero_add,← h]
   unfold sndR
   by_cases hb : dErr s.ls.length pl o r.1.2 = 16
   ·rw [if_pos hb,if_pos (hm.1 hb)]; rfl
   ·rw [if_neg hb,if_neg fun x => hb (hm.2 x)])
  simpa using this
theorem segsR_snd {m : MD} (hsy : m.sy = true) {pl o : Int} {n : Int} (ps : List Int) (ds : List Nat) : ∀ (gs : List Nat) (beg : Nat) (s : Rdg),(∀ j : Nat,j < s.ls.length + sumL gs → runErr j pl o = 0) → s.snd = sndMin n 0 s.ls → (segsR m pl o ps ds gs beg s).snd = sndMin n 0 (segsR m pl o ps ds gs beg s).ls
 | [],_,s,_,h => h
 | c :: cs,beg,s,he,h => by
  simp only [sumL] at he
  simp only [segsR]
  refine segsR_snd hsy ps ds cs _ _ (fun j hj => he j ?_) ?_
  ·rw [passesR_len] at hj
   split at hj <;> simp only at hj <;> omega
  ·have key : ∀ s1 : Rdg,s1.ls = s.ls → s1.snd = s.snd → (passesR m pl o c s.ls.length s1).snd = sndMin n 0 (passesR m pl o c s.ls.length s1).ls := fun s1 e1 e2 => by
    have := passesR_snd hsy (pl := pl) (o := o) (n := n) c s1 (fun j hj => he j (by rw [e1] at hj; omega)) (by rw [e1,e2]; exact h)
    rw [e1] at this
    exact this
   split <;> exact key _ rfl rfl
theorem runErr_ok {pl o : Int} {n : Nat} (hn : (n : Int) ≤ max 0 (3 * pl - 2)) (hp : pl ≤ 60) (o0 : 0 ≤ o) (o1 : o ≤ 3) : ∀ j : Nat,j < n → runErr j pl o = 0 := fun j hj => by
 unfold runErr
 rw [if_neg (by omega),if_neg (by omega)]
theorem readP_snd {m : MD} (hsy : m.sy = true) {pl o : Int} (ps : List Int) (ds : List Nat) {n w hh : Nat} (hn : n ≤ 178) (hn2 : (n : Int) ≤ max 0 (3 * pl - 2)) (hp : pl ≤ 60) (o0 : 0 ≤ o) (o1 : o ≤ 3) :
  (readP m pl o ps ds n w hh).snd = sndL n 0 (readP m pl o ps ds n w hh).ls := by
 rw [← sndMin_eq (n : Int) _ 0 (by rw [readP_len m pl o ps ds hn]; omega)]
 unfold readP
 exact segsR_snd hsy ps ds _ _ _ (fun j hj => runErr_ok hn2 hp o0 o1 j (by rw [(segs_sum hn).1] at hj; simpa using hj)) rfl
set_option maxRecDepth 10000
section
variable {h : Heap} {R : Value → Heap → Prop}
set_option maxHeartbeats 4000000 in
theorem zsnd_loop {lv : Value} {vs : List Value} {ls : List (List (Int × Nat))} {n x : Int} {k : List RItem} (ol : OwnS h 1 lv vs.length vs) (hvl : vs.length = ls.length) (each : ∀ i (h1 : i < vs.length) (h2 : i < ls.length),OwnS h 2 vs[i] ls[i].length (encS ls[i])) (hsm : ∀ l ∈ ls,l.length ≤ 20000) (hl : ls.length ≤ 178)
  (hR : R (.tuple #[.int .i64 x,.int .i64 0]) h) (hk : x = n → ∀ (K0 K2 K3 K4 K5 K6 K7 K8 K9 Ka Kb Kc Kd Ke Kf Kg Kh Ki Kj Kk Kl Km Kn Ko Kp Kq Kr Ks Kt Ku Kv Kw Kx Ky Kz J0 J1 J2 J3 J4 J5 J6 J7 J8 J9 Ja Jb Jc Jd Je Jf Jg Jh Ji Jj Jk Jl Jm Jn Jo Jp Jq Jr Js Jt Ju Jv Jw Jx Jy Jz Y0 Y1 Y2 Y3 Y4 Y5 Y6 Y7 Y8 Y9 Ya Yb Yc Yd Ye Yf Yg Yh Yi Yj Yk Yl Ym Yn Yo Yp Yq Yr Ys Yt Yu Yv Yw Yx Yy Yz Z0 Z1 Z2 Z3 Z4 Z5 Z6 Z7 : Value),Ok tab R15 k #[K0,.int .i64 n,K2,K3,K4,K5,K6,K7,K8,K9,Ka,Kb,Kc,Kd,Ke,Kf,Kg,Kh,Ki,Kj,Kk,Kl,Km,Kn,Ko,Kp,Kq,Kr,Ks,Kt,Ku,Kv,Kw,Kx,Ky,Kz,J0,J1,J2,J3,J4,J5,J6,J7,J8,J9,Ja,Jb,Jc,Jd,Je,Jf,Jg,Jh,Ji,Jj,Jk,Jl,Jm,Jn,Jo,Jp,Jq,Jr,Js,Jt,Ju,Jv,Jw,Jx,Jy,Jz,Y0,Y1,Y2,Y3,Y4,Y5,Y6,Y7,Y8,Y9,Ya,Yb,Yc,Yd,Ye,Yf,Yg,Yh,Yi,Yj,Yk,Yl,Ym,Yn,Yo,Yp,Yq,Yr,Ys,Yt,Yu,Yv,Yw,Yx,Yy,Yz,Z0,Z1,Z2,Z3,Z4,Z5,Z6,Z7] h R) :
  ∀ (j i : Nat) (K0 K2 K3 K4 K5 K6 K7 K8 K9 Ka Kb Kc Kd Ke Kh Ki Kj Kk Kl Km Kn Ko Kp Kq Kr Ks Kt Ku Kv Kw Kx Ky Kz J0 J1 J2 J3 J4 J5 J6 J7 J8 J9 Ja Jb Jc Jd Je Jf Jg Jh Ji Jj Jk Jl Jm Jn Jo Jp Jq Jr Js Jt Ju Jv Jw Jx Jy Jz Y0 Y1 Y2 Y3 Y4 Y5 Y6 Y7 Y8 Y9 Ya Yb Yc Yd Ye Yf Yg Yh Yi Yj Yk Yl Ym Yn Yo Yp Yq Yr Ys Yt Yu Yv Yw Yx Yy Yz Z0 Z1 Z2 Z3 Z4 Z5 Z6 Z7 : Value),i + j = ls.length → sndL n i (ls.drop i) = x →
   Ok tab R15 (.inLoop L15_0 :: .inBlock 0 :: k) #[K0,.int .i64 n,K2,K3,K4,K5,K6,K7,K8,K9,Ka,Kb,Kc,Kd,Ke,lv,.int .i64 (i : Nat),Kh,Ki,Kj,Kk,Kl,Km,Kn,Ko,Kp,Kq,Kr,Ks,Kt,Ku,Kv,Kw,Kx,Ky,Kz,J0,J1,J2,J3,J4,J5,J6,J7,J8,J9,Ja,Jb,Jc,Jd,Je,Jf,Jg,Jh,Ji,Jj,Jk,Jl,Jm,Jn,Jo,Jp,Jq,Jr,Js,Jt,Ju,Jv,Jw,Jx,Jy,Jz,Y0,Y1,Y2,Y3,Y4,Y5,Y6,Y7,Y8,Y9,Ya,Yb,Yc,Yd,Ye,Yf,Yg,Yh,Yi,Yj,Yk,Yl,Ym,Yn,Yo,Yp,Yq,Yr,Ys,Yt,Yu,Yv,Yw,Yx,Yy,Yz,Z0,Z1,Z2,Z3,Z4,Z5,Z6,Z7] h R := by
 intro j
 induction j with
 | zero =>
  intro i;intros;rename_i hij hs
  obtain rfl : i = ls.length := by omega
  rw [List.drop_length] at hs
  have hk' := hk hs.symm
  obtain ⟨la,lc,hlv⟩ := ol.sl.shape
  rw [hvl] at hlv
  rw [hlv]
  rw [ok_round,l15_0,L15_0a,L15_0b]
  simp
  exact hk' ..
 | succ j ih =>
  intro i;intros;rename_i hij hs
  have hil : i < ls.length := by omega
  have hiv : i < vs.length := by omega
  have hdrop : ls.drop i = ls[i] :: ls.drop (i + 1) := List.drop_eq_getElem_cons hil
  rw [hdrop] at hs
  simp only [sndL] at hs
  have hlt : (i : Int) < (ls.length : Int) := by omega
  have hsl := hsm ls[i] (List.getElem_mem hil)
  have ow := each i hiv hil
  generalize ls[i] = l at *
  obtain ⟨lid,loff,lb,elv,hlb,hlc⟩ := ol.sl.get hiv
  have hlc0 := hlc 0 (by omega)
  rw [Nat.mul_one,Nat.add_zero,Nat.add_zero,List.getElem?_eq_getElem hiv] at hlc0
  generalize vs[i] = v at *
  have hpass := fun R => pass_r (h := h) (R := R) (n := i) (by omega)
  have w1 : IntKind.i64.wrap ((i : Int) + 1) = ((i + 1 : Nat) : Int) := wrapN (n := i + 1) (by omega)
  have hpl : planeOf i ≤ i := planeOf_le (n := i) (planes := i + 1) (by omega) (by omega)
  have w2 : IntKind.i64.wrap (3 * (planeOf i : Int)) = 3 * (planeOf i : Int) := by rw [wrapI (by omega) (by omega)]
  have w3 : IntKind.i64.wrap (3 * (planeOf i : Int) - 2) = 3 * (planeOf i : Int) - 2 := by rw [wrapI (by omega) (by omega)]
  have ih' := fun K0 K2 K3 K4 K5 K6 K7 K8 K9 Ka Kb Kc Kd Ke Kh Ki Kj Kk Kl Km Kn Ko Kp Kq Kr Ks Kt Ku Kv Kw Kx Ky Kz J0 J1 J2 J3 J4 J5 J6 J7 J8 J9 Ja Jb Jc Jd Je Jf Jg Jh Ji Jj Jk Jl Jm Jn Jo Jp Jq Jr Js Jt Ju Jv Jw Jx Jy Jz Y0 Y1 Y2 Y3 Y4 Y5 Y6 Y7 Y8 Y9 Ya Yb Yc Yd Ye Yf Yg Yh Yi Yj Yk Yl Ym Yn Yo Yp Yq Yr Ys Yt Yu Yv Yw Yx Yy Yz Z0 Z1 Z2 Z3 Z4 Z5 Z6 Z7 hh => ih (i + 1) K0 K2 K3 K4 K5 K6 K7 K8 K9 Ka Kb Kc Kd Ke Kh Ki Kj Kk Kl Km Kn Ko Kp Kq Kr Ks Kt Ku Kv Kw Kx Ky Kz J0 J1 J2 J3 J4 J5 J6 J7 J8 J9 Ja Jb Jc Jd Je Jf Jg Jh Ji Jj Jk Jl Jm Jn Jo Jp Jq Jr Js Jt Ju Jv Jw Jx Jy Jz Y0 Y1 Y2 Y3 Y4 Y5 Y6 Y7 Y8 Y9 Ya Yb Yc Yd Ye Yf Yg Yh Yi Yj Yk Yl Ym Yn Yo Yp Yq Yr Ys Yt Yu Yv Yw Yx Yy Yz Z0 Z1 Z2 Z3 Z4 Z5 Z6 Z7 (by omega) hh
  have hmark : markAt i = max 0 (3 * (planeOf i : Int) - 2) := rfl
  rw [hmark] at hs
  rw [hvl] at elv
  obtain ⟨va,vc,hvv⟩ := ow.sl.shape
  rw [elv] at ih' ⊢
  generalize ((i + 1 : Nat) : Int) = i1 at *
  rw [ok_round,l15_0,L15_0a,show L15_0b = .seq (.block 1 (.seq (nthC 0 (inB (nthC 0 L15_0b))) (.seq (nthC 1 (inB (nthC 0 L15_0b))) (tlC 2 (inB (nthC 0 L15_0b)))))) (tlC 1 L15_0b) from rfl]
  by_cases hk2 : kindOf i = 2
  case neg =>
   rw [if_neg fun y => hk2 y.1] at hs
   have hk2' : (((kindOf i : Nat) : Int) == 2) = false := by rw [beq_eq_false_iff_ne]; omega
   rw [hvv] at hlc0
   simp only [nthC,tlC,fstC,inB,L15_0b]
   simp [k_guard,k_guardU,hlt,hpass,hlb,hlc0,hk2,hk2',w1]
   exact ih' _ _ _ _ _ _ _ _ _ _ _ _ _ _ _ _ _ _ _ _ _ _ _ _ _ _ _ _ _ _ _ _ _ _ _ _ _ _ _ _ _ _ _ _ _ _ _ _ _ _ _ _ _ _ _ _ _ _ _ _ _ _ _ _ _ _ _ _ _ _ _ _ _ _ _ _ _ _ _ _ _ _ _ _ _ _ _ _ _ _ _ _ _ _ _ _ _ _ _ _ _ _ _ _ _ _ _ _ _ _ _ _ _ hs
  have hk2' : ((kindOf i : Nat) : Int) = 2 := by omega
  by_cases c0 : l.length < 4
  ·have hb : badL l = true := by unfold badL; rw [decide_eq_true c0]; rfl
   rw [if_pos ⟨hk2,hb⟩] at hs
   subst hs
   rw [hvv] at hlc0
   have c0' : (l.length : Int) < 4 := by omega
   simp only [nthC,tlC,fstC,inB,L15_0b]
   simp [k_guard,k_guardU,hlt,hpass,hlb,hlc0,hk2',c0,c0',w2,w3,fold1,foldO,mx2,mn2,fin15]
   exact hR
  obtain ⟨vid,hv,hvb⟩ := ow.ne_nil (by omega)
  have c0' : ¬ (l.length : Int) < 4 := by omega
  have gt : ∀ q,1 ≤ q → q ≤ 4 → ∃ b : Nat,(l.getD (l.length - q) (0,0)).2 = b ∧ (encS l)[(l.length - q) * 2 + 1]? = some (.int .i64 (b : Nat)) := fun q h1 h2 => by
   have hq : l.length - q < l.length := by omega
   refine ⟨_,rfl,?_⟩
   rw [(encS_get l _ hq).2,List.getD_eq_getElem?_getD,List.getElem?_eq_getElem hq]
   rfl
  obtain ⟨b1,d1,g1⟩ := gt 4 (by omega) (by omega)
  obtain ⟨b2,d2,g2⟩ := gt 3 (by omega) (by omega)
  obtain ⟨b3,d3,g3⟩ := gt 2 (by omega) (by omega)
  obtain ⟨b4,d4,g4⟩ := gt 1 (by omega) (by omega)
  have hb : badL l = (b1 != 1 || (b2 != 0 || (b3 != 1 || b4 != 0))) := by unfold badL; rw [decide_eq_false c0,d1,d2,d3,d4]; rfl
  rw [hb] at hs
  have wq : ∀ q : Nat,1 ≤ q → q ≤ 4 → IntKind.i64.wrap ((l.length : Int) - (q : Nat)) = ((l.length - q : Nat) : Int) ∧ ((l.length - q : Nat) : Int) < (l.length : Int) ∧ (0 : Int) ≤ ((l.length - q : Nat) : Int) ∧ (((l.length - q : Nat) : Int)).toNat = l.length - q := fun q h1 h2 => ⟨by rw [wrapI (by omega) (by omega)]; omega,by omega,by omega,by omega⟩
  obtain ⟨p1,p2,p3,p4⟩ := wq 4 (by omega) (by omega)
  obtain ⟨q1,q2,q3,q4⟩ := wq 3 (by omega) (by omega)
  obtain ⟨r1,r2,r3,r4⟩ := wq 2 (by omega) (by omega)
  obtain ⟨s1,s2,s3,s4⟩ := wq 1 (by omega) (by omega)
  simp only [Int.cast_ofNat_Int] at p1 q1 r1 s1
  generalize ((l.length - 4 : Nat) : Int) = n4 at *
  generalize ((l.length - 3 : Nat) : Int) = n3 at *
  generalize ((l.length - 2 : Nat) : Int) = n2 at *
  generalize ((l.length - 1 : Nat) : Int) = n1 at *
  rw [hv] at hlc0
  by_cases e1 : b1 = 1
  case neg =>
   rw [if_pos ⟨hk2,by simp [e1]⟩] at hs
   subst hs
   have e1' : (((b1 : Nat) : Int) != 1) = true := by rw [bne_iff_ne]; omega
   simp only [nthC,tlC,fstC,inB,L15_0b]
   simp [k_guard,k_guardU,hlt,hpass,hlb,hlc0,hk2',c0,c0',hvb,g1,p1,p2,p3,p4,e1,e1',w2,w3,fold1,foldO,mx2,mn2,fin15]
   exact hR
  by_cases e2 : b2 = 0
  case neg =>
   rw [if_pos ⟨hk2,by simp [e1,e2]⟩] at hs
   subst hs
   have e2' : (((b2 : Nat) : Int) != 0) = true := by rw [bne_iff_ne]; omega
   subst e1
   simp only [nthC,tlC,fstC,inB,L15_0b]
   simp [k_guard,k_guardU,hlt,hpass,hlb,hlc0,hk2',c0,c0',hvb,g1,g2,p1,p2,p3,p4,q1,q2,q3,q4,e2,e2',w2,w3,fold1,foldO,mx2,mn2,fin15]
   exact hR
  by_cases e3 : b3 = 1
  case neg =>
   rw [if_pos ⟨hk2,by simp [e1,e2,e3]⟩] at hs
   subst hs
   have e3' : (((b3 : Nat) : Int) != 1) = true := by rw [bne_iff_ne]; omega
   subst e1 e2
   simp only [nthC,tlC,fstC,inB,L15_0b]
   simp [k_guard,k_guardU,hlt,hpass,hlb,hlc0,hk2',c0,c0',hvb,g1,g2,g3,p1,p2,p3,p4,q1,q2,q3,q4,r1,r2,r3,r4,e3,e3',w2,w3,fold1,foldO,mx2,mn2,fin15]
   exact hR
  by_cases e4 : b4 = 0
  case neg =>
   rw [if_pos ⟨hk2,by simp [e1,e2,e3,e4]⟩] at hs
   subst hs
   have e4' : (((b4 : Nat) : Int) != 0) = true := by rw [bne_iff_ne]; omega
   subst e1 e2 e3
   simp only [nthC,tlC,fstC,inB,L15_0b]
   simp [k_guard,k_guardU,hlt,hpass,hlb,hlc0,hk2',c0,c0',hvb,g1,g2,g3,g4,p1,p2,p3,p4,q1,q2,q3,q4,r1,r2,r3,r4,s1,s2,s3,s4,e4,e4',w2,w3,fold1,foldO,mx2,mn2,fin15]
   exact hR
  subst e1 e2 e3 e4
  rw [if_neg fun y => by simp at y] at hs
  simp only [nthC,tlC,fstC,inB,L15_0b]
  simp [k_guard,k_guardU,hlt,hpass,hlb,hlc0,hk2',c0,c0',hvb,g1,g2,g3,g4,p1,p2,p3,p4,q1,q2,q3,q4,r1,r2,r3,r4,s1,s2,s3,s4,w1]
  exact ih' _ _ _ _ _ _ _ _ _ _ _ _ _ _ _ _ _ _ _ _ _ _ _ _ _ _ _ _ _ _ _ _ _ _ _ _ _ _ _ _ _ _ _ _ _ _ _ _ _ _ _ _ _ _ _ _ _ _ _ _ _ _ _ _ _ _ _ _ _ _ _ _ _ _ _ _ _ _ _ _ _ _ _ _ _ _ _ _ _ _ _ _ _ _ _ _ _ _ _ _ _ _ _ _ _ _ _ _ _ _ _ _ _ hs
end
section
variable {h : Heap} {pv dv : Value} {pl : Int} {ps : List Int} {ds : List Nat} {m : MD}
set_option maxHeartbeats 1000000 in
theorem sound_z {n w hh o : Int} (hp : Rk .i64 h pv ps) (hd : Rk .u8 h dv (ds.map Int.ofNat)) (hds : ∀ x ∈ ds,x < 256) (hl : ps.length < 1000000) (hdl : ds.length < 1000000000) :
  Gives 15 [.agg #[.int .i64 pl,pv,dv],.int .i64 n,.int .i64 w,.int .i64 hh,.int .i64 o,m.val] h (.tuple #[.int .i64 (sndP m pl ps ds n w hh o).1,.int .i64 (sndP m pl ps ds n w hh o).2]) := by
 refine Gives.mk fun R0 hR => ?_
 generalize hH : h ++ [some (⟨false,[.int .i64 pl,pv,dv]⟩ : Blk),some ⟨false,[.bool m.byp,.bool m.res,.bool m.rst,.bool m.cz,.bool m.sy]⟩] = H
 have lH : H.length = h.length + 2 := by rw [← hH]; simp
 have kH : ∀ id,id < h.length → blk? H id = blk? h id := fun id hid => by rw [← hH]; exact app_lt hid
 have b0 : blk? H h.length = some ⟨false,[.int .i64 pl,pv,dv]⟩ := by rw [← hH,app_len]; rfl
 have b1 : blk? H (h.length + 1) = some ⟨false,[.bool m.byp,.bool m.res,.bool m.rst,.bool m.cz,.bool m.sy]⟩ := by rw [← hH,app_add]; rfl
 have hpH : Rk .i64 H pv ps := by rw [← hH]; exact hp.push _
 have hdH : Rk .u8 H dv (ds.map Int.ofNat) := by rw [← hH]; exact hd.push _
 obtain ⟨H1,e1,k1,l1⟩ := zcheck_c (m := m) (pl := pl) hpH hdH hl (by rw [List.length_map]; exact hdl) n w hh o
 have b01 : blk? H1 h.length = some ⟨false,[.int .i64 pl,pv,dv]⟩ := by rw [k1 _ (by omega)]; exact b0
 have b11 : blk? H1 (h.length + 1) = some ⟨false,[.bool m.byp,.bool m.res,.bool m.rst,.bool m.cz,.bool m.sy]⟩ := by rw [k1 _ (by omega)]; exact b1
 simp only [MD.val] at e1
 rw [enter15,show B15 = .seq (nthC 0 B15) (.seq (nthC 1 B15) (.seq (nthC 2 B15) (.seq (nthC 3 B15) (.seq (nthC 4 B15) (.seq (nthC 5 B15) (tlC 6 B15)))))) from rfl]
 generalize hT : tlC 6 B15 = tl
 simp only [nthC,tlC,fstC,B15]
 unfold sndP at hR
 by_cases hc : checkP pl ps (ds.map Int.ofNat) n w hh o = 0
 case neg =>
  have hc' : (checkP pl ps (ds.map Int.ofNat) n w hh o != 0) = true := by simpa using hc
  rw [if_pos hc] at hR
  simp [MD.val,hH,b0,b1,e1,hc',fin15]
  exact hR _ (fun id hid => by rw [k1 id (by omega),kH id hid]) (by omega)
 have hc' : (checkP pl ps (ds.map Int.ofNat) n w hh o != 0) = false := by simpa using hc
 rw [if_neg (by simp [hc])] at hR
 cases hsy : m.sy with
 | false =>
  rw [hsy] at hH b1 b11 e1 hR
  simp only [if_true] at hR
  simp [MD.val,hsy,hH,b0,b1,e1,hc',b01,b11,fin15]
  exact hR _ (fun id hid => by rw [k1 id (by omega),kH id hid]) (by omega)
 | true =>
  have hp1 : Rk .i64 H1 pv ps := hpH.keep l1 fun id hid _ => k1 id hid
  have hd1 : Rk .u8 H1 dv (ds.map Int.ofNat) := hdH.keep l1 fun id hid _ => k1 id hid
  obtain ⟨lv,H2,e2,r2,k2,l2⟩ := zreadC (m := m) hp1 hd1 hds hc
  obtain ⟨vs,ol,hvl,each,hsm⟩ := r2.ex
  obtain ⟨hv,n0,n1,_,_,_,_,o0,o1⟩ := check_ok hc
  obtain ⟨p0,p1,p2,_,p4⟩ := valid_ends hv
  have hlen := readP_len m pl o ps ds (n := n.toNat) (w := w.toNat) (hh := hh.toNat) (by omega)
  have hsnd := readP_snd hsy (pl := pl) (o := o) ps ds (n := n.toNat) (w := w.toNat) (hh := hh.toNat) (by omega) (by omega) p1 o0 o1
  rw [show ((n.toNat : Nat) : Int) = n from by omega] at hsnd
  simp only [MD.val] at e2
  rw [hsy] at hH b1 b11 e1 hR e2
  simp only [Bool.true_eq_false,if_false] at hR
  have hR2 := hR H2 (fun id hid => by rw [k2 id (by omega),k1 id (by omega),kH id hid]) (by omega)
  generalize hx : (readP m pl o ps ds n.toNat w.toNat hh.toNat).snd = x at *
  generalize (readP m pl o ps ds n.toNat w.toNat hh.toNat).ls = ls at *
  have hL := fun K0 K2 K3 K4 K5 K6 K7 K8 K9 Ka Kb Kc Kd Ke Kh Ki Kj Kk Kl Km Kn Ko Kp Kq Kr Ks Kt Ku Kv Kw Kx Ky Kz J0 J1 J2 J3 J4 J5 J6 J7 J8 J9 Ja Jb Jc Jd Je Jf Jg Jh Ji Jj Jk Jl Jm Jn Jo Jp Jq Jr Js Jt Ju Jv Jw Jx Jy Jz Y0 Y1 Y2 Y3 Y4 Y5 Y6 Y7 Y8 Y9 Ya Yb Yc Yd Ye Yf Yg Yh Yi Yj Yk Yl Ym Yn Yo Yp Yq Yr Ys Yt Yu Yv Yw Yx Yy Yz Z0 Z1 Z2 Z3 Z4 Z5 Z6 Z7 => zsnd_loop (R := R0) (n := n) (x := x) (k := [.code tl]) ol hvl each hsm (by omega) hR2 (fun e K0 K2 K3 K4 K5 K6 K7 K8 K9 Ka Kb Kc Kd Ke Kf Kg Kh Ki Kj Kk Kl Km Kn Ko Kp Kq Kr Ks Kt Ku Kv Kw Kx Ky Kz J0 J1 J2 J3 J4 J5 J6 J7 J8 J9 Ja Jb Jc Jd Je Jf Jg Jh Ji Jj Jk Jl Jm Jn Jo Jp Jq Jr Js Jt Ju Jv Jw Jx Jy Jz Y0 Y1 Y2 Y3 Y4 Y5 Y6 Y7 Y8 Y9 Ya Yb Yc Yd Ye Yf Yg Yh Yi Yj Yk Yl Ym Yn Yo Yp Yq Yr Ys Yt Yu Yv Yw Yx Yy Yz Z0 Z1 Z2 Z3 Z4 Z5 Z6 Z7 => by
   rw [← hT]
   simp only [nthC,tlC,fstC,B15]
   subst e
   simp [fin15]
   exact hR2) ls.length 0 K0 K2 K3 K4 K5 K6 K7 K8 K9 Ka Kb Kc Kd Ke Kh Ki Kj Kk Kl Km Kn Ko Kp Kq Kr Ks Kt Ku Kv Kw Kx Ky Kz J0 J1 J2 J3 J4 J5 J6 J7 J8 J9 Ja Jb Jc Jd Je Jf Jg Jh Ji Jj Jk Jl Jm Jn Jo Jp Jq Jr Js Jt Ju Jv Jw Jx Jy Jz Y0 Y1 Y2 Y3 Y4 Y5 Y6 Y7 Y8 Y9 Ya Yb Yc Yd Ye Yf Yg Yh Yi Yj Yk Yl Ym Yn Yo Yp Yq Yr Ys Yt Yu Yv Yw Yx Yy Yz Z0 Z1 Z2 Z3 Z4 Z5 Z6 Z7 (by omega) (by rw [List.drop_zero]; exact hsnd.symm)
  simp only [Int.cast_ofNat_Int] at hL
  obtain ⟨la,lc,hlv⟩ := ol.sl.shape
  rw [hlv] at e2 hL
  simp [MD.val,hsy,hH,b0,b1,e1,hc',b01,b11,e2]
  exact hL ..
end
set_option maxRecDepth 10000
section
variable {h : Heap} {pv dv : Value} {pl : Int} {ps ds : List Int} {x1 x2 x3 x4 x5 : Bool}
set_option maxHeartbeats 4000000 in
theorem ret_sounds {n w hh o : Int} (hp : Rk .i64 h pv ps) (hd : Rk .u8 h dv ds) :
  Ret tab 4 [.agg #[.int .i64 pl,pv,dv],.int .i64 n,.agg #[.int .i64 w,.int .i64 hh,.int .i64 o,.bool x1,.bool x2,.bool x3,.bool x4,.bool x5]] h fun v _ => v = .bool true := by
 obtain ⟨dn,rfl,hdn⟩ := Rk.nat hd
 obtain ⟨pa,pc,hpv⟩ := hp.sl.shape
 obtain ⟨da,dc,hdv⟩ := hd.sl.shape
 rw [List.length_map] at hdv
 generalize hH : h ++ [some (⟨false,[.int .i64 pl,pv,dv]⟩ : Blk),some ⟨false,[.int .i64 w,.int .i64 hh,.int .i64 o,.bool x1,.bool x2,.bool x3,.bool x4,.bool x5]⟩] = H
 have b0 : blk? H h.length = some ⟨false,[.int .i64 pl,pv,dv]⟩ := by rw [← hH,app_len]; rfl
 have b2 : blk? H (h.length + 1) = some ⟨false,[.int .i64 w,.int .i64 hh,.int .i64 o,.bool x1,.bool x2,.bool x3,.bool x4,.bool x5]⟩ := by rw [← hH,app_add]; rfl
 have lH : H.length = h.length + 2 := by rw [← hH]; simp
 have hpH : Rk .i64 H pv ps := by rw [← hH]; exact hp.push _
 have hdH : Rk .u8 H dv (dn.map Int.ofNat) := by rw [← hH]; exact hd.push _
 obtain ⟨H1,e1,k1,l1⟩ := few18_c (pl := pl) (w := w) (hh := hh) (o := o) (x1 := x1) (x2 := x2) (x3 := x3) (x4 := x4) (x5 := x5) hpH hdH
 have low : ∀ {G : Heap},(∀ id,id < H.length → blk? G id = blk? H id) → H.length ≤ G.length → blk? G h.length = some ⟨false,[.int .i64 pl,pv,dv]⟩ ∧ blk? G (h.length + 1) = some ⟨false,[.int .i64 w,.int .i64 hh,.int .i64 o,.bool x1,.bool x2,.bool x3,.bool x4,.bool x5]⟩ ∧ Rk .i64 G pv ps ∧ Rk .u8 G dv (dn.map Int.ofNat) := fun kG lG =>
  ⟨by rw [kG _ (by omega)]; exact b0,by rw [kG _ (by omega)]; exact b2,hpH.keep lG fun id hid _ => kG id hid,hdH.keep lG fun id hid _ => kG id hid⟩
 rw [enter4,B4]
 cases hf : few18P ps.length (dn.map Int.ofNat).length w hh with
 | false =>
  obtain ⟨H2,e2,k2,l2⟩ := awake18_c (h := H1)
  rw [hf] at e1
  rw [hpv,hdv] at hH b0 e1
  rw [hpv,hdv]
  simp [hH,b0,b2,e1,e2,fin4]
 | true =>
 rw [hf] at e1
 obtain ⟨f1,f2,_⟩ : ps.length ≤ 300 ∧ (dn.map Int.ofNat).length ≤ 20000 ∧ (w < 1 ∨ 64 < w ∨ hh < 1 ∨ 64 < hh ∨ w * hh ≤ 144) := by simpa only [few18P,decide_eq_true_eq] using hf
 rw [List.length_map] at f2
 obtain ⟨b01,b21,hp1,hd1⟩ := low k1 l1
 obtain ⟨H3,e3,k3,l3⟩ := sound_c (m := ⟨x1,x2,x3,x4,x5⟩) (pl := pl) (n := n) (w := w) (hh := hh) (o := o) hp1 hd1 hdn (by omega) (by omega)
 obtain ⟨b03,b23,hp3,hd3⟩ := low (G := H3) (fun id hid => by rw [k3 id (by omega),k1 id hid]) (by omega)
 obtain ⟨H4,e4,k4,l4⟩ := sound_z (m := ⟨x1,x2,x3,x4,x5⟩) (pl := pl) (n := n) (w := w) (hh := hh) (o := o) hp3 hd3 hdn (by omega) (by omega)
 generalize sndP ⟨x1,x2,x3,x4,x5⟩ pl ps dn n w hh o = X at *
 obtain ⟨X0,X1⟩ := X
 simp only [MD.val] at e3 e4
 obtain ⟨H7,e7,_,_⟩ := awake18_c (h := H4)
 rw [hpv,hdv] at hH b0 e1 b01 b03 e3 e4
 rw [hpv,hdv]
 simp [k_guard,k_guardU,hH,b0,b2,e1,b01,b21,e3,b03,b23,e4,e7,fin4]
end
end Go.Proofs.YtjpjohchdfoeaaaGreat
