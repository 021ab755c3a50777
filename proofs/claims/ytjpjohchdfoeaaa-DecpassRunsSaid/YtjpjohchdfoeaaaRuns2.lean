/-
  DecpassRuns returns true.
-/
import Derived.Test.YtjpjohchdfoeaaaRuns
import Derived.Test.YtjpjohchdfoeaaaEx2
namespace Go.Proofs.Ytjpjohchdfoeaaa
open Go Go.Sim
set_option linter.unusedSimpArgs false
set_option linter.unusedVariables false

section
variable {h0 : Heap} {R : Value → Heap → Prop}
set_option maxRecDepth 10000 in
set_option maxHeartbeats 1000000 in
theorem runs_loop {B p c p' c' w hh ga gb sb : Nat} {s t u1 u2 bv : Value} {o : Int} {m : MD} {ps qs bits : List Int} (hbl : bits.length < 1000000) (hp : Ints h0 u1 ps) (hq : Ints h0 u2 qs) (hlen : qs.length = ps.length) (hl : ps.length ≤ 12) (hbox : blk? h0 B = some ⟨false, [.int .i64 w, .int .i64 hh, s, t, .int .i64 o, .bool m.byp, .bool m.res, .bool m.rst, .bool m.cz, .bool m.sy]⟩)
    (w2 : w ≤ 64) (hh2 : hh ≤ 64) {k : List RItem}
    (hk : ∀ (H : Heap) (K0 K1 K2 K3 K4 K5 K6 K7 K9 Ka Kb Kc Kd Ke Kf Kg Kh Ki Kj Kk Kl Km Kn Ko Kp Kq Kr Ks Kt Ku Kv Kw Kx Ky Kz J0 J1 J2 J3 J4 J5 J6 J7 J8 J9 Ja Jb Jc Jd Je Jf Jg Jh Ji Jj Jk Jl Jm Jn Jo Jp Jq Jr Js Jt Ju Jv Jw Jx Jy Jz Y0 Y1 Y2 Y3 Y4 Y5 Y6 Y7 Y8 Y9 Ya Yb Yc Yd Ye Yf Yg Yh Yi Yj Yk Yl Ym Yn Yo Yp Yq : Value), Ok tab R3 k #[K0,K1,K2,K3,K4,K5,K6,K7,.bool false,K9,Ka,Kb,Kc,Kd,Ke,Kf,Kg,Kh,Ki,Kj,Kk,Kl,Km,Kn,Ko,Kp,Kq,Kr,Ks,Kt,Ku,Kv,Kw,Kx,Ky,Kz,J0,J1,J2,J3,J4,J5,J6,J7,J8,J9,Ja,Jb,Jc,Jd,Je,Jf,Jg,Jh,Ji,Jj,Jk,Jl,Jm,Jn,Jo,Jp,Jq,Jr,Js,Jt,Ju,Jv,Jw,Jx,Jy,Jz,Y0,Y1,Y2,Y3,Y4,Y5,Y6,Y7,Y8,Y9,Ya,Yb,Yc,Yd,Ye,Yf,Yg,Yh,Yi,Yj,Yk,Yl,Ym,Yn,Yo,Yp,Yq] H R) :
    ∀ (n i : Nat) (H : Heap) (gv av : Value) (b : BS) (l : List (Int × Int)) (K0 K3 K5 K6 Kd Ke Kf Kg Kh Ki Kj Kk Kl Km Kn Ko Kp Kq Kr Ks Kt Ku Kv Kw Kx Ky Kz J0 J1 J2 J3 J4 J5 J6 J7 Jb Jc Jd Je Jf Jg Jh Ji Jj Jk Jl Jm Jn Jo Jp Jq Jr Js Jt Ju Jv Jw Jx Jy Jz Y0 Y1 Y2 Y3 Y4 Y5 Y6 Y7 Y8 Y9 Ya Yb Yc Yd Ye Yf Yg Yh Yi Yj Yk Yl Ym Yn Yo Yp Yq : Value), n = ps.length - i → i ≤ ps.length → RL h0 H p c p' c' w hh ga gb sb bv bits gv av b l → l.length ≤ 20000 * i →
      Ok tab R3 (.inLoop L3_0 :: .inBlock 0 :: k) #[K0,u1,u2,K3,ptr B,K5,K6,ptr gb,.bool false,ptr p,ptr p',ptr ga,ptr sb,Kd,Ke,Kf,Kg,Kh,Ki,Kj,Kk,Kl,Km,Kn,Ko,Kp,Kq,Kr,Ks,Kt,Ku,Kv,Kw,Kx,Ky,Kz,J0,J1,J2,J3,J4,J5,J6,J7,u1,.int .i64 ps.length,.int .i64 i,Jb,Jc,Jd,Je,Jf,Jg,Jh,Ji,Jj,Jk,Jl,Jm,Jn,Jo,Jp,Jq,Jr,Js,Jt,Ju,Jv,Jw,Jx,Jy,Jz,Y0,Y1,Y2,Y3,Y4,Y5,Y6,Y7,Y8,Y9,Ya,Yb,Yc,Yd,Ye,Yf,Yg,Yh,Yi,Yj,Yk,Yl,Ym,Yn,Yo,Yp,Yq] H R := by
  intro n
  induction n with
  | zero =>
    intro i H gv av b l K0 K3 K5 K6 Kd Ke Kf Kg Kh Ki Kj Kk Kl Km Kn Ko Kp Kq Kr Ks Kt Ku Kv Kw Kx Ky Kz J0 J1 J2 J3 J4 J5 J6 J7 Jb Jc Jd Je Jf Jg Jh Ji Jj Jk Jl Jm Jn Jo Jp Jq Jr Js Jt Ju Jv Jw Jx Jy Jz Y0 Y1 Y2 Y3 Y4 Y5 Y6 Y7 Y8 Y9 Ya Yb Yc Yd Ye Yf Yg Yh Yi Yj Yk Yl Ym Yn Yo Yp Yq hn hi rl hll
    have hlt : ¬ ((i : Int) < ps.length) := by omega
    rw [ok_round, l3_0, L3_0a, L3_0b]
    simp [hlt]
    exact hk H _ _ _ _ _ _ _ _ _ _ _ _ _ _ _ _ _ _ _ _ _ _ _ _ _ _ _ _ _ _ _ _ _ _ _ _ _ _ _ _ _ _ _ _ _ _ _ _ _ _ _ _ _ _ _ _ _ _ _ _ _ _ _ _ _ _ _ _ _ _ _ _ _ _ _ _ _ _ _ _ _ _ _ _ _ _ _ _ _ _ _ _ _ _ _ _ _ _
  | succ n ih =>
    intro i H gv av b l K0 K3 K5 K6 Kd Ke Kf Kg Kh Ki Kj Kk Kl Km Kn Ko Kp Kq Kr Ks Kt Ku Kv Kw Kx Ky Kz J0 J1 J2 J3 J4 J5 J6 J7 Jb Jc Jd Je Jf Jg Jh Ji Jj Jk Jl Jm Jn Jo Jp Jq Jr Js Jt Ju Jv Jw Jx Jy Jz Y0 Y1 Y2 Y3 Y4 Y5 Y6 Y7 Y8 Y9 Ya Yb Yc Yd Ye Yf Yg Yh Yi Yj Yk Yl Ym Yn Yo Yp Yq hn hi rl hll
    have hlt : ((i : Int) < ps.length) := by omega
    have hia : i < ps.length := by omega
    have hib : i < qs.length := by omega
    have hltq : ((i : Int) < qs.length) := by omega
    have hw1 : IntKind.i64.wrap ((i : Int) + 1) = ((i + 1 : Nat) : Int) := wrapN (n := i + 1) (by omega)
    obtain ⟨id1, off1, b1, hs1, hb1, hc1⟩ := hp.get hia
    obtain ⟨id2, off2, b2, hs2, hb2, hc2⟩ := hq.get hib
    have up : ∀ {H : Heap}, (∀ id, id < h0.length → blk? H id = blk? h0 id) → ∀ {id : Nat} {x : Blk}, blk? h0 id = some x → blk? H id = some x := fun t _ _ hx => by rw [t _ (blk?_lt hx)]; exact hx
    obtain ⟨e, H1, H2, gv', av', b', l', e1, e2, hsb, hav, e3, rl2, hsz, lo1, lo2⟩ := runs_step hbl rl (by omega) ps[i] qs[i] o m
    have a1 := up rl.tb.low hb1
    have a2 := up rl.tb.low hb2
    have a3 := up rl.tb.low hbox
    have c1 := up lo1 hb1
    have c2 := up lo1 hb2
    have c3 := up lo1 hbox
    have d3 := up lo2 hbox
    have hsm := fun R => same_eq (R := R) rl2.tb.cb rl2.tb.cb' (w := w) (hh := hh) (by omega) (by omega)
    have ih' := fun K0 K3 K5 K6 Kd Ke Kf Kg Kh Ki Kj Kk Kl Km Kn Ko Kp Kq Kr Ks Kt Ku Kv Kw Kx Ky Kz J0 J1 J2 J3 J4 J5 J6 J7 Jb Jc Jd Je Jf Jg Jh Ji Jj Jk Jl Jm Jn Jo Jp Jq Jr Js Jt Ju Jv Jw Jx Jy Jz Y0 Y1 Y2 Y3 Y4 Y5 Y6 Y7 Y8 Y9 Ya Yb Yc Yd Ye Yf Yg Yh Yi Yj Yk Yl Ym Yn Yo Yp Yq => ih (i + 1) H2 gv' av' b' l' K0 K3 K5 K6 Kd Ke Kf Kg Kh Ki Kj Kk Kl Km Kn Ko Kp Kq Kr Ks Kt Ku Kv Kw Kx Ky Kz J0 J1 J2 J3 J4 J5 J6 J7 Jb Jc Jd Je Jf Jg Jh Ji Jj Jk Jl Jm Jn Jo Jp Jq Jr Js Jt Ju Jv Jw Jx Jy Jz Y0 Y1 Y2 Y3 Y4 Y5 Y6 Y7 Y8 Y9 Ya Yb Yc Yd Ye Yf Yg Yh Yi Yj Yk Yl Ym Yn Yo Yp Yq (by omega) (by omega) rl2 (by omega)
    rw [ok_round, l3_0, L3_0a, L3_0b]
    simp only [MD.val] at e1 e2
    generalize ps[i] = pi at *
    generalize qs[i] = qi at *
    generalize ((i + 1 : Nat) : Int) = wi at *
    subst hs1
    subst hs2
    simp [hlt, hltq, hia, hib, a1, a2, a3, c1, c2, c3, d3, hc1, hc2, e1, e2, e3, hsb, hav, hsm, hw1, k_guard, k_guardU]
    exact ih' _ _ _ _ _ _ _ _ _ _ _ _ _ _ _ _ _ _ _ _ _ _ _ _ _ _ _ _ _ _ _ _ _ _ _ _ _ _ _ _ _ _ _ _ _ _ _ _ _ _ _ _ _ _ _ _ _ _ _ _ _ _ _ _ _ _ _ _ _ _ _ _ _ _ _ _ _ _ _ _ _ _ _ _ _ _ _
end
set_option maxRecDepth 10000 in
set_option maxHeartbeats 1000000 in
theorem ret_runs {h : Heap} {i : Inp} {s t u1 u2 u3 : Value} {ps qs bits zs : List Int} (hi : Ints h s i.xs) (ht : Sl h 1 t zs.length (zs.map fun z => .int .u8 z)) (tb : below h.length t = true) (ct : Sim.isCell t = true) (hp : Ints h u1 ps) (hq : Ints h u2 qs) (hbt : Ints h u3 bits) :
    Ret tab 3 [i.val s t, u1, u2, u3] h fun v _ => v = .bool true := by
  obtain ⟨w, hh, xs, fl, o, ⟨byp, res, rst, cz, sy⟩⟩ := i
  simp only at hi
  obtain ⟨pa, pc, hps⟩ := hp.sl.shape
  obtain ⟨qa, qc, hqs⟩ := hq.sl.shape
  obtain ⟨ra, rc, rfl⟩ := hbt.sl.shape
  generalize hH : h ++ [some (⟨false, [.int .i64 w, .int .i64 hh, s, t, .int .i64 o, .bool byp, .bool res, .bool rst, .bool cz, .bool sy]⟩ : Blk), some ⟨false, [(.slice ra bits.length rc)]⟩] = H
  have hbox : blk? H h.length = some ⟨false, [.int .i64 w, .int .i64 hh, s, t, .int .i64 o, .bool byp, .bool res, .bool rst, .bool cz, .bool sy]⟩ := by rw [← hH, app_len]; rfl
  have hbbx : blk? H (h.length + 1) = some ⟨false, [(.slice ra bits.length rc)]⟩ := by rw [← hH, app_add]; rfl
  have hlow : ∀ id, id < h.length → blk? H id = blk? h id := fun id hid => by rw [← hH]; exact app_lt hid
  have hlen : H.length = h.length + 2 := by rw [← hH]; simp
  have hiH : Ints H s xs := hi.keep (by omega) (fun id hid _ => hlow id hid)
  have hpH : Ints H u1 ps := hp.keep (by omega) (fun id hid _ => hlow id hid)
  have hqH : Ints H u2 qs := hq.keep (by omega) (fun id hid _ => hlow id hid)
  have hbH : Ints H (.slice ra bits.length rc) bits := hbt.keep (by omega) (fun id hid _ => hlow id hid)
  have htH : Sl H 1 t zs.length (zs.map fun z => .int .u8 z) := ht.of_sid fun id b _ hb => by rw [hlow _ (blk?_lt hb)]; exact hb
  have hsm := fun R => small_eq (R := R) (i := ⟨w, hh, xs, fl, o, ⟨byp, res, rst, cz, sy⟩⟩) hiH (below_mono (by omega) t tb) ct
  have hu3 : ∀ id, sid (Value.slice ra bits.length rc) = some id → id < h.length := fun id hid => by
    have := hbt.sb
    cases ra with
    | none => simp [sid] at hid
    | some a => simp [sid] at hid this; omega
  simp only [Inp.val] at hsm ⊢
  rw [enter3, B3]
  by_cases hS : Small ⟨w, hh, xs, fl, o, ⟨byp, res, rst, cz, sy⟩⟩
  · rw [decide_eq_true hS] at hsm
    by_cases q1 : 12 < ps.length
    · have q1' : (12 : Int) < ps.length := by omega
      simp [hH, hbox, hsm, hps, hqs, q1, q1', example_eq, k_guard, k_guardU, fin3]
    · have q1' : ¬ (12 : Int) < ps.length := by omega
      by_cases q2 : qs.length = ps.length
      · have q2' : ((qs.length : Int) != ps.length) = false := by simp [q2]
        by_cases q3 : 5000 < bits.length
        · have q3' : (5000 : Int) < bits.length := by omega
          simp [hH, hbox, hbbx, hsm, hps, hqs, q1, q1', q2, q2', q3, q3', example_eq, k_guard, k_guardU, fin3]
        have q3' : ¬ (5000 : Int) < bits.length := by omega
        obtain ⟨hl1, hl2⟩ := small_len hS
        have hrr := inR_planes.2 hS.2.2
        obtain ⟨⟨⟨w1, w2⟩, h1, h2⟩, _, _⟩ := hS
        simp only at hl1 hl2 hrr w1 w2 h1 h2
        obtain ⟨wn, rfl⟩ := Int.eq_ofNat_of_zero_le (show 0 ≤ w by omega)
        obtain ⟨hn, rfl⟩ := Int.eq_ofNat_of_zero_le (show 0 ≤ hh by omega)
        rw [Int.toNat_natCast, Int.toNat_natCast] at hl1
        obtain ⟨p, c, p', c', b, H1, e1, tw⟩ := build_eq (m := ⟨byp, res, rst, cz, sy⟩) (o := o) hiH htH (by omega) (by omega) (by omega) (by omega) hl1 hrr
        simp only at e1
        generalize hH2 : H1 ++ [some (⟨false, [.slice none 0 0]⟩ : Blk), some ⟨false, [.pointer none, .pointer none, (.slice ra bits.length rc), .slice none 0 0]⟩] = H2
        have low2 : ∀ id, id < H1.length → blk? H2 id = blk? H1 id := fun id hid => by rw [← hH2]; exact app_lt hid
        have len2 : H2.length = H1.length + 2 := by rw [← hH2]; simp
        have tw2 := tw.keep low2 (by omega)
        have lc := blk?_lt tw.cb.blkc
        have lc' := blk?_lt tw.cb'.blkc
        have lp := blk?_lt tw.cb.blkp
        have lp' := blk?_lt tw.cb'.blkp
        have l0 := tw.len
        have hbl : bits.length < 1000000 := by omega
        have sl2 : Sl H2 1 (.slice ra bits.length rc) bits.length (i64s bits) := hbH.sl.of_sid fun id b _ hb => by rw [tw2.low _ (blk?_lt hb)]; exact hb
        have rl : RL H H2 p c p' c' wn hn H1.length (h.length + 1) (H1.length + 1) (.slice ra bits.length rc) bits (.slice none 0 0) (.slice none 0 0) b [] := by
          refine ⟨tw2, ⟨by rw [← hH2, app_len]; rfl, by rw [tw2.low _ (by omega)]; exact hbbx, OwnS.nil _ _, sl2, fun id hid => ?_, fun id hid => by simp [sid] at hid, ⟨by omega, by have := tw.far; omega, by omega⟩, by omega⟩,
            ⟨by rw [← hH2, app_add]; rfl, OwnS.nil _ _, sl2, fun id hid => ?_, fun id hid => by simp [sid] at hid, by omega, by omega⟩, ?_, ?_, by omega, fun id hid => by have := hu3 id hid; omega⟩
          · have := hu3 id hid
            have := tw.far
            exact ⟨by omega, by omega, by omega, by simp [sid]⟩
          · have := hu3 id hid
            have := tw.far
            exact ⟨by omega, by omega, by omega, by simp [sid]⟩
          · rintro id (rfl | e)
            · exact ⟨by omega, by omega, by omega, by omega, by rintro (e | e) <;> simp [sid] at e⟩
            · simp [sid] at e
          · rintro id (rfl | e)
            · exact ⟨by omega, by omega, by omega, by omega, by omega⟩
            · simp [sid] at e
        have hb1 : blk? H1 h.length = some ⟨false, [.int .i64 wn, .int .i64 hn, s, t, .int .i64 o, .bool byp, .bool res, .bool rst, .bool cz, .bool sy]⟩ := (tw.low _ (by omega)).trans hbox
        have hb2 : blk? H1 (h.length + 1) = some ⟨false, [(.slice ra bits.length rc)]⟩ := (tw.low _ (by omega)).trans hbbx
        have hb3 : blk? (H1 ++ [some (⟨false, [.slice none 0 0]⟩ : Blk)]) (h.length + 1) = some ⟨false, [(.slice ra bits.length rc)]⟩ := blk?_push hb2
        have hgo := fun (k : List RItem) hk => runs_loop (B := h.length) (p := p) (c := c) (p' := p') (c' := c') (w := wn) (hh := hn) (ga := H1.length) (gb := h.length + 1) (sb := H1.length + 1) (s := s) (t := t) (u1 := u1) (u2 := u2) (bv := (.slice ra bits.length rc)) (o := o) (m := ⟨byp, res, rst, cz, sy⟩) (k := k) (R := fun v _ => v = .bool true) hbl hpH hqH q2 (by omega) hbox (by omega) (by omega) hk ps.length 0 H2 (.slice none 0 0) (.slice none 0 0) b []
        simp [hH, hbox, hbbx, hb1, hb2, hb3, hsm, hps, hqs, q1, q1', q2, q2', q3, q3', e1, app_len, app_add, app_zero, app_succ, hH2, k_guard, k_guardU, fin3]
        rw [← q2, ← hqs, q2, ← hps]
        refine hgo _ ?_ _ _ _ _ _ _ _ _ _ _ _ _ _ _ _ _ _ _ _ _ _ _ _ _ _ _ _ _ _ _ _ _ _ _ _ _ _ _ _ _ _ _ _ _ _ _ _ _ _ _ _ _ _ _ _ _ _ _ _ _ _ _ _ _ _ _ _ _ _ _ _ _ _ _ _ _ _ _ _ _ _ _ _ _ _ _ _ rfl (Nat.zero_le _) rl (by simp)
        intro H' K0 K1 K2 K3 K4 K5 K6 K7 K9 Ka Kb Kc Kd Ke Kf Kg Kh Ki Kj Kk Kl Km Kn Ko Kp Kq Kr Ks Kt Ku Kv Kw Kx Ky Kz J0 J1 J2 J3 J4 J5 J6 J7 J8 J9 Ja Jb Jc Jd Je Jf Jg Jh Ji Jj Jk Jl Jm Jn Jo Jp Jq Jr Js Jt Ju Jv Jw Jx Jy Jz Y0 Y1 Y2 Y3 Y4 Y5 Y6 Y7 Y8 Y9 Ya Yb Yc Yd Ye Yf Yg Yh Yi Yj Yk Yl Ym Yn Yo Yp Yq
        simp [example_eq, fin3]
      · have q2' : ((qs.length : Int) != ps.length) = true := by simp; omega
        simp [hH, hbox, hsm, hps, hqs, q1, q1', q2, q2', example_eq, k_guard, k_guardU, fin3]
  · rw [decide_eq_false hS] at hsm
    simp [hH, hbox, hsm, example_eq, k_guard, k_guardU, fin3]
end Go.Proofs.Ytjpjohchdfoeaaa
