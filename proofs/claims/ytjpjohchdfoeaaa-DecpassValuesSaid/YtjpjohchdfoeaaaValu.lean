/-
  DecpassValues: the walk.
-/
import Derived.Test.YtjpjohchdfoeaaaValR3
import Derived.Test.YtjpjohchdfoeaaaEx2
namespace Go.Proofs.Ytjpjohchdfoeaaa
open Go Go.Sim
set_option linter.unusedSimpArgs false
set_option linter.unusedVariables false

theorem vLoop_len {m : MD} {P o : Nat} (hP : P ≤ 60) (ho : o ≤ 3) : ∀ (ls : List (List (Int × Int))) (n : Nat) (b : BS), b.Good → (ls ≠ [] → 1 ≤ P) → b.Le (vLoop m P o n b ls).1
  | [], n, b, hg, _ => BS.Le.refl hg
  | l :: ls, n, b, hg, h1 => by
    have hle := (Tr.Lv.out (A := askV) (size := fun _ => 0) (fun _ _ => by simp) (l, false) (lv_dRun hg (m := m) (n := n) (planes := P) (o := o) (runPP_ok hP (h1 (by simp)) ho))).1
    obtain ⟨pl1, pl2⟩ := askV_play (dRun m b n P o) l
    rw [vLoop]
    cases hp : (dRun m b n P o).play l with
    | none => exact BS.Le.refl hg
    | some q =>
      obtain ⟨r, l'⟩ := q
      rw [pl1 _ _ hp] at hle
      simp only at hle ⊢
      split
      · exact hle
      · cases l' with
        | nil => exact hle.trans (vLoop_len hP ho ls (n + 1) r.1 hle.good (fun _ => h1 (by simp)))
        | cons y l' => exact hle
theorem valRes_len {ls : List (List (Int × Int))} {P w hh o : Int} {m : MD} : (valRes ls P w hh o m).2.1.length ≤ 4096 ∧ (valRes ls P w hh o m).2.2.length ≤ 4096 := by
  unfold valRes
  split
  · simp
  · rename_i h0
    simp only [ne_eq, Decidable.not_not] at h0
    have hc : (1 ≤ w ∧ w ≤ 64 ∧ 1 ≤ hh ∧ hh ≤ 64) ∧ 0 ≤ P ∧ P ≤ 60 ∧ (ls.length : Int) ≤ max 0 (3 * P - 2) ∧ 0 ≤ o ∧ o ≤ 3 := by
      unfold valErr at h0
      split at h0
      · cases h0
      · rename_i g1
        split at h0
        · cases h0
        · split at h0
          · cases h0
          · simp [sized] at g1
            omega
    have hle := vLoop_len (m := m) (P := P.toNat) (o := o.toNat) (by omega) (by omega) ls 0 (newBS w.toNat hh.toNat) (newBS_good (by omega) (by omega) (by omega) (by omega)) (fun hne => by
      have : 0 < ls.length := List.length_pos_iff.2 hne
      omega)
    have hlen : (vLoop m P.toNat o.toNat 0 (newBS w.toNat hh.toNat) ls).1.cs.length ≤ 4096 := by
      have h1 := hle.good.ok.len
      have h2 := hle.good.ok.w2
      have h3 := hle.good.ok.h2
      have := Nat.mul_le_mul h2 h3
      omega
    simp only
    split
    · simp
    · simp only [List.length_map]; exact ⟨hlen, hlen⟩

/-- The lengths, added up as the program adds. -/
def wsum (a : Int) : List (List (Int × Int)) → Int
  | [] => a
  | l :: ls => wsum (IntKind.i64.wrap (a + (l.length : Int))) ls
def tsum (ls : List (List (Int × Int))) : Nat := (ls.map List.length).sum
theorem wsum_eq : ∀ (ls : List (List (Int × Int))) (a : Nat), a + tsum ls < 9223372036854775808 → wsum a ls = ((a + tsum ls : Nat) : Int)
  | [], a, _ => by simp [wsum, tsum]
  | l :: ls, a, h => by
    have e : tsum (l :: ls) = l.length + tsum ls := by simp [tsum]
    rw [e] at h ⊢
    rw [wsum, show (a : Int) + (l.length : Int) = ((a + l.length : Nat) : Int) by omega, wrapN (by omega), wsum_eq ls (a + l.length) (by omega)]
    congr 1; omega
theorem tsum_mem {ls : List (List (Int × Int))} {l : List (Int × Int)} (h : l ∈ ls) : l.length ≤ tsum ls := by
  induction ls with
  | nil => cases h
  | cons x ls ih =>
    have e : tsum (x :: ls) = x.length + tsum ls := by simp [tsum]
    rw [e]
    rcases List.mem_cons.1 h with rfl | h
    · omega
    · have := ih h; omega

section
variable {h : Heap} {R : Value → Heap → Prop}
set_option maxRecDepth 10000 in
theorem len_loop {s v1 : Value} {vs : List Value} {ls : List (List (Int × Int))} (hp : PsI h s vs ls) (hl : ls.length < 4611686018427387904) {k : List RItem}
    (hk : ∀ K0 K4 K5 K6 K7 K8 K9 Ka Kb Kc Kd Ke Kf Kg Kh Ki Kj Kk Kl Km Kn Ko Kp Kq Kr Ks Kt Ku Kv Kw Kx Ky Kz J0 J1 J2 J3 J4 J5 J6 J7 J8 J9 Ja Jb Jc Jd Je Jf Jg Jh Ji Jj Jk Jl Jm Jn Jo Jp Jq Jr Js Jt Ju Jv Jw Jx Jy Jz Y0 Y1 Y2 Y3 Y4 Y5 Y6 Y7 Y8 Y9 Ya Yb Yc Yd Ye Yf Yg Yh Yi Yj Yk Yl Ym Yn Yo Yp Yq Yr Ys Yt Yu : Value, Ok tab R4 k #[K0,v1,.bool false,.int .i64 (wsum 0 ls),K4,K5,K6,K7,K8,K9,Ka,Kb,Kc,Kd,Ke,Kf,Kg,Kh,Ki,Kj,Kk,Kl,Km,Kn,Ko,Kp,Kq,Kr,Ks,Kt,Ku,Kv,Kw,Kx,Ky,Kz,J0,J1,J2,J3,J4,J5,J6,J7,J8,J9,Ja,Jb,Jc,Jd,Je,Jf,Jg,Jh,Ji,Jj,Jk,Jl,Jm,Jn,Jo,Jp,Jq,Jr,Js,Jt,Ju,Jv,Jw,Jx,Jy,Jz,Y0,Y1,Y2,Y3,Y4,Y5,Y6,Y7,Y8,Y9,Ya,Yb,Yc,Yd,Ye,Yf,Yg,Yh,Yi,Yj,Yk,Yl,Ym,Yn,Yo,Yp,Yq,Yr,Ys,Yt,Yu] h R) :
    ∀ (n i : Nat) (acc : Int) (K0 K4 K5 K6 K7 K8 K9 Ka Kb Kc Kg Kh Ki Kj Kk Kl Km Kn Ko Kp Kq Kr Ks Kt Ku Kv Kw Kx Ky Kz J0 J1 J2 J3 J4 J5 J6 J7 J8 J9 Ja Jb Jc Jd Je Jf Jg Jh Ji Jj Jk Jl Jm Jn Jo Jp Jq Jr Js Jt Ju Jv Jw Jx Jy Jz Y0 Y1 Y2 Y3 Y4 Y5 Y6 Y7 Y8 Y9 Ya Yb Yc Yd Ye Yf Yg Yh Yi Yj Yk Yl Ym Yn Yo Yp Yq Yr Ys Yt Yu : Value), n = ls.length - i → i ≤ ls.length → wsum acc (ls.drop i) = wsum 0 ls →
      Ok tab R4 (.inLoop L4_0 :: .inBlock 0 :: k) #[K0,v1,.bool false,.int .i64 acc,K4,K5,K6,K7,K8,K9,Ka,Kb,Kc,s,.int .i64 ls.length,.int .i64 i,Kg,Kh,Ki,Kj,Kk,Kl,Km,Kn,Ko,Kp,Kq,Kr,Ks,Kt,Ku,Kv,Kw,Kx,Ky,Kz,J0,J1,J2,J3,J4,J5,J6,J7,J8,J9,Ja,Jb,Jc,Jd,Je,Jf,Jg,Jh,Ji,Jj,Jk,Jl,Jm,Jn,Jo,Jp,Jq,Jr,Js,Jt,Ju,Jv,Jw,Jx,Jy,Jz,Y0,Y1,Y2,Y3,Y4,Y5,Y6,Y7,Y8,Y9,Ya,Yb,Yc,Yd,Ye,Yf,Yg,Yh,Yi,Yj,Yk,Yl,Ym,Yn,Yo,Yp,Yq,Yr,Ys,Yt,Yu] h R := by
  intro n
  induction n with
  | zero =>
    intro i acc K0 K4 K5 K6 K7 K8 K9 Ka Kb Kc Kg Kh Ki Kj Kk Kl Km Kn Ko Kp Kq Kr Ks Kt Ku Kv Kw Kx Ky Kz J0 J1 J2 J3 J4 J5 J6 J7 J8 J9 Ja Jb Jc Jd Je Jf Jg Jh Ji Jj Jk Jl Jm Jn Jo Jp Jq Jr Js Jt Ju Jv Jw Jx Jy Jz Y0 Y1 Y2 Y3 Y4 Y5 Y6 Y7 Y8 Y9 Ya Yb Yc Yd Ye Yf Yg Yh Yi Yj Yk Yl Ym Yn Yo Yp Yq Yr Ys Yt Yu hn hi ha
    have hlt : ¬ ((i : Int) < ls.length) := by omega
    rw [List.drop_of_length_le (by omega), wsum] at ha
    subst ha
    rw [ok_round, l4_0, L4_0a, L4_0b]
    simp [hlt]
    exact hk _ _ _ _ _ _ _ _ _ _ _ _ _ _ _ _ _ _ _ _ _ _ _ _ _ _ _ _ _ _ _ _ _ _ _ _ _ _ _ _ _ _ _ _ _ _ _ _ _ _ _ _ _ _ _ _ _ _ _ _ _ _ _ _ _ _ _ _ _ _ _ _ _ _ _ _ _ _ _ _ _ _ _ _ _ _ _ _ _ _ _ _ _ _ _ _ _ _ _ _
  | succ n ih =>
    intro i acc K0 K4 K5 K6 K7 K8 K9 Ka Kb Kc Kg Kh Ki Kj Kk Kl Km Kn Ko Kp Kq Kr Ks Kt Ku Kv Kw Kx Ky Kz J0 J1 J2 J3 J4 J5 J6 J7 J8 J9 Ja Jb Jc Jd Je Jf Jg Jh Ji Jj Jk Jl Jm Jn Jo Jp Jq Jr Js Jt Ju Jv Jw Jx Jy Jz Y0 Y1 Y2 Y3 Y4 Y5 Y6 Y7 Y8 Y9 Ya Yb Yc Yd Ye Yf Yg Yh Yi Yj Yk Yl Ym Yn Yo Yp Yq Yr Ys Yt Yu hn hi ha
    have hlt : ((i : Int) < ls.length) := by omega
    have hil : i < ls.length := by omega
    have hivs : i < vs.length := by rw [hp.len]; exact hil
    have hw : IntKind.i64.wrap ((i : Int) + 1) = ((i + 1 : Nat) : Int) := wrapN (n := i + 1) (by omega)
    obtain ⟨id, off, bk, hs, hbk, hc⟩ := hp.sl.get hivs
    have hc0 := hc 0 (by omega)
    rw [Nat.mul_one, Nat.add_zero, Nat.add_zero, List.getElem?_eq_getElem hivs] at hc0
    obtain ⟨a2, c2, hsh⟩ := (hp.each i hivs hil).shape
    rw [hsh] at hc0
    rw [List.drop_eq_getElem_cons hil, wsum] at ha
    have ih' := fun K0 K4 K5 K6 K7 K8 K9 Ka Kb Kc Kg Kh Ki Kj Kk Kl Km Kn Ko Kp Kq Kr Ks Kt Ku Kv Kw Kx Ky Kz J0 J1 J2 J3 J4 J5 J6 J7 J8 J9 Ja Jb Jc Jd Je Jf Jg Jh Ji Jj Jk Jl Jm Jn Jo Jp Jq Jr Js Jt Ju Jv Jw Jx Jy Jz Y0 Y1 Y2 Y3 Y4 Y5 Y6 Y7 Y8 Y9 Ya Yb Yc Yd Ye Yf Yg Yh Yi Yj Yk Yl Ym Yn Yo Yp Yq Yr Ys Yt Yu => ih (i + 1) _ K0 K4 K5 K6 K7 K8 K9 Ka Kb Kc Kg Kh Ki Kj Kk Kl Km Kn Ko Kp Kq Kr Ks Kt Ku Kv Kw Kx Ky Kz J0 J1 J2 J3 J4 J5 J6 J7 J8 J9 Ja Jb Jc Jd Je Jf Jg Jh Ji Jj Jk Jl Jm Jn Jo Jp Jq Jr Js Jt Ju Jv Jw Jx Jy Jz Y0 Y1 Y2 Y3 Y4 Y5 Y6 Y7 Y8 Y9 Ya Yb Yc Yd Ye Yf Yg Yh Yi Yj Yk Yl Ym Yn Yo Yp Yq Yr Ys Yt Yu (by omega) (by omega) ha
    rw [ok_round, l4_0, L4_0a, L4_0b]
    rw [hp.len] at hs hivs
    generalize ((i + 1 : Nat) : Int) = wi at *
    subst hs
    simp [hlt, hil, hivs, hbk, hc0, hw]
    exact ih' _ _ _ _ _ _ _ _ _ _ _ _ _ _ _ _ _ _ _ _ _ _ _ _ _ _ _ _ _ _ _ _ _ _ _ _ _ _ _ _ _ _ _ _ _ _ _ _ _ _ _ _ _ _ _ _ _ _ _ _ _ _ _ _ _ _ _ _ _ _ _ _ _ _ _ _ _ _ _ _ _ _ _ _ _ _ _ _ _ _ _ _ _ _ _ _ _
end
set_option maxRecDepth 10000 in
set_option maxHeartbeats 2000000 in
theorem ret_values {h : Heap} {s : Value} {vs : List Value} {ls : List (List (Int × Int))} (hp : PsI h s vs ls) (hl : ls.length < 4611686018427387904) (hsum : ls.length ≤ 178 → tsum ls < 9223372036854775808) {P w hh o : Int} {m : MD} (hPr : -9223372036854775808 ≤ P ∧ P < 9223372036854775808) :
    Ret tab 4 [.agg #[s, .int .i64 P, .int .i64 w, .int .i64 hh, .int .i64 o, .bool m.byp, .bool m.res, .bool m.rst, .bool m.cz, .bool m.sy]] h fun v _ => v = .bool true := by
  obtain ⟨a0, c0, hss⟩ := hp.sl.shape
  rw [hp.len] at hss
  generalize hH : h ++ [some (⟨false, [s, .int .i64 P, .int .i64 w, .int .i64 hh, .int .i64 o, .bool m.byp, .bool m.res, .bool m.rst, .bool m.cz, .bool m.sy]⟩ : Blk)] = H
  have hbox : blk? H h.length = some ⟨false, [s, .int .i64 P, .int .i64 w, .int .i64 hh, .int .i64 o, .bool m.byp, .bool m.res, .bool m.rst, .bool m.cz, .bool m.sy]⟩ := by rw [← hH]; exact blk?_push_eq
  have hlow : ∀ id, id < h.length → blk? H id = blk? h id := fun id hid => by rw [← hH]; exact blk?_push_lt hid
  have hlen : H.length = h.length + 1 := by rw [← hH]; simp
  have hpH : PsI H s vs ls := hp.keep (by omega) hlow
  rw [enter4, show B4 = .seq (nthC 0 B4) (.seq (nthC 1 B4) (.seq (nthC 2 B4) (tlC 3 B4))) from rfl]
  generalize hT : tlC 3 B4 = tl
  simp only [nthC, tlC, fstC, B4]
  have hloop := fun (k : List RItem) hk => len_loop (v1 := ptr h.length) (R := fun v _ => v = .bool true) (k := k) hpH hl hk ls.length 0 0
  rw [hss] at hloop hH hbox
  rw [hss]
  simp [hH, hbox]
  refine hloop _ ?_ _ _ _ _ _ _ _ _ _ _ _ _ _ _ _ _ _ _ _ _ _ _ _ _ _ _ _ _ _ _ _ _ _ _ _ _ _ _ _ _ _ _ _ _ _ _ _ _ _ _ _ _ _ _ _ _ _ _ _ _ _ _ _ _ _ _ _ _ _ _ _ _ _ _ _ _ _ _ _ _ _ _ _ _ _ _ _ _ _ _ _ _ _ _ _ _ _ rfl (Nat.zero_le _) rfl
  intro K0 K4 K5 K6 K7 K8 K9 Ka Kb Kc Kd Ke Kf Kg Kh Ki Kj Kk Kl Km Kn Ko Kp Kq Kr Ks Kt Ku Kv Kw Kx Ky Kz J0 J1 J2 J3 J4 J5 J6 J7 J8 J9 Ja Jb Jc Jd Je Jf Jg Jh Ji Jj Jk Jl Jm Jn Jo Jp Jq Jr Js Jt Ju Jv Jw Jx Jy Jz Y0 Y1 Y2 Y3 Y4 Y5 Y6 Y7 Y8 Y9 Ya Yb Yc Yd Ye Yf Yg Yh Yi Yj Yk Yl Ym Yn Yo Yp Yq Yr Ys Yt Yu
  rw [← hT]
  simp only [tlC, B4]
  by_cases c1 : 178 < ls.length
  · have c1' : (178 : Int) < ls.length := by omega
    simp [k_guard, k_guardU, hbox, c1, c1', example_eq, fin4]
  have c1' : ¬ (178 : Int) < ls.length := by omega
  have hws := wsum_eq ls 0 (by have := hsum (by omega); omega)
  rw [Nat.zero_add] at hws
  rw [show wsum 0 ls = ((tsum ls : Nat) : Int) from hws]
  by_cases c2 : 6000 < tsum ls
  · have c2' : (6000 : Int) < tsum ls := by omega
    simp [k_guard, k_guardU, hbox, c1, c1', c2, c2', example_eq, fin4]
  have c2' : ¬ (6000 : Int) < tsum ls := by omega
  have hrow : ∀ l ∈ ls, l.length < 900000 := fun l hm => by have := tsum_mem hm; omega
  -- both
  obtain ⟨u1, u2, H1, e1, o1⟩ := values_d hpH (by omega) P w hh o hPr m
  have hp1 := hpH.keep o1.len o1.low
  obtain ⟨v1, v2, H2, e2, o2⟩ := values_q hp1 (by omega) hrow P w hh o hPr m
  obtain ⟨n1, n2⟩ := valRes_len (ls := ls) (P := P) (w := w) (hh := hh) (o := o) (m := m)
  have hl1 := o1.len
  have hl2 := o2.len
  have i1 : Iw H2 u1 _ := (iw_own o1.o1).keep hl2 o2.low
  have i2 : Iw H2 u2 _ := (iw_own o1.o2).keep hl2 o2.low
  have hs1 := fun R => sameInts_r (R := R) i1 (iw_own o2.o1) (by omega) (by omega)
  have hs2 := fun R => sameInts_r (R := R) i2 (iw_own o2.o2) (by omega) (by omega)
  have hbox1 := (o1.low h.length (by omega)).trans hbox
  rw [hss] at e1 e2
  simp only [MD.val] at e1 e2
  simp only [decide_true] at hs1 hs2
  generalize valRes ls P w hh o m = r at *
  by_cases c3 : 12 < w
  · by_cases c4 : w ≤ 64
    · simp [k_guard, k_guardP, k_guardU, hbox, c1, c1', c2, c2', c3, c4, example_eq, fin4]
    · by_cases c5 : 12 < hh
      · by_cases c6 : hh ≤ 64
        · simp [k_guard, k_guardP, k_guardU, hbox, c1, c1', c2, c2', c3, c4, c5, c6, example_eq, fin4]
        · simp [k_guard, k_guardP, k_guardU, hbox, hbox1, c1, c1', c2, c2', c3, c4, c5, c6, e1, e2, hs1, hs2, example_eq, fin4]
      · simp [k_guard, k_guardP, k_guardU, hbox, hbox1, c1, c1', c2, c2', c3, c4, c5, e1, e2, hs1, hs2, example_eq, fin4]
  · by_cases c5 : 12 < hh
    · by_cases c6 : hh ≤ 64
      · simp [k_guard, k_guardP, k_guardU, hbox, c1, c1', c2, c2', c3, c5, c6, example_eq, fin4]
      · simp [k_guard, k_guardP, k_guardU, hbox, hbox1, c1, c1', c2, c2', c3, c5, c6, e1, e2, hs1, hs2, example_eq, fin4]
    · simp [k_guard, k_guardP, k_guardU, hbox, hbox1, c1, c1', c2, c2', c3, c5, e1, e2, hs1, hs2, example_eq, fin4]
end Go.Proofs.Ytjpjohchdfoeaaa
