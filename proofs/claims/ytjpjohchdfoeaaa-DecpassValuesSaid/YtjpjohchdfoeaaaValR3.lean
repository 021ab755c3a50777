/-
  A pass of the reference with the bits of symbols.
  A pass of the reference with the bits of symbols: what was asked for, compared.
  A pass of the reference with the bits of symbols: perform.
  Values of the reference: the passes.
  Values of the reference.
  Values of the reference comes to what the program's does.
-/
import Derived.Test.YtjpjohchdfoeaaaSrcR
import Derived.Test.YtjpjohchdfoeaaaVals2
namespace Go.Proofs.Ytjpjohchdfoeaaa
open Go Go.Sim
set_option linter.unusedSimpArgs false
set_option linter.unusedVariables false
/-- The bits of the symbols, being gathered at sb. -/
structure PerL (hM H : Heap) (bv : Value) (l : List Int) : Prop where
  low : ∀ id, id < hM.length → blk? H id = blk? hM id
  sbk : blk? H hM.length = some ⟨false, [.pointer none, .pointer none, bv, .slice none 0 0]⟩
  own : OwnS H 1 bv l.length (i64s l)
  far : ∀ id, sid bv = some id → hM.length < id
  len : hM.length < H.length
theorem PerL.step {hM H : Heap} {bv : Value} {l : List Int} (r : PerL hM H bv l) (hl : l.length < 1000000) (x y : Int) :
    ∃ bv' H', appendV (H ++ [some ⟨false, [.int .i64 x, .int .i64 y]⟩, some ⟨false, [.int .i64 y]⟩]) 1 8 bv (.slice (some ⟨H.length + 1, 0, none⟩) 1 1) = some (bv', H') ∧ blk? H' hM.length = some ⟨false, [.pointer none, .pointer none, bv, .slice none 0 0]⟩ ∧
      (∃ z n, bv' = .slice (some ⟨z, 0, none⟩) n 1) ∧ PerL hM (H'.set hM.length (some ⟨false, [.pointer none, .pointer none, bv', .slice none 0 0]⟩)) bv' (l ++ [y]) := by
  have hsl : Sl (H ++ [some ⟨false, [.int .i64 x, .int .i64 y]⟩, some ⟨false, [.int .i64 y]⟩]) 1 (.slice (some ⟨H.length + 1, 0, none⟩) 1 1) 1 [.int .i64 y] := ⟨by simp, .inr ⟨H.length + 1, 0, rfl, .inr ⟨_, by rw [app_add]; rfl, by simp, by simp⟩⟩⟩
  have ho : OwnS (H ++ [some ⟨false, [.int .i64 x, .int .i64 y]⟩, some ⟨false, [.int .i64 y]⟩]) 1 bv l.length (i64s l) := r.own.of_blk fun id _ hb => by rw [app_lt (blk?_lt hb)]; exact hb
  obtain ⟨H', ha, hK, hHl, hHs⟩ := own_append (bytes := 8) ho hsl (by unfold roomCells; omega) (by omega) (by omega)
  simp only [List.length_append, List.length_cons, List.length_nil, Nat.zero_add, Nat.reduceAdd] at ha hK hHl hHs
  have hlen := r.len
  have hk : ∀ id, id < H.length → sid bv ≠ some id → blk? H' id = blk? H id := fun id hid hne => by rw [hHs id (by omega) hne, app_lt hid]
  have hsb : sid bv ≠ some hM.length := fun e => by have := r.far _ e; omega
  refine ⟨.slice (some ⟨H.length + 2, 0, none⟩) (l.length + 1) 1, H', ha, (hk _ hlen hsb).trans r.sbk, ⟨_, _, rfl⟩, ⟨fun id hid => ?_, blk?_set_eq (by omega), ⟨by simp [i64s], .inr ⟨H.length + 2, by simp, ?_⟩⟩, fun id hid => ?_, by simp; omega⟩⟩
  · rw [blk?_set_ne (by omega), hk id (by omega) (fun e => by have := r.far _ e; omega)]; exact r.low id hid
  · rw [blk?_set_ne (by omega), hK]; simp [i64s]
  · simp [sid] at hid; omega

section
variable {hM : Heap} {R : Value → Heap → Prop}
set_option maxRecDepth 10000 in
theorem per_loop {sv v0 v1 v2 v3 v10 v12 : Value} {ss : List (Int × Int)} (hs : Sl hM 2 sv ss.length (encP ss)) (hl : ss.length < 1000000) {k : List RItem}
    (hk : ∀ (H : Heap) (bv : Value) (K4 K6 K7 K8 K9 Kb Ke Kf Kg Kh Ki Kj Kk Kl Km Kn Ko Kp Kq Kr Ks Kt Ku Kv Kw Kx Ky Kz J0 J1 J2 J3 J4 J5 J6 J7 J8 J9 Ja Jb Jc Jd Je Jf Jg Jh Ji Jj Jk Jl Jm Jn Jo Jp Jq Jr Js Jt Ju Jv Jw Jx Jy Jz Y0 Y1 Y2 Y3 Y4 Y5 Y6 Y7 Y8 Y9 Ya Yb Yc Yd Ye Yf Yg Yh Yi Yj Yk Yl Ym Yn Yo Yp Yq Yr : Value), PerL hM H bv (ss.map (·.2)) → Ok tab R95 k #[v0,v1,v2,v3,K4,sv,K6,K7,K8,K9,v10,Kb,v12,ptr hM.length,Ke,Kf,Kg,Kh,Ki,Kj,Kk,Kl,Km,Kn,Ko,Kp,Kq,Kr,Ks,Kt,Ku,Kv,Kw,Kx,Ky,Kz,J0,J1,J2,J3,J4,J5,J6,J7,J8,J9,Ja,Jb,Jc,Jd,Je,Jf,Jg,Jh,Ji,Jj,Jk,Jl,Jm,Jn,Jo,Jp,Jq,Jr,Js,Jt,Ju,Jv,Jw,Jx,Jy,Jz,Y0,Y1,Y2,Y3,Y4,Y5,Y6,Y7,Y8,Y9,Ya,Yb,Yc,Yd,Ye,Yf,Yg,Yh,Yi,Yj,Yk,Yl,Ym,Yn,Yo,Yp,Yq,Yr] H R) :
    ∀ (n i : Nat) (H : Heap) (bv : Value) (K4 K6 K7 K8 K9 Kb Ke Kf Kg Kh Ki Kj Kk Ko Kp Kq Kr Ks Kt Ku Kv Kw Kx Ky Kz J0 J1 J2 J3 J4 J5 J6 J7 J8 J9 Ja Jb Jc Jd Je Jf Jg Jh Ji Jj Jk Jl Jm Jn Jo Jp Jq Jr Js Jt Ju Jv Jw Jx Jy Jz Y0 Y1 Y2 Y3 Y4 Y5 Y6 Y7 Y8 Y9 Ya Yb Yc Yd Ye Yf Yg Yh Yi Yj Yk Yl Ym Yn Yo Yp Yq Yr : Value), n = ss.length - i → i ≤ ss.length → PerL hM H bv ((ss.take i).map (·.2)) →
      Ok tab R95 (.inLoop L95_0 :: .inBlock 0 :: k) #[v0,v1,v2,v3,K4,sv,K6,K7,K8,K9,v10,Kb,v12,ptr hM.length,Ke,Kf,Kg,Kh,Ki,Kj,Kk,sv,.int .i64 ss.length,.int .i64 i,Ko,Kp,Kq,Kr,Ks,Kt,Ku,Kv,Kw,Kx,Ky,Kz,J0,J1,J2,J3,J4,J5,J6,J7,J8,J9,Ja,Jb,Jc,Jd,Je,Jf,Jg,Jh,Ji,Jj,Jk,Jl,Jm,Jn,Jo,Jp,Jq,Jr,Js,Jt,Ju,Jv,Jw,Jx,Jy,Jz,Y0,Y1,Y2,Y3,Y4,Y5,Y6,Y7,Y8,Y9,Ya,Yb,Yc,Yd,Ye,Yf,Yg,Yh,Yi,Yj,Yk,Yl,Ym,Yn,Yo,Yp,Yq,Yr] H R := by
  intro n
  induction n with
  | zero =>
    intro i H bv K4 K6 K7 K8 K9 Kb Ke Kf Kg Kh Ki Kj Kk Ko Kp Kq Kr Ks Kt Ku Kv Kw Kx Ky Kz J0 J1 J2 J3 J4 J5 J6 J7 J8 J9 Ja Jb Jc Jd Je Jf Jg Jh Ji Jj Jk Jl Jm Jn Jo Jp Jq Jr Js Jt Ju Jv Jw Jx Jy Jz Y0 Y1 Y2 Y3 Y4 Y5 Y6 Y7 Y8 Y9 Ya Yb Yc Yd Ye Yf Yg Yh Yi Yj Yk Yl Ym Yn Yo Yp Yq Yr hn hi r
    have hlt : ¬ ((i : Int) < ss.length) := by omega
    rw [ok_round, l95_0, L95_0a, L95_0b]
    simp [hlt]
    rw [List.take_of_length_le (by omega)] at r
    exact hk H bv _ _ _ _ _ _ _ _ _ _ _ _ _ _ _ _ _ _ _ _ _ _ _ _ _ _ _ _ _ _ _ _ _ _ _ _ _ _ _ _ _ _ _ _ _ _ _ _ _ _ _ _ _ _ _ _ _ _ _ _ _ _ _ _ _ _ _ _ _ _ _ _ _ _ _ _ _ _ _ _ _ _ _ _ _ _ _ _ _ _ _ _ r
  | succ n ih =>
    intro i H bv K4 K6 K7 K8 K9 Kb Ke Kf Kg Kh Ki Kj Kk Ko Kp Kq Kr Ks Kt Ku Kv Kw Kx Ky Kz J0 J1 J2 J3 J4 J5 J6 J7 J8 J9 Ja Jb Jc Jd Je Jf Jg Jh Ji Jj Jk Jl Jm Jn Jo Jp Jq Jr Js Jt Ju Jv Jw Jx Jy Jz Y0 Y1 Y2 Y3 Y4 Y5 Y6 Y7 Y8 Y9 Ya Yb Yc Yd Ye Yf Yg Yh Yi Yj Yk Yl Ym Yn Yo Yp Yq Yr hn hi r
    have hlt : ((i : Int) < ss.length) := by omega
    have hil : i < ss.length := by omega
    have hw : IntKind.i64.wrap ((i : Int) + 1) = ((i + 1 : Nat) : Int) := wrapN (n := i + 1) (by omega)
    obtain ⟨id, off, b, hsv, hbk, ht, hle⟩ := encP_at hs hil
    have hb1 : blk? H id = some b := by rw [r.low _ (blk?_lt hbk)]; exact hbk
    obtain ⟨_, H', ha, hsb, ⟨z, nz, rfl⟩, r'⟩ := r.step (by simp; omega) ss[i].1 ss[i].2
    have hrr : (ss.take i).map (·.2) ++ [ss[i].2] = (ss.take (i + 1)).map (·.2) := by rw [List.take_succ_eq_append_getElem hil, List.map_append]; rfl
    rw [hrr] at r'
    have ih' := fun K4 K6 K7 K8 K9 Kb Ke Kf Kg Kh Ki Kj Kk Ko Kp Kq Kr Ks Kt Ku Kv Kw Kx Ky Kz J0 J1 J2 J3 J4 J5 J6 J7 J8 J9 Ja Jb Jc Jd Je Jf Jg Jh Ji Jj Jk Jl Jm Jn Jo Jp Jq Jr Js Jt Ju Jv Jw Jx Jy Jz Y0 Y1 Y2 Y3 Y4 Y5 Y6 Y7 Y8 Y9 Ya Yb Yc Yd Ye Yf Yg Yh Yi Yj Yk Yl Ym Yn Yo Yp Yq Yr => ih (i + 1) _ _ K4 K6 K7 K8 K9 Kb Ke Kf Kg Kh Ki Kj Kk Ko Kp Kq Kr Ks Kt Ku Kv Kw Kx Ky Kz J0 J1 J2 J3 J4 J5 J6 J7 J8 J9 Ja Jb Jc Jd Je Jf Jg Jh Ji Jj Jk Jl Jm Jn Jo Jp Jq Jr Js Jt Ju Jv Jw Jx Jy Jz Y0 Y1 Y2 Y3 Y4 Y5 Y6 Y7 Y8 Y9 Ya Yb Yc Yd Ye Yf Yg Yh Yi Yj Yk Yl Ym Yn Yo Yp Yq Yr (by omega) (by omega) r'
    have hlen := r.len
    have hs0 : blk? (H ++ [some (⟨false, [.int .i64 ss[i].1, .int .i64 ss[i].2]⟩ : Blk)]) hM.length = some ⟨false, [.pointer none, .pointer none, bv, .slice none 0 0]⟩ := blk?_push r.sbk
    obtain ⟨ba, bc, hbsh⟩ := r.own.sl.shape
    have hcb : isCell bv = true := by rw [hbsh]; rfl
    rw [ok_round, l95_0, L95_0a, L95_0b]
    generalize ss[i].1 = x at *
    generalize ss[i].2 = y at *
    generalize ((i + 1 : Nat) : Int) = wi at *
    subst hsv
    have hK : ∀ y : Blk, blk? (H ++ [some y]) H.length = some y := fun y => blk?_push_eq
    simp [hlt, hil, hw, hb1, ht, hle, hK, hs0, hcb, repL, ha, hsb, app_len, app_add, app_zero, app_succ, app_set, app_setk]
    exact ih' _ _ _ _ _ _ _ _ _ _ _ _ _ _ _ _ _ _ _ _ _ _ _ _ _ _ _ _ _ _ _ _ _ _ _ _ _ _ _ _ _ _ _ _ _ _ _ _ _ _ _ _ _ _ _ _ _ _ _ _ _ _ _ _ _ _ _ _ _ _ _ _ _ _ _ _ _ _ _ _ _ _ _ _ _ _ _ _ _
end
theorem encP_w {h : Heap} {sv : Value} {s : List (Int × Int)} (hs : Sl h 2 sv s.length (encP s)) {i : Nat} (hi : i < s.length) :
    ∃ id off b, sv = .slice (some ⟨id, off, none⟩) s.length 2 ∧ blk? h id = some b ∧ b.cells[off + i * 2]? = some (.int .i64 s[i].1) ∧ b.cells[off + i * 2 + 1]? = some (.int .i64 s[i].2) := by
  obtain ⟨id, off, b, rfl, hb, hc⟩ := hs.get hi
  obtain ⟨g0, g1⟩ := encP_get s i hi
  have c0 := hc 0 (by omega)
  have c1 := hc 1 (by omega)
  rw [Nat.add_zero, Nat.add_zero, g0] at c0
  rw [g1] at c1
  exact ⟨id, off, b, rfl, hb, c0, c1⟩

/-- The first i questions are answered by the symbols. -/
def fitsTo (ss qs : List (Int × Int)) (i : Nat) : Prop := ∀ j (hj : j < qs.length), j < i → ∃ p, ss[j]? = some p ∧ p.1 = qs[j].1 ∧ (p.2 = 0 ∨ p.2 = 1)

section
variable {h : Heap} {R : Value → Heap → Prop}
set_option maxRecDepth 10000 in
set_option maxHeartbeats 1000000 in
theorem cmp_loop {sv av v13 v16 : Value} {ss qs : List (Int × Int)} (hs : Sl h 2 sv ss.length (encP ss)) (ha : Sl h 2 av qs.length (encP qs)) (hl : ss.length < 1000000) (hq : qs.length < 1000000) {k : List RItem}
    (hk : fits ss qs → ∀ (H : Heap) (K0 K1 K2 K3 K4 K6 K7 K8 K9 Ka Kb Ke Kf Kh Ki Kj Kk Kl Km Kn Ko Kp Kq Kr Ks Kt Ku Kv Kw Kx Ky Kz J0 J1 J2 J3 J4 J5 J6 J7 J8 J9 Ja Jb Jc Jd Je Jf Jg Jh Ji Jj Jk Jl Jm Jn Jo Jp Jq Jr Js Jt Ju Jv Jw Jx Jy Jz Y0 Y1 Y2 Y3 Y4 Y5 Y6 Y7 Y8 Y9 Ya Yb Yc Yd Ye Yf Yg Yh Yi Yj Yk Yl Ym Yn Yo Yp Yq Yr : Value), (∀ id, id < h.length → blk? H id = blk? h id) → h.length ≤ H.length → Ok tab R95 k #[K0,K1,K2,K3,K4,sv,K6,K7,K8,K9,Ka,Kb,.int .i64 0,v13,Ke,Kf,v16,Kh,Ki,Kj,Kk,Kl,Km,Kn,Ko,Kp,Kq,Kr,Ks,Kt,Ku,Kv,Kw,Kx,Ky,Kz,J0,J1,J2,J3,J4,J5,J6,J7,J8,J9,Ja,Jb,Jc,Jd,Je,Jf,Jg,Jh,Ji,Jj,Jk,Jl,Jm,Jn,Jo,Jp,Jq,Jr,Js,Jt,Ju,Jv,Jw,Jx,Jy,Jz,Y0,Y1,Y2,Y3,Y4,Y5,Y6,Y7,Y8,Y9,Ya,Yb,Yc,Yd,Ye,Yf,Yg,Yh,Yi,Yj,Yk,Yl,Ym,Yn,Yo,Yp,Yq,Yr] H R)
    (hbad : ¬ fits ss qs → ∀ H : Heap, (∀ id, id < h.length → blk? H id = blk? h id) → h.length ≤ H.length → R (.int .i64 8) H) :
    ∀ (n i : Nat) (H : Heap) (K0 K1 K2 K3 K4 K6 K7 K8 K9 Ka Kb Ke Kf Kh Ki Kj Kk Kl Km Kn Ko Kp Kq Kr Ks Kt Ku Kv Kw Kx Ky Kz J0 J1 J2 J3 J4 J5 J6 J7 J8 J9 Ja Jb Jc Jg Jh Ji Jj Jk Jl Jm Jn Jo Jp Jq Jr Js Jt Ju Jv Jw Jx Jy Jz Y0 Y1 Y2 Y3 Y4 Y5 Y6 Y7 Y8 Y9 Ya Yb Yc Yd Ye Yf Yg Yh Yi Yj Yk Yl Ym Yn Yo Yp Yq Yr : Value), n = qs.length - i → i ≤ qs.length → fitsTo ss qs i → (∀ id, id < h.length → blk? H id = blk? h id) → h.length ≤ H.length →
      Ok tab R95 (.inLoop L95_1 :: .inBlock 2 :: k) #[K0,K1,K2,K3,K4,sv,K6,K7,K8,K9,Ka,Kb,.int .i64 0,v13,Ke,Kf,v16,Kh,Ki,Kj,Kk,Kl,Km,Kn,Ko,Kp,Kq,Kr,Ks,Kt,Ku,Kv,Kw,Kx,Ky,Kz,J0,J1,J2,J3,J4,J5,J6,J7,J8,J9,Ja,Jb,Jc,av,.int .i64 qs.length,.int .i64 i,Jg,Jh,Ji,Jj,Jk,Jl,Jm,Jn,Jo,Jp,Jq,Jr,Js,Jt,Ju,Jv,Jw,Jx,Jy,Jz,Y0,Y1,Y2,Y3,Y4,Y5,Y6,Y7,Y8,Y9,Ya,Yb,Yc,Yd,Ye,Yf,Yg,Yh,Yi,Yj,Yk,Yl,Ym,Yn,Yo,Yp,Yq,Yr] H R := by
  intro n
  induction n with
  | zero =>
    intro i H K0 K1 K2 K3 K4 K6 K7 K8 K9 Ka Kb Ke Kf Kh Ki Kj Kk Kl Km Kn Ko Kp Kq Kr Ks Kt Ku Kv Kw Kx Ky Kz J0 J1 J2 J3 J4 J5 J6 J7 J8 J9 Ja Jb Jc Jg Jh Ji Jj Jk Jl Jm Jn Jo Jp Jq Jr Js Jt Ju Jv Jw Jx Jy Jz Y0 Y1 Y2 Y3 Y4 Y5 Y6 Y7 Y8 Y9 Ya Yb Yc Yd Ye Yf Yg Yh Yi Yj Yk Yl Ym Yn Yo Yp Yq Yr hn hi hf low hle
    have hlt : ¬ ((i : Int) < qs.length) := by omega
    rw [ok_round, l95_1, L95_1a, L95_1b]
    simp [hlt]
    exact hk (fun j hj => hf j hj (by omega)) H _ _ _ _ _ _ _ _ _ _ _ _ _ _ _ _ _ _ _ _ _ _ _ _ _ _ _ _ _ _ _ _ _ _ _ _ _ _ _ _ _ _ _ _ _ _ _ _ _ _ _ _ _ _ _ _ _ _ _ _ _ _ _ _ _ _ _ _ _ _ _ _ _ _ _ _ _ _ _ _ _ _ _ _ _ _ _ _ _ _ _ _ _ _ _ _ low hle
  | succ n ih =>
    intro i H K0 K1 K2 K3 K4 K6 K7 K8 K9 Ka Kb Ke Kf Kh Ki Kj Kk Kl Km Kn Ko Kp Kq Kr Ks Kt Ku Kv Kw Kx Ky Kz J0 J1 J2 J3 J4 J5 J6 J7 J8 J9 Ja Jb Jc Jg Jh Ji Jj Jk Jl Jm Jn Jo Jp Jq Jr Js Jt Ju Jv Jw Jx Jy Jz Y0 Y1 Y2 Y3 Y4 Y5 Y6 Y7 Y8 Y9 Ya Yb Yc Yd Ye Yf Yg Yh Yi Yj Yk Yl Ym Yn Yo Yp Yq Yr hn hi hf low hle
    have hlt : ((i : Int) < qs.length) := by omega
    have hil : i < qs.length := by omega
    have hw : IntKind.i64.wrap ((i : Int) + 1) = ((i + 1 : Nat) : Int) := wrapN (n := i + 1) (by omega)
    obtain ⟨id, off, b, hav, hbk, ht, hle2⟩ := encP_at ha hil
    have hb1 : blk? H id = some b := by rw [low _ (blk?_lt hbk)]; exact hbk
    obtain ⟨sa, sc, hsh⟩ := hs.shape
    have low' : ∀ x : Option Blk, ∀ id, id < h.length → blk? (H ++ [x]) id = blk? h id := fun x id hid => by rw [blk?_push_lt (by omega)]; exact low id hid
    have hle' : ∀ x : Option Blk, h.length ≤ (H ++ [x]).length := fun x => by simp; omega
    have ih' := fun (hf' : fitsTo ss qs (i + 1)) K0 K1 K2 K3 K4 K6 K7 K8 K9 Ka Kb Ke Kf Kh Ki Kj Kk Kl Km Kn Ko Kp Kq Kr Ks Kt Ku Kv Kw Kx Ky Kz J0 J1 J2 J3 J4 J5 J6 J7 J8 J9 Ja Jb Jc Jg Jh Ji Jj Jk Jl Jm Jn Jo Jp Jq Jr Js Jt Ju Jv Jw Jx Jy Jz Y0 Y1 Y2 Y3 Y4 Y5 Y6 Y7 Y8 Y9 Ya Yb Yc Yd Ye Yf Yg Yh Yi Yj Yk Yl Ym Yn Yo Yp Yq Yr => ih (i + 1) (H ++ [some ⟨false, [.int .i64 qs[i].1, .int .i64 qs[i].2]⟩]) K0 K1 K2 K3 K4 K6 K7 K8 K9 Ka Kb Ke Kf Kh Ki Kj Kk Kl Km Kn Ko Kp Kq Kr Ks Kt Ku Kv Kw Kx Ky Kz J0 J1 J2 J3 J4 J5 J6 J7 J8 J9 Ja Jb Jc Jg Jh Ji Jj Jk Jl Jm Jn Jo Jp Jq Jr Js Jt Ju Jv Jw Jx Jy Jz Y0 Y1 Y2 Y3 Y4 Y5 Y6 Y7 Y8 Y9 Ya Yb Yc Yd Ye Yf Yg Yh Yi Yj Yk Yl Ym Yn Yo Yp Yq Yr (by omega) (by omega) hf' (low' _) (hle' _)
    have hK : ∀ y : Blk, blk? (H ++ [some y]) H.length = some y := fun y => blk?_push_eq
    have hbad' := fun hn => hbad hn (H ++ [some ⟨false, [.int .i64 qs[i].1, .int .i64 qs[i].2]⟩]) (low' _) (hle' _)
    rw [ok_round, l95_1, L95_1a, L95_1b]
    by_cases his : i < ss.length
    · obtain ⟨id2, off2, b2, hsv, hbk2, c0, c1⟩ := encP_w hs his
      have hb2 : blk? (H ++ [some ⟨false, [.int .i64 qs[i].1, .int .i64 qs[i].2]⟩]) id2 = some b2 := by rw [low' _ _ (blk?_lt hbk2)]; exact hbk2
      have hge : ¬ ((ss.length : Int) ≤ i) := by omega
      have hget : ss[i]? = some ss[i] := List.getElem?_eq_getElem his
      have hnf : ¬ (ss[i].1 = qs[i].1 ∧ (ss[i].2 = 0 ∨ ss[i].2 = 1)) → ¬ fits ss qs := fun hc hf' => by
        obtain ⟨p, e1, e2, e3⟩ := hf' i hil
        rw [hget] at e1; injection e1 with e1; subst e1
        exact hc ⟨e2, e3⟩
      have hyf : ss[i].1 = qs[i].1 ∧ (ss[i].2 = 0 ∨ ss[i].2 = 1) → fitsTo ss qs (i + 1) := fun hc j hj hji => by
        by_cases hj' : j < i
        · exact hf j hj hj'
        · obtain rfl : j = i := by omega
          exact ⟨_, hget, hc.1, hc.2⟩
      generalize ss[i].1 = p1 at *
      generalize ss[i].2 = p2 at *
      generalize qs[i].1 = q1 at *
      generalize qs[i].2 = q2 at *
      generalize ((i + 1 : Nat) : Int) = wi at *
      subst hav
      subst hsv
      by_cases h1 : p1 = q1
      · subst h1
        by_cases h2 : p2 = 0
        · subst h2
          simp [-List.cons_append, -List.append_assoc, k_guard, k_guardU, hlt, hil, his, hge, hw, hb1, ht, hle2, hK, hb2, c0, c1]
          exact ih' (hyf ⟨rfl, .inl rfl⟩) _ _ _ _ _ _ _ _ _ _ _ _ _ _ _ _ _ _ _ _ _ _ _ _ _ _ _ _ _ _ _ _ _ _ _ _ _ _ _ _ _ _ _ _ _ _ _ _ _ _ _ _ _ _ _ _ _ _ _ _ _ _ _ _ _ _ _ _ _ _ _ _ _ _ _ _ _ _ _ _ _ _ _ _ _ _ _ _ _ _ _ _ _
        · have h2' : (p2 != 0) = true := by simp [h2]
          by_cases h3 : p2 = 1
          · subst h3
            simp [-List.cons_append, -List.append_assoc, k_guard, k_guardU, hlt, hil, his, hge, hw, hb1, ht, hle2, hK, hb2, c0, c1]
            exact ih' (hyf ⟨rfl, .inr rfl⟩) _ _ _ _ _ _ _ _ _ _ _ _ _ _ _ _ _ _ _ _ _ _ _ _ _ _ _ _ _ _ _ _ _ _ _ _ _ _ _ _ _ _ _ _ _ _ _ _ _ _ _ _ _ _ _ _ _ _ _ _ _ _ _ _ _ _ _ _ _ _ _ _ _ _ _ _ _ _ _ _ _ _ _ _ _ _ _ _ _ _ _ _ _
          · have h3' : (p2 != 1) = true := by simp [h3]
            simp [-List.cons_append, -List.append_assoc, k_guard, k_guardU, hlt, hil, his, hge, hw, hb1, ht, hle2, hK, hb2, c0, c1, h2', h3', fin95]
            exact hbad' (hnf (by simp [h2, h3]))
      · have h1' : (p1 != q1) = true := by simp [h1]
        simp [-List.cons_append, -List.append_assoc, k_guard, k_guardU, hlt, hil, his, hge, hw, hb1, ht, hle2, hK, hb2, c0, c1, h1', fin95]
        exact hbad' (hnf (by simp [h1]))
    · have hge : ((ss.length : Int) ≤ i) := by omega
      have hnf : ¬ fits ss qs := fun hf' => by
        obtain ⟨p, e1, _⟩ := hf' i hil
        rw [List.getElem?_eq_none (by omega)] at e1; cases e1
      generalize qs[i].1 = q1 at *
      generalize qs[i].2 = q2 at *
      subst hav
      subst hsh
      simp [-List.cons_append, -List.append_assoc, k_guard, k_guardU, hlt, hil, hge, hw, hb1, ht, hle2, hK, fin95]
      exact hbad' hnf
end
def bitsOf (ss : List (Int × Int)) : List Int := ss.map (·.2)
/-- What a pass with the bits of symbols comes to. -/
def perD (m : MD) (b : BS) (n planes o : Int) (ss : List (Int × Int)) : (BS × Bool) × List (Int × Int) := dOut (askB (bitsOf ss)) m b n planes o []
def perE (m : MD) (b : BS) (n planes o : Int) (ss : List (Int × Int)) : Int :=
  if ¬ fits ss (perD m b n planes o ss).2 then 8 else if dErr n planes o (perD m b n planes o ss).1.2 = 0 ∧ (perD m b n planes o ss).2.length < ss.length then 8 else dErr n planes o (perD m b n planes o ss).1.2
structure PerR (h h' : Heap) (p c : Nat) (b : BS) : Prop where
  cb : CB h' false p c b
  good : b.Good
  same : ∀ id, id < h.length → id ≠ c → blk? h' id = blk? h id
  len : h.length ≤ h'.length

section
variable {h : Heap} {p c : Nat} {b : BS}
set_option maxRecDepth 10000 in
set_option maxHeartbeats 1000000 in
theorem perform_q (hb : CB h false p c b) (hg : b.Good) {sv : Value} {ss : List (Int × Int)} (hs : Sl h 2 sv ss.length (encP ss)) (svf : ∀ id, sid sv = some id → id < h.length ∧ id ≠ c) (hl : ss.length < 900000) (n planes o : Int) (m : MD) :
    ∃ h', (∀ R, Ret tab 95 [ptr p, .int .i64 n, .int .i64 planes, .int .i64 o, m.val, sv] h R = R (.int .i64 (perE m b n planes o ss)) h') ∧ PerR h h' p c (perD m b n planes o ss).1.1 := by
  have key : Ret tab 95 [ptr p, .int .i64 n, .int .i64 planes, .int .i64 o, m.val, sv] h fun v h' => v = .int .i64 (perE m b n planes o ss) ∧ PerR h h' p c (perD m b n planes o ss).1.1 := by
    obtain ⟨byp, res, rst, cz, sy⟩ := m
    generalize hM : h ++ [some (⟨false, [.bool byp, .bool res, .bool rst, .bool cz, .bool sy]⟩ : Blk)] = M
    have lowM : ∀ id, id < h.length → blk? M id = blk? h id := fun id hid => by rw [← hM]; exact app_lt hid
    have lenM : M.length = h.length + 1 := by rw [← hM]; simp
    have hmode : blk? M h.length = some ⟨false, [.bool byp, .bool res, .bool rst, .bool cz, .bool sy]⟩ := by rw [← hM]; exact blk?_push_eq
    have lp := blk?_lt hb.blkp
    have lc := blk?_lt hb.blkc
    have hsM : Sl M 2 sv ss.length (encP ss) := hs.of_sid fun id b _ hb => by rw [lowM _ (blk?_lt hb)]; exact hb
    obtain ⟨sa, sc, hsh⟩ := hs.shape
    have r0 : PerL M (M ++ [some ⟨false, [.pointer none, .pointer none, .slice none 0 0, .slice none 0 0]⟩]) (.slice none 0 0) ((ss.take 0).map (·.2)) :=
      ⟨fun id hid => app_lt hid, blk?_push_eq, OwnS.nil _ _, fun id hid => by simp [sid] at hid, by simp⟩
    rw [enter95, show B95 = .seq (nthC 0 B95) (.seq (nthC 1 B95) (.seq (nthC 2 B95) (.seq (nthC 3 B95) (.seq (nthC 4 B95) (tlC 5 B95))))) from rfl]
    generalize hT : tlC 5 B95 = tl
    simp only [nthC, tlC, fstC, B95, MD.val]
    rw [hsh]
    have hX : h ++ [some (⟨false, [.bool byp, .bool res, .bool rst, .bool cz, .bool sy]⟩ : Blk), some ⟨false, [.pointer none, .pointer none, .slice none 0 0, .slice none 0 0]⟩] = M ++ [some ⟨false, [.pointer none, .pointer none, .slice none 0 0, .slice none 0 0]⟩] := by rw [← hM]; simp
    simp [hX]
    rw [← hsh, ← lenM]
    refine per_loop hsM (by omega) ?_ _ 0 _ _ _ _ _ _ _ _ _ _ _ _ _ _ _ _ _ _ _ _ _ _ _ _ _ _ _ _ _ _ _ _ _ _ _ _ _ _ _ _ _ _ _ _ _ _ _ _ _ _ _ _ _ _ _ _ _ _ _ _ _ _ _ _ _ _ _ _ _ _ _ _ _ _ _ _ _ _ _ _ _ _ _ _ _ _ _ _ _ _ _ rfl (Nat.zero_le _) r0
    intro H bv K4 K6 K7 K8 K9 Kb Ke Kf Kg Kh Ki Kj Kk Kl Km Kn Ko Kp Kq Kr Ks Kt Ku Kv Kw Kx Ky Kz J0 J1 J2 J3 J4 J5 J6 J7 J8 J9 Ja Jb Jc Jd Je Jf Jg Jh Ji Jj Jk Jl Jm Jn Jo Jp Jq Jr Js Jt Ju Jv Jw Jx Jy Jz Y0 Y1 Y2 Y3 Y4 Y5 Y6 Y7 Y8 Y9 Ya Yb Yc Yd Ye Yf Yg Yh Yi Yj Yk Yl Ym Yn Yo Yp Yq Yr r
    -- the pass
    have hMl := r.len
    have cbH : CB H false p c b := ⟨by rw [r.low _ (by omega), lowM _ lp]; exact hb.blkp, by rw [r.low _ (by omega), lowM _ lc]; exact hb.blkc, hb.ok⟩
    have hbl : (bitsOf ss).length < 1000000 := by simp [bitsOf]; omega
    have rr : RelR c M.length bv (bitsOf ss) H (.slice none 0 0) [] :=
      ⟨r.sbk, OwnS.nil _ _, r.own.sl, fun id hid => ⟨r.own.lt hid, by have := r.far id hid; omega, by have := r.far id hid; omega, by simp [sid]⟩, fun id hid => by simp [sid] at hid, by omega, by omega⟩
    have hpn : ¬ ownA M.length (Value.slice none 0 0) p := by
      rintro (e | e)
      · omega
      · simp [sid] at e
    obtain ⟨av, H2, e2, r2⟩ := run_q (A := srcR c M.length bv (bitsOf ss) hbl) (t := Value.slice none 0 0) (s := ([] : List (Int × Int))) cbH hg.rng rr hpn hMl (by show 0 + 100000 < 1000000; omega) n planes o ⟨byp, res, rst, cz, sy⟩
    change ∀ R, Ret tab _ _ H R = R (.int .i64 (dErr n planes o (perD ⟨byp, res, rst, cz, sy⟩ b n planes o ss).1.2)) H2 at e2
    change DRes (srcR c M.length bv (bitsOf ss) hbl) H H2 p (Value.slice none 0 0) av (perD ⟨byp, res, rst, cz, sy⟩ b n planes o ss).1.1 (perD ⟨byp, res, rst, cz, sy⟩ b n planes o ss).2 at r2
    have hsz := (dOut_le (bits := bitsOf ss) (m := ⟨byp, res, rst, cz, sy⟩) hg (n := n) (planes := planes) (o := o) (s := [])).2
    change (perD ⟨byp, res, rst, cz, sy⟩ b n planes o ss).2.length ≤ 0 + 20000 at hsz
    obtain ⟨E, hE⟩ : ∃ E, perE ⟨byp, res, rst, cz, sy⟩ b n planes o ss = E := ⟨_, rfl⟩
    rw [hE]
    unfold perE at hE
    generalize dErr n planes o (perD ⟨byp, res, rst, cz, sy⟩ b n planes o ss).1.2 = e at *
    generalize (perD ⟨byp, res, rst, cz, sy⟩ b n planes o ss).1.1 = b1 at *
    generalize (perD ⟨byp, res, rst, cz, sy⟩ b n planes o ss).2 = qs at *
    have rq : RelR c M.length bv (bitsOf ss) H2 av qs := r2.rel
    have st := r2.st
    have k2 : ∀ id, id < H.length → id ≠ c → ¬ ownA M.length (.slice none 0 0) id → blk? H2 id = blk? H id := st.same
    have own0 : ∀ id, id < M.length → ¬ ownA M.length (.slice none 0 0) id := fun id hid e => by
      rcases e with e | e
      · omega
      · simp [sid] at e
    have low2 : ∀ id, id < h.length → id ≠ c → blk? H2 id = blk? h id := fun id hid hc => by rw [k2 id (by omega) hc (own0 id (by omega)), r.low id (by omega), lowM id hid]
    have hl2 : H.length ≤ H2.length := st.len
    have hm2 : blk? H h.length = some ⟨false, [.bool byp, .bool res, .bool rst, .bool cz, .bool sy]⟩ := by rw [r.low _ (by omega)]; exact hmode
    have hs2 : Sl H2 2 sv ss.length (encP ss) := hs.of_sid fun id b hid hb => by rw [low2 id (svf id hid).1 (svf id hid).2]; exact hb
    obtain ⟨aa, ac, hav⟩ := rq.own.sl.shape
    have hsb2 := rq.blk
    simp only [MD.val] at e2
    rw [hav] at hsb2
    have fin : ∀ H' : Heap, (∀ id, id < H2.length → blk? H' id = blk? H2 id) → H2.length ≤ H'.length → PerR h H' p c b1 := fun H' low le =>
      ⟨⟨by rw [low _ (blk?_lt r2.cb.blkp)]; exact r2.cb.blkp, by rw [low _ (blk?_lt r2.cb.blkc)]; exact r2.cb.blkc, r2.cb.ok⟩, r2.good, fun id hid hc => by rw [low id (by omega)]; exact low2 id hid hc, by omega⟩
    have hgo := fun (k : List RItem) hk hbad => cmp_loop (v13 := ptr M.length) (v16 := .int .i64 e) (k := k) (R := fun v h' => v = .int .i64 E ∧ PerR h h' p c b1) hs2 rq.own.sl (by omega) (by omega) hk hbad qs.length 0 H2
    rw [hav] at hgo
    simp [hm2, e2, hsb2]
    refine hgo _ (fun hf => ?_) (fun hf => ?_) _ _ _ _ _ _ _ _ _ _ _ _ _ _ _ _ _ _ _ _ _ _ _ _ _ _ _ _ _ _ _ _ _ _ _ _ _ _ _ _ _ _ _ _ _ _ _ _ _ _ _ _ _ _ _ _ _ _ _ _ _ _ _ _ _ _ _ _ _ _ _ _ _ _ _ _ _ _ _ _ _ _ _ _ _ _ _ _ _ _ _ _ _ rfl (Nat.zero_le _) (fun j hj h0 => by omega) (fun _ _ => rfl) (Nat.le_refl _)
    · intro H' K0 K1 K2 K3 K4 K6 K7 K8 K9 Ka Kb Ke Kf Kh Ki Kj Kk Kl Km Kn Ko Kp Kq Kr Ks Kt Ku Kv Kw Kx Ky Kz J0 J1 J2 J3 J4 J5 J6 J7 J8 J9 Ja Jb Jc Jd Je Jf Jg Jh Ji Jj Jk Jl Jm Jn Jo Jp Jq Jr Js Jt Ju Jv Jw Jx Jy Jz Y0 Y1 Y2 Y3 Y4 Y5 Y6 Y7 Y8 Y9 Ya Yb Yc Yd Ye Yf Yg Yh Yi Yj Yk Yl Ym Yn Yo Yp Yq Yr low le
      have hsb3 : blk? H' M.length = _ := (low _ (blk?_lt rq.blk)).trans hsb2
      rw [if_neg (by simpa using hf)] at hE
      rw [← hT]
      simp only [tlC, B95]
      rw [hsh]
      by_cases he : e = 0
      · subst he
        by_cases hlt : qs.length < ss.length
        · have hltI : (qs.length : Int) < ss.length := by omega
          rw [if_pos ⟨rfl, hlt⟩] at hE
          subst hE
          simp [k_guard, k_guardU, hsb3, hlt, hltI, fin95]
          exact fin H' low le
        · have hltI : ¬ (qs.length : Int) < ss.length := by omega
          rw [if_neg (fun e => hlt e.2)] at hE
          subst hE
          simp [k_guard, k_guardU, hsb3, hlt, hltI, fin95]
          exact fin H' low le
      · have he' : (e == 0) = false := by simp [he]
        rw [if_neg (fun x => he x.1)] at hE
        subst hE
        simp [k_guard, k_guardU, hsb3, he, he', fin95]
        exact fin H' low le
    · intro H' low le
      rw [if_pos hf] at hE
      exact ⟨by rw [← hE], fin H' low le⟩
  obtain ⟨v, h', e, rfl, rs⟩ := ret_ex key
  exact ⟨h', e, rs⟩
end
theorem per_play {m : MD} {b : BS} {n P o : Nat} {ss : List (Int × Int)} (herr : runErr (n : Int) (P : Int) (o : Int) = 0) :
    ((dRun m b n P o).play ss = none → perE m b n P o ss = 8) ∧ ∀ r l', (dRun m b n P o).play ss = some (r, l') → (perD m b n P o ss).1 = r ∧ perE m b n P o ss = if r.2 = false then 16 else match l' with | [] => 0 | _ :: _ => 8 := by
  have hD : perD m b n P o ss = (dRun m b n P o).run (askB (ss.map (·.2))) [] := by
    unfold perD dOut; rw [if_pos herr]; simp only [Int.toNat_natCast]; rfl
  have hde : ∀ r, dErr (n : Int) (P : Int) (o : Int) r = cond r 0 16 := fun r => by unfold dErr; rw [herr]; simp
  obtain ⟨pl1, pl2⟩ := askB_play ss (dRun m b n P o) [] (Nat.zero_le _) (fun i hi => by simp at hi)
  rw [List.length_nil, List.drop_zero] at pl1 pl2
  refine ⟨fun h => ?_, fun r l' h => ?_⟩
  · unfold perE
    rw [hD, if_pos (pl2 h)]
  · obtain ⟨s', e1, e2, e3, e4⟩ := pl1 r l' h
    unfold perE
    rw [hD, e1]
    refine ⟨rfl, ?_⟩
    rw [if_neg (fun x => x e2), hde]
    cases hr : r.2
    · simp
    · simp only [cond_true, true_and, Bool.true_eq_false, if_false]
      by_cases hlt : s'.length < ss.length
      · rw [if_pos hlt]
        rw [List.drop_eq_getElem_cons hlt] at e4
        rw [e4]
      · rw [if_neg hlt]
        rw [List.drop_of_length_le (by omega)] at e4
        rw [e4]
theorem vLoop_step {m : MD} {b : BS} {n P o : Nat} {ss : List (Int × Int)} {ls : List (List (Int × Int))} (herr : runErr (n : Int) (P : Int) (o : Int) = 0) :
    (perE m b n P o ss = 0 → vLoop m P o n b (ss :: ls) = vLoop m P o (n + 1) (perD m b n P o ss).1.1 ls) ∧ (perE m b n P o ss ≠ 0 → (vLoop m P o n b (ss :: ls)).2 = perE m b n P o ss) := by
  obtain ⟨h1, h2⟩ := per_play (m := m) (b := b) (ss := ss) herr
  rw [vLoop]
  cases hp : (dRun m b n P o).play ss with
  | none =>
    rw [h1 hp]
    exact ⟨fun h => absurd h (by decide), fun _ => rfl⟩
  | some q =>
    obtain ⟨r, l'⟩ := q
    obtain ⟨e1, e2⟩ := h2 r l' hp
    rw [e1, e2]
    simp only
    split
    · exact ⟨fun h => absurd h (by decide), fun _ => rfl⟩
    · cases l' with
      | nil => exact ⟨fun _ => rfl, fun h => absurd rfl h⟩
      | cons y l' => exact ⟨fun h => absurd h (by simp), fun _ => rfl⟩

set_option maxRecDepth 10000 in
set_option maxHeartbeats 1000000 in
theorem valsq_loop {h0 : Heap} {M p c : Nat} {m : MD} {s v12 v13 : Value} {vs : List Value} {ls : List (List (Int × Int))} {P O w hh : Nat} (hp : PsI h0 s vs ls) (hrow : ∀ l ∈ ls, l.length < 900000) (hP : P ≤ 60) (hP1 : 0 < ls.length → 1 ≤ P) (hO : O ≤ 3) (hn : ls.length ≤ 3 * P - 2) {k : List RItem} {R : Value → Heap → Prop} :
    ∀ (n i : Nat) (H : Heap) (b : BS) (K5 K6 K7 K8 K9 Ka Ke Kg Ki Kj Kk Kl Km Kn Ko Kp Kq Kr Ks Kt Ku Kv Kw Kx Ky Kz J0 J1 J2 J3 J4 J5 J6 J7 J8 J9 Ja Jb Jc Jd Je Jf Jg Jh Ji Jj Jk Jl Jm Jn Jo Jp Jq Jr Js Jt Ju Jv Jw Jx Jy Jz Y0 Y1 Y2 Y3 Y4 Y5 Y6 Y7 Y8 Y9 Ya Yb Yc Yd Ye Yf Yg Yh Yi Yj Yk Yl Ym Yn Yo Yp Yq Yr Ys Yt Yu Yv Yw Yx Yy Yz Z0 Z1 Z2 Z3 Z4 Z5 Z6 Z7 Z8 Z9 Za Zb Zc Zd Ze Zf Zg Zh Zi Zj Zk Zl Zm Zn Zo Zp Zq Zr Zs Zt Zu Zv : Value), n = ls.length - i → i ≤ ls.length → VLv h0 H M p c m w hh b →
      (∀ (H' : Heap) (b' : BS) (K5 K6 K7 K8 K9 Ka Ke Kg Kh Ki Kj Kk Kl Km Kn Ko Kp Kq Kr Ks Kt Ku Kv Kw Kx Ky Kz J0 J1 J2 J3 J4 J5 J6 J7 J8 J9 Ja Jb Jc Jd Je Jf Jg Jh Ji Jj Jk Jl Jm Jn Jo Jp Jq Jr Js Jt Ju Jv Jw Jx Jy Jz Y0 Y1 Y2 Y3 Y4 Y5 Y6 Y7 Y8 Y9 Ya Yb Yc Yd Ye Yf Yg Yh Yi Yj Yk Yl Ym Yn Yo Yp Yq Yr Ys Yt Yu Yv Yw Yx Yy Yz Z0 Z1 Z2 Z3 Z4 Z5 Z6 Z7 Z8 Z9 Za Zb Zc Zd Ze Zf Zg Zh Zi Zj Zk Zl Zm Zn Zo Zp Zq Zr Zs Zt Zu Zv : Value), vLoop m P O i b (ls.drop i) = (b', 0) → VLv h0 H' M p c m w hh b' → Ok tab R30 k #[s,.int .i64 P,.int .i64 w,.int .i64 hh,.int .i64 O,K5,K6,K7,K8,K9,Ka,ptr M,v12,v13,Ke,ptr p,Kg,Kh,Ki,Kj,Kk,Kl,Km,Kn,Ko,Kp,Kq,Kr,Ks,Kt,Ku,Kv,Kw,Kx,Ky,Kz,J0,J1,J2,J3,J4,J5,J6,J7,J8,J9,Ja,Jb,Jc,Jd,Je,Jf,Jg,Jh,Ji,Jj,Jk,Jl,Jm,Jn,Jo,Jp,Jq,Jr,Js,Jt,Ju,Jv,Jw,Jx,Jy,Jz,Y0,Y1,Y2,Y3,Y4,Y5,Y6,Y7,Y8,Y9,Ya,Yb,Yc,Yd,Ye,Yf,Yg,Yh,Yi,Yj,Yk,Yl,Ym,Yn,Yo,Yp,Yq,Yr,Ys,Yt,Yu,Yv,Yw,Yx,Yy,Yz,Z0,Z1,Z2,Z3,Z4,Z5,Z6,Z7,Z8,Z9,Za,Zb,Zc,Zd,Ze,Zf,Zg,Zh,Zi,Zj,Zk,Zl,Zm,Zn,Zo,Zp,Zq,Zr,Zs,Zt,Zu,Zv] H' R) →
      (∀ (H' : Heap) (e : Int), (vLoop m P O i b (ls.drop i)).2 = e → e ≠ 0 → (∀ id, id < h0.length → blk? H' id = blk? h0 id) → h0.length ≤ H'.length → R (.tuple #[.slice none 0 0, .slice none 0 0, .int .i64 e]) H') →
      Ok tab R30 (.inLoop L30_0 :: .inBlock 0 :: k) #[s,.int .i64 P,.int .i64 w,.int .i64 hh,.int .i64 O,K5,K6,K7,K8,K9,Ka,ptr M,v12,v13,Ke,ptr p,Kg,.int .i64 i,Ki,Kj,Kk,Kl,Km,Kn,Ko,Kp,Kq,Kr,Ks,Kt,Ku,Kv,Kw,Kx,Ky,Kz,J0,J1,J2,J3,J4,J5,J6,J7,J8,J9,Ja,Jb,Jc,Jd,Je,Jf,Jg,Jh,Ji,Jj,Jk,Jl,Jm,Jn,Jo,Jp,Jq,Jr,Js,Jt,Ju,Jv,Jw,Jx,Jy,Jz,Y0,Y1,Y2,Y3,Y4,Y5,Y6,Y7,Y8,Y9,Ya,Yb,Yc,Yd,Ye,Yf,Yg,Yh,Yi,Yj,Yk,Yl,Ym,Yn,Yo,Yp,Yq,Yr,Ys,Yt,Yu,Yv,Yw,Yx,Yy,Yz,Z0,Z1,Z2,Z3,Z4,Z5,Z6,Z7,Z8,Z9,Za,Zb,Zc,Zd,Ze,Zf,Zg,Zh,Zi,Zj,Zk,Zl,Zm,Zn,Zo,Zp,Zq,Zr,Zs,Zt,Zu,Zv] H R := by
  intro n
  obtain ⟨sa0, sc0, hss⟩ := hp.sl.shape
  rw [hp.len] at hss
  induction n with
  | zero =>
    intro i H b K5 K6 K7 K8 K9 Ka Ke Kg Ki Kj Kk Kl Km Kn Ko Kp Kq Kr Ks Kt Ku Kv Kw Kx Ky Kz J0 J1 J2 J3 J4 J5 J6 J7 J8 J9 Ja Jb Jc Jd Je Jf Jg Jh Ji Jj Jk Jl Jm Jn Jo Jp Jq Jr Js Jt Ju Jv Jw Jx Jy Jz Y0 Y1 Y2 Y3 Y4 Y5 Y6 Y7 Y8 Y9 Ya Yb Yc Yd Ye Yf Yg Yh Yi Yj Yk Yl Ym Yn Yo Yp Yq Yr Ys Yt Yu Yv Yw Yx Yy Yz Z0 Z1 Z2 Z3 Z4 Z5 Z6 Z7 Z8 Z9 Za Zb Zc Zd Ze Zf Zg Zh Zi Zj Zk Zl Zm Zn Zo Zp Zq Zr Zs Zt Zu Zv hm hi vl hk hx
    have hlt : ¬ ((i : Int) < ls.length) := by omega
    rw [List.drop_of_length_le (by omega)] at hk
    rw [ok_round, l30_0, L30_0a, L30_0b]
    rw [hss] at hk ⊢
    simp [hlt]
    exact hk H b _ _ _ _ _ _ _ _ _ _ _ _ _ _ _ _ _ _ _ _ _ _ _ _ _ _ _ _ _ _ _ _ _ _ _ _ _ _ _ _ _ _ _ _ _ _ _ _ _ _ _ _ _ _ _ _ _ _ _ _ _ _ _ _ _ _ _ _ _ _ _ _ _ _ _ _ _ _ _ _ _ _ _ _ _ _ _ _ _ _ _ _ _ _ _ _ _ _ _ _ _ _ _ _ _ _ _ _ _ _ _ _ _ _ _ _ _ _ _ _ _ _ _ _ _ _ _ _ _ _ _ rfl vl
  | succ n ih =>
    intro i H b K5 K6 K7 K8 K9 Ka Ke Kg Ki Kj Kk Kl Km Kn Ko Kp Kq Kr Ks Kt Ku Kv Kw Kx Ky Kz J0 J1 J2 J3 J4 J5 J6 J7 J8 J9 Ja Jb Jc Jd Je Jf Jg Jh Ji Jj Jk Jl Jm Jn Jo Jp Jq Jr Js Jt Ju Jv Jw Jx Jy Jz Y0 Y1 Y2 Y3 Y4 Y5 Y6 Y7 Y8 Y9 Ya Yb Yc Yd Ye Yf Yg Yh Yi Yj Yk Yl Ym Yn Yo Yp Yq Yr Ys Yt Yu Yv Yw Yx Yy Yz Z0 Z1 Z2 Z3 Z4 Z5 Z6 Z7 Z8 Z9 Za Zb Zc Zd Ze Zf Zg Zh Zi Zj Zk Zl Zm Zn Zo Zp Zq Zr Zs Zt Zu Zv hm hi vl hk hx
    have hil : i < ls.length := by omega
    have hivs : i < vs.length := by rw [hp.len]; exact hil
    have hlt : ((i : Int) < ls.length) := by omega
    have hw : IntKind.i64.wrap ((i : Int) + 1) = ((i + 1 : Nat) : Int) := wrapN (n := i + 1) (by omega)
    have hpH := hp.keep vl.len vl.low
    obtain ⟨id, off, bk, hs, hbk, hc⟩ := hpH.sl.get hivs
    have hc0 := hc 0 (by omega)
    rw [Nat.mul_one, Nat.add_zero, Nat.add_zero, List.getElem?_eq_getElem hivs] at hc0
    have hsl := hpH.each i hivs hil
    have hfar := hp.lt i hivs
    obtain ⟨d1, d2⟩ := vl.d
    have hlM := blk?_lt vl.box
    have hlen0 := vl.len
    have herr : runErr (i : Int) (P : Int) (O : Int) = 0 := by unfold runErr; rw [if_neg (by omega), if_neg (by omega)]
    obtain ⟨H2, e, pr⟩ := perform_q vl.cb vl.good hsl (fun id hid => by have := hfar id hid; omega) (hrow _ (List.getElem_mem hil)) i P O m
    have hst := vLoop_step (m := m) (b := b) (ss := ls[i]) (ls := ls.drop (i + 1)) herr
    rw [List.drop_eq_getElem_cons hil] at hk hx
    have hle : b.Le (perD m b i P O ls[i]).1.1 := (dOut_le vl.good).1
    generalize vs[i] = sv at *
    generalize ls[i] = l at *
    have hlow2 : ∀ id, id < h0.length → blk? H2 id = blk? h0 id := fun id hid => by rw [pr.same id (by omega) (by omega)]; exact vl.low id hid
    have hlen2 := pr.len
    have hbox := vl.box
    obtain ⟨sa, scc, hsh⟩ := hsl.shape
    rw [hs] at hss
    injection hss with hss1 hss2 hss3
    rw [ok_round, l30_0, L30_0a, L30_0b]
    simp only [MD.val] at e
    generalize perE m b i P O l = er at *
    subst hsh
    subst hs
    rw [hss2] at *
    have hivl : i < ls.length := hil
    by_cases he : er = 0
    · subst he
      rw [hst.1 rfl] at hk hx
      have vl2 : VLv h0 H2 M p c m w hh (perD m b i P O l).1.1 := ⟨hlow2, by omega, by rw [pr.same M hlM d2]; exact vl.box, pr.cb, pr.good, ⟨d1, d2⟩, hle.w.trans vl.bw, hle.h.trans vl.bh, vl.dp⟩
      have ih' := fun K5 K6 K7 K8 K9 Ka Ke Kg Ki Kj Kk Kl Km Kn Ko Kp Kq Kr Ks Kt Ku Kv Kw Kx Ky Kz J0 J1 J2 J3 J4 J5 J6 J7 J8 J9 Ja Jb Jc Jd Je Jf Jg Jh Ji Jj Jk Jl Jm Jn Jo Jp Jq Jr Js Jt Ju Jv Jw Jx Jy Jz Y0 Y1 Y2 Y3 Y4 Y5 Y6 Y7 Y8 Y9 Ya Yb Yc Yd Ye Yf Yg Yh Yi Yj Yk Yl Ym Yn Yo Yp Yq Yr Ys Yt Yu Yv Yw Yx Yy Yz Z0 Z1 Z2 Z3 Z4 Z5 Z6 Z7 Z8 Z9 Za Zb Zc Zd Ze Zf Zg Zh Zi Zj Zk Zl Zm Zn Zo Zp Zq Zr Zs Zt Zu Zv => ih (i + 1) H2 _ K5 K6 K7 K8 K9 Ka Ke Kg Ki Kj Kk Kl Km Kn Ko Kp Kq Kr Ks Kt Ku Kv Kw Kx Ky Kz J0 J1 J2 J3 J4 J5 J6 J7 J8 J9 Ja Jb Jc Jd Je Jf Jg Jh Ji Jj Jk Jl Jm Jn Jo Jp Jq Jr Js Jt Ju Jv Jw Jx Jy Jz Y0 Y1 Y2 Y3 Y4 Y5 Y6 Y7 Y8 Y9 Ya Yb Yc Yd Ye Yf Yg Yh Yi Yj Yk Yl Ym Yn Yo Yp Yq Yr Ys Yt Yu Yv Yw Yx Yy Yz Z0 Z1 Z2 Z3 Z4 Z5 Z6 Z7 Z8 Z9 Za Zb Zc Zd Ze Zf Zg Zh Zi Zj Zk Zl Zm Zn Zo Zp Zq Zr Zs Zt Zu Zv (by omega) (by omega) vl2 hk hx
      generalize ((i + 1 : Nat) : Int) = wi at *
      simp [hlt, hivl, hbk, hc0, hbox, e, hw]
      exact ih' _ _ _ _ _ _ _ _ _ _ _ _ _ _ _ _ _ _ _ _ _ _ _ _ _ _ _ _ _ _ _ _ _ _ _ _ _ _ _ _ _ _ _ _ _ _ _ _ _ _ _ _ _ _ _ _ _ _ _ _ _ _ _ _ _ _ _ _ _ _ _ _ _ _ _ _ _ _ _ _ _ _ _ _ _ _ _ _ _ _ _ _ _ _ _ _ _ _ _ _ _ _ _ _ _ _ _ _ _ _ _ _ _ _ _ _ _ _ _ _ _ _ _ _ _ _ _ _ _ _
    · have he' : (er != 0) = true := by simp [he]
      simp [hlt, hivl, hbk, hc0, hbox, e, he, he', fin30]
      exact hx H2 er (hst.2 he) he hlow2 (by omega)
theorem get_at {b : BS} (ho : b.Ok) {i : Nat} (hi : i < b.w * b.h) : b.cs[i]? = some (b.get ((i % b.w : Nat) : Int) ((i / b.w : Nat) : Int)) := by
  have hw := ho.w1
  have h1 := BS.get_in ho (inb_divmod (i := i) (h := b.h) (w := b.w) (by omega) hi b.cs)
  have h2 := idx_divmod (w := b.w) (h := b.h) (i := i) (by omega) b.cs
  rw [show (⟨b.w, b.h, b.cs⟩ : BS) = b from rfl] at h2
  rw [h2] at h1
  exact h1

section
variable {h0 : Heap} {p c : Nat} {b : BS} {P n : Nat} {pl kd : Int} {k : List RItem} {R : Value → Heap → Prop} {a0 : Option Addr} {c0 : Nat}
set_option maxRecDepth 10000 in
set_option maxHeartbeats 1000000 in
theorem valo_loop (hP : P ≤ 60) (hpl : -1 ≤ pl ∧ pl ≤ 100) (hn1 : n < 1000000) (hl0 : n = 0 → ∀ t, leftOf P n t = P) (hl1 : n ≠ 0 → ∀ t, leftOf P n t = if kd = 2 ∨ t = true then P - 1 - pl else P - pl)
    (hk : ∀ (H' : Heap) (v1' v2' : Value) (K0 K1 K2 K3 K4 K5 K6 K7 K8 K9 Ka Kb Ke Kf Kg Kh Ki Kj Kk Kl Km Kn Ko Kp Kq Kr Ks Kt Ku Kv Kw Kx Ky Kz J0 J1 J2 J3 J4 J5 J6 J7 J8 J9 Ja Jb Jc Jd Je Jf Jg Jh Ji Jj Jk Jl Jm Jn Jo Jp Jq Jr Js Jt Ju Jv Jw Jx Jy Jz Y0 Y1 Y2 Y3 Y4 Y5 Y6 Y7 Y8 Y9 Ya Yb Yc Yd Ye Yf Yg Yh Yi Yj Yk Yl Ym Yn Yo Yp Yq Yr Ys Yt Yu Yv Yw Yx Yy Yz Z0 Z1 Z2 Z3 Z4 Z5 Z6 Z7 Z8 Z9 Za Zb Zc Zd Ze Zf Zg Zh Zi Zj Zk Zl Zm Zn Zo Zp Zq Zr Zs Zt Zu Zv : Value), VB h0 H' p c b v1' v2' (valsTo b (b.w * b.h)) (missTo P n b (b.w * b.h)) → Ok tab R30 k #[K0,K1,K2,K3,K4,K5,K6,K7,K8,K9,Ka,Kb,v1',v2',Ke,Kf,Kg,Kh,Ki,Kj,Kk,Kl,Km,Kn,Ko,Kp,Kq,Kr,Ks,Kt,Ku,Kv,Kw,Kx,Ky,Kz,J0,J1,J2,J3,J4,J5,J6,J7,J8,J9,Ja,Jb,Jc,Jd,Je,Jf,Jg,Jh,Ji,Jj,Jk,Jl,Jm,Jn,Jo,Jp,Jq,Jr,Js,Jt,Ju,Jv,Jw,Jx,Jy,Jz,Y0,Y1,Y2,Y3,Y4,Y5,Y6,Y7,Y8,Y9,Ya,Yb,Yc,Yd,Ye,Yf,Yg,Yh,Yi,Yj,Yk,Yl,Ym,Yn,Yo,Yp,Yq,Yr,Ys,Yt,Yu,Yv,Yw,Yx,Yy,Yz,Z0,Z1,Z2,Z3,Z4,Z5,Z6,Z7,Z8,Z9,Za,Zb,Zc,Zd,Ze,Zf,Zg,Zh,Zi,Zj,Zk,Zl,Zm,Zn,Zo,Zp,Zq,Zr,Zs,Zt,Zu,Zv] H' R) :
    ∀ (m i : Nat) (H : Heap) (v1 v2 : Value) (K4 K5 K6 K7 K8 K9 Ka Kb Ke Kg Kh Ki Km Kn Ko Kp Kq Kr Ks Kt Ku Kv Kw Kx Ky Kz J0 J1 J2 J3 J4 J5 J6 J7 J8 J9 Ja Jb Jc Jd Je Jf Jg Jh Ji Jj Jk Jl Jm Jn Jo Jp Jq Jr Js Jt Ju Jv Jw Jx Jy Jz Y0 Y1 Y2 Y3 Y4 Y5 Y6 Y7 Y8 Y9 Ya Yb Yc Yd Ye Yf Yg Yh Yi Yj Yk Yl Ym Yn Yo Yp Yq Yr Ys Yt Yu Yv Yw Yx Yy Yz Z0 Z1 Z2 Z3 Z4 Z5 Z6 Z7 Z8 Z9 Za Zb Zc Zd Ze Zf Zg Zh Zi Zj Zk Zl Zm Zn Zo Zp Zq Zr Zs Zt Zu Zv : Value), m = b.w * b.h - i → i ≤ b.w * b.h → VB h0 H p c b v1 v2 (valsTo b i) (missTo P n b i) →
      Ok tab R30 (.inLoop L30_1 :: .inBlock 2 :: k) #[.slice a0 n c0,.int .i64 P,.int .i64 b.w,.int .i64 b.h,K4,K5,K6,K7,K8,K9,Ka,Kb,v1,v2,Ke,ptr p,Kg,Kh,Ki,.int .i64 pl,.int .i64 kd,.int .i64 i,Km,Kn,Ko,Kp,Kq,Kr,Ks,Kt,Ku,Kv,Kw,Kx,Ky,Kz,J0,J1,J2,J3,J4,J5,J6,J7,J8,J9,Ja,Jb,Jc,Jd,Je,Jf,Jg,Jh,Ji,Jj,Jk,Jl,Jm,Jn,Jo,Jp,Jq,Jr,Js,Jt,Ju,Jv,Jw,Jx,Jy,Jz,Y0,Y1,Y2,Y3,Y4,Y5,Y6,Y7,Y8,Y9,Ya,Yb,Yc,Yd,Ye,Yf,Yg,Yh,Yi,Yj,Yk,Yl,Ym,Yn,Yo,Yp,Yq,Yr,Ys,Yt,Yu,Yv,Yw,Yx,Yy,Yz,Z0,Z1,Z2,Z3,Z4,Z5,Z6,Z7,Z8,Z9,Za,Zb,Zc,Zd,Ze,Zf,Zg,Zh,Zi,Zj,Zk,Zl,Zm,Zn,Zo,Zp,Zq,Zr,Zs,Zt,Zu,Zv] H R := by
  intro m
  induction m with
  | zero =>
    intro i H v1 v2 K4 K5 K6 K7 K8 K9 Ka Kb Ke Kg Kh Ki Km Kn Ko Kp Kq Kr Ks Kt Ku Kv Kw Kx Ky Kz J0 J1 J2 J3 J4 J5 J6 J7 J8 J9 Ja Jb Jc Jd Je Jf Jg Jh Ji Jj Jk Jl Jm Jn Jo Jp Jq Jr Js Jt Ju Jv Jw Jx Jy Jz Y0 Y1 Y2 Y3 Y4 Y5 Y6 Y7 Y8 Y9 Ya Yb Yc Yd Ye Yf Yg Yh Yi Yj Yk Yl Ym Yn Yo Yp Yq Yr Ys Yt Yu Yv Yw Yx Yy Yz Z0 Z1 Z2 Z3 Z4 Z5 Z6 Z7 Z8 Z9 Za Zb Zc Zd Ze Zf Zg Zh Zi Zj Zk Zl Zm Zn Zo Zp Zq Zr Zs Zt Zu Zv hm hi vb
    have hw2 := vb.cb.ok.w2
    have hh2 := vb.cb.ok.h2
    have hm64 : b.w * b.h ≤ 64 * 64 := Nat.mul_le_mul hw2 hh2
    have hmw : IntKind.i64.wrap ((b.w : Int) * (b.h : Int)) = ((b.w * b.h : Nat) : Int) := by rw [← Int.natCast_mul]; exact wrapN (by omega)
    have hlt : ¬ ((i : Int) < ((b.w * b.h : Nat) : Int)) := by omega
    obtain rfl : i = b.w * b.h := by omega
    rw [ok_round, l30_1, L30_1a, L30_1b]
    generalize ((b.w * b.h : Nat) : Int) = wh at *
    simp [hmw, hlt]
    exact hk H v1 v2 _ _ _ _ _ _ _ _ _ _ _ _ _ _ _ _ _ _ _ _ _ _ _ _ _ _ _ _ _ _ _ _ _ _ _ _ _ _ _ _ _ _ _ _ _ _ _ _ _ _ _ _ _ _ _ _ _ _ _ _ _ _ _ _ _ _ _ _ _ _ _ _ _ _ _ _ _ _ _ _ _ _ _ _ _ _ _ _ _ _ _ _ _ _ _ _ _ _ _ _ _ _ _ _ _ _ _ _ _ _ _ _ _ _ _ _ _ _ _ _ _ _ _ _ _ _ _ _ _ _ _ _ _ _ _ _ _ _ vb
  | succ m ih =>
    intro i H v1 v2 K4 K5 K6 K7 K8 K9 Ka Kb Ke Kg Kh Ki Km Kn Ko Kp Kq Kr Ks Kt Ku Kv Kw Kx Ky Kz J0 J1 J2 J3 J4 J5 J6 J7 J8 J9 Ja Jb Jc Jd Je Jf Jg Jh Ji Jj Jk Jl Jm Jn Jo Jp Jq Jr Js Jt Ju Jv Jw Jx Jy Jz Y0 Y1 Y2 Y3 Y4 Y5 Y6 Y7 Y8 Y9 Ya Yb Yc Yd Ye Yf Yg Yh Yi Yj Yk Yl Ym Yn Yo Yp Yq Yr Ys Yt Yu Yv Yw Yx Yy Yz Z0 Z1 Z2 Z3 Z4 Z5 Z6 Z7 Z8 Z9 Za Zb Zc Zd Ze Zf Zg Zh Zi Zj Zk Zl Zm Zn Zo Zp Zq Zr Zs Zt Zu Zv hm hi vb
    have hw1 := vb.cb.ok.w1
    have hw2 := vb.cb.ok.w2
    have hh2 := vb.cb.ok.h2
    have hm64 : b.w * b.h ≤ 64 * 64 := Nat.mul_le_mul hw2 hh2
    have hil : i < b.w * b.h := by omega
    have hmw : IntKind.i64.wrap ((b.w : Int) * (b.h : Int)) = ((b.w * b.h : Nat) : Int) := by rw [← Int.natCast_mul]; exact wrapN (by omega)
    have hlt : ((i : Int) < ((b.w * b.h : Nat) : Int)) := by omega
    have hw : IntKind.i64.wrap ((i : Int) + 1) = ((i + 1 : Nat) : Int) := wrapN (n := i + 1) (by omega)
    have hgi := get_at vb.cb.ok hil
    have hcl : i < b.cs.length := by rw [vb.cb.ok.len]; exact hil
    have hmod : (i : Int).tmod (b.w : Int) = ((i % b.w : Nat) : Int) := rfl
    have hdiv : (i : Int).tdiv (b.w : Int) = ((i / b.w : Nat) : Int) := rfl
    have hdw : IntKind.i64.wrap ((i / b.w : Nat) : Int) = ((i / b.w : Nat) : Int) := wrapN (by have := Nat.div_le_self i b.w; omega)
    have hw0 : ¬ b.w = 0 := by omega
    have hwa : IntKind.i64.wrap ((P : Int) - 1) = (P : Int) - 1 := wrapI (by omega) (by omega)
    have hwb : IntKind.i64.wrap ((P : Int) - 1 - pl) = (P : Int) - 1 - pl := wrapI (by omega) (by omega)
    have hwc : IntKind.i64.wrap ((P : Int) - pl) = (P : Int) - pl := wrapI (by omega) (by omega)
    have hv := fun R => value_r (R := R) (x := ((i % b.w : Nat) : Int)) (y := ((i / b.w : Nat) : Int)) vb.cb
    obtain ⟨H1, e1, vb1⟩ := vb.push1 (by rw [valsTo_len (by omega)]; omega) (b.get ((i % b.w : Nat) : Int) ((i / b.w : Nat) : Int)).v
    have ht := fun R => touched_r (R := R) (x := ((i % b.w : Nat) : Int)) (y := ((i / b.w : Nat) : Int)) vb1.cb
    obtain ⟨H2, e2, vb2⟩ := vb1.swap.push1 (by rw [missTo_len (by omega)]; omega) (leftOf P n (b.get ((i % b.w : Nat) : Int) ((i / b.w : Nat) : Int)).t)
    have vb3 := vb2.swap
    rw [← valsTo_succ hgi, ← missTo_succ (P := P) (n := n) hgi] at vb3
    rw [valsTo_len (by omega)] at e1 vb3
    rw [missTo_len (by omega)] at e2 vb3
    have hl1' := fun h => hl1 h (b.get ((i % b.w : Nat) : Int) ((i / b.w : Nat) : Int)).t
    have hl0' := fun h => hl0 h (b.get ((i % b.w : Nat) : Int) ((i / b.w : Nat) : Int)).t
    have ih' := fun K4 K5 K6 K7 K8 K9 Ka Kb Ke Kg Kh Ki Km Kn Ko Kp Kq Kr Ks Kt Ku Kv Kw Kx Ky Kz J0 J1 J2 J3 J4 J5 J6 J7 J8 J9 Ja Jb Jc Jd Je Jf Jg Jh Ji Jj Jk Jl Jm Jn Jo Jp Jq Jr Js Jt Ju Jv Jw Jx Jy Jz Y0 Y1 Y2 Y3 Y4 Y5 Y6 Y7 Y8 Y9 Ya Yb Yc Yd Ye Yf Yg Yh Yi Yj Yk Yl Ym Yn Yo Yp Yq Yr Ys Yt Yu Yv Yw Yx Yy Yz Z0 Z1 Z2 Z3 Z4 Z5 Z6 Z7 Z8 Z9 Za Zb Zc Zd Ze Zf Zg Zh Zi Zj Zk Zl Zm Zn Zo Zp Zq Zr Zs Zt Zu Zv => ih (i + 1) H2 _ _ K4 K5 K6 K7 K8 K9 Ka Kb Ke Kg Kh Ki Km Kn Ko Kp Kq Kr Ks Kt Ku Kv Kw Kx Ky Kz J0 J1 J2 J3 J4 J5 J6 J7 J8 J9 Ja Jb Jc Jd Je Jf Jg Jh Ji Jj Jk Jl Jm Jn Jo Jp Jq Jr Js Jt Ju Jv Jw Jx Jy Jz Y0 Y1 Y2 Y3 Y4 Y5 Y6 Y7 Y8 Y9 Ya Yb Yc Yd Ye Yf Yg Yh Yi Yj Yk Yl Ym Yn Yo Yp Yq Yr Ys Yt Yu Yv Yw Yx Yy Yz Z0 Z1 Z2 Z3 Z4 Z5 Z6 Z7 Z8 Z9 Za Zb Zc Zd Ze Zf Zg Zh Zi Zj Zk Zl Zm Zn Zo Zp Zq Zr Zs Zt Zu Zv (by omega) (by omega) vb3
    rw [ok_round, l30_1, L30_1a, L30_1b]
    generalize leftOf P n (b.get ((i % b.w : Nat) : Int) ((i / b.w : Nat) : Int)).t = lf at *
    generalize (b.get ((i % b.w : Nat) : Int) ((i / b.w : Nat) : Int)).v = vv at *
    generalize (b.get ((i % b.w : Nat) : Int) ((i / b.w : Nat) : Int)).t = tt at *
    generalize ((b.w * b.h : Nat) : Int) = wh at *
    generalize ((i / b.w : Nat) : Int) = yy at *
    generalize ((i % b.w : Nat) : Int) = xx at *
    generalize ((i + 1 : Nat) : Int) = wi at *
    by_cases h1 : n = 0
    · have h1' : ((n : Int) == 0) = true := by simp [h1]
      have := hl0' h1
      subst this
      simp [k_guard, k_guardU, hmw, hlt, hmod, hdiv, hdw, hw0, hv, repL, e1, h1', e2, hw]
      exact ih' _ _ _ _ _ _ _ _ _ _ _ _ _ _ _ _ _ _ _ _ _ _ _ _ _ _ _ _ _ _ _ _ _ _ _ _ _ _ _ _ _ _ _ _ _ _ _ _ _ _ _ _ _ _ _ _ _ _ _ _ _ _ _ _ _ _ _ _ _ _ _ _ _ _ _ _ _ _ _ _ _ _ _ _ _ _ _ _ _ _ _ _ _ _ _ _ _ _ _ _ _ _ _ _ _ _ _ _ _ _ _ _ _ _ _ _ _ _ _ _ _ _ _ _ _ _ _ _ _ _
    · have h1' : ((n : Int) == 0) = false := by simp [h1]
      have hl := hl1' h1
      by_cases h2 : kd = 2
      · have h2' : (kd == 2) = true := by simp [h2]
        rw [if_pos (.inl h2)] at hl
        subst hl
        simp [k_guard, k_guardU, hmw, hlt, hmod, hdiv, hdw, hw0, hv, repL, e1, h1', h2', hwa, hwb, e2, hw]
        exact ih' _ _ _ _ _ _ _ _ _ _ _ _ _ _ _ _ _ _ _ _ _ _ _ _ _ _ _ _ _ _ _ _ _ _ _ _ _ _ _ _ _ _ _ _ _ _ _ _ _ _ _ _ _ _ _ _ _ _ _ _ _ _ _ _ _ _ _ _ _ _ _ _ _ _ _ _ _ _ _ _ _ _ _ _ _ _ _ _ _ _ _ _ _ _ _ _ _ _ _ _ _ _ _ _ _ _ _ _ _ _ _ _ _ _ _ _ _ _ _ _ _ _ _ _ _ _ _ _ _ _
      · have h2' : (kd == 2) = false := by simp [h2]
        cases tt
        · rw [if_neg (by simp [h2])] at hl
          subst hl
          simp [k_guard, k_guardU, hmw, hlt, hmod, hdiv, hdw, hw0, hv, repL, e1, h1', h2', ht, hwc, e2, hw]
          exact ih' _ _ _ _ _ _ _ _ _ _ _ _ _ _ _ _ _ _ _ _ _ _ _ _ _ _ _ _ _ _ _ _ _ _ _ _ _ _ _ _ _ _ _ _ _ _ _ _ _ _ _ _ _ _ _ _ _ _ _ _ _ _ _ _ _ _ _ _ _ _ _ _ _ _ _ _ _ _ _ _ _ _ _ _ _ _ _ _ _ _ _ _ _ _ _ _ _ _ _ _ _ _ _ _ _ _ _ _ _ _ _ _ _ _ _ _ _ _ _ _ _ _ _ _ _ _ _ _ _ _
        · rw [if_pos (.inr rfl)] at hl
          subst hl
          simp [k_guard, k_guardU, hmw, hlt, hmod, hdiv, hdw, hw0, hv, repL, e1, h1', h2', ht, hwa, hwb, e2, hw]
          exact ih' _ _ _ _ _ _ _ _ _ _ _ _ _ _ _ _ _ _ _ _ _ _ _ _ _ _ _ _ _ _ _ _ _ _ _ _ _ _ _ _ _ _ _ _ _ _ _ _ _ _ _ _ _ _ _ _ _ _ _ _ _ _ _ _ _ _ _ _ _ _ _ _ _ _ _ _ _ _ _ _ _ _ _ _ _ _ _ _ _ _ _ _ _ _ _ _ _ _ _ _ _ _ _ _ _ _ _ _ _ _ _ _ _ _ _ _ _ _ _ _ _ _ _ _ _ _ _ _ _ _
end
theorem pass_neg1 {h : Heap} {R : Value → Heap → Prop} : Ret tab 38 [.int .i64 (-1)] h R = R (.tuple #[.int .i64 (-1), .int .i64 (-1)]) h := by
  rw [enter38, B38]
  simp [fin38]
set_option maxRecDepth 10000 in
set_option maxHeartbeats 1000000 in
theorem values_q {h : Heap} {s : Value} {vs : List Value} {ls : List (List (Int × Int))} (hp : PsI h s vs ls) (hl : ls.length < 100000) (hrow : ∀ l ∈ ls, l.length < 900000) (P w hh o : Int) (hPr : -9223372036854775808 ≤ P ∧ P < 9223372036854775808) (m : MD) :
    ∃ v1 v2 h', (∀ R, Ret tab 30 [s, .int .i64 P, .int .i64 w, .int .i64 hh, .int .i64 o, m.val] h R = R (.tuple #[v1, v2, .int .i64 (valRes ls P w hh o m).1]) h') ∧ VOut h h' v1 v2 (valRes ls P w hh o m) := by
  have key : Ret tab 30 [s, .int .i64 P, .int .i64 w, .int .i64 hh, .int .i64 o, m.val] h fun v h' => ∃ v1 v2, v = .tuple #[v1, v2, .int .i64 (valRes ls P w hh o m).1] ∧ VOut h h' v1 v2 (valRes ls P w hh o m) := by
    obtain ⟨a, cc, hs⟩ := hp.sl.shape
    rw [hp.len] at hs
    rw [enter30, show B30 = .seq (nthC 0 B30) (.seq (nthC 1 B30) (.seq (nthC 2 B30) (.seq (nthC 3 B30) (tlC 4 B30)))) from rfl]
    generalize hT : tlC 4 B30 = tl
    simp only [nthC, tlC, fstC, B30]
    have hkp : ∀ x : Option Blk, ∀ id, id < h.length → blk? (h ++ [x]) id = blk? h id := fun x id hid => blk?_push_lt hid
    have hbadr : ∀ e, valErr ls.length P w hh o = e → e ≠ 0 → valRes ls P w hh o m = (e, [], []) := fun e he h0 => by unfold valRes; rw [he, if_pos h0]
    by_cases hb2 : (w < 1 ∨ 64 < w ∨ hh < 1 ∨ 64 < hh) ∨ P < 0 ∨ 60 < P
    · have hr := hbadr 2 (by unfold valErr; rw [if_pos]; rcases hb2 with hb2 | hb2; · left; simp [sized]; omega
                             · exact .inr hb2) (by decide)
      rw [hr]
      by_cases c1 : w < 1
      · simp [MD.val, k_guard, k_guardU, c1, fin30]
        exact ⟨_, _, ⟨rfl, rfl⟩, VOut.bad (hkp _) (by simp) _⟩
      by_cases c2 : 64 < w
      · simp [MD.val, k_guard, k_guardU, c1, c2, fin30]
        exact ⟨_, _, ⟨rfl, rfl⟩, VOut.bad (hkp _) (by simp) _⟩
      by_cases c3 : hh < 1
      · simp [MD.val, k_guard, k_guardU, c1, c2, c3, fin30]
        exact ⟨_, _, ⟨rfl, rfl⟩, VOut.bad (hkp _) (by simp) _⟩
      by_cases c4 : 64 < hh
      · simp [MD.val, k_guard, k_guardU, c1, c2, c3, c4, fin30]
        exact ⟨_, _, ⟨rfl, rfl⟩, VOut.bad (hkp _) (by simp) _⟩
      by_cases c5 : P < 0
      · simp [MD.val, k_guard, k_guardU, c1, c2, c3, c4, c5, fin30]
        exact ⟨_, _, ⟨rfl, rfl⟩, VOut.bad (hkp _) (by simp) _⟩
      · have c6 : 60 < P := by omega
        simp [MD.val, k_guard, k_guardU, c1, c2, c3, c4, c5, c6, fin30]
        exact ⟨_, _, ⟨rfl, rfl⟩, VOut.bad (hkp _) (by simp) _⟩
    have c1 : ¬ w < 1 := by omega
    have c2 : ¬ 64 < w := by omega
    have c3 : ¬ hh < 1 := by omega
    have c4 : ¬ 64 < hh := by omega
    have c5 : ¬ P < 0 := by omega
    have c6 : ¬ 60 < P := by omega
    have hsz : sized w hh = true := by simp [sized]; omega
    have hne2 : ¬ (¬ sized w hh = true ∨ P < 0 ∨ 60 < P) := by rw [hsz]; simp; omega
    have hm1 : IntKind.i64.wrap (3 * P) = 3 * P := wrapI (by omega) (by omega)
    have hm2 : IntKind.i64.wrap (3 * P - 2) = 3 * P - 2 := wrapI (by omega) (by omega)
    have hmx : fold1 max2V [.int .i64 0, .int .i64 (3 * P - 2)] = some (.int .i64 (max 0 (3 * P - 2))) := by
      simp only [fold1, foldO, max2V]
      congr 2
      split <;> omega
    by_cases hln : max 0 (3 * P - 2) < (ls.length : Int)
    · have hr := hbadr 4 (by unfold valErr; rw [if_neg hne2, if_pos hln]) (by decide)
      rw [hr]
      simp [MD.val, k_guard, k_guardU, c1, c2, c3, c4, c5, c6, hs, hm1, hm2, hmx, hln, fin30]
      exact ⟨_, _, ⟨rfl, rfl⟩, VOut.bad (hkp _) (by simp) _⟩
    have hvo := fun R => validOrient_r (h := h ++ [some ⟨false, [.bool m.byp, .bool m.res, .bool m.rst, .bool m.cz, .bool m.sy]⟩]) (R := R) (o := o)
    by_cases ho : 0 ≤ o ∧ o ≤ 3
    case neg =>
      have hr := hbadr 3 (by unfold valErr; rw [if_neg hne2, if_neg hln, if_pos (by omega)]) (by decide)
      rw [decide_eq_false ho] at hvo
      rw [hr]
      simp [MD.val, k_guard, k_guardU, c1, c2, c3, c4, c5, c6, hs, hm1, hm2, hmx, hln, hvo, fin30]
      exact ⟨_, _, ⟨rfl, rfl⟩, VOut.bad (hkp _) (by simp) _⟩
    rw [decide_eq_true ho] at hvo
    obtain ⟨P, rfl⟩ := Int.eq_ofNat_of_zero_le (show 0 ≤ P by omega)
    obtain ⟨o, rfl⟩ := Int.eq_ofNat_of_zero_le (show 0 ≤ o by omega)
    obtain ⟨w, rfl⟩ := Int.eq_ofNat_of_zero_le (show 0 ≤ w by omega)
    obtain ⟨hh, rfl⟩ := Int.eq_ofNat_of_zero_le (show 0 ≤ hh by omega)
    have w1 : 1 ≤ w := by omega
    have w2 : w ≤ 64 := by omega
    have h1 : 1 ≤ hh := by omega
    have h2 : hh ≤ 64 := by omega
    have herr : valErr ls.length (P : Int) w hh o = 0 := by unfold valErr; rw [if_neg hne2, if_neg hln, if_neg (by omega)]
    generalize hr : valRes ls (P : Int) w hh o m = r
    have hr' : r = if (vLoop m P o 0 (newBS w hh) ls).2 ≠ 0 then ((vLoop m P o 0 (newBS w hh) ls).2, [], []) else (0, (vLoop m P o 0 (newBS w hh) ls).1.cs.map (·.v), (vLoop m P o 0 (newBS w hh) ls).1.cs.map fun c => leftOf P ls.length c.t) := by
      rw [← hr]; unfold valRes; rw [herr, if_neg (by simp)]; simp only [Int.toNat_natCast]
    have hnew := fun H R => new_r (h := H) (R := R) w1 w2 h1 h2
    have hls : ∀ H : Heap, (newHeap H w hh).length = H.length + 2 := fun H => newHeap_len H w hh
    have hlow : ∀ x : Option Blk, ∀ id, id < h.length → blk? (newHeap (h ++ [x]) w hh) id = blk? h id := fun x id hid => by
      rw [newHeap_low _ _ _ id (by simp; omega)]; exact hkp x id hid
    simp [MD.val, k_guard, k_guardU, c1, c2, c3, c4, c5, c6, hs, hm1, hm2, hmx, hln, hvo]
    rw [← hT]
    simp only [tlC, B30]
    generalize hH : newHeap (h ++ [some (⟨false, [.bool m.byp, .bool m.res, .bool m.rst, .bool m.cz, .bool m.sy]⟩ : Blk)]) w hh = H
    have hlowH : ∀ id, id < h.length → blk? H id = blk? h id := by rw [← hH]; exact hlow _
    have hlenH : H.length = h.length + 3 := by rw [← hH, hls]; simp
    have vl : VLv h H h.length (h.length + 2) (h.length + 1) m w hh (newBS w hh) := by
      refine ⟨hlowH, by omega, ?_, ?_, newBS_good w1 w2 h1 h2, ⟨by omega, by omega⟩, rfl, rfl, by omega⟩
      · rw [← hH, newHeap_low _ _ _ _ (by simp)]; exact blk?_push_eq
      · rw [← hH]
        have := newHeap_cb (h ++ [some (⟨false, [.bool m.byp, .bool m.res, .bool m.rst, .bool m.cz, .bool m.sy]⟩ : Blk)]) w1 w2 h1 h2
        simpa using this
    have hvn : (vLoop m P o 0 (newBS w hh) (ls.drop 0)) = vLoop m P o 0 (newBS w hh) ls := rfl
    simp [hnew, hH]
    rw [← hs]
    refine valsq_loop (w := w) (hh := hh) hp hrow (by omega) (by omega) (by omega) (by omega) ls.length 0 H (newBS w hh) _ _ _ _ _ _ _ _ _ _ _ _ _ _ _ _ _ _ _ _ _ _ _ _ _ _ _ _ _ _ _ _ _ _ _ _ _ _ _ _ _ _ _ _ _ _ _ _ _ _ _ _ _ _ _ _ _ _ _ _ _ _ _ _ _ _ _ _ _ _ _ _ _ _ _ _ _ _ _ _ _ _ _ _ _ _ _ _ _ _ _ _ _ _ _ _ _ _ _ _ _ _ _ _ _ _ _ _ _ _ _ _ _ _ _ _ _ _ _ _ _ _ _ _ _ _ _ _ _ _ rfl (by omega) vl ?_ ?_
    · intro H1 b' K5 K6 K7 K8 K9 Ka Ke Kg Kh Ki Kj Kk Kl Km Kn Ko Kp Kq Kr Ks Kt Ku Kv Kw Kx Ky Kz J0 J1 J2 J3 J4 J5 J6 J7 J8 J9 Ja Jb Jc Jd Je Jf Jg Jh Ji Jj Jk Jl Jm Jn Jo Jp Jq Jr Js Jt Ju Jv Jw Jx Jy Jz Y0 Y1 Y2 Y3 Y4 Y5 Y6 Y7 Y8 Y9 Ya Yb Yc Yd Ye Yf Yg Yh Yi Yj Yk Yl Ym Yn Yo Yp Yq Yr Ys Yt Yu Yv Yw Yx Yy Yz Z0 Z1 Z2 Z3 Z4 Z5 Z6 Z7 Z8 Z9 Za Zb Zc Zd Ze Zf Zg Zh Zi Zj Zk Zl Zm Zn Zo Zp Zq Zr Zs Zt Zu Zv hv vl1
      rw [hvn] at hv
      rw [hv] at hr'
      simp only [ne_eq, not_true_eq_false, if_false] at hr'
      have hbw := vl1.bw
      have hbh := vl1.bh
      have lp := blk?_lt vl1.cb.blkp
      have lc := blk?_lt vl1.cb.blkc
      have hvb : VB h H1 (h.length + 2) (h.length + 1) b' (.slice none 0 0) (.slice none 0 0) (valsTo b' 0) (missTo P ls.length b' 0) :=
        ⟨vl1.low, vl1.len, vl1.cb, by simp [valsTo, i64s]; exact OwnS.nil _ _, by simp [missTo, i64s]; exact OwnS.nil _ _, fun id hid => by simp [sid] at hid, fun id hid => by simp [sid] at hid, fun id hid => by simp [sid] at hid⟩
      have fin : ∀ (pl kd : Int), (-1 ≤ pl ∧ pl ≤ 100) → (ls.length ≠ 0 → ∀ t, leftOf P ls.length t = if kd = 2 ∨ t = true then P - 1 - pl else P - pl) → ∀ K4 K5 K6 K7 K8 K9 Ka Kb Ke Kg Kh Ki Km Kn Ko Kp Kq Kr Ks Kt Ku Kv Kw Kx Ky Kz J0 J1 J2 J3 J4 J5 J6 J7 J8 J9 Ja Jb Jc Jd Je Jf Jg Jh Ji Jj Jk Jl Jm Jn Jo Jp Jq Jr Js Jt Ju Jv Jw Jx Jy Jz Y0 Y1 Y2 Y3 Y4 Y5 Y6 Y7 Y8 Y9 Ya Yb Yc Yd Ye Yf Yg Yh Yi Yj Yk Yl Ym Yn Yo Yp Yq Yr Ys Yt Yu Yv Yw Yx Yy Yz Z0 Z1 Z2 Z3 Z4 Z5 Z6 Z7 Z8 Z9 Za Zb Zc Zd Ze Zf Zg Zh Zi Zj Zk Zl Zm Zn Zo Zp Zq Zr Zs Zt Zu Zv : Value,
          Ok tab R30 (.inLoop L30_1 :: .inBlock 2 :: [.code (tlC 8 B30)]) #[s,.int .i64 P,.int .i64 w,.int .i64 hh,K4,K5,K6,K7,K8,K9,Ka,Kb,.slice none 0 0,.slice none 0 0,Ke,ptr (h.length + 2),Kg,Kh,Ki,.int .i64 pl,.int .i64 kd,.int .i64 0,Km,Kn,Ko,Kp,Kq,Kr,Ks,Kt,Ku,Kv,Kw,Kx,Ky,Kz,J0,J1,J2,J3,J4,J5,J6,J7,J8,J9,Ja,Jb,Jc,Jd,Je,Jf,Jg,Jh,Ji,Jj,Jk,Jl,Jm,Jn,Jo,Jp,Jq,Jr,Js,Jt,Ju,Jv,Jw,Jx,Jy,Jz,Y0,Y1,Y2,Y3,Y4,Y5,Y6,Y7,Y8,Y9,Ya,Yb,Yc,Yd,Ye,Yf,Yg,Yh,Yi,Yj,Yk,Yl,Ym,Yn,Yo,Yp,Yq,Yr,Ys,Yt,Yu,Yv,Yw,Yx,Yy,Yz,Z0,Z1,Z2,Z3,Z4,Z5,Z6,Z7,Z8,Z9,Za,Zb,Zc,Zd,Ze,Zf,Zg,Zh,Zi,Zj,Zk,Zl,Zm,Zn,Zo,Zp,Zq,Zr,Zs,Zt,Zu,Zv] H1
            fun v h' => ∃ v1 v2, v = .tuple #[v1, v2, .int .i64 r.1] ∧ VOut h h' v1 v2 r := by
        intro pl kd hpl hl1 K4 K5 K6 K7 K8 K9 Ka Kb Ke Kg Kh Ki Km Kn Ko Kp Kq Kr Ks Kt Ku Kv Kw Kx Ky Kz J0 J1 J2 J3 J4 J5 J6 J7 J8 J9 Ja Jb Jc Jd Je Jf Jg Jh Ji Jj Jk Jl Jm Jn Jo Jp Jq Jr Js Jt Ju Jv Jw Jx Jy Jz Y0 Y1 Y2 Y3 Y4 Y5 Y6 Y7 Y8 Y9 Ya Yb Yc Yd Ye Yf Yg Yh Yi Yj Yk Yl Ym Yn Yo Yp Yq Yr Ys Yt Yu Yv Yw Yx Yy Yz Z0 Z1 Z2 Z3 Z4 Z5 Z6 Z7 Z8 Z9 Za Zb Zc Zd Ze Zf Zg Zh Zi Zj Zk Zl Zm Zn Zo Zp Zq Zr Zs Zt Zu Zv
        rw [← hbw, ← hbh, hs]
        refine valo_loop (P := P) (n := ls.length) (by omega) hpl (by omega) (fun h t => by unfold leftOf; rw [if_pos h]) hl1 ?_ _ 0 _ _ _ _ _ _ _ _ _ _ _ _ _ _ _ _ _ _ _ _ _ _ _ _ _ _ _ _ _ _ _ _ _ _ _ _ _ _ _ _ _ _ _ _ _ _ _ _ _ _ _ _ _ _ _ _ _ _ _ _ _ _ _ _ _ _ _ _ _ _ _ _ _ _ _ _ _ _ _ _ _ _ _ _ _ _ _ _ _ _ _ _ _ _ _ _ _ _ _ _ _ _ _ _ _ _ _ _ _ _ _ _ _ _ _ _ _ _ _ _ _ _ _ _ _ _ _ _ _ _ _ _ _ rfl (Nat.zero_le _) hvb
        intro H' v1' v2' K0 K1 K2 K3 K4 K5 K6 K7 K8 K9 Ka Kb Ke Kf Kg Kh Ki Kj Kk Kl Km Kn Ko Kp Kq Kr Ks Kt Ku Kv Kw Kx Ky Kz J0 J1 J2 J3 J4 J5 J6 J7 J8 J9 Ja Jb Jc Jd Je Jf Jg Jh Ji Jj Jk Jl Jm Jn Jo Jp Jq Jr Js Jt Ju Jv Jw Jx Jy Jz Y0 Y1 Y2 Y3 Y4 Y5 Y6 Y7 Y8 Y9 Ya Yb Yc Yd Ye Yf Yg Yh Yi Yj Yk Yl Ym Yn Yo Yp Yq Yr Ys Yt Yu Yv Yw Yx Yy Yz Z0 Z1 Z2 Z3 Z4 Z5 Z6 Z7 Z8 Z9 Za Zb Zc Zd Ze Zf Zg Zh Zi Zj Zk Zl Zm Zn Zo Zp Zq Zr Zs Zt Zu Zv vb
        have hfl : b'.w * b'.h = b'.cs.length := vl1.cb.ok.len.symm
        have ev : valsTo b' (b'.w * b'.h) = b'.cs.map (·.v) := by unfold valsTo; rw [List.take_of_length_le (by omega)]
        have em : missTo P ls.length b' (b'.w * b'.h) = b'.cs.map fun c => leftOf P ls.length c.t := by unfold missTo; rw [List.take_of_length_le (by omega)]
        rw [ev, em] at vb
        simp [tlC, B30, fin30]
        rw [hr']
        exact ⟨v1', v2', ⟨rfl, rfl, rfl⟩, by simpa using vb.o1, by simpa using vb.o2, vb.low, vb.len⟩
      simp only [tlC, B30] at fin
      by_cases hn0 : ls.length = 0
      · have hw0 : IntKind.i64.wrap ((ls.length : Int) - 1) = -1 := by rw [hn0]; decide
        have hnn := fun h R => pass_neg1 (h := h) (R := R)
        have f := fin (-1) (-1) (by omega) (fun h => absurd hn0 h)
        rw [hs] at f ⊢
        simp [hw0, hnn]
        exact f _ _ _ _ _ _ _ _ _ _ _ _ _ _ _ _ _ _ _ _ _ _ _ _ _ _ _ _ _ _ _ _ _ _ _ _ _ _ _ _ _ _ _ _ _ _ _ _ _ _ _ _ _ _ _ _ _ _ _ _ _ _ _ _ _ _ _ _ _ _ _ _ _ _ _ _ _ _ _ _ _ _ _ _ _ _ _ _ _ _ _ _ _ _ _ _ _ _ _ _ _ _ _ _ _ _ _ _ _ _ _ _ _ _ _ _ _ _ _ _ _ _ _ _ _ _ _ _ _ _
      · have hw0 : IntKind.i64.wrap ((ls.length : Int) - 1) = ((ls.length - 1 : Nat) : Int) := by rw [wrapI (by omega) (by omega)]; omega
        have hnn := fun h R => pass_r (h := h) (R := R) (n := ls.length - 1) (by omega)
        have hpo : planeOf (ls.length - 1) ≤ P - 1 := planeOf_le (by omega) (by omega)
        have f := fin (planeOf (ls.length - 1) : Nat) (kindOf (ls.length - 1) : Nat) (by omega) (fun _ t => by
          rw [leftOf_pos hn0]
          by_cases hk : kindOf (ls.length - 1) = 2
          · rw [if_neg (by simp [hk]), if_pos (.inl (by omega))]; omega
          · cases t
            · rw [if_pos (by simp [hk]), if_neg (by simp; omega)]; omega
            · rw [if_neg (by simp), if_pos (.inr rfl)]; omega)
        rw [hs] at f ⊢
        generalize ((planeOf (ls.length - 1) : Nat) : Int) = pl at *
        generalize ((kindOf (ls.length - 1) : Nat) : Int) = kd at *
        generalize ((ls.length - 1 : Nat) : Int) = n1 at *
        simp [hw0, hnn]
        exact f _ _ _ _ _ _ _ _ _ _ _ _ _ _ _ _ _ _ _ _ _ _ _ _ _ _ _ _ _ _ _ _ _ _ _ _ _ _ _ _ _ _ _ _ _ _ _ _ _ _ _ _ _ _ _ _ _ _ _ _ _ _ _ _ _ _ _ _ _ _ _ _ _ _ _ _ _ _ _ _ _ _ _ _ _ _ _ _ _ _ _ _ _ _ _ _ _ _ _ _ _ _ _ _ _ _ _ _ _ _ _ _ _ _ _ _ _ _ _ _ _ _ _ _ _ _ _ _ _ _
    · intro H1 e he h0 low len
      rw [hvn] at he
      rw [he, if_pos h0] at hr'
      rw [hr']
      exact ⟨_, _, rfl, VOut.bad low len _⟩
  obtain ⟨v, h', e, v1, v2, rfl, rs⟩ := ret_ex key
  exact ⟨v1, v2, h', e, rs⟩
end Go.Proofs.Ytjpjohchdfoeaaa
