/-
  The reference's passes: the cleanup pass, and Run.
  Run of the reference's passes.
  Rows of symbols, compared.
  Symbols: the reference's loops.
  Symbols: the reference's.
  The reference's block encoder, followed: what is checked, the sizes.
  The reference's block encoder, followed: the segments.
  The reference's block encoder, followed: all segments.
  The reference's block encoder, followed: Encode.
  Coded blocks: Valid, and whether two are the same.
  Coded blocks: whether two are the same, and Truncate.
  The examples of the chapter.
  BlockencEncodes: the walk.
-/
import Derived.Test.YtjpjohchdfoeaaaGreatRen3
import Derived.Test.YtjpjohchdfoeaaaGreatBe4
namespace Go.Proofs.YtjpjohchdfoeaaaGreat
open Go Go.Sim
set_option linter.unusedSimpArgs false
set_option linter.unusedVariables false
section
variable {h : Heap} {q p c : Nat} {P : PP} {m : MD} {sv : Value} {σ : ES} {k : List RItem} {R : Value → Heap → Prop}
theorem runLength_loop {x y : Int} {v6 : Value} (he : QE h q p c P m sv σ) (hx : 0 ≤ x ∧ x < σ.b.w) (hy : 0 ≤ y ∧ y + 4 ≤ σ.b.h)
  (hk : ∀ (j : Nat) (K3 K4 K5 K8 K9 Ka Kb Kc Kd Ke Kf Kg Kh Ki Kj Kk Kl Km Kn Ko Kp Kq Kr Ks Kt Ku Kv Kw Kx Ky Kz J0 J1 J2 J3 J4 J5 J6 : Value),(j = 4 ∧ firstBit σ.b P.s x y 4 = none ∨ j < 4 ∧ firstBit σ.b P.s x y 4 = some j) → Ok tab R172 k #[ptr q,.int .i64 x,.int .i64 y,K3,K4,K5,v6,.int .i64 j,K8,K9,Ka,Kb,Kc,Kd,Ke,Kf,Kg,Kh,Ki,Kj,Kk,Kl,Km,Kn,Ko,Kp,Kq,Kr,Ks,Kt,Ku,Kv,Kw,Kx,Ky,Kz,J0,J1,J2,J3,J4,J5,J6] h R) :
  ∀ (n i : Nat) (K3 K4 K5 K8 K9 Ka Kb Kc Kd Ke Kf Kg Kh Ki Kj Kk Kl Km Kn Ko Kp Kq Kr Ks Kt Ku Kv Kw Kx Ky Kz J0 J1 J2 J3 J4 J5 J6 : Value),i + n = 4 → firstBit σ.b P.s x y 4 = (firstBit σ.b P.s x (y + i) n).map (· + i) →
   Ok tab R172 (.inLoop L172_0 :: .inBlock 0 :: k) #[ptr q,.int .i64 x,.int .i64 y,K3,K4,K5,v6,.int .i64 i,K8,K9,Ka,Kb,Kc,Kd,Ke,Kf,Kg,Kh,Ki,Kj,Kk,Kl,Km,Kn,Ko,Kp,Kq,Kr,Ks,Kt,Ku,Kv,Kw,Kx,Ky,Kz,J0,J1,J2,J3,J4,J5,J6] h R := by
 intro n
 induction n with
 | zero =>
  intro i;intros;rename_i hi hfb
  obtain rfl : i = 4 := by omega
  rw [ok_round,l172_0,L172_0a,L172_0b]
  simp [k_guard,k_guardU]
  exact hk 4 _ _ _ _ _ _ _ _ _ _ _ _ _ _ _ _ _ _ _ _ _ _ _ _ _ _ _ _ _ _ _ _ _ _ _ _ _ _ (.inl ⟨rfl,by rw [hfb]; simp [firstBit]⟩)
 | succ n ih =>
  intro i;intros;rename_i hi hfb
  have hb2 := he.qr.cb.ok.h2
  have hlt : (i : Int) < 4 := by omega
  have hw1 : IntKind.i64.wrap ((i : Int) + 1) = (i : Int) + 1 := wrapN (n := i + 1) (by omega)
  have hw2 : IntKind.i64.wrap (y + (i : Int)) = y + (i : Int) := wrapI (by omega) (by omega)
  have hbit := fun R => bit_r (R := R) (x := x) (y := y + i) he.qr
  rw [ok_round,l172_0,L172_0a,L172_0b]
  by_cases hb : bitOf (σ.b.get x (y + i)).v P.s = 1
  ·rw [hb] at hbit
   simp only [Int.natCast_one] at hbit
   simp [k_guard,hlt,hw2,hbit]
   exact hk i _ _ _ _ _ _ _ _ _ _ _ _ _ _ _ _ _ _ _ _ _ _ _ _ _ _ _ _ _ _ _ _ _ _ _ _ _ _ (.inr ⟨by omega,by rw [hfb]; simp [firstBit,hb]⟩)
  ·have hb0 : bitOf (σ.b.get x (y + i)).v P.s = 0 := by unfold bitOf at *; omega
   rw [hb0] at hbit
   simp only [Int.natCast_zero] at hbit
   simp [k_guard,hlt,hw1,hw2,hbit]
   refine ih (i + 1) _ _ _ _ _ _ _ _ _ _ _ _ _ _ _ _ _ _ _ _ _ _ _ _ _ _ _ _ _ _ _ _ _ _ _ _ _ _ (by omega) ?_
   rw [hfb,firstBit,if_neg hb]
   rw [show y + ((i + 1 : Nat) : Int) = y + i + 1 by omega]
   cases firstBit σ.b P.s x (y + i + 1) n with
   | none => rfl
   | some j => simp; omega
theorem runLength_r (he : QE h q p c P m sv σ) (hn : σ.out.length + 5 < 1000000) {x y : Int} (hx : 0 ≤ x ∧ x < σ.b.w) (hy : 0 ≤ y ∧ y + 4 ≤ σ.b.h) :
  ∃ sv' h',(∀ R,Ret tab 172 [ptr q,.int .i64 x,.int .i64 y] h R = R (.int .i64 ((σ.run P x y).2 - y)) h') ∧ QE h' q p c P m sv' (σ.run P x y).1 ∧ Stp h h' c q sv sv' := by
 have key : Ret tab 172 [ptr q,.int .i64 x,.int .i64 y] h fun v h' => v = .int .i64 ((σ.run P x y).2 - y) ∧ ∃ sv',QE h' q p c P m sv' (σ.run P x y).1 ∧ Stp h h' c q sv sv' := by
  have hb2 := he.qr.cb.ok.h2
  rw [enter172,B172]
  simp
  refine runLength_loop he hx hy ?_ 4 0 _ _ _ _ _ _ _ _ _ _ _ _ _ _ _ _ _ _ _ _ _ _ _ _ _ _ _ _ _ _ _ _ _ _ _ _ _ _ (by omega) (by simp)
  intro j;intros;rename_i hj
  rcases hj with ⟨rfl,hf⟩ | ⟨hj4,hf⟩
  ·obtain ⟨sv1,h1,e1,p1,s1⟩ := put_r he (by omega) 17 0
   have hr : σ.run P x y = (σ.emit P 17 0,y + 4) := by unfold ES.run; rw [hf]
   rw [hr]
   simp only [Int.natCast_zero] at e1
   simp [e1,fin172]
   exact ⟨by omega,sv1,p1,s1⟩
  ·have hr : σ.run P x y = ((((σ.emit P 17 1).emit P 18 (j / 2)).emit P 18 (j % 2)).sign P x (y + j),y + j + 1) := by unfold ES.run; rw [hf]
   obtain ⟨sv1,h1,e1,p1,s1⟩ := put_r he (by omega) 17 1
   obtain ⟨sv2,h2,e2,p2,s2⟩ := put_r p1 (by simp [ES.emit]; omega) 18 (j / 2)
   obtain ⟨sv3,h3,e3,p3,s3⟩ := put_r p2 (by simp [ES.emit]; omega) 18 (j % 2)
   obtain ⟨sv4,h4,e4,p4,s4⟩ := psign_r p3 (by simp [ES.emit]; omega) (x := x) (y := y + j) ⟨hx.1,hx.2,by omega,by show y + (j : Int) < σ.b.h; omega⟩
   have h4' : ((j : Int) == 4) = false := by simp; omega
   have hw1 : IntKind.i64.wrap ((j : Int) + 1) = (j : Int) + 1 := wrapN (n := j + 1) (by omega)
   have hw2 : IntKind.i64.wrap (y + (j : Int)) = y + (j : Int) := wrapI (by omega) (by omega)
   have hd : (j : Int).tdiv 2 = ((j / 2 : Nat) : Int) := rfl
   have hm : (j : Int).tmod 2 = ((j % 2 : Nat) : Int) := rfl
   have hw3 : IntKind.i64.wrap ((j / 2 : Nat) : Int) = ((j / 2 : Nat) : Int) := wrapN (by omega)
   simp only [Int.natCast_one] at e1
   rw [hr]
   simp [-Int.natCast_ediv,-Int.natCast_emod,h4',hw1,hw2,hd,hm,hw3,e1,e2,e3,e4,fin172]
   exact ⟨by omega,sv4,p4,((s1.trans s2).trans s3).trans s4⟩
 obtain ⟨v,h',e,rfl,sv',pe,st⟩ := ret_ex key
 exact ⟨sv',h',e,pe,st⟩
theorem clean_loop_r {s : Value} {pts : List (Int × Int)} {hh : Nat} :
  ∀ (n i : Nat) (h : Heap) (sv : Value) (τ : ES × Nat) (K3 K4 K5 K7 K8 K9 Ka Ke Kf Kg Kh Ki Kj Kk Kl Km Kn Ko Kp Kq Kr Ks Kt Ku Kv Kw Kx Ky Kz J0 J1 J2 J3 J4 J5 J6 J7 J8 J9 Ja Jb Jc Jd Je Jf Jg Jh Ji Jj Jk Jl Jm Jn Jo Jp Jq Jr Js Jt Ju Jv Jw Jx Jy Jz Y0 Y1 Y2 Y3 Y4 Y5 Y6 Y7 Y8 Y9 Ya Yb Yc Yd Ye Yf Yg Yh Yi Yj Yk : Value),n = pts.length - i → i ≤ pts.length → QE h q p c P m sv τ.1 → Far h s pts c q sv → AllIn τ.1.b pts → τ.1.b.h = hh → τ.1.out.length + 4 * n + 6 < 1000000 → τ.2 ≤ 3 → pts.length < 1000000 →
   (∀ (h' : Heap) (sv' : Value) (K2 K3 K4 K5 K6 K7 K8 K9 Ka Kb Kc Kd Ke Kf Kg Kh Ki Kj Kk Kl Km Kn Ko Kp Kq Kr Ks Kt Ku Kv Kw Kx Ky Kz J0 J1 J2 J3 J4 J5 J6 J7 J8 J9 Ja Jb Jc Jd Je Jf Jg Jh Ji Jj Jk Jl Jm Jn Jo Jp Jq Jr Js Jt Ju Jv Jw Jx Jy Jz Y0 Y1 Y2 Y3 Y4 Y5 Y6 Y7 Y8 Y9 Ya Yb Yc Yd Ye Yf Yg Yh Yi Yj Yk : Value),QE h' q p c P m sv' (csteps P τ (pts.drop i)).1 → Stp h h' c q sv sv' → Ok tab R130 k #[ptr q,s,K2,K3,K4,K5,K6,K7,K8,K9,Ka,Kb,Kc,Kd,Ke,Kf,Kg,Kh,Ki,Kj,Kk,Kl,Km,Kn,Ko,Kp,Kq,Kr,Ks,Kt,Ku,Kv,Kw,Kx,Ky,Kz,J0,J1,J2,J3,J4,J5,J6,J7,J8,J9,Ja,Jb,Jc,Jd,Je,Jf,Jg,Jh,Ji,Jj,Jk,Jl,Jm,Jn,Jo,Jp,Jq,Jr,Js,Jt,Ju,Jv,Jw,Jx,Jy,Jz,Y0,Y1,Y2,Y3,Y4,Y5,Y6,Y7,Y8,Y9,Ya,Yb,Yc,Yd,Ye,Yf,Yg,Yh,Yi,Yj,Yk] h' R) →
   Ok tab R130 (.inLoop L130_0 :: .inBlock 0 :: k) #[ptr q,s,.int .i64 hh,K3,K4,K5,.int .i64 τ.2,K7,K8,K9,Ka,s,.int .i64 pts.length,.int .i64 i,Ke,Kf,Kg,Kh,Ki,Kj,Kk,Kl,Km,Kn,Ko,Kp,Kq,Kr,Ks,Kt,Ku,Kv,Kw,Kx,Ky,Kz,J0,J1,J2,J3,J4,J5,J6,J7,J8,J9,Ja,Jb,Jc,Jd,Je,Jf,Jg,Jh,Ji,Jj,Jk,Jl,Jm,Jn,Jo,Jp,Jq,Jr,Js,Jt,Ju,Jv,Jw,Jx,Jy,Jz,Y0,Y1,Y2,Y3,Y4,Y5,Y6,Y7,Y8,Y9,Ya,Yb,Yc,Yd,Ye,Yf,Yg,Yh,Yi,Yj,Yk] h R := by
 intro n
 induction n with
 | zero =>
  intro i h sv τ;intros;rename_i hm hi he hf ha hh' hl hsk hpl hk
  have hlt : ¬ ((i : Int) < pts.length) := by omega
  rw [ok_round,l130_0,L130_0a,L130_0b]
  simp [hlt]
  refine hk h sv _ _ _ _ _ _ _ _ _ _ _ _ _ _ _ _ _ _ _ _ _ _ _ _ _ _ _ _ _ _ _ _ _ _ _ _ _ _ _ _ _ _ _ _ _ _ _ _ _ _ _ _ _ _ _ _ _ _ _ _ _ _ _ _ _ _ _ _ _ _ _ _ _ _ _ _ _ _ _ _ _ _ _ _ _ _ _ _ _ _ _ ?_ (Stp.refl _ _ _ _)
  rw [List.drop_of_length_le (by omega)]; exact he
 | succ n ih =>
  intro i h sv τ;intros;rename_i hm hi he hf ha hh' hl hsk hpl hk
  obtain ⟨σ,sk⟩ := τ
  simp only at he ha hh' hl hsk
  have hlt : ((i : Int) < pts.length) := by omega
  have hw : IntKind.i64.wrap ((i : Int) + 1) = (i : Int) + 1 := wrapN (n := i + 1) (by omega)
  have hil : i < pts.length := by omega
  obtain ⟨id,off,blk,hs,hb,ht,hle⟩ := hf.get hil
  have hin := ha _ (List.getElem_mem hil)
  have hsp : ∀ υ,cstep P (σ,sk) (pts[i].1,pts[i].2) = υ → csteps P (σ,sk) (pts.drop i) = csteps P υ (pts.drop (i + 1)) := by
   intro υ hυ
   rw [List.drop_eq_getElem_cons hil,← hυ]; rfl
  have hle1 := le_cstep (P := P) (τ := (σ,sk)) he.good (p := (pts[i].1,pts[i].2)) hin
  simp only at hle1
  generalize hx : pts[i].1 = x at *
  generalize hy : pts[i].2 = y at *
  have he2 := he.push (some ⟨false,[.int .i64 x,.int .i64 y]⟩)
  have hs2 := Stp.push h (some ⟨false,[.int .i64 x,.int .i64 y]⟩) c q sv
  have hf2 := hf.stp hs2
  have hK : ∀ y : Blk,blk? (h ++ [some y]) h.length = some y := fun y => blk?_push_eq
  obtain ⟨l1,l2,l3⟩ := he.lts
  obtain ⟨i1,i2,i3,i4⟩ := hin
  have hb2 := he.qr.cb.ok.h2
  have hnext : ∀ (h' : Heap) (sv' : Value) (υ : ES × Nat) (K3 K4 K5 K7 K8 K9 Ka Ke Kf Kg Kh Ki Kj Kk Kl Km Kn Ko Kp Kq Kr Ks Kt Ku Kv Kw Kx Ky Kz J0 J1 J2 J3 J4 J5 J6 J7 J8 J9 Ja Jb Jc Jd Je Jf Jg Jh Ji Jj Jk Jl Jm Jn Jo Jp Jq Jr Js Jt Ju Jv Jw Jx Jy Jz Y0 Y1 Y2 Y3 Y4 Y5 Y6 Y7 Y8 Y9 Ya Yb Yc Yd Ye Yf Yg Yh Yi Yj Yk : Value),cstep P (σ,sk) (x,y) = υ → QE h' q p c P m sv' υ.1 → Stp h h' c q sv sv' →
    Ok tab R130 (.inLoop L130_0 :: .inBlock 0 :: k) #[ptr q,s,.int .i64 hh,K3,K4,K5,.int .i64 υ.2,K7,K8,K9,Ka,s,.int .i64 pts.length,.int .i64 ((i : Int) + 1),Ke,Kf,Kg,Kh,Ki,Kj,Kk,Kl,Km,Kn,Ko,Kp,Kq,Kr,Ks,Kt,Ku,Kv,Kw,Kx,Ky,Kz,J0,J1,J2,J3,J4,J5,J6,J7,J8,J9,Ja,Jb,Jc,Jd,Je,Jf,Jg,Jh,Ji,Jj,Jk,Jl,Jm,Jn,Jo,Jp,Jq,Jr,Js,Jt,Ju,Jv,Jw,Jx,Jy,Jz,Y0,Y1,Y2,Y3,Y4,Y5,Y6,Y7,Y8,Y9,Ya,Yb,Yc,Yd,Ye,Yf,Yg,Yh,Yi,Yj,Yk] h' R := by
   intro h' sv' υ;intros;rename_i hυ pe st
   rw [hυ] at hle1
   refine ih (i + 1) h' sv' υ _ _ _ _ _ _ _ _ _ _ _ _ _ _ _ _ _ _ _ _ _ _ _ _ _ _ _ _ _ _ _ _ _ _ _ _ _ _ _ _ _ _ _ _ _ _ _ _ _ _ _ _ _ _ _ _ _ _ _ _ _ _ _ _ _ _ _ _ _ _ _ _ _ _ _ _ _ _ _ _ _ _ _ _ _ _ (by omega) (by omega) pe (hf.stp st) (ha.le hle1.1) (hle1.1.h.trans hh') (by have := hle1.1.len; omega) (by have := hle1.2; omega) hpl ?_
   intro h'' sv'';intros;rename_i pe2 st2
   exact hk h'' sv'' _ _ _ _ _ _ _ _ _ _ _ _ _ _ _ _ _ _ _ _ _ _ _ _ _ _ _ _ _ _ _ _ _ _ _ _ _ _ _ _ _ _ _ _ _ _ _ _ _ _ _ _ _ _ _ _ _ _ _ _ _ _ _ _ _ _ _ _ _ _ _ _ _ _ _ _ _ _ _ _ _ _ _ _ _ _ _ _ _ _ _ (by rw [hsp υ hυ]; exact pe2) (st.trans st2)
  rw [ok_round,l130_0,L130_0a,L130_0b]
  cases sk with
  | succ sk =>
   have hsk0 : (0 : Int) < ((sk + 1 : Nat) : Int) := by omega
   have hskw : IntKind.i64.wrap (((sk + 1 : Nat) : Int) - 1) = (sk : Int) := by rw [wrapI (by omega) (by omega)]; omega
   generalize ((sk + 1 : Nat) : Int) = ski at *
   simp [-List.cons_append,-List.append_assoc,hlt,hw,hs,hb,ht,hle,hK,hsk0,hskw]
   rw [← hs]
   exact hnext _ sv (σ,sk) _ _ _ _ _ _ _ _ _ _ _ _ _ _ _ _ _ _ _ _ _ _ _ _ _ _ _ _ _ _ _ _ _ _ _ _ _ _ _ _ _ _ _ _ _ _ _ _ _ _ _ _ _ _ _ _ _ _ _ _ _ _ _ _ _ _ _ _ _ _ _ _ _ _ _ _ _ _ _ _ _ _ _ _ _ _ rfl he2 hs2
  | zero =>
   have hqt := fun R => quiet_r (R := R) (x := x) (y := y) he2.qr ⟨i1,i2,i3,i4⟩
   rw [hh'] at hqt
   have hq2 := he2.qr.blk
   have hcb2 := he2.qr.cb
   have hsig := fun R => significant_r (R := R) (x := x) (y := y) hcb2
   have htch := fun R => touched_r (R := R) (x := x) (y := y) hcb2
   cases hqq : quietR σ.b x y P.cz
   ·rw [hqq] at hqt
    have hst : cstep P (σ,0) (x,y) = (σ.cln1 P x y,0) := by simp [cstep,hqq]
    cases hsg : (σ.b.get x y).s
    ·cases htc : (σ.b.get x y).t
     ·have h1 : σ.cln1 P x y = σ.code P x y := by unfold ES.cln1; rw [if_pos ⟨hsg,htc⟩]
      obtain ⟨sv3,h3,e3,p3,s3⟩ := code_r he2 (by omega) (x := x) (y := y) ⟨i1,i2,i3,i4⟩
      rw [hsg] at hsig; rw [htc] at htch
      simp [-List.cons_append,-List.append_assoc,k_guard,hlt,hw,hs,hb,ht,hle,hK,hqt,hq2,hsig,htch,e3]
      rw [← hs]
      exact hnext _ sv3 (σ.code P x y,0) _ _ _ _ _ _ _ _ _ _ _ _ _ _ _ _ _ _ _ _ _ _ _ _ _ _ _ _ _ _ _ _ _ _ _ _ _ _ _ _ _ _ _ _ _ _ _ _ _ _ _ _ _ _ _ _ _ _ _ _ _ _ _ _ _ _ _ _ _ _ _ _ _ _ _ _ _ _ _ _ _ _ _ _ _ _ (by rw [hst,h1]) p3 (hs2.trans s3)
     ·have h1 : σ.cln1 P x y = σ := by unfold ES.cln1; rw [if_neg (by simp [htc])]
      rw [hsg] at hsig; rw [htc] at htch
      simp [-List.cons_append,-List.append_assoc,k_guard,hlt,hw,hs,hb,ht,hle,hK,hqt,hq2,hsig,htch]
      rw [← hs]
      exact hnext _ sv (σ,0) _ _ _ _ _ _ _ _ _ _ _ _ _ _ _ _ _ _ _ _ _ _ _ _ _ _ _ _ _ _ _ _ _ _ _ _ _ _ _ _ _ _ _ _ _ _ _ _ _ _ _ _ _ _ _ _ _ _ _ _ _ _ _ _ _ _ _ _ _ _ _ _ _ _ _ _ _ _ _ _ _ _ _ _ _ _ (by rw [hst,h1]) he2 hs2
    ·have h1 : σ.cln1 P x y = σ := by unfold ES.cln1; rw [if_neg (by simp [hsg])]
     rw [hsg] at hsig
     simp [-List.cons_append,-List.append_assoc,k_guard,k_guardU,hlt,hw,hs,hb,ht,hle,hK,hqt,hq2,hsig]
     rw [← hs]
     exact hnext _ sv (σ,0) _ _ _ _ _ _ _ _ _ _ _ _ _ _ _ _ _ _ _ _ _ _ _ _ _ _ _ _ _ _ _ _ _ _ _ _ _ _ _ _ _ _ _ _ _ _ _ _ _ _ _ _ _ _ _ _ _ _ _ _ _ _ _ _ _ _ _ _ _ _ _ _ _ _ _ _ _ _ _ _ _ _ _ _ _ _ (by rw [hst,h1]) he2 hs2
   ·have htop := quietR_top hqq
    obtain ⟨sv3,h3,e3,p3,s3⟩ := runLength_r he2 (by omega) (x := x) (y := y) ⟨i1,i2⟩ ⟨i3,htop⟩
    obtain ⟨r1,r2,r3⟩ := le_run (P := P) he.good (x := x) (top := y) ⟨i1,i2,i3,i4⟩ htop
    have hst : cstep P (σ,0) (x,y) = ((σ.run P x y).1,((σ.run P x y).2 - y - 1).toNat) := by simp [cstep,hqq]
    have hrw : IntKind.i64.wrap ((σ.run P x y).2 - y - 1) = (((σ.run P x y).2 - y - 1).toNat : Int) := by rw [wrapI (by omega) (by omega)]; omega
    rw [hqq] at hqt
    generalize (σ.run P x y).2 - y = rl at *
    simp [-List.cons_append,-List.append_assoc,-Int.ofNat_toNat,hlt,hw,hs,hb,ht,hle,hK,hqt,hq2,e3,hrw]
    rw [← hs]
    exact hnext _ sv3 ((σ.run P x y).1,rl.toNat - 1) _ _ _ _ _ _ _ _ _ _ _ _ _ _ _ _ _ _ _ _ _ _ _ _ _ _ _ _ _ _ _ _ _ _ _ _ _ _ _ _ _ _ _ _ _ _ _ _ _ _ _ _ _ _ _ _ _ _ _ _ _ _ _ _ _ _ _ _ _ _ _ _ _ _ _ _ _ _ _ _ _ _ _ _ _ _ (by rw [hst,show (rl - 1).toNat = rl.toNat - 1 by omega]) p3 (hs2.trans s3)
theorem clear_loop_r {s : Value} {pts : List (Int × Int)} :
  ∀ (n i : Nat) (h : Heap) (sv : Value) (σ : ES) (K1 K2 K3 K4 K5 K6 K7 K8 K9 Ka Kb Kc Kd Ke Kf Kg Kh Ki Kj Kk Kl Km Kn Ko Kp Kq Kr Ks Kt Ku Kv Kw Kx Ky Kz J0 J1 J2 J3 J4 J5 J6 J7 J8 J9 Ja Jb Jc Jd Je Jf Jg Jh Ji Jj Jk Jl Jm Jn Jo Jp Jq Jr Jv Jw Jx Jy Jz Y0 Y1 Y2 Y3 Y4 Y5 Y6 Y7 Y8 Y9 Ya Yb Yc Yd Ye Yf Yg Yh Yi Yj Yk : Value),n = pts.length - i → i ≤ pts.length → QE h q p c P m sv σ → Far h s pts c q sv → AllIn σ.b pts → pts.length < 1000000 →
   (∀ (h' : Heap) (sv' : Value) (K1 K2 K3 K4 K5 K6 K7 K8 K9 Ka Kb Kc Kd Ke Kf Kg Kh Ki Kj Kk Kl Km Kn Ko Kp Kq Kr Ks Kt Ku Kv Kw Kx Ky Kz J0 J1 J2 J3 J4 J5 J6 J7 J8 J9 Ja Jb Jc Jd Je Jf Jg Jh Ji Jj Jk Jl Jm Jn Jo Jp Jq Jr Js Jt Ju Jv Jw Jx Jy Jz Y0 Y1 Y2 Y3 Y4 Y5 Y6 Y7 Y8 Y9 Ya Yb Yc Yd Ye Yf Yg Yh Yi Yj Yk : Value),QE h' q p c P m sv' (σ.clear (pts.drop i)) → Stp h h' c q sv sv' → Ok tab R130 k #[ptr q,K1,K2,K3,K4,K5,K6,K7,K8,K9,Ka,Kb,Kc,Kd,Ke,Kf,Kg,Kh,Ki,Kj,Kk,Kl,Km,Kn,Ko,Kp,Kq,Kr,Ks,Kt,Ku,Kv,Kw,Kx,Ky,Kz,J0,J1,J2,J3,J4,J5,J6,J7,J8,J9,Ja,Jb,Jc,Jd,Je,Jf,Jg,Jh,Ji,Jj,Jk,Jl,Jm,Jn,Jo,Jp,Jq,Jr,Js,Jt,Ju,Jv,Jw,Jx,Jy,Jz,Y0,Y1,Y2,Y3,Y4,Y5,Y6,Y7,Y8,Y9,Ya,Yb,Yc,Yd,Ye,Yf,Yg,Yh,Yi,Yj,Yk] h' R) →
   Ok tab R130 (.inLoop L130_1 :: .inBlock 2 :: k) #[ptr q,K1,K2,K3,K4,K5,K6,K7,K8,K9,Ka,Kb,Kc,Kd,Ke,Kf,Kg,Kh,Ki,Kj,Kk,Kl,Km,Kn,Ko,Kp,Kq,Kr,Ks,Kt,Ku,Kv,Kw,Kx,Ky,Kz,J0,J1,J2,J3,J4,J5,J6,J7,J8,J9,Ja,Jb,Jc,Jd,Je,Jf,Jg,Jh,Ji,Jj,Jk,Jl,Jm,Jn,Jo,Jp,Jq,Jr,s,.int .i64 pts.length,.int .i64 i,Jv,Jw,Jx,Jy,Jz,Y0,Y1,Y2,Y3,Y4,Y5,Y6,Y7,Y8,Y9,Ya,Yb,Yc,Yd,Ye,Yf,Yg,Yh,Yi,Yj,Yk] h R := by
 intro n
 induction n with
 | zero =>
  intro i h sv σ;intros;rename_i hm hi he hf ha hpl hk
  have hlt : ¬ ((i : Int) < pts.length) := by omega
  rw [ok_round,l130_1,L130_1a,L130_1b]
  simp [hlt]
  refine hk h sv _ _ _ _ _ _ _ _ _ _ _ _ _ _ _ _ _ _ _ _ _ _ _ _ _ _ _ _ _ _ _ _ _ _ _ _ _ _ _ _ _ _ _ _ _ _ _ _ _ _ _ _ _ _ _ _ _ _ _ _ _ _ _ _ _ _ _ _ _ _ _ _ _ _ _ _ _ _ _ _ _ _ _ _ _ _ _ _ _ _ _ _ ?_ (Stp.refl _ _ _ _)
  rw [List.drop_of_length_le (by omega)]; exact he
 | succ n ih =>
  intro i h sv σ;intros;rename_i hm hi he hf ha hpl hk
  have hlt : ((i : Int) < pts.length) := by omega
  have hw : IntKind.i64.wrap ((i : Int) + 1) = (i : Int) + 1 := wrapN (n := i + 1) (by omega)
  have hil : i < pts.length := by omega
  obtain ⟨id,off,blk,hs,hb,ht,hle⟩ := hf.get hil
  have hin := ha _ (List.getElem_mem hil)
  have hsp : σ.clear (pts.drop i) = (σ.map pts[i].1 pts[i].2 (touch false)).clear (pts.drop (i + 1)) := by
   rw [List.drop_eq_getElem_cons hil]; rfl
  generalize hx : pts[i].1 = x at *
  generalize hy : pts[i].2 = y at *
  have he2 := he.push (some ⟨false,[.int .i64 x,.int .i64 y]⟩)
  have hs2 := Stp.push h (some ⟨false,[.int .i64 x,.int .i64 y]⟩) c q sv
  have hK : ∀ y : Blk,blk? (h ++ [some y]) h.length = some y := fun y => blk?_push_eq
  have hq2 := he2.qr.blk
  have htc := fun R => touch_r (R := R) (v := false) he2.qr.cb (x := x) (y := y) hin
  obtain ⟨p4,s4⟩ := he2.map (x := x) (y := y) hin (kv_touch false)
  have hmm : (fun z : Cell => ({ z with t := false } : Cell)) = touch false := rfl
  rw [hmm] at htc
  have hls : (h ++ [some (⟨false,[.int .i64 x,.int .i64 y]⟩ : Blk)]).set c (some ⟨false,encC (σ.b.upd x y (touch false)).cs⟩) = h.set c (some ⟨false,encC (σ.b.upd x y (touch false)).cs⟩) ++ [some ⟨false,[.int .i64 x,.int .i64 y]⟩] :=
   List.set_append_left _ _ he.lts.2.2
  rw [ok_round,l130_1,L130_1a,L130_1b]
  rw [hls] at htc p4 s4
  simp [-List.cons_append,-List.append_assoc,hlt,hw,hs,hb,ht,hle,hK,hq2,htc]
  rw [← hs]
  have st4 := hs2.trans s4
  refine ih (i + 1) _ sv _ _ _ _ _ _ _ _ _ _ _ _ _ _ _ _ _ _ _ _ _ _ _ _ _ _ _ _ _ _ _ _ _ _ _ _ _ _ _ _ _ _ _ _ _ _ _ _ _ _ _ _ _ _ _ _ _ _ _ _ _ _ _ _ _ _ _ _ _ _ _ _ _ _ _ _ _ _ _ _ _ _ _ _ _ _ _ _ _ _ (by omega) (by omega) p4 (hf.stp st4) (ha.le (le_map he.good hin (kv_touch false))) hpl ?_
  intro h' sv';intros;rename_i pe st
  exact hk h' sv' _ _ _ _ _ _ _ _ _ _ _ _ _ _ _ _ _ _ _ _ _ _ _ _ _ _ _ _ _ _ _ _ _ _ _ _ _ _ _ _ _ _ _ _ _ _ _ _ _ _ _ _ _ _ _ _ _ _ _ _ _ _ _ _ _ _ _ _ _ _ _ _ _ _ _ _ _ _ _ _ _ _ _ _ _ _ _ _ _ _ _ _ (by rw [hsp]; exact pe) (st4.trans st)
theorem cleanup_r (he : QE h q p c P m sv σ) (hl : σ.out.length ≤ 1000) {s : Value} (hf : Far h s (scan σ.b.w σ.b.h) c q sv) :
  ∃ sv' h',(∀ R,Ret tab 130 [ptr q,s,.int .i64 σ.b.h] h R = R (.tuple #[]) h') ∧ QE h' q p c P m sv' (σ.clean P m.sy) ∧ Stp h h' c q sv sv' := by
 have key : Ret tab 130 [ptr q,s,.int .i64 σ.b.h] h fun v h' => v = .tuple #[] ∧ ∃ sv',QE h' q p c P m sv' (σ.clean P m.sy) ∧ Stp h h' c q sv sv' := by
  have hsl := scan_len he.qr.cb.ok.w2 he.qr.cb.ok.h2
  have hst : 12 * σ.b.w * stripesOf σ.b.h ≤ 12 * 64 * 16 := Nat.mul_le_mul (by have := he.qr.cb.ok.w2; omega) (by have := he.qr.cb.ok.h2; unfold stripesOf; omega)
  have g2 : 0 + 4 * ((stripesOf σ.b.h : Nat) : Int) ≤ σ.b.h + 3 := by unfold stripesOf; omega
  have hls := le_stripes (P := P) (n := stripesOf σ.b.h) he.good (top := 0) (by omega) g2
  obtain ⟨a,cc,hs⟩ := hf.sl.shape
  rw [enter130,show B130 = .seq (nthC 0 B130) (.seq (nthC 1 B130) (.seq (nthC 2 B130) (tlC 3 B130))) from rfl]
  generalize hT : tlC 3 B130 = tl
  simp only [nthC,tlC,fstC,B130]
  simp [hs]
  rw [← hs]
  refine clean_loop_r _ 0 h sv (σ,0) _ _ _ _ _ _ _ _ _ _ _ _ _ _ _ _ _ _ _ _ _ _ _ _ _ _ _ _ _ _ _ _ _ _ _ _ _ _ _ _ _ _ _ _ _ _ _ _ _ _ _ _ _ _ _ _ _ _ _ _ _ _ _ _ _ _ _ _ _ _ _ _ _ _ _ _ _ _ _ _ _ _ _ _ _ _ rfl (by omega) he hf (scanIn σ.b) rfl (by simp only; omega) (by simp only; omega) (by omega) ?_
  intro h1 sv1;intros;rename_i p1 s1
  rw [List.drop_zero,csteps_all he.good] at p1
  simp only at p1
  have f1 := hf.stp s1
  have hall : AllIn (σ.stripes P 0 (stripesOf σ.b.h)).b (scan σ.b.w σ.b.h) := by have := scanIn (σ.stripes P 0 (stripesOf σ.b.h)).b; rwa [hls.w,hls.h] at this
  simp [hs]
  rw [← hs]
  refine clear_loop_r _ 0 h1 sv1 _ _ _ _ _ _ _ _ _ _ _ _ _ _ _ _ _ _ _ _ _ _ _ _ _ _ _ _ _ _ _ _ _ _ _ _ _ _ _ _ _ _ _ _ _ _ _ _ _ _ _ _ _ _ _ _ _ _ _ _ _ _ _ _ _ _ _ _ _ _ _ _ _ _ _ _ _ _ _ _ _ _ _ _ _ _ _ _ _ _ rfl (by omega) p1 f1 hall (by omega) ?_
  intro h3 sv3;intros;rename_i p3 s3
  rw [List.drop_zero] at p3
  have hcl := le_clear hls.good hall
  have hlen : ((σ.stripes P 0 (stripesOf σ.b.h)).clear (scan σ.b.w σ.b.h)).out.length < 900000 := by have := hls.len; have := hcl.len; omega
  have hq3 := p3.qr.blk
  have hce : ∀ on,σ.clean P on = ((σ.stripes P 0 (stripesOf σ.b.h)).clear (scan σ.b.w σ.b.h)).check P on := fun _ => rfl
  rw [hce]
  generalize (σ.stripes P 0 (stripesOf σ.b.h)).clear (scan σ.b.w σ.b.h) = τ at *
  rw [← hT]
  simp only [tlC,B130]
  cases hon : m.sy
  ·rw [hon] at hq3
   simp [hq3,fin130]
   exact ⟨sv3,p3,s1.trans s3⟩
  ·rw [hon] at hq3
   obtain ⟨sv4,h4,e4,p4,s4⟩ := put_r p3 (by omega) 18 1
   obtain ⟨sv5,h5,e5,p5,s5⟩ := put_r p4 (by simp [ES.emit]; omega) 18 0
   obtain ⟨sv6,h6,e6,p6,s6⟩ := put_r p5 (by simp [ES.emit]; omega) 18 1
   obtain ⟨sv7,h7,e7,p7,s7⟩ := put_r p6 (by simp [ES.emit]; omega) 18 0
   simp only [Int.natCast_one,Int.natCast_zero] at e4 e5 e6 e7
   simp [hq3,e4,e5,e6,e7,fin130]
   exact ⟨sv7,p7,((((s1.trans s3).trans s4).trans s5).trans s6).trans s7⟩
 obtain ⟨v,h',e,rfl,sv',pe,st⟩ := ret_ex key
 exact ⟨sv',h',e,pe,st⟩
end
section
variable {h : Heap} {R : Value → Heap → Prop}
end
section
variable {h : Heap} {p c : Nat} {b : BS}
theorem QE.scan {q : Nat} {P : PP} {m : MD} {sv : Value} {σ : ES} (he : QE h q p c P m sv σ) : ∃ s h',(∀ R,Ret tab 118 [.int .i64 σ.b.w,.int .i64 σ.b.h] h R = R s h') ∧ QE h' q p c P m sv σ ∧ Stp h h' c q sv sv ∧ Far h' s (scan σ.b.w σ.b.h) c q sv := by
 have ho := he.qr.cb.ok
 obtain ⟨l1,l2,l3⟩ := he.lts
 obtain ⟨s,h',e,m'⟩ := scan_r ho.w1 ho.w2 ho.h1 ho.h2 h
 refine ⟨s,h',e,he.low m'.low m'.len,Stp.low m'.low m'.len c q sv,⟨m'.own.sl,fun id hid => ?_⟩⟩
 have h1 := m'.far id hid
 refine ⟨?_,by omega,by omega,fun e => by have := he.own.lt e; omega⟩
 rcases m'.own.2 with ⟨rfl,_⟩ | ⟨id',rfl,hb⟩
 ·simp [sid] at hid
 ·simp [sid] at hid; subst hid; exact blk?_lt hb
theorem run_r (hb : CB h false p c b) (hr : b.Rng) (n planes o : Int) (m : MD) :
  ∃ sv h',(∀ R,Ret tab 86 [ptr p,.int .i64 n,.int .i64 planes,.int .i64 o,m.val] h R = R (.tuple #[sv,.int .i64 (runErr n planes o)]) h') ∧ RunRes h h' p c sv (runOut m b n planes o) := by
 have key : Ret tab 86 [ptr p,.int .i64 n,.int .i64 planes,.int .i64 o,m.val] h fun v h' => ∃ sv,v = .tuple #[sv,.int .i64 (runErr n planes o)] ∧ RunRes h h' p c sv (runOut m b n planes o) := by
  have hb1 : CB (h ++ [some ⟨false,[.bool m.byp,.bool m.res,.bool m.rst,.bool m.cz,.bool m.sy]⟩]) false p c b := ⟨blk?_push hb.blkp,blk?_push hb.blkc,hb.ok⟩
  have hsz := fun R => size_r (R := R) hb1
  have hw0 := hb.ok.w1
  have hw0' : ((b.w : Int) == 0) = false := by simp; omega
  have hnone : runErr n planes o ≠ 0 → ∀ h',(∀ id,id < h.length → blk? h' id = blk? h id) → h.length ≤ h'.length → RunRes h h' p c (.slice none 0 0) (runOut m b n planes o) := by
   intro he h' hk hl
   unfold runOut
   rw [if_neg he]
   exact RunRes.nothing hb hr hk hl
  have hkp : ∀ x : Option Blk,∀ id,id < h.length → blk? (h ++ [x]) id = blk? h id := fun x id hid => blk?_push_lt hid
  rw [enter86,show B86 = .seq (nthC 0 B86) (.seq (nthC 1 B86) (.seq (nthC 2 B86) (.seq (nthC 3 B86) (.seq (nthC 4 B86) (tlC 5 B86))))) from rfl]
  generalize hT : tlC 5 B86 = tl
  simp only [nthC,tlC,fstC,B86]
  obtain ⟨byp,res,rst,cz,sy⟩ := m
  simp only [MD.val] at *
  by_cases h1 : planes < 1
  ·have he := runErr_lo (n := n) (o := o) (.inl h1 : planes < 1 ∨ 60 < planes ∨ n < 0 ∨ 3 * planes - 3 < n)
   simp [k_guard,k_guardU,hsz,hw0',h1,fin86]
   exact ⟨_,⟨rfl,he.symm⟩,hnone (by rw [he]; decide) _ (hkp _) (by simp)⟩
  by_cases h2 : 60 < planes
  ·have he := runErr_lo (n := n) (o := o) (.inr (.inl h2) : planes < 1 ∨ 60 < planes ∨ n < 0 ∨ 3 * planes - 3 < n)
   simp [k_guard,k_guardU,hsz,hw0',h1,h2,fin86]
   exact ⟨_,⟨rfl,he.symm⟩,hnone (by rw [he]; decide) _ (hkp _) (by simp)⟩
  by_cases h3 : n < 0
  ·have he := runErr_lo (n := n) (o := o) (.inr (.inr (.inl h3)) : planes < 1 ∨ 60 < planes ∨ n < 0 ∨ 3 * planes - 3 < n)
   simp [k_guard,k_guardU,hsz,hw0',h1,h2,h3,fin86]
   exact ⟨_,⟨rfl,he.symm⟩,hnone (by rw [he]; decide) _ (hkp _) (by simp)⟩
  have hm1 : IntKind.i64.wrap (3 * planes) = 3 * planes := wrapI (by omega) (by omega)
  have hm2 : IntKind.i64.wrap (3 * planes - 3) = 3 * planes - 3 := wrapI (by omega) (by omega)
  by_cases h4 : 3 * planes - 3 < n
  ·have he := runErr_lo (n := n) (o := o) (.inr (.inr (.inr h4)) : planes < 1 ∨ 60 < planes ∨ n < 0 ∨ 3 * planes - 3 < n)
   simp [k_guard,k_guardU,hsz,hw0',h1,h2,h3,hm1,hm2,h4,fin86]
   exact ⟨_,⟨rfl,he.symm⟩,hnone (by rw [he]; decide) _ (hkp _) (by simp)⟩
  by_cases h5 : 0 ≤ o ∧ o ≤ 3
  case neg =>
   have he : runErr n planes o = 3 := by unfold runErr; rw [if_neg (by omega),if_pos (by omega)]
   have hd : decide (0 ≤ o ∧ o ≤ 3) = false := by simp [h5]
   simp [-decide_eq_false_iff_not,-Bool.decide_and,k_guard,k_guardU,hsz,hw0',h1,h2,h3,hm1,hm2,h4,validOrient_r,hd,fin86]
   exact ⟨_,⟨rfl,he.symm⟩,hnone (by rw [he]; decide) _ (hkp _) (by simp)⟩
  have hd : decide (0 ≤ o ∧ o ≤ 3) = true := by simp [h5]
  simp [-decide_eq_true_eq,-Bool.decide_and,k_guard,k_guardU,hsz,hw0',h1,h2,h3,hm1,hm2,h4,validOrient_r,hd]
  have he : runErr n planes o = 0 := by unfold runErr; rw [if_neg (by omega),if_neg (by omega)]
  rw [he]
  unfold runOut
  rw [if_pos he]
  obtain ⟨n,rfl⟩ := Int.eq_ofNat_of_zero_le (show 0 ≤ n by omega)
  obtain ⟨planes,rfl⟩ := Int.eq_ofNat_of_zero_le (show 0 ≤ planes by omega)
  obtain ⟨o,rfl⟩ := Int.eq_ofNat_of_zero_le (show 0 ≤ o by omega)
  have hp := fun h R => pass_r (h := h) (R := R) (n := n) (by omega)
  have hrw := fun h R => raw_r (h := h) (R := R) (n := n) (by omega) ⟨byp,res,rst,cz,sy⟩
  have hpl := planeOf_le (n := n) (planes := planes) (by omega) (by omega)
  have e1 : IntKind.i64.wrap ((planes : Int) - 1) = ((planes - 1 : Nat) : Int) := by rw [wrapI (by omega) (by omega)]; omega
  have e2 : IntKind.i64.wrap (((planes - 1 : Nat) : Int) - (planeOf n : Int)) = ((planes - 1 - planeOf n : Nat) : Int) := by rw [wrapI (by omega) (by omega)]; omega
  rw [← hT,show tlC 5 B86 = .seq (nthC 5 B86) (.seq (nthC 6 B86) (tlC 7 B86)) from rfl]
  generalize hT3 : tlC 7 B86 = tl3
  simp only [nthC,tlC,fstC,B86]
  simp only [MD.val] at hrw
  have hlp := blk?_lt hb.blkp
  have hlc := blk?_lt hb.blkc
  simp [hp,hrw,e1,e2,app_len,app_add,app_zero,app_succ,app_set,app_setk,book,logOf,addLog,chk1,lookL,reload]
  generalize hP : runPP ⟨byp,res,rst,cz,sy⟩ n planes o = P
  have hPs : P.s = planes - 1 - planeOf n := by rw [← hP]; rfl
  have hPo : P.o = o := by rw [← hP]; rfl
  have hPc : P.cz = cz := by rw [← hP]; rfl
  have hPr : P.rw = rawOf ⟨byp,res,rst,cz,sy⟩ n := by rw [← hP]; rfl
  have hk : kindOf n = 0 ∨ kindOf n = 1 ∨ kindOf n = 2 := by unfold kindOf; split <;> omega
  have hrs : runSt ⟨byp,res,rst,cz,sy⟩ b n planes o = if kindOf n = 0 then ES.sigs P ⟨b,[]⟩ (scan b.w b.h) else if kindOf n = 1 then ES.refs P ⟨b,[]⟩ (scan b.w b.h) else ES.clean P ⟨b,[]⟩ sy := by
   unfold runSt; rw [hP]
  rw [hrs,← hPr,← hPs,← hPo,← hPc]
  generalize hH : h ++ [some (⟨false,[.bool byp,.bool res,.bool rst,.bool P.cz,.bool sy]⟩ : Blk),
   some ⟨false,[ptr p,.int .i64 P.s,.int .i64 P.o,.bool byp,.bool res,.bool rst,.bool P.cz,.bool sy,.bool P.rw,.slice none 0 0]⟩] = H
  have hlow : ∀ id,id < h.length → blk? H id = blk? h id := fun id hid => by rw [← hH]; exact app_lt hid
  have hHl : H.length = h.length + 2 := by rw [← hH]; simp
  have he : QE H (h.length + 1) p c P ⟨byp,res,rst,P.cz,sy⟩ (.slice none 0 0) ⟨b,[]⟩ := by
   refine ⟨⟨by rw [← hH,app_add]; rfl,⟨by rw [hlow _ hlp]; exact hb.blkp,by rw [hlow _ hlc]; exact hb.blkc,hb.ok⟩,by simp,⟨by rw [hPs]; omega,by rw [hPo]; omega⟩,hr⟩,OwnS.nil _ _,?_,?_⟩
   ·have := hb.ne; omega
   ·simp [sid]
  obtain ⟨s,H1,es,he1,st1,f1⟩ := he.scan
  simp only at es f1
  have fin : ∀ (σ : ES) (sv' : Value) (H' : Heap),QE H' (h.length + 1) p c P ⟨byp,res,rst,P.cz,sy⟩ sv' σ → Stp H H' c (h.length + 1) (.slice none 0 0) sv' → RunRes h H' p c sv' σ := by
   intro σ sv' H' pe st
   refine ⟨pe.qr.cb,pe.good,pe.own,fun id hid => ?_,fun id hid hc => ?_,by have := st.len; omega⟩
   ·rcases st.fresh id hid with h | h
    ·simp [sid] at h
    ·omega
   ·rw [st.same id (by omega) hc (by omega) (by simp [sid]),hlow id hid]
  rw [← hT3]
  simp only [tlC,B86]
  rcases hk with hk | hk | hk
  ·obtain ⟨sv',H',e,pe,st⟩ := significance_pr he1 (by simp) f1
   have hq' := pe.qr.blk
   simp [hk,es,e,hq',fin86]
   exact fin _ _ _ pe (st1.trans st)
  ·obtain ⟨sv',H',e,pe,st⟩ := refinement_pr he1 (by simp) f1
   have hq' := pe.qr.blk
   simp [hk,es,e,hq',fin86]
   exact fin _ _ _ pe (st1.trans st)
  ·obtain ⟨sv',H',e,pe,st⟩ := cleanup_r he1 (by simp) f1
   have hq' := pe.qr.blk
   simp only at e
   simp [hk,es,e,hq',fin86]
   exact fin _ _ _ pe (st1.trans st)
 obtain ⟨v,h',e,sv,rfl,rs⟩ := ret_ex key
 exact ⟨sv,h',e,rs⟩
end
section
variable {h : Heap} {R : Value → Heap → Prop}
end
section
variable {h : Heap} {R : Value → Heap → Prop} {k : List RItem}
theorem pass_loop_r {B : Nat} {h0 : Heap} {b0 : BS} {p c M : Nat} {m : MD} {planes o : Nat} {v10 v11 : Value} (hM : blk? h0 M = some ⟨false,[.bool m.byp,.bool m.res,.bool m.rst,.bool m.cz,.bool m.sy]⟩) (hMB : M < B) (hp1 : planes ≤ 60) (ho : o ≤ 3)
  (hk : ∀ (h' : Heap) (s : Value) (vs : List Value) (b : BS) (ls : List (List (Int × Nat))) (K0 K1 K2 K3 K4 K5 K6 K7 K8 K9 Kc Kd Ke Kf Kg Ki Kj Kk Kl Km Kn Ko Kp Kq Kr Ks Kt Ku Kv Kw Kx Ky Kz J0 J1 J2 J3 J4 J5 J6 J7 J8 J9 Ja Jb Jc Jd Je Jf Jg Jh Ji Jj Jk Jl Jm Jn Jo Jp Jq Jr Js Jt Ju Jv Jw Jx Jy Jz Y0 Y1 Y2 Y3 Y4 Y5 Y6 Y7 Y8 Y9 Ya Yb Yc Yd Ye Yf Yg Yh Yi Yj : Value),SL B h0 h' p c b s vs ls → ls = passesOf m planes o (3 * planes - 2) 0 b0 → Ok tab R43 k #[K0,K1,K2,K3,K4,K5,K6,K7,K8,K9,v10,v11,Kc,Kd,Ke,Kf,Kg,s,Ki,Kj,Kk,Kl,Km,Kn,Ko,Kp,Kq,Kr,Ks,Kt,Ku,Kv,Kw,Kx,Ky,Kz,J0,J1,J2,J3,J4,J5,J6,J7,J8,J9,Ja,Jb,Jc,Jd,Je,Jf,Jg,Jh,Ji,Jj,Jk,Jl,Jm,Jn,Jo,Jp,Jq,Jr,Js,Jt,Ju,Jv,Jw,Jx,Jy,Jz,Y0,Y1,Y2,Y3,Y4,Y5,Y6,Y7,Y8,Y9,Ya,Yb,Yc,Yd,Ye,Yf,Yg,Yh,Yi,Yj] h' R) :
  ∀ (n i : Nat) (h : Heap) (b : BS) (s : Value) (vs : List Value) (ls : List (List (Int × Nat))) (K0 K1 K2 K4 K5 K6 K7 K8 Ke Kf Kg Kj Kk Kl Km Kn Ko Kp Kq Kr Ks Kt Ku Kv Kw Kx Ky Kz J0 J1 J2 J3 J4 J5 J6 J7 J8 J9 Ja Jb Jc Jd Je Jf Jg Jh Ji Jj Jk Jl Jm Jn Jo Jp Jq Jr Js Jt Ju Jv Jw Jx Jy Jz Y0 Y1 Y2 Y3 Y4 Y5 Y6 Y7 Y8 Y9 Ya Yb Yc Yd Ye Yf Yg Yh Yi Yj : Value),i + n = 3 * planes - 2 → ls.length = i → ls ++ passesOf m planes o n i b = passesOf m planes o (3 * planes - 2) 0 b0 → SL B h0 h p c b s vs ls →
   Ok tab R43 (.inLoop L43_1 :: .inBlock 2 :: k) #[K0,K1,K2,.int .i64 o,K4,K5,K6,K7,K8,ptr M,v10,v11,.int .i64 planes,ptr p,Ke,Kf,Kg,s,.int .i64 i,Kj,Kk,Kl,Km,Kn,Ko,Kp,Kq,Kr,Ks,Kt,Ku,Kv,Kw,Kx,Ky,Kz,J0,J1,J2,J3,J4,J5,J6,J7,J8,J9,Ja,Jb,Jc,Jd,Je,Jf,Jg,Jh,Ji,Jj,Jk,Jl,Jm,Jn,Jo,Jp,Jq,Jr,Js,Jt,Ju,Jv,Jw,Jx,Jy,Jz,Y0,Y1,Y2,Y3,Y4,Y5,Y6,Y7,Y8,Y9,Ya,Yb,Yc,Yd,Ye,Yf,Yg,Yh,Yi,Yj] h R := by
 intro n
 induction n with
 | zero =>
  intro i h b s vs ls;intros;rename_i hi hls hpa w
  have hlt : ¬ ((i : Int) < 3 * (planes : Int) - 2) := by omega
  have hw3 : IntKind.i64.wrap (3 * (planes : Int)) = 3 * (planes : Int) := wrapI (by omega) (by omega)
  have hw4 : IntKind.i64.wrap (3 * (planes : Int) - 2) = 3 * (planes : Int) - 2 := wrapI (by omega) (by omega)
  rw [ok_round,l43_1,L43_1a,L43_1b]
  simp [hw3,hw4,hlt]
  exact hk h s vs b ls _ _ _ _ _ _ _ _ _ _ _ _ _ _ _ _ _ _ _ _ _ _ _ _ _ _ _ _ _ _ _ _ _ _ _ _ _ _ _ _ _ _ _ _ _ _ _ _ _ _ _ _ _ _ _ _ _ _ _ _ _ _ _ _ _ _ _ _ _ _ _ _ _ _ _ _ _ _ _ _ _ _ _ _ _ _ _ _ _ w (by simpa [passesOf] using hpa)
 | succ n ih =>
  intro i h b s vs ls;intros;rename_i hi hls hpa w
  have hlt : (i : Int) < 3 * (planes : Int) - 2 := by omega
  have hw3 : IntKind.i64.wrap (3 * (planes : Int)) = 3 * (planes : Int) := wrapI (by omega) (by omega)
  have hw4 : IntKind.i64.wrap (3 * (planes : Int) - 2) = 3 * (planes : Int) - 2 := wrapI (by omega) (by omega)
  have hw : IntKind.i64.wrap ((i : Int) + 1) = ((i + 1 : Nat) : Int) := wrapN (n := i + 1) (by omega)
  have hM1 : blk? h M = some ⟨false,[.bool m.byp,.bool m.res,.bool m.rst,.bool m.cz,.bool m.sy]⟩ := by rw [w.low M hMB]; exact hM
  obtain ⟨sv,h1,e1,r1⟩ := run_r w.cb w.good.rng i planes o m
  have herr : runErr i planes o = 0 := by unfold runErr; rw [if_neg (by omega),if_neg (by omega)]
  have hro : runOut m b i planes o = runSt m b i planes o := by unfold runOut; rw [if_pos herr]; simp
  rw [herr] at e1
  rw [hro] at r1
  obtain ⟨s',H,ha,w'⟩ := w.step r1 (by rw [w.len]; omega)
  simp only [MD.val] at e1
  have ih' := ih (i + 1)
  generalize hq : ((i + 1 : Nat) : Int) = q at *
  have e9 := w'
  rw [ok_round,l43_1,L43_1a,L43_1b]
  cases sv with
  | slice a sl cp =>
   simp [hw3,hw4,hlt,hM1,e1,repL,ha,hw]
   exact ih' H _ s' _ _ _ _ _ _ _ _ _ _ _ _ _ _ _ _ _ _ _ _ _ _ _ _ _ _ _ _ _ _ _ _ _ _ _ _ _ _ _ _ _ _ _ _ _ _ _ _ _ _ _ _ _ _ _ _ _ _ _ _ _ _ _ _ _ _ _ _ _ _ _ _ _ _ _ _ _ _ _ _ _ _ _ _ _ _ (by omega) (by simp; omega) (by rw [← hpa,passesOf]; simp) w'
  | _ => exact absurd r1.own.sl.shape (by simp)
theorem fill_loop_r {B : Nat} {h0 : Heap} {s : Value} {xs : List Int} {w hh : Nat} {p c : Nat} {v3 v9 v10 v11 v13 : Value} (hi : Ints h0 s xs) (hsB : ∀ id,sid s = some id → id < B) (w1 : 1 ≤ w) (w2 : w ≤ 64) (h1 : 1 ≤ hh) (h2 : hh ≤ 64) (hl : xs.length = w * hh)
  (hall : ∀ v ∈ xs,inR v)
  (hk : ∀ (h' : Heap) (K0 K1 K2 K4 K5 K6 K7 K8 Ke Kf Kg Kh Ki Kj Kk Kl Km Kn Ko Kp Kq Kr Ks Kt Ku Kv Kw Kx Ky Kz J0 J1 J2 J3 J4 J5 J6 J7 J8 J9 Ja Jb Jc Jd Je Jf Jg Jh Ji Jj Jk Jl Jm Jn Jo Jp Jq Jr Js Jt Ju Jv Jw Jx Jy Jz Y0 Y1 Y2 Y3 Y4 Y5 Y6 Y7 Y8 Y9 Ya Yb Yc Yd Ye Yf Yg Yh Yi Yj : Value),(∀ v ∈ xs,inR v) → CB h' false p c (fillTo w hh xs xs.length) → (∀ id,id < B → blk? h' id = blk? h0 id) → B ≤ h'.length →
   Ok tab R43 k #[K0,K1,K2,v3,K4,K5,K6,K7,K8,v9,v10,v11,v13,ptr p,Ke,Kf,Kg,Kh,Ki,Kj,Kk,Kl,Km,Kn,Ko,Kp,Kq,Kr,Ks,Kt,Ku,Kv,Kw,Kx,Ky,Kz,J0,J1,J2,J3,J4,J5,J6,J7,J8,J9,Ja,Jb,Jc,Jd,Je,Jf,Jg,Jh,Ji,Jj,Jk,Jl,Jm,Jn,Jo,Jp,Jq,Jr,Js,Jt,Ju,Jv,Jw,Jx,Jy,Jz,Y0,Y1,Y2,Y3,Y4,Y5,Y6,Y7,Y8,Y9,Ya,Yb,Yc,Yd,Ye,Yf,Yg,Yh,Yi,Yj] h' R) :
  ∀ (n i : Nat) (h : Heap) (K0 K2 K4 K5 K6 K7 K8 Ke Kf Kg Kh Ki Kj Kk Kl Km Kn Ko Kp Kq Kr Ks Kt Ku Kv Kw Kx Ky Kz J0 J1 J2 J3 J4 J5 J6 J7 J8 J9 Ja Jb Jc Jd Je Jf Jg Jh Jl Jm Jn Jo Jp Jq Jr Js Jt Ju Jv Jw Jx Jy Jz Y0 Y1 Y2 Y3 Y4 Y5 Y6 Y7 Y8 Y9 Ya Yb Yc Yd Ye Yf Yg Yh Yi Yj : Value),n = xs.length - i → i ≤ xs.length → (∀ v ∈ xs.take i,inR v) → CB h false p c (fillTo w hh xs i) → B ≤ p ∧ B ≤ c → (∀ id,id < B → blk? h id = blk? h0 id) → B ≤ h.length →
   Ok tab R43 (.inLoop L43_0 :: .inBlock 0 :: k) #[K0,.int .i64 w,K2,v3,K4,K5,K6,K7,K8,v9,v10,v11,v13,ptr p,Ke,Kf,Kg,Kh,Ki,Kj,Kk,Kl,Km,Kn,Ko,Kp,Kq,Kr,Ks,Kt,Ku,Kv,Kw,Kx,Ky,Kz,J0,J1,J2,J3,J4,J5,J6,J7,J8,J9,Ja,Jb,Jc,Jd,Je,Jf,Jg,Jh,s,.int .i64 xs.length,.int .i64 i,Jl,Jm,Jn,Jo,Jp,Jq,Jr,Js,Jt,Ju,Jv,Jw,Jx,Jy,Jz,Y0,Y1,Y2,Y3,Y4,Y5,Y6,Y7,Y8,Y9,Ya,Yb,Yc,Yd,Ye,Yf,Yg,Yh,Yi,Yj] h R := by
 intro n
 have hm : w * hh ≤ 64 * 64 := Nat.mul_le_mul w2 h2
 induction n with
 | zero =>
  intro i h;intros;rename_i hn hi' hr hcb hB low len
  have hlt : ¬ ((i : Int) < xs.length) := by omega
  have : i = xs.length := by omega
  subst this
  rw [ok_round,l43_0,L43_0a,L43_0b]
  simp [hlt]
  exact hk h _ _ _ _ _ _ _ _ _ _ _ _ _ _ _ _ _ _ _ _ _ _ _ _ _ _ _ _ _ _ _ _ _ _ _ _ _ _ _ _ _ _ _ _ _ _ _ _ _ _ _ _ _ _ _ _ _ _ _ _ _ _ _ _ _ _ _ _ _ _ _ _ _ _ _ _ _ _ _ _ _ _ _ _ _ _ (by rw [List.take_of_length_le (Nat.le_refl _)] at hr; exact hr) hcb low len
 | succ n ih =>
  intro i h;intros;rename_i hn hi' hr hcb hB low len
  have hlt : ((i : Int) < xs.length) := by omega
  have hil : i < xs.length := by omega
  have hw : IntKind.i64.wrap ((i : Int) + 1) = ((i + 1 : Nat) : Int) := wrapN (n := i + 1) (by omega)
  obtain ⟨id,off,b,hs,hbk,hc⟩ := hi.get hil
  have hbk' : blk? h id = some b := by rw [low id (hsB id (by rw [hs]; rfl))]; exact hbk
  have hmod : (i : Int).tmod (w : Int) = ((i % w : Nat) : Int) := rfl
  have hdiv : (i : Int).tdiv (w : Int) = ((i / w : Nat) : Int) := rfl
  have hdw : IntKind.i64.wrap ((i / w : Nat) : Int) = ((i / w : Nat) : Int) := wrapN (by have := Nat.div_le_self i w; omega)
  have hw0 : ¬ w = 0 := by omega
  have hinb := inb_divmod (i := i) (h := hh) (w := w) (by omega) (by omega) (fillTo w hh xs i).cs
  have ih' := ih (i + 1)
  have hmem := List.getElem_mem hil
  have hstep := fillTo_step (i := i) (w := w) (by omega) hil hl
  have htk : ∀ v ∈ xs.take (i + 1),inR xs[i] → inR v := by
   intro v hv hx
   rw [List.take_succ_eq_append_getElem hil] at hv
   rw [List.mem_append,List.mem_singleton] at hv
   rcases hv with hv | hv
   ·exact hr v hv
   ·rw [hv]; exact hx
  rw [ok_round,l43_0,L43_0a,L43_0b]
  have hin : inR xs[i] := hall _ hmem
  have hst := fun R => set_r (R := R) (v := xs[i]) hcb (x := ((i % w : Nat) : Int)) (y := ((i / w : Nat) : Int)) hinb hin
  have hmm : (fun z : Cell => ({ z with v := xs[i] } : Cell)) = setV xs[i] := rfl
  rw [hmm,hstep] at hst
  have hgood := fillTo_good (newBS_good w1 w2 h1 h2) hl (i + 1) (by omega) (fun v hv => htk v hv hin)
  have hcb' := hcb.set (b' := fillTo w hh xs (i + 1)) rfl rfl hgood.ok
  generalize hq : ((i + 1 : Nat) : Int) = q at *
  generalize hq2 : ((i % w : Nat) : Int) = q2 at *
  generalize hq3 : ((i / w : Nat) : Int) = q3 at *
  simp [hlt,hs,hbk',hc,hmod,hdiv,hdw,hw0,hst,hw]
  rw [← hs]
  refine ih' _ _ _ _ _ _ _ _ _ _ _ _ _ _ _ _ _ _ _ _ _ _ _ _ _ _ _ _ _ _ _ _ _ _ _ _ _ _ _ _ _ _ _ _ _ _ _ _ _ _ _ _ _ _ _ _ _ _ _ _ _ _ _ _ _ _ _ _ _ _ _ _ _ _ _ _ _ _ _ _ _ _ _ (by omega) (by omega) (fun v hv => htk v hv hin) hcb' hB (fun id hid => ?_) (by simp; omega)
  rw [blk?_set_ne (by omega)]; exact low id hid
end
section
variable {h : Heap}
theorem symbols_r {s : Value} {xs : List Int} (hi : Ints h s xs) (hl : xs.length < 9000000000) (w hh o : Int) (m : MD) :
  ∃ sv h',(∀ R,Ret tab 43 [s,.int .i64 w,.int .i64 hh,.int .i64 o,m.val] h R = R (.tuple #[sv,.int .i64 (symRes xs w hh o m).1]) h') ∧ SymOut h h' sv (symRes xs w hh o m) := by
 have key : Ret tab 43 [s,.int .i64 w,.int .i64 hh,.int .i64 o,m.val] h fun v h' => ∃ sv,v = .tuple #[sv,.int .i64 (symRes xs w hh o m).1] ∧ SymOut h h' sv (symRes xs w hh o m) := by
  obtain ⟨a,cc,hs⟩ := hi.sl.shape
  have hbox := hi.keep (h' := h ++ [some ⟨false,[.bool m.byp,.bool m.res,.bool m.rst,.bool m.cz,.bool m.sy]⟩]) (by simp) (fun id hid _ => blk?_push_lt hid)
  have hpl := fun R => planes_r (R := R) hbox hl
  rw [enter43,show B43 = .seq (nthC 0 B43) (.seq (nthC 1 B43) (.seq (nthC 2 B43) (.seq (nthC 3 B43) (.seq (nthC 4 B43) (.seq (nthC 5 B43) (.seq (nthC 6 B43) (.seq (nthC 7 B43) (tlC 8 B43)))))))) from rfl]
  generalize hT : tlC 8 B43 = tl
  simp only [nthC,tlC,fstC,B43]
  have hkp : ∀ x : Option Blk,∀ id,id < h.length → blk? (h ++ [x]) id = blk? h id := fun x id hid => blk?_push_lt hid
  cases hsz : sized w hh
  ·have hr : symRes xs w hh o m = (2,[]) := by unfold symRes; rw [if_pos hsz]
   rw [hr]
   simp only [sized,decide_eq_false_iff_not] at hsz
   by_cases c1 : w < 1
   ·simp [k_guard,k_guardU,MD.val,c1,fin43]
    exact SymOut.nil (hkp _) (by simp) _
   by_cases c2 : 64 < w
   ·simp [k_guard,k_guardU,MD.val,c1,c2,fin43]
    exact SymOut.nil (hkp _) (by simp) _
   by_cases c3 : hh < 1
   ·simp [k_guard,k_guardU,MD.val,c1,c2,c3,fin43]
    exact SymOut.nil (hkp _) (by simp) _
   have c4 : 64 < hh := by omega
   simp [k_guard,k_guardU,MD.val,c1,c2,c3,c4,fin43]
   exact SymOut.nil (hkp _) (by simp) _
  have hsz' := hsz
  simp only [sized,decide_eq_true_eq] at hsz'
  obtain ⟨w,rfl⟩ := Int.eq_ofNat_of_zero_le (show 0 ≤ w by omega)
  obtain ⟨hh,rfl⟩ := Int.eq_ofNat_of_zero_le (show 0 ≤ hh by omega)
  have w1 : 1 ≤ w := by omega
  have w2 : w ≤ 64 := by omega
  have h1 : 1 ≤ hh := by omega
  have h2 : hh ≤ 64 := by omega
  have c1 : ¬ (w : Int) < 1 := by omega
  have c2 : ¬ (64 : Int) < w := by omega
  have c3 : ¬ (hh : Int) < 1 := by omega
  have c4 : ¬ (64 : Int) < hh := by omega
  have c1' : ¬ w = 0 := by omega
  have c3' : ¬ hh = 0 := by omega
  have hm : w * hh ≤ 64 * 64 := Nat.mul_le_mul w2 h2
  have hmw : IntKind.i64.wrap ((w : Int) * (hh : Int)) = ((w * hh : Nat) : Int) := by rw [← Int.natCast_mul]; exact wrapN (by omega)
  have hnew := fun H R => new_r (h := H) (R := R) w1 w2 h1 h2
  have hls : ∀ H : Heap,(newHeap H w hh).length = H.length + 2 := fun H => newHeap_len H w hh
  by_cases hln : xs.length = w * hh
  case neg =>
   have hr : symRes xs w hh o m = (4,[]) := by
    unfold symRes; rw [if_neg (by rw [hsz]; simp),if_pos (by rw [← Int.natCast_mul]; omega)]
   have hne : ((xs.length : Int) != ((w * hh : Nat) : Int)) = true := by simp only [bne_iff_ne,ne_eq]; omega
   rw [hr]
   simp [-Int.natCast_mul,k_guard,MD.val,c1,c2,c3,c4,c1',c3',hs,hmw,hne,fin43]
   exact SymOut.nil (hkp _) (by simp) _
  have hne : ((xs.length : Int) != ((w * hh : Nat) : Int)) = false := by rw [hln]; simp
  have hsq : (xs.length : Int) = (w : Int) * (hh : Int) := by rw [hln,Int.natCast_mul]
  by_cases ho : 0 ≤ o ∧ o ≤ 3
  case neg =>
   have hr : symRes xs w hh o m = (3,[]) := by
    unfold symRes; rw [if_neg (by rw [hsz]; simp),if_neg (by rw [hsq]; simp),if_pos (by omega)]
   have hd : decide (0 ≤ o ∧ o ≤ 3) = false := by simp only [decide_eq_false_iff_not]; exact ho
   rw [hr]
   simp [-Bool.decide_and,-Int.natCast_mul,k_guard,MD.val,c1,c2,c3,c4,c1',c3',hs,hmw,hne,validOrient_r,hd,fin43]
   exact SymOut.nil (hkp _) (by simp) _
  have hd : decide (0 ≤ o ∧ o ≤ 3) = true := decide_eq_true ho
  obtain ⟨o,rfl⟩ := Int.eq_ofNat_of_zero_le (show 0 ≤ o by omega)
  have ho3 : (o : Int) ≤ 3 := by omega
  by_cases hb : ∀ v ∈ xs,inR v
  case neg =>
   have hr : symRes xs w hh o m = (2,[]) := by
    unfold symRes; rw [if_neg (by rw [hsz]; simp),if_neg (by rw [hsq]; simp),if_neg (by omega),if_neg hb]
   have hgt : 60 < planesOf xs := by
    apply Nat.lt_of_not_le
    intro hle; exact hb (inR_planes.2 hle)
   have hgt' : (60 : Int) < planesOf xs := by omega
   rw [hr]
   rw [hs] at hpl
   simp [-Bool.decide_and,-Int.natCast_mul,k_guard,MD.val,c1,c2,c3,c4,c1',c3',hs,hmw,hne,validOrient_r,hd,ho3,hpl,hgt,hgt',fin43]
   exact SymOut.nil (hkp _) (by simp) _
  have hp60 := inR_planes.1 hb
  have hgt : ¬ 60 < planesOf xs := by omega
  have hgt' : ¬ (60 : Int) < planesOf xs := by omega
  have hr : symRes xs w hh o m = (0,passesOf m (planesOf xs) o (3 * planesOf xs - 2) 0 (fillTo w hh xs xs.length)) := by
   unfold symRes; rw [if_neg (by rw [hsz]; simp),if_neg (by rw [hsq]; simp),if_neg (by omega),if_pos hb]; rfl
  rw [hr]
  rw [hs] at hpl
  simp [-Bool.decide_and,-Int.natCast_mul,k_guard,MD.val,c1,c2,c3,c4,c1',c3',hs,hmw,hne,validOrient_r,hd,ho3,hpl,hgt,hgt',hnew]
  rw [← hs]
  generalize hH0 : h ++ [some (⟨false,[.bool m.byp,.bool m.res,.bool m.rst,.bool m.cz,.bool m.sy]⟩ : Blk)] = H0 at *
  have hH0l : H0.length = h.length + 1 := by rw [← hH0]; simp
  have hM : blk? H0 h.length = some ⟨false,[.bool m.byp,.bool m.res,.bool m.rst,.bool m.cz,.bool m.sy]⟩ := by rw [← hH0]; exact blk?_push_eq
  have hk0 : ∀ id,id < h.length → blk? H0 id = blk? h id := fun id hid => by rw [← hH0]; exact hkp _ id hid
  have hi0 : Ints H0 s xs := hi.keep (by omega) (fun id hid _ => hk0 id hid)
  have hsB : ∀ id,sid s = some id → id < H0.length := by
   intro id hid
   have := hi0.sb
   rw [hs] at this hid
   cases a with
   | none => simp [sid] at hid
   | some a => simp [sid] at hid; simp at this; omega
  have hcb := newHeap_cb H0 w1 w2 h1 h2
  rw [← fillTo_zero w hh xs,hH0l] at hcb
  refine fill_loop_r hi0 hsB w1 w2 h1 h2 hln hb ?_ _ 0 _ _ _ _ _ _ _ _ _ _ _ _ _ _ _ _ _ _ _ _ _ _ _ _ _ _ _ _ _ _ _ _ _ _ _ _ _ _ _ _ _ _ _ _ _ _ _ _ _ _ _ _ _ _ _ _ _ _ _ _ _ _ _ _ _ _ _ _ _ _ _ _ _ _ _ _ _ _ _ _ _ _ _ rfl (by omega) (by simp) hcb ⟨by omega,by omega⟩ (newHeap_low H0 w hh) (by rw [hls]; omega)
  intro h2';intros;rename_i hb hcb2 low2 len2
  rw [← hT]
  simp only [tlC,B43]
  simp
  have hgood := fillTo_good (newBS_good w1 w2 h1 h2) hln xs.length (Nat.le_refl _) (by rw [List.take_of_length_le (Nat.le_refl _)]; exact hb)
  have w0 := SL.start (B := H0.length) (h0 := H0) hcb2 hgood ⟨by omega,by omega⟩ low2 len2
  refine pass_loop_r (b0 := fillTo w hh xs xs.length) hM (by omega) hp60 (by omega) ?_ (3 * planesOf xs - 2) 0 _ _ _ _ _ _ _ _ _ _ _ _ _ _ _ _ _ _ _ _ _ _ _ _ _ _ _ _ _ _ _ _ _ _ _ _ _ _ _ _ _ _ _ _ _ _ _ _ _ _ _ _ _ _ _ _ _ _ _ _ _ _ _ _ _ _ _ _ _ _ _ _ _ _ _ _ _ _ _ _ _ _ _ _ _ _ _ _ _ (by omega) rfl rfl w0
  intro h' s' vs b' ls;intros;rename_i w hls
  simp [fin43]
  refine ⟨⟨vs,?_⟩,fun id hid => by rw [w.low id (by omega),hk0 id hid],by have := w.lenB; omega⟩
  rw [← hls]; exact w.pss
 obtain ⟨v,h',e,sv,rfl,rs⟩ := ret_ex key
 exact ⟨sv,h',e,rs⟩
end
set_option maxRecDepth 10000
section
variable {h : Heap} {R : Value → Heap → Prop}
theorem checked_loop {s : Value} {xs : List Int} (hi : Ints h s xs) (hl : xs.length < 9000000000) {K : List RItem}
  (hk : (∀ v ∈ xs,inR v) → ∀ (K1 K2 K3 K4 K5 K6 K7 K8 K9 Ka Kb Kc Kd Ke Kf Kg Kh Ki Kj Kk Kl Km Kn Ko Kp Kq Kr Ks Kt Ku Kv Kw Kx Ky Kz J0 J1 J2 J3 J4 J5 J6 J7 J8 J9 Ja Jb Jc Jd Je Jf Jg Jh : Value),Ok tab R42 K #[s,K1,K2,K3,K4,K5,K6,K7,K8,K9,Ka,Kb,Kc,Kd,Ke,Kf,Kg,Kh,Ki,Kj,Kk,Kl,Km,Kn,Ko,Kp,Kq,Kr,Ks,Kt,Ku,Kv,Kw,Kx,Ky,Kz,J0,J1,J2,J3,J4,J5,J6,J7,J8,J9,Ja,Jb,Jc,Jd,Je,Jf,Jg,Jh] h R) (hb : ¬ (∀ v ∈ xs,inR v) → R (.int .i64 2) h) :
  ∀ (d i : Nat) (K1 K2 K3 K4 K5 K6 K7 K8 Ka Kb Kc Kd Ke Kf Kg Kh Ki Kj Kk Kl Km Kn Ko Kp Kq Kr Ks Kt Ku Kv Kw Kx Ky Kz J0 J1 J2 J3 J4 J5 J6 J7 J8 J9 Ja Jb Jc Jd Je Jf Jg Jh : Value),i + d = xs.length → (∀ v ∈ xs.take i,inR v) →
   Ok tab R42 (.inLoop L42_0 :: .inBlock 0 :: K) #[s,K1,K2,K3,K4,K5,K6,K7,K8,.int .i64 (i : Nat),Ka,Kb,Kc,Kd,Ke,Kf,Kg,Kh,Ki,Kj,Kk,Kl,Km,Kn,Ko,Kp,Kq,Kr,Ks,Kt,Ku,Kv,Kw,Kx,Ky,Kz,J0,J1,J2,J3,J4,J5,J6,J7,J8,J9,Ja,Jb,Jc,Jd,Je,Jf,Jg,Jh] h R := by
 intro d
 induction d with
 | zero =>
  intro i;intros;rename_i hid hr
  obtain rfl : i = xs.length := by omega
  rw [List.take_length] at hr
  obtain ⟨sa,sc,hs⟩ := hi.sl.shape
  have hk' := hk hr
  rw [hs] at hk' ⊢
  rw [ok_round,l42_0,L42_0a,L42_0b]
  simp
  exact hk' ..
 | succ d ih =>
  intro i;intros;rename_i hid hr
  have hil : i < xs.length := by omega
  have hlt : (i : Int) < (xs.length : Int) := by omega
  have hw : IntKind.i64.wrap ((i : Int) + 1) = ((i + 1 : Nat) : Int) := wrapN (n := i + 1) (by omega)
  obtain ⟨id,off,b,hs,hbk,hc⟩ := hi.get hil
  have ih' := fun K1 K2 K3 K4 K5 K6 K7 K8 Ka Kb Kc Kd Ke Kf Kg Kh Ki Kj Kk Kl Km Kn Ko Kp Kq Kr Ks Kt Ku Kv Kw Kx Ky Kz J0 J1 J2 J3 J4 J5 J6 J7 J8 J9 Ja Jb Jc Jd Je Jf Jg Jh hh => ih (i + 1) K1 K2 K3 K4 K5 K6 K7 K8 Ka Kb Kc Kd Ke Kf Kg Kh Ki Kj Kk Kl Km Kn Ko Kp Kq Kr Ks Kt Ku Kv Kw Kx Ky Kz J0 J1 J2 J3 J4 J5 J6 J7 J8 J9 Ja Jb Jc Jd Je Jf Jg Jh (by omega) hh
  have etk : xs.take (i + 1) = xs.take i ++ [xs[i]] := List.take_succ_eq_append_getElem hil
  rw [etk] at ih'
  have g1 := get_of hc
  generalize ((i + 1 : Nat) : Int) = i1 at *
  rw [hs] at ih' ⊢
  rw [ok_round,l42_0,L42_0a,L42_0b]
  by_cases h1 : 1152921504606846976 ≤ xs[i]
  ·have hbad := hb fun x => by have := x _ (List.getElem_mem hil); unfold inR at this; omega
   simp [k_guard,k_guardU,hlt,hil,hbk,hc,g1,h1,fin42]
   exact hbad
  ·by_cases h2 : xs[i] ≤ -1152921504606846976
   ·have hbad := hb fun x => by have := x _ (List.getElem_mem hil); unfold inR at this; omega
    simp [k_guard,k_guardU,hlt,hil,hbk,hc,g1,h1,h2,fin42]
    exact hbad
   ·simp [k_guard,k_guardU,hlt,hil,hbk,hc,g1,h1,h2,hw]
    exact ih' _ _ _ _ _ _ _ _ _ _ _ _ _ _ _ _ _ _ _ _ _ _ _ _ _ _ _ _ _ _ _ _ _ _ _ _ _ _ _ _ _ _ _ _ _ _ _ _ _ _ _ _ fun v hv => by
     rcases List.mem_append.1 hv with hv | hv
     ·exact hr v hv
     ·simp at hv; subst hv; unfold inR; omega
theorem checked_x {s : Value} {xs : List Int} (hi : Ints h s xs) (hl : xs.length < 9000000000) (w hh o : Int) (m : MD) : Ret tab 42 [s,.int .i64 w,.int .i64 hh,.int .i64 o] h R = R (.int .i64 (symRes xs w hh o m).1) h := by
 have key : Ret tab 42 [s,.int .i64 w,.int .i64 hh,.int .i64 o] h fun v h' => v = .int .i64 (symRes xs w hh o m).1 ∧ h' = h := by
  obtain ⟨sa,sc,hs⟩ := hi.sl.shape
  rw [enter42,show B42 = .seq (nthC 0 B42) (.seq (nthC 1 B42) (.seq (nthC 2 B42) (.seq (nthC 3 B42) (.seq (nthC 4 B42) (tlC 5 B42))))) from rfl]
  by_cases hz : sized w hh = false
  ·have e : (symRes xs w hh o m).1 = 2 := by unfold symRes; rw [if_pos hz]
   rw [e]
   generalize hT : tlC 5 B42 = tl
   simp only [nthC,tlC,fstC,B42]
   simp only [sized,decide_eq_false_iff_not] at hz
   by_cases c1 : w < 1
   ·simp [k_guard,k_guardU,c1,fin42]
   ·by_cases c2 : 64 < w
    ·simp [k_guard,k_guardU,c1,c2,fin42]
    ·by_cases c3 : hh < 1
     ·simp [k_guard,k_guardU,c1,c2,c3,fin42]
     ·have c4 : 64 < hh := by omega
      simp [k_guard,k_guardU,c1,c2,c3,c4,fin42]
  have hz' := hz
  simp only [Bool.not_eq_false,sized,decide_eq_true_eq] at hz'
  obtain ⟨w,rfl⟩ := Int.eq_ofNat_of_zero_le (show 0 ≤ w by omega)
  obtain ⟨hh,rfl⟩ := Int.eq_ofNat_of_zero_le (show 0 ≤ hh by omega)
  have hm : w * hh ≤ 64 * 64 := Nat.mul_le_mul (by omega) (by omega)
  have hwm : IntKind.i64.wrap ((w : Int) * (hh : Int)) = ((w * hh : Nat) : Int) := by rw [← Int.natCast_mul]; exact wrapN (by omega)
  have c1 : ¬ (w : Int) < 1 := by omega
  have c2 : ¬ (64 : Int) < (w : Int) := by omega
  have c3 : ¬ (hh : Int) < 1 := by omega
  have c4 : ¬ (64 : Int) < (hh : Int) := by omega
  by_cases hln : (xs.length : Int) = (w : Int) * (hh : Int)
  case neg =>
   have e : (symRes xs w hh o m).1 = 4 := by unfold symRes; rw [if_neg hz,if_pos hln]
   rw [e]
   have hne : (((xs.length : Nat) : Int) != ((w * hh : Nat) : Int)) = true := by rw [bne_iff_ne]; rwa [Int.natCast_mul]
   generalize hT : tlC 5 B42 = tl
   simp only [nthC,tlC,fstC,B42]
   generalize ((w * hh : Nat) : Int) = wh at *
   generalize ((w : Nat) : Int) = wi at *
   generalize ((hh : Nat) : Int) = hi' at *
   rw [hs]
   simp [k_guard,k_guardU,c1,c2,c3,c4,hwm,hne,fin42]
  have hne : (((xs.length : Nat) : Int) != ((w * hh : Nat) : Int)) = false := by rw [hln]; simp
  by_cases ho : o < 0 ∨ 3 < o
  ·have e : (symRes xs w hh o m).1 = 3 := by unfold symRes; rw [if_neg hz,if_neg (by simp [hln]),if_pos ho]
   rw [e]
   generalize hT : tlC 5 B42 = tl
   simp only [nthC,tlC,fstC,B42]
   generalize ((w * hh : Nat) : Int) = wh at *
   generalize ((w : Nat) : Int) = wi at *
   generalize ((hh : Nat) : Int) = hi' at *
   rw [hs]
   by_cases o0 : o < 0
   ·simp [k_guard,k_guardU,c1,c2,c3,c4,hwm,hne,o0,fin42]
   ·have o1 : 3 < o := by omega
    simp [k_guard,k_guardU,c1,c2,c3,c4,hwm,hne,o0,o1,fin42]
  ·have o0 : ¬ o < 0 := by omega
   have o1 : ¬ 3 < o := by omega
   have hL := fun K1 K2 K3 K4 K5 K6 K7 K8 Ka Kb Kc Kd Ke Kf Kg Kh Ki Kj Kk Kl Km Kn Ko Kp Kq Kr Ks Kt Ku Kv Kw Kx Ky Kz J0 J1 J2 J3 J4 J5 J6 J7 J8 J9 Ja Jb Jc Jd Je Jf Jg Jh => checked_loop (R := fun v h' => v = .int .i64 (symRes xs w hh o m).1 ∧ h' = h) hi hl (K := [.code (tlC 5 B42)])
    (fun hr K1 K2 K3 K4 K5 K6 K7 K8 K9 Ka Kb Kc Kd Ke Kf Kg Kh Ki Kj Kk Kl Km Kn Ko Kp Kq Kr Ks Kt Ku Kv Kw Kx Ky Kz J0 J1 J2 J3 J4 J5 J6 J7 J8 J9 Ja Jb Jc Jd Je Jf Jg Jh => by
     have e : (symRes xs w hh o m).1 = 0 := by unfold symRes; rw [if_neg hz,if_neg (by simp [hln]),if_neg ho,if_pos hr]
     rw [e]
     simp only [nthC,tlC,fstC,B42]
     simp [fin42]) (fun hr => by
     have e : (symRes xs w hh o m).1 = 2 := by unfold symRes; rw [if_neg hz,if_neg (by simp [hln]),if_neg ho,if_neg hr]
     rw [e]; exact ⟨rfl,rfl⟩) xs.length 0 K1 K2 K3 K4 K5 K6 K7 K8 Ka Kb Kc Kd Ke Kf Kg Kh Ki Kj Kk Kl Km Kn Ko Kp Kq Kr Ks Kt Ku Kv Kw Kx Ky Kz J0 J1 J2 J3 J4 J5 J6 J7 J8 J9 Ja Jb Jc Jd Je Jf Jg Jh (by omega) (by simp)
   generalize (symRes xs w hh o m).1 = er at *
   generalize hT : tlC 5 B42 = tl at *
   simp only [nthC,tlC,fstC,B42]
   generalize ((w * hh : Nat) : Int) = wh at *
   generalize ((w : Nat) : Int) = wi at *
   generalize ((hh : Nat) : Int) = hi' at *
   rw [hs] at hL ⊢
   simp [k_guard,k_guardU,c1,c2,c3,c4,hwm,hne,o0,o1]
   exact hL ..
 obtain ⟨v,h',ee,rfl,rfl⟩ := ret_ex key
 exact ee R
end
set_option maxRecDepth 10000
theorem Pss.sub {h : Heap} {s : Value} {vs : List Value} {ls : List (List (Int × Nat))} (hp : Pss h s vs ls) {n c : Nat} (hc : n + c ≤ ls.length) :
  ∃ s',sliceV 1 s (some (.int .i64 (n : Nat))) (some (.int .i64 ((n + c : Nat) : Int))) = some s' ∧ Pss h s' ((vs.drop n).take c) ((ls.drop n).take c) ∧ (∀ id,sid s' = some id → sid s = some id) := by
 have hv := hp.len
 have hsb := hp.sb
 have hlen : ((vs.drop n).take c).length = c := by rw [List.length_take,List.length_drop]; omega
 have hlen2 : ((ls.drop n).take c).length = c := by rw [List.length_take,List.length_drop]; omega
 have each : ∀ i (h1 : i < ((vs.drop n).take c).length) (h2 : i < ((ls.drop n).take c).length),Syms h ((vs.drop n).take c)[i] ((ls.drop n).take c)[i] := fun i h1 h2 => by
  have := hp.each (n + i) (by omega) (by omega)
  simpa using this
 have b1 : ((n + c : Nat) : Int) ≤ (vs.length : Int) := by omega
 obtain ⟨hl,⟨rfl,h0⟩ | ⟨id,off,rfl,h2⟩⟩ := hp.sl
 ·obtain rfl : n = 0 := by omega
  obtain rfl : c = 0 := by omega
  refine ⟨.slice none 0 0,by simp [sliceV,bndO,bnd],⟨by rw [hlen]; exact ⟨by simp,.inl ⟨rfl,rfl⟩⟩,by simp,fun id b hid hb => by simp [sid] at hid,by rw [hlen,hlen2],each⟩,fun id hid => hid⟩
 ·refine ⟨.slice (some ⟨id,off + n * 1,none⟩) c 1,?_,⟨⟨by rw [hlen,Nat.mul_one],.inr ⟨id,off + n,by rw [hlen,Nat.mul_one],?_⟩⟩,by simpa using hsb,fun id' b hid hb => hp.bl id' b (by simpa [sid] using hid) hb,by rw [hlen,hlen2],each⟩,fun id' hid => by simpa [sid] using hid⟩
  ·have c0 : (0 : Int) ≤ ((n + c : Nat) : Int) := by omega
   have c1 : (0 : Int) ≤ ((n : Nat) : Int) := by omega
   have c2 : ((n : Nat) : Int) ≤ ((n + c : Nat) : Int) := by omega
   simp only [sliceV,bndO,bnd,c0,b1,and_self,if_true,Int.toNat_natCast,c1,c2]
   rw [show n + c - n = c by omega]
  ·rcases h2 with h2 | ⟨b,hb,hle,hcs⟩
   ·by_cases hc0 : c = 0
    ·left; rw [hlen,hc0]
    ·omega
   ·right
    rw [Nat.mul_one] at hle hcs
    refine ⟨b,hb,by rw [hlen]; omega,?_⟩
    rw [hlen,Nat.mul_one]
    have : (vs.drop n).take c = ((b.cells.drop off).take vs.length |>.drop n).take c := by rw [hcs]
    rw [this,List.drop_take,List.take_take,List.drop_drop,Nat.min_eq_left (by omega)]
def fS (Dl bl : Nat) (zs : List Nat) (k : Nat) : List Nat := (List.range k).map fun j => Dl + if j + 1 < zs.length then min (zs.getD j 0) bl else bl
theorem fS_succ (Dl bl : Nat) (zs : List Nat) (k : Nat) : fS Dl bl zs (k + 1) = fS Dl bl zs k ++ [Dl + if k + 1 < zs.length then min (zs.getD k 0) bl else bl] := by
 simp [fS,List.range_succ]
theorem fS_len (Dl bl : Nat) (zs : List Nat) (k : Nat) : (fS Dl bl zs k).length = k := by simp [fS]
theorem fS_all {zs : List Nat} {D B : List Nat} {c : Nat} (hc : zs.length = c) (h1 : 1 ≤ c) : fS D.length B.length zs c = (zs.take (c - 1)).map (fun z => min (D.length + z) (D ++ B).length) ++ [(D ++ B).length] := by
 obtain ⟨c,rfl⟩ : ∃ c',c = c' + 1 := ⟨c - 1,by omega⟩
 rw [fS_succ,if_neg (by omega),Nat.add_sub_cancel]
 congr 1
 ·apply List.ext_getElem
  ·rw [fS_len]; simp; omega
  ·intro i h1 h2
   rw [fS_len] at h1
   simp only [fS,List.getElem_map,List.getElem_range,List.getElem_take,List.length_append]
   rw [if_pos (by omega),List.getD_eq_getElem?_getD,List.getElem?_eq_getElem (by omega)]
   simp only [Option.getD_some]
   omega
 ·simp
section
variable {R : Value → Heap → Prop} {e M X0 X : Nat}
theorem xsz_loop {G : Heap} {sv gv bv zv pv0 pl dv : Value} {n gi : Nat} {P zs D : List Nat} {bl : Nat} {bb : Option Addr} {bc : Nat} {db : Option Addr} {dc : Nat} (hz : OwnS G 1 zv zs.length (nI zs)) (hzX : ∀ id,sid zv = some id → id ≠ X ∧ sid pv0 ≠ some id) (hzl : zs.length ≤ 178) (hzb : ∀ z ∈ zs,z ≤ 1000000) (hbv : bv = .slice bb bl bc) (hdv : dv = .slice db D.length dc) (hbl : bl ≤ 1000000) (hDl : D.length ≤ 600000000) (hPl : P.length ≤ 1000) (hX : X < G.length) (hpX : sid pv0 ≠ some X) {K : List RItem}
  (hk : ∀ (H : Heap) (pv : Value) (K0 K1 K2 K3 K4 K5 K6 K7 K8 Kb Kc Ke Kh Km Kn Ko Kp Kq Kr Ks Kt Ku Kv Kw Kx Ky Kz J0 J1 J2 J3 J4 J5 J6 J7 J8 J9 Ja Jb Jc Jd Je Jf Jg Jh Ji Jj Jk Jl Jm Jn Jo Jp Jq Jr Js Jt Ju Jv Jw Jx Jy Jz Y0 Y1 Y2 Y3 Y4 Y5 Y6 Y7 Y8 Y9 Ya Yb Yc Yd Ye Yf Yg Yh Yi Yj Yk Yl Ym Yn Yo Yp Yq Yr Ys Yt Yu Yv Yw Yx Yy Yz Z0 Z1 Z2 Z3 Z4 Z5 Z6 Z7 Z8 Z9 Za Zb Zc Zd Ze Zf Zg Zh : Value),blk? H X = some ⟨false,[pl,pv,dv]⟩ → OwnS H 1 pv (P ++ fS D.length bl zs zs.length).length (nI (P ++ fS D.length bl zs zs.length)) → (∀ id,sid pv = some id → sid pv0 = some id ∨ G.length ≤ id) → (∀ id,id < G.length → id ≠ X → sid pv0 ≠ some id → blk? H id = blk? G id) → G.length ≤ H.length →
   Ok tab R18 K #[K0,K1,K2,K3,K4,K5,K6,K7,K8,ptr M,ptr X0,Kb,Kc,sv,Ke,ptr X,ptr e,Kh,gv,.int .i64 (n : Nat),.int .i64 (gi : Nat),bv,Km,Kn,Ko,Kp,Kq,Kr,Ks,Kt,Ku,Kv,Kw,Kx,Ky,Kz,J0,J1,J2,J3,J4,J5,J6,J7,J8,J9,Ja,Jb,Jc,Jd,Je,Jf,Jg,Jh,Ji,Jj,Jk,Jl,Jm,Jn,Jo,Jp,Jq,Jr,Js,Jt,Ju,Jv,Jw,Jx,Jy,Jz,Y0,Y1,Y2,Y3,Y4,Y5,Y6,Y7,Y8,Y9,Ya,Yb,Yc,Yd,Ye,Yf,Yg,Yh,Yi,Yj,Yk,Yl,Ym,Yn,Yo,Yp,Yq,Yr,Ys,Yt,Yu,Yv,Yw,Yx,Yy,Yz,Z0,Z1,Z2,Z3,Z4,Z5,Z6,Z7,Z8,Z9,Za,Zb,Zc,Zd,Ze,Zf,Zg,Zh] H R) :
  ∀ (d k : Nat) (H : Heap) (pv : Value) (K0 K1 K2 K3 K4 K5 K6 K7 K8 Kb Kc Ke Kh Ko Kp Kq Kr Ks Kt Ku Kv Kw Kx Ky Kz J0 J1 J2 J3 J4 J5 J6 J7 J8 J9 Ja Jb Jc Jd Je Jf Jg Jh Ji Jj Jk Jl Jm Jn Jo Jp Jq Jr Js Jt Ju Jv Jw Jx Jy Jz Y0 Y1 Y2 Y3 Y4 Y5 Y6 Y7 Y8 Y9 Ya Yb Yc Yd Ye Yf Yg Yh Yi Yj Yk Yl Ym Yn Yo Yp Yq Yr Ys Yt Yu Yv Yw Yx Yy Yz Z0 Z1 Z2 Z3 Z4 Z5 Z6 Z7 Z8 Z9 Za Zb Zc Zd Ze Zf Zg Zh : Value),k + d = zs.length → blk? H X = some ⟨false,[pl,pv,dv]⟩ → OwnS H 1 pv (P ++ fS D.length bl zs k).length (nI (P ++ fS D.length bl zs k)) → (∀ id,sid pv = some id → sid pv0 = some id ∨ G.length ≤ id) → (∀ id,id < G.length → id ≠ X → sid pv0 ≠ some id → blk? H id = blk? G id) → G.length ≤ H.length →
   Ok tab R18 (.inLoop L18_0 :: .inBlock 2 :: K) #[K0,K1,K2,K3,K4,K5,K6,K7,K8,ptr M,ptr X0,Kb,Kc,sv,Ke,ptr X,ptr e,Kh,gv,.int .i64 (n : Nat),.int .i64 (gi : Nat),bv,zv,.int .i64 (k : Nat),Ko,Kp,Kq,Kr,Ks,Kt,Ku,Kv,Kw,Kx,Ky,Kz,J0,J1,J2,J3,J4,J5,J6,J7,J8,J9,Ja,Jb,Jc,Jd,Je,Jf,Jg,Jh,Ji,Jj,Jk,Jl,Jm,Jn,Jo,Jp,Jq,Jr,Js,Jt,Ju,Jv,Jw,Jx,Jy,Jz,Y0,Y1,Y2,Y3,Y4,Y5,Y6,Y7,Y8,Y9,Ya,Yb,Yc,Yd,Ye,Yf,Yg,Yh,Yi,Yj,Yk,Yl,Ym,Yn,Yo,Yp,Yq,Yr,Ys,Yt,Yu,Yv,Yw,Yx,Yy,Yz,Z0,Z1,Z2,Z3,Z4,Z5,Z6,Z7,Z8,Z9,Za,Zb,Zc,Zd,Ze,Zf,Zg,Zh] H R := by
 intro d
 obtain ⟨za,zc,hzs⟩ := hz.sl.shape
 induction d with
 | zero =>
  intro k H pv;intros;rename_i hkd hb ho hf hs hle
  obtain rfl : k = zs.length := by omega
  have hk' := hk H pv
  rw [hzs]
  rw [ok_round,l18_0,L18_0a,L18_0b]
  simp
  exact hk' _ _ _ _ _ _ _ _ _ _ _ _ _ _ _ _ _ _ _ _ _ _ _ _ _ _ _ _ _ _ _ _ _ _ _ _ _ _ _ _ _ _ _ _ _ _ _ _ _ _ _ _ _ _ _ _ _ _ _ _ _ _ _ _ _ _ _ _ _ _ _ _ _ _ _ _ _ _ _ _ _ _ _ _ _ _ _ _ _ _ _ _ _ _ _ _ _ _ _ _ _ _ _ _ _ _ _ _ _ _ _ _ _ _ _ _ _ hb ho hf hs hle
 | succ d ih =>
  intro k H pv;intros;rename_i hkd hb ho hf hs hle
  have hkl : k < zs.length := by omega
  have hlt : (k : Int) < (zs.length : Int) := by omega
  have hw : IntKind.i64.wrap ((k : Int) + 1) = ((k + 1 : Nat) : Int) := wrapN (n := k + 1) (by omega)
  have w1 : IntKind.i64.wrap ((zs.length : Int) - 1) = (zs.length : Int) - 1 := wrapI (by omega) (by omega)
  obtain ⟨zid,hz1,hz2⟩ := hz.ne_nil (by omega)
  obtain ⟨zX,zP⟩ := hzX zid (by rw [hz1]; rfl)
  have hzH : blk? H zid = some ⟨false,nI zs⟩ := by rw [hs zid (blk?_lt hz2) zX zP]; exact hz2
  have hg := nI_get hkl
  have g1 := get_of hg
  have hlX : (P ++ fS D.length bl zs k).length = P.length + k := by rw [List.length_append,fS_len]
  have lX := blk?_lt hb
  have pX : sid pv ≠ some X := fun x => by
   rcases hf X x with y | y
   ·exact hpX y
   ·omega
  have next : ∀ v : Nat,v = D.length + (if k + 1 < zs.length then min (zs.getD k 0) bl else bl) → ∃ H1,appendV (H ++ [some ⟨false,[.int .i64 (v : Nat)]⟩]) 1 8 pv (.slice (some ⟨H.length,0,none⟩) 1 1) = some (.slice (some ⟨H.length + 1,0,none⟩) ((P ++ fS D.length bl zs k).length + 1) 1,H1) ∧
    blk? H1 X = some ⟨false,[pl,pv,dv]⟩ ∧ (∀ x,blk? (H1.set X x) X = x) ∧
    ∀ (K0 K1 K2 K3 K4 K5 K6 K7 K8 Kb Kc Ke Kh Ko Kp Kq Kr Ks Kt Ku Kv Kw Kx Ky Kz J0 J1 J2 J3 J4 J5 J6 J7 J8 J9 Ja Jb Jc Jd Je Jf Jg Jh Ji Jj Jk Jl Jm Jn Jo Jp Jq Jr Js Jt Ju Jv Jw Jx Jy Jz Y0 Y1 Y2 Y3 Y4 Y5 Y6 Y7 Y8 Y9 Ya Yb Yc Yd Ye Yf Yg Yh Yi Yj Yk Yl Ym Yn Yo Yp Yq Yr Ys Yt Yu Yv Yw Yx Yy Yz Z0 Z1 Z2 Z3 Z4 Z5 Z6 Z7 Z8 Z9 Za Zb Zc Zd Ze Zf Zg Zh : Value),Ok tab R18 (.inLoop L18_0 :: .inBlock 2 :: K) #[K0,K1,K2,K3,K4,K5,K6,K7,K8,ptr M,ptr X0,Kb,Kc,sv,Ke,ptr X,ptr e,Kh,gv,.int .i64 (n : Nat),.int .i64 (gi : Nat),bv,zv,.int .i64 ((k + 1 : Nat) : Int),Ko,Kp,Kq,Kr,Ks,Kt,Ku,Kv,Kw,Kx,Ky,Kz,J0,J1,J2,J3,J4,J5,J6,J7,J8,J9,Ja,Jb,Jc,Jd,Je,Jf,Jg,Jh,Ji,Jj,Jk,Jl,Jm,Jn,Jo,Jp,Jq,Jr,Js,Jt,Ju,Jv,Jw,Jx,Jy,Jz,Y0,Y1,Y2,Y3,Y4,Y5,Y6,Y7,Y8,Y9,Ya,Yb,Yc,Yd,Ye,Yf,Yg,Yh,Yi,Yj,Yk,Yl,Ym,Yn,Yo,Yp,Yq,Yr,Ys,Yt,Yu,Yv,Yw,Yx,Yy,Yz,Z0,Z1,Z2,Z3,Z4,Z5,Z6,Z7,Z8,Z9,Za,Zb,Zc,Zd,Ze,Zf,Zg,Zh] (H1.set X (some ⟨false,[pl,.slice (some ⟨H.length + 1,0,none⟩) ((P ++ fS D.length bl zs k).length + 1) 1,dv]⟩)) R := by
   intro v hv
   obtain ⟨H1,ha,hb1,hlen1,hk1⟩ := app1v (v := .int .i64 (v : Nat)) (bytes := 8) ho (by rw [hlX]; unfold roomCells; omega) (by omega)
   have en : nI (P ++ fS D.length bl zs k) ++ [.int .i64 ((v : Nat) : Int)] = nI (P ++ fS D.length bl zs (k + 1)) := by rw [fS_succ,← hv,← List.append_assoc,nI,nI,List.map_append (l₁ := P ++ _)]; rfl
   have el : (P ++ fS D.length bl zs (k + 1)).length = (P ++ fS D.length bl zs k).length + 1 := by rw [List.length_append,List.length_append,fS_len,fS_len]; omega
   rw [en] at hb1
   refine ⟨H1,ha,by rw [hk1 X lX pX]; exact hb,fun x => blk?_set_eq (by omega),fun K0 K1 K2 K3 K4 K5 K6 K7 K8 Kb Kc Ke Kh Ko Kp Kq Kr Ks Kt Ku Kv Kw Kx Ky Kz J0 J1 J2 J3 J4 J5 J6 J7 J8 J9 Ja Jb Jc Jd Je Jf Jg Jh Ji Jj Jk Jl Jm Jn Jo Jp Jq Jr Js Jt Ju Jv Jw Jx Jy Jz Y0 Y1 Y2 Y3 Y4 Y5 Y6 Y7 Y8 Y9 Ya Yb Yc Yd Ye Yf Yg Yh Yi Yj Yk Yl Ym Yn Yo Yp Yq Yr Ys Yt Yu Yv Yw Yx Yy Yz Z0 Z1 Z2 Z3 Z4 Z5 Z6 Z7 Z8 Z9 Za Zb Zc Zd Ze Zf Zg Zh => ?_⟩
   refine ih (k + 1) _ (.slice (some ⟨H.length + 1,0,none⟩) ((P ++ fS D.length bl zs k).length + 1) 1) _ _ _ _ _ _ _ _ _ _ _ _ _ _ _ _ _ _ _ _ _ _ _ _ _ _ _ _ _ _ _ _ _ _ _ _ _ _ _ _ _ _ _ _ _ _ _ _ _ _ _ _ _ _ _ _ _ _ _ _ _ _ _ _ _ _ _ _ _ _ _ _ _ _ _ _ _ _ _ _ _ _ _ _ _ _ _ _ _ _ _ _ _ _ _ _ _ _ _ _ _ _ _ _ _ _ _ _ _ _ _ _ _ _ _ (by omega) (blk?_set_eq (by omega)) ⟨by simp [nI,fS_len],.inr ⟨_,by rw [el],by rw [blk?_set_ne (by omega)]; exact hb1⟩⟩ (fun id hid => by simp [sid] at hid; omega) (fun id hid i1 i2 => ?_) (by simp; omega)
   rw [blk?_set_ne (Ne.symm i1),hk1 id (by omega) (fun x => by
    rcases hf id x with y | y
    ·exact i2 y
    ·omega),hs id hid i1 i2]
  clear ih hk
  have hvb : zs.getD k 0 ≤ 1000000 := by rw [List.getD_eq_getElem?_getD,List.getElem?_eq_getElem hkl]; exact hzb _ (List.getElem_mem hkl)
  by_cases hlast : k + 1 < zs.length
  ·obtain ⟨H1,ha,hb1,hS1,fin'⟩ := next (D.length + min (zs.getD k 0) bl) (by rw [if_pos hlast])
   have hlt2 : (k : Int) < (zs.length : Int) - 1 := by omega
   have hmin : min ((zs.getD k 0 : Nat) : Int) (bl : Int) = ((min (zs.getD k 0) bl : Nat) : Int) := by omega
   have w2 : IntKind.i64.wrap ((D.length : Int) + ((min (zs.getD k 0) bl : Nat) : Int)) = ((D.length + min (zs.getD k 0) bl : Nat) : Int) := by rw [← Int.natCast_add]; exact wrapN (by omega)
   clear next
   rw [hlX] at ha fin'
   generalize P.length + k = pk at *
   generalize ((k + 1 : Nat) : Int) = k1 at *
   generalize ((D.length + min (zs.getD k 0) bl : Nat) : Int) = v1 at *
   generalize ((min (zs.getD k 0) bl : Nat) : Int) = v2 at *
   generalize ((zs.getD k 0 : Nat) : Int) = v3 at *
   generalize nI zs = C at *
   rw [hz1] at fin' ⊢
   rw [hbv] at fin' ⊢
   rw [hdv] at hb hb1 fin'
   rw [ok_round,l18_0,L18_0a,L18_0b]
   simp [repL,hlt,hkl,w1,hlt2,hzH,hg,g1,fold1,foldO,mn2,hmin,hb,w2,ha,hb1,hS1,hw]
   exact fin' ..
  ·obtain ⟨H1,ha,hb1,hS1,fin'⟩ := next (D.length + bl) (by rw [if_neg hlast])
   have hlt2 : ¬ (k : Int) < (zs.length : Int) - 1 := by omega
   have w2 : IntKind.i64.wrap ((D.length : Int) + (bl : Int)) = ((D.length + bl : Nat) : Int) := by rw [← Int.natCast_add]; exact wrapN (by omega)
   clear next
   rw [hlX] at ha fin'
   generalize P.length + k = pk at *
   generalize ((k + 1 : Nat) : Int) = k1 at *
   generalize ((D.length + bl : Nat) : Int) = v1 at *
   rw [hzs] at fin' ⊢
   rw [hbv] at fin' ⊢
   rw [hdv] at hb hb1 fin'
   rw [ok_round,l18_0,L18_0a,L18_0b]
   simp [repL,hlt,hkl,w1,hlt2,hb,w2,ha,hb1,hS1,hw]
   exact fin' ..
end
set_option maxRecDepth 10000
theorem Pss.keepN {h h' : Heap} {s : Value} {vs : List Value} {ls : List (List (Int × Nat))} (hp : Pss h s vs ls) (hl : h.length ≤ h'.length) (hk : ∀ id,sid s = some id → blk? h' id = blk? h id) (hv : ∀ i (h1 : i < vs.length) id,sid vs[i] = some id → blk? h' id = blk? h id) : Pss h' s vs ls := by
 refine ⟨hp.sl.of_sid fun id b hid hb => by rw [hk id hid]; exact hb,below_mono hl _ hp.sb,fun id b hid hb => belowL_mono hl _ (hp.bl id b hid (by rw [← hk id hid]; exact hb)),hp.len,fun i h1 h2 => ?_⟩
 have hy := hp.each i h1 h2
 exact ⟨hy.sl.of_sid fun id b hid hb => by rw [hv i h1 id hid]; exact hb,below_mono hl _ hy.sb,fun id b hid hb n => hy.bl id b hid (by rw [← hv i h1 id hid]; exact hb) n⟩
theorem puts_meas : ∀ (l : List (Int × Nat)) (st : S2) (N : Nat),st.a.ds.length ≤ N + 4 → (st.raw.getD []).length ≤ N → (st.puts l).a.ds.length ≤ N + l.length + 4 ∧ ((st.puts l).raw.getD []).length ≤ N + l.length
 | [],st,N,h1,h2 => ⟨h1,h2⟩
 | s :: l,st,N,h1,h2 => by
  have h3 : (st.put s).a.ds.length ≤ (N + 1) + 4 ∧ ((st.put s).raw.getD []).length ≤ N + 1 := by
   obtain ⟨a,raw⟩ := st
   cases raw with
   | none =>
    have := put_len1 a s.1.toNat s.2
    simp only at h1
    exact ⟨by simp only [S2.put]; omega,by simp [S2.put]⟩
   | some bs =>
    simp only [Option.getD_some] at h1 h2
    exact ⟨by simp only [S2.put]; omega,by simp [S2.put]; omega⟩
  have := puts_meas l (st.put s) (N + 1) h3.1 h3.2
  simp only [List.length_cons]
  have e : (st.puts (s :: l)) = (st.put s).puts l := rfl
  rw [e]
  omega
theorem size_meas {st : S2} {N : Nat} (h1 : st.a.ds.length ≤ N + 4) (h2 : (st.raw.getD []).length ≤ N) : st.size ≤ N + 4 := by
 obtain ⟨a,raw⟩ := st
 cases raw with
 | none => simp only [S2.size] at *; split <;> omega
 | some bs => simp only [S2.size,Option.getD_some] at *; omega
theorem run_meas (m : MD) : ∀ (ls : List (List (Int × Nat))) (n : Nat) (st : S2) (N : Nat),st.a.ds.length ≤ N + 4 → (st.raw.getD []).length ≤ N → ∀ z ∈ (segRun m n ls st).2,z ≤ N + totL ls + 4
 | [],n,st,N,_,_,z,hz => by simp [segRun] at hz
 | l :: r,n,st,N,h1,h2,z,hz => by
  have h0 : (if m.rst = true ∧ rawOf m n = false then st.back else st).a.ds.length ≤ N + 4 ∧ ((if m.rst = true ∧ rawOf m n = false then st.back else st).raw.getD []).length ≤ N := by
   split
   ·exact ⟨h1,h2⟩
   ·exact ⟨h1,h2⟩
  obtain ⟨p1,p2⟩ := puts_meas l _ N h0.1 h0.2
  rw [segRun] at hz
  simp only [List.mem_cons] at hz
  rw [totL]
  rcases hz with rfl | hz
  ·have := size_meas p1 p2; omega
  ·have := run_meas m r (n + 1) _ (N + l.length) p1 p2 z hz; omega
structure OX (hB H : Heap) (e X pb0 lb0 : Nat) (pl : Value) (a : AE) (pv dv : Value) (P D : List Nat) : Prop where
 ex : ∃ pb lb,XA H e pb lb a ∧ ∀ id,ownX e pb lb id → (ownX e pb0 lb0 id ∨ hB.length ≤ id) ∧ id ≠ X ∧ sid pv ≠ some id ∧ sid dv ≠ some id
 hab : a = AE.begin a.p
 h19 : a.p.length = 19
 bx : blk? H X = some ⟨false,[pl,pv,dv]⟩
 op : OwnS H 1 pv P.length (nI P)
 od : OwnS H 1 dv D.length (nU D)
 fp : ∀ id,sid pv = some id → hB.length ≤ id ∧ sid dv ≠ some id
 fd : ∀ id,sid dv = some id → hB.length ≤ id
 low : ∀ id,id < hB.length → id ≠ X → ¬ ownX e pb0 lb0 id → blk? H id = blk? hB id
 len : hB.length ≤ H.length
theorem after_begin (m : MD) : ∀ (ls : List (List (Int × Nat))) (n : Nat) (st : S2),(st.raw ≠ none → st.a = AE.begin st.a.p) → (segRun m n ls st).1.after = AE.begin (segRun m n ls st).1.after.p
 | [],n,st,h => by
  obtain ⟨a,raw⟩ := st
  cases raw with
  | none => rfl
  | some bs => exact h (by simp)
 | l :: r,n,st,h => by
  rw [segRun]
  refine after_begin m r (n + 1) _ fun hne => ?_
  have key : ∀ (l : List (Int × Nat)) (st : S2),st.raw ≠ none → (st.raw ≠ none → st.a = AE.begin st.a.p) → (st.puts l).a = AE.begin (st.puts l).a.p := by
   intro l
   induction l with
   | nil => intro st h1 h2; exact h2 h1
   | cons s l ih =>
    intro st h1 h2
    obtain ⟨a,raw⟩ := st
    cases raw with
    | none => exact absurd rfl h1
    | some bs => exact ih ⟨a,some (bs ++ [s.2])⟩ (by simp) (fun _ => h2 (by simp))
  have hne' : (if m.rst = true ∧ rawOf m n = false then st.back else st).raw ≠ none := fun x => hne ((puts_raw _ _).1 x)
  refine key l _ hne' fun _ => ?_
  split
  ·rename_i hc
   rw [if_pos hc] at hne'
   have := h hne'
   show st.a.setBack = AE.begin st.a.setBack.p
   rw [this]
   simp [AE.setBack,AE.begin]
  ·rename_i hc
   rw [if_neg hc] at hne'
   exact h hne'
section
variable {R : Value → Heap → Prop} {e M X0 X pb0 lb0 : Nat}
set_option maxHeartbeats 4000000 in
theorem xenc_loop {hB : Heap} {sv gv pl : Value} {m : MD} {gs : List Nat} {vs : List Value} {ls : List (List (Int × Nat))} {PF DF : List Nat} (hp : Pss hB sv vs ls) (hpn : ∀ id,sid sv = some id → ¬ ownX e pb0 lb0 id ∧ id ≠ X ∧ id < hB.length) (hen : ∀ i (h1 : i < vs.length) id,sid vs[i] = some id → ¬ ownX e pb0 lb0 id ∧ id ≠ X ∧ id < hB.length)
  (hm : blk? hB M = some ⟨false,[.bool m.byp,.bool m.res,.bool m.rst,.bool m.cz,.bool m.sy]⟩) (hM : ¬ ownX e pb0 lb0 M ∧ M ≠ X) (hX : X < hB.length) (hXo : ¬ ownX e pb0 lb0 X) (hg : Sl hB 1 gv gs.length (nI gs)) (hgn : ∀ id,sid gv = some id → ¬ ownX e pb0 lb0 id ∧ id ≠ X ∧ id < hB.length) (hls : ls.length ≤ 178) (hgs : gs.length ≤ 178)
  (hsym : ∀ i (h1 : i < ls.length),∀ s ∈ ls[i],s.2 < 2 ∧ (rawOf m i = false → 0 ≤ s.1 ∧ s.1 < 19)) (hN : totL ls ≤ 900000) {K : List RItem}
  (hk : ∀ (H : Heap) (a : AE) (pv dv : Value) (K0 K1 K2 K3 K4 K5 K6 K7 K8 Kb Kc Kd Ke Kg Kh Ki Kj Kk Kl Km Kn Ko Kp Kq Kr Ks Kt Ku Kv Kw Kx Ky Kz J0 J1 J2 J3 J4 J5 J6 J7 J8 J9 Ja Jb Jc Jd Je Jf Jg Jh Ji Jj Jk Jl Jm Jn Jo Jp Jq Jr Js Jt Ju Jv Jw Jx Jy Jz Y0 Y1 Y2 Y3 Y4 Y5 Y6 Y7 Y8 Y9 Ya Yb Yc Yd Ye Yf Yg Yh Yi Yj Yk Yl Ym Yn Yo Yp Yq Yr Ys Yt Yu Yv Yw Yx Yy Yz Z0 Z1 Z2 Z3 Z4 Z5 Z6 Z7 Z8 Z9 Za Zb Zc Zd Ze Zf Zg Zh : Value),OX hB H e X pb0 lb0 pl a pv dv PF DF → Ok tab R18 K #[K0,K1,K2,K3,K4,K5,K6,K7,K8,ptr M,ptr X0,Kb,Kc,Kd,Ke,ptr X,Kg,Kh,Ki,Kj,Kk,Kl,Km,Kn,Ko,Kp,Kq,Kr,Ks,Kt,Ku,Kv,Kw,Kx,Ky,Kz,J0,J1,J2,J3,J4,J5,J6,J7,J8,J9,Ja,Jb,Jc,Jd,Je,Jf,Jg,Jh,Ji,Jj,Jk,Jl,Jm,Jn,Jo,Jp,Jq,Jr,Js,Jt,Ju,Jv,Jw,Jx,Jy,Jz,Y0,Y1,Y2,Y3,Y4,Y5,Y6,Y7,Y8,Y9,Ya,Yb,Yc,Yd,Ye,Yf,Yg,Yh,Yi,Yj,Yk,Yl,Ym,Yn,Yo,Yp,Yq,Yr,Ys,Yt,Yu,Yv,Yw,Yx,Yy,Yz,Z0,Z1,Z2,Z3,Z4,Z5,Z6,Z7,Z8,Z9,Za,Zb,Zc,Zd,Ze,Zf,Zg,Zh] H R) :
  ∀ (d gi n : Nat) (H : Heap) (a : AE) (pv dv : Value) (P D : List Nat) (K0 K1 K2 K3 K4 K5 K6 K7 K8 Kb Kc Ke Kh Kl Km Kn Ko Kp Kq Kr Ks Kt Ku Kv Kw Kx Ky Kz J0 J1 J2 J3 J4 J5 J6 J7 J8 J9 Ja Jb Jc Jd Je Jf Jg Jh Ji Jj Jk Jl Jm Jn Jo Jp Jq Jr Js Jt Ju Jv Jw Jx Jy Jz Y0 Y1 Y2 Y3 Y4 Y5 Y6 Y7 Y8 Y9 Ya Yb Yc Yd Ye Yf Yg Yh Yi Yj Yk Yl Ym Yn Yo Yp Yq Yr Ys Yt Yu Yv Yw Yx Yy Yz Z0 Z1 Z2 Z3 Z4 Z5 Z6 Z7 Z8 Z9 Za Zb Zc Zd Ze Zf Zg Zh : Value),gi + d = gs.length → OX hB H e X pb0 lb0 pl a pv dv P D → n + sumL (gs.drop gi) = ls.length → (∀ c ∈ gs,1 ≤ c) → SegOk m n (gs.drop gi) → SegAll m n (gs.drop gi) → P.length = n → D.length + d * 1000000 ≤ 500000000 →
   encSegs m ls (gs.drop gi) n a P D = (PF,DF) →
   Ok tab R18 (.inLoop L18_1 :: .inBlock 0 :: K) #[K0,K1,K2,K3,K4,K5,K6,K7,K8,ptr M,ptr X0,Kb,Kc,sv,Ke,ptr X,ptr e,Kh,gv,.int .i64 (n : Nat),.int .i64 (gi : Nat),Kl,Km,Kn,Ko,Kp,Kq,Kr,Ks,Kt,Ku,Kv,Kw,Kx,Ky,Kz,J0,J1,J2,J3,J4,J5,J6,J7,J8,J9,Ja,Jb,Jc,Jd,Je,Jf,Jg,Jh,Ji,Jj,Jk,Jl,Jm,Jn,Jo,Jp,Jq,Jr,Js,Jt,Ju,Jv,Jw,Jx,Jy,Jz,Y0,Y1,Y2,Y3,Y4,Y5,Y6,Y7,Y8,Y9,Ya,Yb,Yc,Yd,Ye,Yf,Yg,Yh,Yi,Yj,Yk,Yl,Ym,Yn,Yo,Yp,Yq,Yr,Ys,Yt,Yu,Yv,Yw,Yx,Yy,Yz,Z0,Z1,Z2,Z3,Z4,Z5,Z6,Z7,Z8,Z9,Za,Zb,Zc,Zd,Ze,Zf,Zg,Zh] H R := by
 intro d
 have hvl := hp.len
 obtain ⟨ga,gc,hgs'⟩ := hg.shape
 induction d with
 | zero =>
  intro gi n H a pv dv P D K0 K1 K2 K3 K4 K5 K6 K7 K8 Kb Kc Ke Kh Kl Km Kn Ko Kp Kq Kr Ks Kt Ku Kv Kw Kx Ky Kz J0 J1 J2 J3 J4 J5 J6 J7 J8 J9 Ja Jb Jc Jd Je Jf Jg Jh Ji Jj Jk Jl Jm Jn Jo Jp Jq Jr Js Jt Ju Jv Jw Jx Jy Jz Y0 Y1 Y2 Y3 Y4 Y5 Y6 Y7 Y8 Y9 Ya Yb Yc Yd Ye Yf Yg Yh Yi Yj Yk Yl Ym Yn Yo Yp Yq Yr Ys Yt Yu Yv Yw Yx Yy Yz Z0 Z1 Z2 Z3 Z4 Z5 Z6 Z7 Z8 Z9 Za Zb Zc Zd Ze Zf Zg Zh hgd O hsum hpos hso hsa hP hDl henc
  obtain rfl : gi = gs.length := by omega
  rw [List.drop_length] at henc
  simp only [encSegs] at henc
  injection henc with e1 e2
  subst e1 e2
  have hk' := hk H a pv dv
  rw [hgs']
  rw [ok_round,l18_1,L18_1a]
  simp
  exact hk' _ _ _ _ _ _ _ _ _ _ _ _ _ _ _ _ _ _ _ _ _ _ _ _ _ _ _ _ _ _ _ _ _ _ _ _ _ _ _ _ _ _ _ _ _ _ _ _ _ _ _ _ _ _ _ _ _ _ _ _ _ _ _ _ _ _ _ _ _ _ _ _ _ _ _ _ _ _ _ _ _ _ _ _ _ _ _ _ _ _ _ _ _ _ _ _ _ _ _ _ _ _ _ _ _ _ _ _ _ _ _ _ _ _ _ _ _ _ _ _ _ _ _ O
 | succ d ih =>
  intro gi n H a pv dv P D K0 K1 K2 K3 K4 K5 K6 K7 K8 Kb Kc Ke Kh Kl Km Kn Ko Kp Kq Kr Ks Kt Ku Kv Kw Kx Ky Kz J0 J1 J2 J3 J4 J5 J6 J7 J8 J9 Ja Jb Jc Jd Je Jf Jg Jh Ji Jj Jk Jl Jm Jn Jo Jp Jq Jr Js Jt Ju Jv Jw Jx Jy Jz Y0 Y1 Y2 Y3 Y4 Y5 Y6 Y7 Y8 Y9 Ya Yb Yc Yd Ye Yf Yg Yh Yi Yj Yk Yl Ym Yn Yo Yp Yq Yr Ys Yt Yu Yv Yw Yx Yy Yz Z0 Z1 Z2 Z3 Z4 Z5 Z6 Z7 Z8 Z9 Za Zb Zc Zd Ze Zf Zg Zh hgd O hsum hpos hso hsa hP hDl henc
  have hgl : gi < gs.length := by omega
  have hglt : (gi : Int) < (gs.length : Int) := by omega
  have hgdr : gs.drop gi = gs[gi] :: gs.drop (gi + 1) := List.drop_eq_getElem_cons hgl
  rw [hgdr] at hsum hso hsa henc
  simp only [sumL] at hsum
  obtain ⟨hso1,hso2⟩ := hso
  obtain ⟨hsa1,hsa2⟩ := hsa
  have hc1 := hpos gs[gi] (List.getElem_mem hgl)
  generalize hcc : gs[gi] = c at *
  obtain ⟨pb,lb,I,dis⟩ := O.ex
  have lowH : ∀ id b,blk? hB id = some b → id ≠ X → ¬ ownX e pb0 lb0 id → blk? H id = some b := fun id b hb h1 h2 => by rw [O.low id (blk?_lt hb) h1 h2]; exact hb
  have notX : ∀ id,¬ ownX e pb0 lb0 id → id < hB.length → ¬ ownX e pb lb id := fun id h1 h2 x => by
   rcases (dis id x).1 with y | y
   ·exact h1 y
   ·omega
  have hmH := lowH M _ hm hM.2 hM.1
  obtain ⟨gid,goff,gb,hgv,hgb,hgcell⟩ := hg.get hgl
  have hgc := hgcell 0 (by omega)
  rw [Nat.mul_one,Nat.add_zero,Nat.add_zero,nI_get hgl,List.getD_eq_getElem?_getD,List.getElem?_eq_getElem hgl,hcc] at hgc
  simp only [Option.getD_some] at hgc
  obtain ⟨gn1,gn2,gn3⟩ := hgn gid (by rw [hgv]; rfl)
  have hgH := lowH gid gb hgb gn2 gn1
  have pH : Pss H sv vs ls := hp.keepN O.len (fun id hid => by obtain ⟨x,y,z⟩ := hpn id hid; exact O.low id z y x) (fun i h1 id hid => by obtain ⟨x,y,z⟩ := hen i h1 id hid; exact O.low id z y x)
  obtain ⟨s',hsl,pS,hs'⟩ := pH.sub (n := n) (c := c) (by omega)
  have hcl : ((ls.drop n).take c).length = c := by rw [List.length_take,List.length_drop]; omega
  have hraw := fun H R => raw_r (h := H) (R := R) (n := n) (by omega) m
  have hok : ∀ l ∈ (ls.drop n).take c,∀ s ∈ l,SymOk (if rawOf m n = true then some [] else none : Option (List Nat)) s := by
   intro l hl s hs
   obtain ⟨j,hj,rfl⟩ := List.getElem_of_mem hl
   have hjc : j < c := by omega
   have hnj : n + j < ls.length := by omega
   have e1 : ((ls.drop n).take c)[j] = ls[n + j] := by simp
   rw [e1] at hs
   obtain ⟨q1,q2⟩ := hsym (n + j) hnj s hs
   refine ⟨q1,fun hx => q2 ?_⟩
   cases hrw : rawOf m n with
   | true => rw [hrw] at hx; simp at hx
   | false => exact hso1 hrw j hjc
  have htot : totL ((ls.drop n).take c) ≤ 900000 := by
   have t1 := totL_split ls n
   have t2 := totL_split (ls.drop n) c
   omega
  obtain ⟨bv,zv,H1,pb',lb',e1,S⟩ := segment_x (m := m) (n := n) (raw := rawOf m n) I O.hab O.h19 pS (fun id hid => by obtain ⟨x,y,z⟩ := hpn id (hs' id hid); exact notX id x z) (fun i h1 id hid => by
   have h2 : n + i < vs.length := by rw [List.length_take,List.length_drop] at h1; omega
   have e2 : ((vs.drop n).take c)[i] = vs[n + i] := by simp
   rw [e2] at hid
   obtain ⟨x,y,z⟩ := hen (n + i) h2 id hid
   exact notX id x z) (by omega) (fun j hj => hsa1 j (by omega)) hok htot
  have hzl := segRun_len m ((ls.drop n).take c) n ⟨a,if rawOf m n = true then some [] else none⟩
  rw [hcl] at hzl
  have hzb := run_meas m ((ls.drop n).take c) n ⟨a,if rawOf m n = true then some [] else none⟩ 0 (by rw [O.hab]; simp [AE.begin]) (by split <;> simp)
  have haft := after_begin m ((ls.drop n).take c) n ⟨a,if rawOf m n = true then some [] else none⟩ fun _ => O.hab
  simp only [encSegs] at henc
  generalize segRun m n ((ls.drop n).take c) ⟨a,if rawOf m n = true then some [] else none⟩ = r at *
  obtain ⟨st,zs⟩ := r
  simp only at S hzl hzb haft henc
  have Sxa := S.xa
  have Sbs := S.bs
  have Szs := S.zs
  have Sbl := S.bl
  have Sh := S.h19
  simp only at Sxa Sbs Szs Sbl Sh
  have keep1 : ∀ id,id < H.length → ¬ ownX e pb lb id → blk? H1 id = blk? H id := S.fr.same
  have lXH := blk?_lt O.bx
  have nX : ¬ ownX e pb lb X := fun x => (dis X x).2.1 rfl
  have bX1 : blk? H1 X = some ⟨false,[pl,pv,dv]⟩ := by rw [keep1 X lXH nX]; exact O.bx
  have op1 : OwnS H1 1 pv P.length (nI P) := O.op.of_blk fun id hid hb => by rw [keep1 id (blk?_lt hb) (fun x => (dis id x).2.2.1 hid)]; exact hb
  have od1 : OwnS H1 1 dv D.length (nU D) := O.od.of_blk fun id hid hb => by rw [keep1 id (blk?_lt hb) (fun x => (dis id x).2.2.2 hid)]; exact hb
  have hgH1 : blk? H1 gid = some gb := by rw [keep1 gid (blk?_lt hgH) (notX gid gn1 gn3)]; exact hgH
  obtain ⟨bb,bc,hbv⟩ := Sbs.shape
  obtain ⟨da,dc,hdv⟩ := od1.sl.shape
  have lXB : ∀ {id},hB.length ≤ id → id ≠ X := fun h => by omega
  have pX : ∀ id,sid pv = some id → id ≠ X := fun id hid => lXB (O.fp id hid).1
  have lenH := O.len
  have lenH1 := S.fr.len
  have own' : ∀ id,ownX e pb' lb' id → (ownX e pb0 lb0 id ∨ hB.length ≤ id) ∧ id ≠ X ∧ sid pv ≠ some id ∧ sid dv ≠ some id := fun id hid => by
   rcases S.fr.fresh id hid with y | y
   ·exact dis id y
   ·refine ⟨.inr (by omega),by omega,fun x => ?_,fun x => ?_⟩
    ·have := O.op.lt x; omega
    ·have := O.od.lt x; omega
  have hw1 : IntKind.i64.wrap ((n : Int) + (c : Nat)) = ((n + c : Nat) : Int) := by rw [← Int.natCast_add]; exact wrapN (by omega)
  have hw2 : IntKind.i64.wrap ((gi : Int) + 1) = ((gi + 1 : Nat) : Int) := wrapN (n := gi + 1) (by omega)
  have ggp := get_of hgc
  have gplt : goff + gi < gb.cells.length := (List.getElem?_eq_some_iff.1 hgc).1
  have L := fun K0 K1 K2 K3 K4 K5 K6 K7 K8 Kb Kc Ke Kh Ko Kp Kq Kr Ks Kt Ku Kv Kw Kx Ky Kz J0 J1 J2 J3 J4 J5 J6 J7 J8 J9 Ja Jb Jc Jd Je Jf Jg Jh Ji Jj Jk Jl Jm Jn Jo Jp Jq Jr Js Jt Ju Jv Jw Jx Jy Jz Y0 Y1 Y2 Y3 Y4 Y5 Y6 Y7 Y8 Y9 Ya Yb Yc Yd Ye Yf Yg Yh Yi Yj Yk Yl Ym Yn Yo Yp Yq Yr Ys Yt Yu Yv Yw Yx Yy Yz Z0 Z1 Z2 Z3 Z4 Z5 Z6 Z7 Z8 Z9 Za Zb Zc Zd Ze Zf Zg Zh => xsz_loop (R := R) (e := e) (M := M) (X0 := X0) (X := X) (G := H1) (sv := sv) (gv := gv) (bv := bv) (zv := zv) (pv0 := pv) (pl := pl) (dv := dv) (n := n) (gi := gi) (P := P) (zs := zs) (D := D) (K := .code (tlC 2 (inB (fstC L18_1b))) :: .inBlock 1 :: .code (tlC 1 L18_1b) :: .inLoop L18_1 :: .inBlock 0 :: K) Szs
   (fun id hid => ⟨by have := S.fz id hid; omega,fun x => by have := S.fz id hid; have := O.op.lt x; omega⟩) (by omega) (fun z hz => by have := hzb z hz; omega) hbv hdv (by omega) (by omega) (by omega) (by omega) (fun x => pX X x rfl)
   (fun H2 pv2 K0 K1 K2 K3 K4 K5 K6 K7 K8 Kb Kc Ke Kh Km Kn Ko Kp Kq Kr Ks Kt Ku Kv Kw Kx Ky Kz J0 J1 J2 J3 J4 J5 J6 J7 J8 J9 Ja Jb Jc Jd Je Jf Jg Jh Ji Jj Jk Jl Jm Jn Jo Jp Jq Jr Js Jt Ju Jv Jw Jx Jy Jz Y0 Y1 Y2 Y3 Y4 Y5 Y6 Y7 Y8 Y9 Ya Yb Yc Yd Ye Yf Yg Yh Yi Yj Yk Yl Ym Yn Yo Yp Yq Yr Ys Yt Yu Yv Yw Yx Yy Yz Z0 Z1 Z2 Z3 Z4 Z5 Z6 Z7 Z8 Z9 Za Zb Zc Zd Ze Zf Zg Zh bX2 op2 fp2 k2 l2 => by
    rw [hzl,fS_all hzl hc1] at op2
    have od2 : OwnS H2 1 dv D.length (nU D) := od1.of_blk fun id hid hb => by rw [k2 id (blk?_lt hb) (lXB (O.fd id hid)) (fun x => (O.fp id x).2 hid)]; exact hb
    have bs2 : Sl H2 1 bv st.bytes.length (nU st.bytes) := Sbs.of_sid fun id b hid hb => by
     obtain ⟨x,y⟩ := S.fb id hid
     rw [k2 id y (by omega) (fun z => by have := O.op.lt z; omega)]; exact hb
    obtain ⟨dv3,H3,ha,od3,l3,k3,f3⟩ := app_any (bytes := 1) od2 bs2 (by unfold roomCells; omega) (by omega)
    have eD : nU D ++ nU st.bytes = nU (D ++ st.bytes) := by simp [nU]
    have eDl : D.length + st.bytes.length = (D ++ st.bytes).length := by simp
    rw [eD,eDl] at od3
    have dX : sid dv ≠ some X := fun x => lXB (O.fd X x) rfl
    have lX2 := blk?_lt bX2
    have bX3 : blk? H3 X = some ⟨false,[pl,pv2,dv]⟩ := by rw [k3 X lX2 dX]; exact bX2
    have lX3 := blk?_lt bX3
    have gX : gid ≠ X := gn2
    have gd : sid dv ≠ some gid := fun x => by have := O.fd gid x; omega
    have gpv : sid pv ≠ some gid := fun x => by have := (O.fp gid x).1; omega
    have lgH1 := blk?_lt hgH1
    have hg4 : ∀ x,blk? (H3.set X x) gid = some gb := fun x => by rw [blk?_set_ne (Ne.symm gX),k3 gid (by omega) gd,k2 gid lgH1 gX gpv]; exact hgH1
    have pv2d : ∀ id,sid pv2 = some id → hB.length ≤ id ∧ sid dv3 ≠ some id ∧ id < H2.length ∧ sid dv ≠ some id := fun id hid => by
     have lt2 := op2.lt hid
     have hdd : sid dv ≠ some id := fun x => by
      rcases fp2 id hid with y | y
      ·exact (O.fp id y).2 x
      ·have := O.od.lt x; omega
     refine ⟨?_,fun x => ?_,lt2,hdd⟩
     ·rcases fp2 id hid with y | y
      ·exact (O.fp id y).1
      ·omega
     ·have := (f3 id x).1; omega
    have O4 : OX hB (H3.set X (some ⟨false,[pl,pv2,dv3]⟩)) e X pb0 lb0 pl st.after pv2 dv3 (P ++ ((zs.take (c - 1)).map (fun z => min (D.length + z) (D ++ st.bytes).length) ++ [(D ++ st.bytes).length])) (D ++ st.bytes) := by
     refine ⟨⟨pb',lb',Sxa.keep fun id hid => ?_,fun id hid => ?_⟩,haft,Sh,blk?_set_eq lX3,op2.of_blk fun id hid hb => ?_,od3.of_blk fun id hid hb => ?_,fun id hid => ⟨(pv2d id hid).1,(pv2d id hid).2.1⟩,fun id hid => by have := (f3 id hid).1; omega,fun id i1 i2 i3 => ?_,by simp; omega⟩
     ·obtain ⟨_,q2,q3,q4⟩ := own' id hid
      have := Sxa.own_lt hid
      rw [blk?_set_ne (Ne.symm q2),k3 id (by omega) q4,k2 id this q2 q3]
     ·obtain ⟨q1,q2,q3,q4⟩ := own' id hid
      have lt1 := Sxa.own_lt hid
      refine ⟨q1,q2,fun x => ?_,fun x => ?_⟩
      ·rcases fp2 id x with y | y
       ·exact q3 y
       ·omega
      ·have := (f3 id x).1; omega
     ·obtain ⟨q1,q2,q3,q4⟩ := pv2d id hid
      rw [blk?_set_ne (by omega),k3 id q3 q4]; exact hb
     ·rw [blk?_set_ne (by have := (f3 id hid).1; omega)]; exact hb
     ·rw [blk?_set_ne (Ne.symm i2),k3 id (by omega) (fun x => by have := O.fd id x; omega),k2 id (by omega) i2 (fun x => by have := (O.fp id x).1; omega),keep1 id (by omega) (notX id i3 i1),O.low id i1 i2 i3]
    rw [← List.append_assoc] at O4
    have ih' := fun K0 K1 K2 K3 K4 K5 K6 K7 K8 Kb Kc Ke Kh Kl Km Kn Ko Kp Kq Kr Ks Kt Ku Kv Kw Kx Ky Kz J0 J1 J2 J3 J4 J5 J6 J7 J8 J9 Ja Jb Jc Jd Je Jf Jg Jh Ji Jj Jk Jl Jm Jn Jo Jp Jq Jr Js Jt Ju Jv Jw Jx Jy Jz Y0 Y1 Y2 Y3 Y4 Y5 Y6 Y7 Y8 Y9 Ya Yb Yc Yd Ye Yf Yg Yh Yi Yj Yk Yl Ym Yn Yo Yp Yq Yr Ys Yt Yu Yv Yw Yx Yy Yz Z0 Z1 Z2 Z3 Z4 Z5 Z6 Z7 Z8 Z9 Za Zb Zc Zd Ze Zf Zg Zh => ih (gi + 1) (n + c) _ _ _ _ _ _ K0 K1 K2 K3 K4 K5 K6 K7 K8 Kb Kc Ke Kh Kl Km Kn Ko Kp Kq Kr Ks Kt Ku Kv Kw Kx Ky Kz J0 J1 J2 J3 J4 J5 J6 J7 J8 J9 Ja Jb Jc Jd Je Jf Jg Jh Ji Jj Jk Jl Jm Jn Jo Jp Jq Jr Js Jt Ju Jv Jw Jx Jy Jz Y0 Y1 Y2 Y3 Y4 Y5 Y6 Y7 Y8 Y9 Ya Yb Yc Yd Ye Yf Yg Yh Yi Yj Yk Yl Ym Yn Yo Yp Yq Yr Ys Yt Yu Yv Yw Yx Yy Yz Z0 Z1 Z2 Z3 Z4 Z5 Z6 Z7 Z8 Z9 Za Zb Zc Zd Ze Zf Zg Zh (by omega) O4 (by omega) hpos hso2 hsa2 (by rw [List.length_append,List.length_append,List.length_map,List.length_take]; simp; omega) (by rw [List.length_append]; omega) henc
    clear ih
    have hS3 : ∀ x,blk? (H3.set X x) X = x := fun x => blk?_set_eq lX3
    obtain ⟨d3a,d3c,hd3⟩ := od3.sl.shape
    generalize (D ++ st.bytes).length = dl3 at hd3
    rw [hd3] at ha ih'
    generalize ((gi + 1 : Nat) : Int) = g1 at *
    generalize ((n + c : Nat) : Int) = n1 at *
    rw [hdv] at bX2 bX3 ha
    rw [hbv] at ha ⊢
    rw [hgv] at ih' ⊢
    generalize hL1 : L18_1 = L1 at *
    simp only [nthC,tlC,fstC,inB,L18_1b]
    generalize ((c : Nat) : Int) = ci at *
    simp [bX2,ha,bX3,hS3,hgl,hglt,hg4,hgc,ggp,gplt,hw1,hw2]
    exact ih' ..) zs.length 0 H1 pv K0 K1 K2 K3 K4 K5 K6 K7 K8 Kb Kc Ke Kh Ko Kp Kq Kr Ks Kt Ku Kv Kw Kx Ky Kz J0 J1 J2 J3 J4 J5 J6 J7 J8 J9 Ja Jb Jc Jd Je Jf Jg Jh Ji Jj Jk Jl Jm Jn Jo Jp Jq Jr Js Jt Ju Jv Jw Jx Jy Jz Y0 Y1 Y2 Y3 Y4 Y5 Y6 Y7 Y8 Y9 Ya Yb Yc Yd Ye Yf Yg Yh Yi Yj Yk Yl Ym Yn Yo Yp Yq Yr Ys Yt Yu Yv Yw Yx Yy Yz Z0 Z1 Z2 Z3 Z4 Z5 Z6 Z7 Z8 Z9 Za Zb Zc Zd Ze Zf Zg Zh (by omega) bX1 (by rw [show fS D.length st.bytes.length zs 0 = [] from rfl,List.append_nil]; exact op1) (fun id hid => .inl hid) (fun _ _ _ _ => rfl) (Nat.le_refl _)
  clear ih hk henc
  generalize hT2 : tlC 2 (inB (fstC L18_1b)) = T2 at *
  generalize hT1 : tlC 1 L18_1b = T1 at *
  rw [ok_round,l18_1,L18_1a,show L18_1b = .seq (.block 1 (.seq (nthC 0 (inB (fstC L18_1b))) (.seq (nthC 1 (inB (fstC L18_1b))) (tlC 2 (inB (fstC L18_1b)))))) (tlC 1 L18_1b) from rfl,hT2,hT1]
  generalize hL0 : L18_0 = L0 at *
  generalize hL1 : L18_1 = L1 at *
  simp only [nthC,tlC,fstC,inB,L18_1b,hL0]
  simp only [MD.val] at hraw
  generalize ((n + c : Nat) : Int) = n1 at *
  generalize ((c : Nat) : Int) = ci at *
  rw [hgv] at L ⊢
  simp [book,bookU,logOf,addLog,chk1,lookL,reload,veq,hgl,hglt,hgH,hgc,ggp,gplt,hw1,hsl,hmH,hraw,e1]
  exact L ..
end
set_option maxRecDepth 10000
theorem below_lt {n : Nat} {s : Value} (hb : below n s = true) {m : Nat} {cs : List Value} {h : Heap} {es : Nat} (hs : Sl h es s m cs) {id : Nat} (hid : sid s = some id) : id < n := by
 obtain ⟨a,cc,rfl⟩ := hs.shape
 cases a with
 | none => simp [sid] at hid
 | some a => simp [sid] at hid; simp at hb; omega
section
variable {h : Heap}
set_option maxHeartbeats 4000000 in
theorem rencode_x {s : Value} {xs : List Int} (hi : Ints h s xs) (hl : xs.length ≤ 400) (w hh o : Int) (m : MD) :
  ∃ v h',(∀ R,Ret tab 18 [s,.int .i64 w,.int .i64 hh,.int .i64 o,m.val] h R = R (.tuple #[v,.int .i64 (encRes xs w hh o m).1]) h') ∧ CdV h.length h' v (encRes xs w hh o m).2 ∧ (∀ id,id < h.length → blk? h' id = blk? h id) ∧ h.length ≤ h'.length := by
 have main : ∀ R0 : Value → Heap → Prop,(∀ c h',CdV h.length h' c (encRes xs w hh o m).2 → (∀ id,id < h.length → blk? h' id = blk? h id) → h.length ≤ h'.length → R0 (.tuple #[c,.int .i64 (encRes xs w hh o m).1]) h') →
   Ret tab 18 [s,.int .i64 w,.int .i64 hh,.int .i64 o,m.val] h R0 := by
  intro R0 hR
  generalize hH1 : h ++ [some (⟨false,[.bool m.byp,.bool m.res,.bool m.rst,.bool m.cz,.bool m.sy]⟩ : Blk),some ⟨false,[.int .i64 0,.slice none 0 0,.slice none 0 0]⟩] = H1
  have l1 : H1.length = h.length + 2 := by rw [← hH1]; simp
  have k1 : ∀ id,id < h.length → blk? H1 id = blk? h id := fun id hid => by rw [← hH1]; exact app_lt hid
  have bM1 : blk? H1 h.length = some ⟨false,[.bool m.byp,.bool m.res,.bool m.rst,.bool m.cz,.bool m.sy]⟩ := by rw [← hH1,app_len]; rfl
  have bX1 : blk? H1 (h.length + 1) = some ⟨false,[.int .i64 0,.slice none 0 0,.slice none 0 0]⟩ := by rw [← hH1,app_add]; rfl
  have hi1 : Ints H1 s xs := hi.keep (by omega) (fun id hid _ => k1 id hid)
  have e0 := fun R => checked_x (R := R) hi1 (by omega) w hh o m
  have hX1 := blk?_lt bX1
  rw [enter18,show B18 = .seq (nthC 0 B18) (.seq (nthC 1 B18) (.seq (nthC 2 B18) (tlC 3 B18))) from rfl]
  generalize hT : tlC 3 B18 = tl
  simp only [nthC,tlC,fstC,B18]
  by_cases h0 : (symRes xs w hh o m).1 = 0
  case neg =>
   have hne : ((symRes xs w hh o m).1 != 0) = true := by simpa using h0
   have hr : encRes xs w hh o m = ((symRes xs w hh o m).1,⟨0,[],[]⟩) := by unfold encRes; simp only [ne_eq,h0,not_false_eq_true,if_true]
   rw [hr] at hR
   simp [MD.val,hH1,e0,hne,bX1,blk?_set_eq hX1,finishV,R18,allSome,resV]
   refine hR _ _ (CdV.none _ _) (fun id hid => ?_) (by simp; omega)
   rw [blk?_set_ne (by omega),k1 id hid]
  have hne : ((symRes xs w hh o m).1 != 0) = false := by simpa using h0
  obtain ⟨sv,H2,e1,o1⟩ := symbols_r hi1 (by omega) w hh o m
  have len2 := o1.len
  obtain ⟨vs,hp⟩ := o1.pss
  obtain ⟨hp60,hlen⟩ := symRes_len h0
  have hsym := symRes_sym h0
  have htot := symRes_tot (w := w) (hh := hh) (o := o) (m := m) hl
  have hr0 : encRes xs w hh o m = if 65535 < (encSegs m (symRes xs w hh o m).2 (segsOf m (symRes xs w hh o m).2.length) 0 (AE.begin (AE.base 19)) [] []).2.length then (5,⟨0,[],[]⟩) else (0,⟨planesOf xs,(encSegs m (symRes xs w hh o m).2 (segsOf m (symRes xs w hh o m).2.length) 0 (AE.begin (AE.base 19)) [] []).1,(encSegs m (symRes xs w hh o m).2 (segsOf m (symRes xs w hh o m).2.length) 0 (AE.begin (AE.base 19)) [] []).2⟩) := by
   unfold encRes; simp only [ne_eq,h0,not_true_eq_false,if_false]
  rw [hr0] at hR
  rw [h0] at e0
  have hsy1 : (symRes xs w hh o m).1 = 0 := h0
  rw [hsy1] at e1
  generalize hls : (symRes xs w hh o m).2 = ls at *
  generalize hq : encSegs m ls (segsOf m ls.length) 0 (AE.begin (AE.base 19)) [] [] = q at *
  obtain ⟨PF,DF⟩ := q
  simp only at hR
  have bM2 : blk? H2 h.length = some ⟨false,[.bool m.byp,.bool m.res,.bool m.rst,.bool m.cz,.bool m.sy]⟩ := by rw [o1.low _ (by omega)]; exact bM1
  have bX2 : blk? H2 (h.length + 1) = some ⟨false,[.int .i64 0,.slice none 0 0,.slice none 0 0]⟩ := by rw [o1.low _ (by omega)]; exact bX1
  have hi2 : Ints H2 s xs := hi1.keep len2 (fun id hid _ => o1.low id hid)
  have e2 := fun R => planes_r (R := R) hi2 (by omega)
  generalize hH3 : H2 ++ [some (⟨false,[.int .i64 (planesOf xs : Nat),.slice none 0 0,.slice none 0 0]⟩ : Blk)] = H3
  have l3 : H3.length = H2.length + 1 := by rw [← hH3]; simp
  have k3 : ∀ id,id < H2.length → blk? H3 id = blk? H2 id := fun id hid => by rw [← hH3]; exact blk?_push_lt hid
  have bX3 : blk? H3 H2.length = some ⟨false,[.int .i64 (planesOf xs : Nat),.slice none 0 0,.slice none 0 0]⟩ := by rw [← hH3]; exact blk?_push_eq
  obtain ⟨e,pb,lb,H4,e3,I4,fr4,k4,l4⟩ := newEnc_x (h := H3)
  obtain ⟨gv,H5,e4,g5,fg5,k5,l5⟩ := segments_x (h := H4) (n := ls.length) (by omega) m
  obtain ⟨sg1,sg2,sg3⟩ := segs_sum (m := m) (n := ls.length) (by omega)
  have low5 : ∀ id,id < H3.length → blk? H5 id = blk? H3 id := fun id hid => by rw [k5 id (by omega),k4 id hid]
  have low25 : ∀ id,id < H2.length → blk? H5 id = blk? H2 id := fun id hid => by rw [low5 id (by omega),k3 id hid]
  have bM5 : blk? H5 h.length = some ⟨false,[.bool m.byp,.bool m.res,.bool m.rst,.bool m.cz,.bool m.sy]⟩ := by rw [low25 _ (by omega)]; exact bM2
  have bM4 : blk? H4 h.length = some ⟨false,[.bool m.byp,.bool m.res,.bool m.rst,.bool m.cz,.bool m.sy]⟩ := by rw [k4 _ (by omega),k3 _ (by omega)]; exact bM2
  have bX5 : blk? H5 H2.length = some ⟨false,[.int .i64 (planesOf xs : Nat),.slice none 0 0,.slice none 0 0]⟩ := by rw [low5 _ (by omega)]; exact bX3
  have bX05 : blk? H5 (h.length + 1) = some ⟨false,[.int .i64 0,.slice none 0 0,.slice none 0 0]⟩ := by rw [low25 _ (by omega)]; exact bX2
  have hp5 : Pss H5 sv vs ls := hp.keep (by omega) low25
  have I5 : XA H5 e pb lb (AE.begin (AE.base 19)) := I4.keep fun id hid => k5 id (I4.own_lt hid)
  have nown : ∀ id,id < H3.length → ¬ ownX e pb lb id := fun id hid x => by have := fr4 id x; omega
  obtain ⟨ga,gc,hgv⟩ := g5.shape
  obtain ⟨sa,sc,hsv⟩ := hp.sl.shape
  have hvl := hp.len
  have hO : OX H5 H5 e H2.length pb lb (.int .i64 (planesOf xs : Nat)) (AE.begin (AE.base 19)) (.slice none 0 0) (.slice none 0 0) [] [] :=
   ⟨⟨pb,lb,I5,fun id hid => ⟨.inl hid,fun x => nown H2.length (by omega) (by rw [← x]; exact hid),by simp [sid],by simp [sid]⟩⟩,rfl,by simp [AE.begin,AE.base],bX5,OwnS.nil _ _,OwnS.nil _ _,fun id hid => by simp [sid] at hid,fun id hid => by simp [sid] at hid,fun _ _ _ _ => rfl,Nat.le_refl _⟩
  have hL := fun K0 K1 K2 K3 K4 K5 K6 K7 K8 Kb Kc Ke Kh Kl Km Kn Ko Kp Kq Kr Ks Kt Ku Kv Kw Kx Ky Kz J0 J1 J2 J3 J4 J5 J6 J7 J8 J9 Ja Jb Jc Jd Je Jf Jg Jh Ji Jj Jk Jl Jm Jn Jo Jp Jq Jr Js Jt Ju Jv Jw Jx Jy Jz Y0 Y1 Y2 Y3 Y4 Y5 Y6 Y7 Y8 Y9 Ya Yb Yc Yd Ye Yf Yg Yh Yi Yj Yk Yl Ym Yn Yo Yp Yq Yr Ys Yt Yu Yv Yw Yx Yy Yz Z0 Z1 Z2 Z3 Z4 Z5 Z6 Z7 Z8 Z9 Za Zb Zc Zd Ze Zf Zg Zh => xenc_loop (R := R0) (e := e) (M := h.length) (X0 := h.length + 1) (X := H2.length) (pb0 := pb) (lb0 := lb) (hB := H5) (sv := sv) (gv := gv) (pl := .int .i64 (planesOf xs : Nat)) (m := m) (gs := segsOf m ls.length) (PF := PF) (DF := DF) (K := [.code (tlC 9 B18)]) hp5
   (fun id hid => by have := below_lt hp.sb hp.sl hid; exact ⟨nown id (by omega),by omega,by omega⟩)
   (fun i i1 id hid => by have hy := hp.each i i1 (by omega); have := below_lt hy.sb hy.sl hid; exact ⟨nown id (by omega),by omega,by omega⟩)
   bM5 ⟨nown _ (by omega),by omega⟩ (by omega) (nown _ (by omega)) g5 (fun id hid => by have := fg5 id hid; exact ⟨fun x => by have := I4.own_lt x; omega,by omega,by omega⟩) (by omega) (by omega) hsym (by omega)
   (fun H6 a pv dv K0 K1 K2 K3 K4 K5 K6 K7 K8 Kb Kc Kd Ke Kg Kh Ki Kj Kk Kl Km Kn Ko Kp Kq Kr Ks Kt Ku Kv Kw Kx Ky Kz J0 J1 J2 J3 J4 J5 J6 J7 J8 J9 Ja Jb Jc Jd Je Jf Jg Jh Ji Jj Jk Jl Jm Jn Jo Jp Jq Jr Js Jt Ju Jv Jw Jx Jy Jz Y0 Y1 Y2 Y3 Y4 Y5 Y6 Y7 Y8 Y9 Ya Yb Yc Yd Ye Yf Yg Yh Yi Yj Yk Yl Ym Yn Yo Yp Yq Yr Ys Yt Yu Yv Yw Yx Yy Yz Z0 Z1 Z2 Z3 Z4 Z5 Z6 Z7 Z8 Z9 Za Zb Zc Zd Ze Zf Zg Zh I => by
    obtain ⟨da,dc,hdv⟩ := I.od.sl.shape
    have bx := I.bx
    have bX6 : blk? H6 (h.length + 1) = some ⟨false,[.int .i64 0,.slice none 0 0,.slice none 0 0]⟩ := by rw [I.low _ (by omega) (by omega) (nown _ (by omega))]; exact bX05
    have hX6 := blk?_lt bX6
    have len6 := I.len
    have lowS : ∀ x : Option Blk,∀ id,id < h.length → blk? (H6.set (h.length + 1) x) id = blk? h id := fun x id hid => by rw [blk?_set_ne (by omega),I.low id (by omega) (by omega) (nown _ (by omega)),low25 id (by omega),o1.low id (by omega),k1 id hid]
    have hne6 : ¬ h.length + 1 = H2.length := by omega
    simp only [nthC,tlC,fstC,B18]
    by_cases hbig : 65535 < DF.length
    ·rw [if_pos hbig] at hR
     have hb' : (65535 : Int) < (DF.length : Int) := by omega
     rw [hdv] at bx
     generalize hDl : DF.length = dl at *
     simp [bx,hb',bX6,blk?_set_eq hX6,finishV,R18,allSome,resV]
     exact hR _ _ (CdV.none _ _) (fun id hid => lowS _ id hid) (by simp; omega)
    ·rw [if_neg hbig] at hR
     have hb' : ¬ (65535 : Int) < (DF.length : Int) := by omega
     rw [hdv] at bx
     generalize hDl : DF.length = dl at *
     simp [bx,hb',bX6,blk?_set_eq hX6,finishV,R18,allSome,resV]
     refine hR _ _ ⟨⟨pv,dv,by rw [hdv],I.op.of_blk fun id hid hb => ?_,?_,fun id hid => ?_,fun id hid => ?_⟩⟩ (fun id hid => lowS _ id hid) (by simp; omega)
     ·rw [blk?_set_ne (by have := (I.fp id hid).1; omega)]; exact hb
     ·exact hDl ▸ I.od.of_blk fun id hid hb => by rw [blk?_set_ne (by have := I.fd id hid; omega)]; exact hb
     ·have := I.fp id hid; exact ⟨by omega,this.2⟩
     ·have := I.fd id hid; omega)
   (segsOf m ls.length).length 0 0 H5 (AE.begin (AE.base 19)) (.slice none 0 0) (.slice none 0 0) [] [] K0 K1 K2 K3 K4 K5 K6 K7 K8 Kb Kc Ke Kh Kl Km Kn Ko Kp Kq Kr Ks Kt Ku Kv Kw Kx Ky Kz J0 J1 J2 J3 J4 J5 J6 J7 J8 J9 Ja Jb Jc Jd Je Jf Jg Jh Ji Jj Jk Jl Jm Jn Jo Jp Jq Jr Js Jt Ju Jv Jw Jx Jy Jz Y0 Y1 Y2 Y3 Y4 Y5 Y6 Y7 Y8 Y9 Ya Yb Yc Yd Ye Yf Yg Yh Yi Yj Yk Yl Ym Yn Yo Yp Yq Yr Ys Yt Yu Yv Yw Yx Yy Yz Z0 Z1 Z2 Z3 Z4 Z5 Z6 Z7 Z8 Z9 Za Zb Zc Zd Ze Zf Zg Zh (by omega) hO (by rw [List.drop_zero]; omega) (fun c hc => (sg3 c hc).1) (by rw [List.drop_zero]; exact segOk_all m _) (by rw [List.drop_zero]; exact segAll_all m _) rfl (by simp; omega) (by rw [List.drop_zero]; exact hq)
  simp only [MD.val] at e1 e4
  have b9 : blk? (H2 ++ [some (⟨false,[.int .i64 0,.slice none 0 0,.slice none 0 0]⟩ : Blk)]) H2.length = some ⟨false,[.int .i64 0,.slice none 0 0,.slice none 0 0]⟩ := blk?_push_eq
  have s9 : (H2 ++ [some (⟨false,[.int .i64 0,.slice none 0 0,.slice none 0 0]⟩ : Blk)]).set H2.length (some ⟨false,[.int .i64 (planesOf xs : Nat),.slice none 0 0,.slice none 0 0]⟩) = H3 := by rw [← hH3]; simp
  simp [MD.val,hH1,e0]
  rw [← hT,show tlC 3 B18 = .seq (nthC 3 B18) (.seq (nthC 4 B18) (.seq (nthC 5 B18) (.seq (nthC 6 B18) (.seq (nthC 7 B18) (.seq (nthC 8 B18) (tlC 9 B18)))))) from rfl]
  generalize hT9 : tlC 9 B18 = tl at *
  simp only [nthC,tlC,fstC,B18]
  rw [hgv] at hL e4
  rw [hsv,hvl] at hL e1
  generalize (segsOf m ls.length).length = gl at *
  generalize ((planesOf xs : Nat) : Int) = pn at *
  simp [bM1,e1,e2,b9,s9,e3,bM4,e4]
  exact hL ..
 obtain ⟨v,h',e,c,rfl,a,b,d⟩ := ret_ex (main (fun v h' => ∃ c,v = .tuple #[c,.int .i64 (encRes xs w hh o m).1] ∧ CdV h.length h' c (encRes xs w hh o m).2 ∧ (∀ id,id < h.length → blk? h' id = blk? h id) ∧ h.length ≤ h'.length) fun c h' a b d => ⟨c,rfl,a,b,d⟩)
 exact ⟨c,h',e,a,b,d⟩
end
set_option maxRecDepth 10000
def Gives (f : Nat) (args : List Value) (h : Heap) (v : Value) : Prop :=
 ∃ h',(∀ R : Value → Heap → Prop,Ret tab f args h R = R v h') ∧ (∀ id,id < h.length → blk? h' id = blk? h id) ∧ h.length ≤ h'.length
theorem Gives.mk {f : Nat} {args : List Value} {h : Heap} {v : Value} (k : ∀ R0 : Value → Heap → Prop,(∀ h',(∀ id,id < h.length → blk? h' id = blk? h id) → h.length ≤ h'.length → R0 v h') → Ret tab f args h R0) : Gives f args h v := by
 obtain ⟨w,h',e,rfl,a,b⟩ := ret_ex (k (fun w h' => w = v ∧ (∀ id,id < h.length → blk? h' id = blk? h id) ∧ h.length ≤ h'.length) fun h' a b => ⟨rfl,a,b⟩)
 exact ⟨h',e,a,b⟩
def vgo : List Int → Int → Option Int
 | [],l => some l
 | x :: xs,l => if x < l then none else vgo xs x
def validP (pl : Int) (ps ds : List Int) : Int :=
 if pl < 0 ∨ 60 < pl then 2
 else if max 0 (3 * pl - 2) < (ps.length : Int) then 4
 else match vgo ps 0 with
  | none => 4
  | some l => if l ≠ (ds.length : Int) then 4 else if 65535 < ds.length then 5 else 0
def sameP (pl pl' : Int) (ps ps' ds ds' : List Int) : Bool := decide (pl = pl' ∧ ps = ps' ∧ ds = ds')
theorem mx2 {k k' : IntKind} {x y : Int} : max2V (.int k x) (.int k' y) = some (.int k (max x y)) := by
 have e : (if x < y then y else x) = max x y := by split <;> omega
 rw [max2V,e]
section
variable {h : Heap} {R : Value → Heap → Prop} {k : List RItem} {pv dv pv' dv' : Value} {pl pl' : Int} {ps ps' ds ds' : List Int} {m : MD}
theorem vloop_p {B : Nat} (hp : Rk .i64 h pv ps) (hl : ps.length < 1000000) {X : Nat} (hk : ∀ (l : Int) (K0 K1 K3 K6 K7 K8 K9 Ka Kb Kc Kd Ke Kf Kg Kh Ki Kj Kk Kl Km Kn Ko Kp Kq Kr Ks Kt Ku Kv Kw Kx Ky Kz J0 J1 J2 J3 J4 J5 J6 J7 J8 J9 : Value),vgo ps 0 = some l → Ok tab R34 k #[K0,K1,ptr X,K3,.int .i64 0,.int .i64 l,K6,K7,K8,K9,Ka,Kb,Kc,Kd,Ke,Kf,Kg,Kh,Ki,Kj,Kk,Kl,Km,Kn,Ko,Kp,Kq,Kr,Ks,Kt,Ku,Kv,Kw,Kx,Ky,Kz,J0,J1,J2,J3,J4,J5,J6,J7,J8,J9] h R) (hb : vgo ps 0 = none → R (.int .i64 4) h) :
  ∀ (d i : Nat) (l : Int) (K0 K1 K3 K6 K7 K8 K9 Ka Kb Kc Kd Ke Kf Kg Kh Ki Kj Kk Kl Km Kn Ko Kp Kt Ku Kv Kw Kx Ky Kz J0 J1 J2 J3 J4 J5 J6 J7 J8 J9 : Value),i + d = ps.length → vgo (ps.drop i) l = vgo ps 0 → Ok tab R34 (.inLoop L34_0 :: .inBlock 0 :: k) #[K0,K1,ptr X,K3,.int .i64 0,.int .i64 l,K6,K7,K8,K9,Ka,Kb,Kc,Kd,Ke,Kf,Kg,Kh,Ki,Kj,Kk,Kl,Km,Kn,Ko,Kp,pv,.int .i64 (ps.length : Nat),.int .i64 (i : Nat),Kt,Ku,Kv,Kw,Kx,Ky,Kz,J0,J1,J2,J3,J4,J5,J6,J7,J8,J9] h R := by
 intro d
 induction d with
 | zero =>
  intro i l;intros;rename_i hd hv
  obtain rfl : i = ps.length := by omega
  rw [List.drop_length] at hv
  rw [ok_round,l34_0,L34_0a,L34_0b]
  simp
  exact hk l _ _ _ _ _ _ _ _ _ _ _ _ _ _ _ _ _ _ _ _ _ _ _ _ _ _ _ _ _ _ _ _ _ _ _ _ _ _ _ _ _ _ _ hv.symm
 | succ d ih =>
  intro i l;intros;rename_i hd hv
  have hi : i < ps.length := by omega
  have hlt : (i : Int) < (ps.length : Int) := by omega
  obtain ⟨id,off,b,hpv,hbk,hc⟩ := hp.get hi
  rw [List.drop_eq_getElem_cons hi] at hv
  simp only [vgo] at hv
  have hw : IntKind.i64.wrap ((i : Int) + 1) = ((i + 1 : Nat) : Int) := wrapN (n := i + 1) (by omega)
  have ih' := fun K0 K1 K3 K6 K7 K8 K9 Ka Kb Kc Kd Ke Kf Kg Kh Ki Kj Kk Kl Km Kn Ko Kp Kt Ku Kv Kw Kx Ky Kz J0 J1 J2 J3 J4 J5 J6 J7 J8 J9 => ih (i + 1) ps[i] K0 K1 K3 K6 K7 K8 K9 Ka Kb Kc Kd Ke Kf Kg Kh Ki Kj Kk Kl Km Kn Ko Kp Kt Ku Kv Kw Kx Ky Kz J0 J1 J2 J3 J4 J5 J6 J7 J8 J9 (by omega)
  generalize ((i + 1 : Nat) : Int) = i1 at *
  rw [ok_round,l34_0,L34_0a,L34_0b]
  by_cases hx : ps[i] < l
  ·rw [if_pos hx] at hv
   rw [hpv]
   simp [k_guard,hlt,hbk,hc,hx,fin34]
   exact hb hv.symm
  ·rw [if_neg hx] at hv
   rw [hpv] at ih' ⊢
   simp [k_guard,hlt,hbk,hc,hx,hw]
   exact ih' _ _ _ _ _ _ _ _ _ _ _ _ _ _ _ _ _ _ _ _ _ _ _ _ _ _ _ _ _ _ _ _ _ _ _ _ _ _ _ _ hv
theorem valid_c (hp : Rk .i64 h pv ps) (hd : Rk .u8 h dv ds) (hl : ps.length < 1000000) (hdl : ds.length < 1000000000) : Gives 34 [.agg #[.int .i64 pl,pv,dv],m.val] h (.int .i64 (validP pl ps ds)) := by
 refine Gives.mk fun R0 hR => ?_
 generalize hH : h ++ [some (⟨false,[.int .i64 pl,pv,dv]⟩ : Blk),some ⟨false,[.bool m.byp,.bool m.res,.bool m.rst,.bool m.cz,.bool m.sy]⟩] = H
 have hb0 : blk? H h.length = some ⟨false,[.int .i64 pl,pv,dv]⟩ := by rw [← hH,app_len]; rfl
 have hpH : Rk .i64 H pv ps := by rw [← hH]; exact hp.push _
 have hR' := hR H (fun id hid => by rw [← hH]; exact app_lt hid) (by rw [← hH]; simp)
 clear hR
 rw [enter34,show B34 = .seq (nthC 0 B34) (.seq (nthC 1 B34) (.seq (nthC 2 B34) (.seq (nthC 3 B34) (.seq (nthC 4 B34) (tlC 5 B34))))) from rfl]
 generalize hT : tlC 5 B34 = tl
 simp only [nthC,tlC,fstC,B34]
 obtain ⟨pa,pc,hpv⟩ := hp.sl.shape
 obtain ⟨da,dc,hdv⟩ := hd.sl.shape
 unfold validP at hR'
 by_cases h1 : pl < 0
 ·rw [if_pos (.inl h1)] at hR'
  simp [k_guard,k_guardU,MD.val,hH,hb0,h1,fin34]
  exact hR'
 by_cases h2 : 60 < pl
 ·rw [if_pos (.inr h2)] at hR'
  simp [k_guard,k_guardU,MD.val,hH,hb0,h1,h2,fin34]
  exact hR'
 rw [if_neg (by omega)] at hR'
 have w1 : IntKind.i64.wrap (3 * pl) = 3 * pl := by rw [wrapI (by omega) (by omega)]
 have w2 : IntKind.i64.wrap (3 * pl - 2) = 3 * pl - 2 := by rw [wrapI (by omega) (by omega)]
 by_cases h3 : max 0 (3 * pl - 2) < (ps.length : Int)
 ·rw [if_pos h3] at hR'
  rw [hpv] at hH hb0
  simp [k_guard,k_guardU,MD.val,hH,hb0,h1,h2,h3,w1,w2,fold1,foldO,mx2,hpv,fin34]
  exact hR'
 rw [if_neg h3] at hR'
 have hL := fun K0 K1 K3 K6 K7 K8 K9 Ka Kb Kc Kd Ke Kf Kg Kh Ki Kj Kk Kl Km Kn Ko Kp Kt Ku Kv Kw Kx Ky Kz J0 J1 J2 J3 J4 J5 J6 J7 J8 J9 => vloop_p (R := R0) (B := 0) (k := [.code tl]) hpH hl (X := h.length)
  (fun l K0 K1 K3 K6 K7 K8 K9 Ka Kb Kc Kd Ke Kf Kg Kh Ki Kj Kk Kl Km Kn Ko Kp Kq Kr Ks Kt Ku Kv Kw Kx Ky Kz J0 J1 J2 J3 J4 J5 J6 J7 J8 J9 hv => by
   rw [hv] at hR'
   simp only at hR'
   rw [← hT]
   simp only [nthC,tlC,fstC,B34]
   by_cases h4 : l = (ds.length : Int)
   ·rw [if_neg (by simp [h4])] at hR'
    by_cases h5 : 65535 < ds.length
    ·rw [if_pos h5] at hR'
     have h5' : (65535 : Int) < (ds.length : Int) := by omega
     rw [hdv] at hb0
     simp [hb0,h4,h5',fin34]
     exact hR'
    ·rw [if_neg h5] at hR'
     have h5' : ¬ (65535 : Int) < (ds.length : Int) := by omega
     rw [hdv] at hb0
     simp [hb0,h4,h5',fin34]
     exact hR'
   ·rw [if_pos h4] at hR'
    have h4' : (l != (ds.length : Int)) = true := by simpa using h4
    rw [hdv] at hb0
    simp [hb0,h4',fin34]
    exact hR')
  (fun hv => by rw [hv] at hR'; exact hR') ps.length 0 0 K0 K1 K3 K6 K7 K8 K9 Ka Kb Kc Kd Ke Kf Kg Kh Ki Kj Kk Kl Km Kn Ko Kp Kt Ku Kv Kw Kx Ky Kz J0 J1 J2 J3 J4 J5 J6 J7 J8 J9 (by omega) (by rw [List.drop_zero])
 rw [hpv] at hH hb0 hL
 simp [k_guard,k_guardU,MD.val,hH,hb0,h1,h2,h3,w1,w2,fold1,foldO,mx2,hpv]
 exact hL ..
end
set_option maxRecDepth 10000
structure CI (B : Nat) (h : Heap) (v : Value) (pl : Int) (ps ds : List Int) : Prop where
 ex : ∃ pv dv,v = .agg #[.int .i64 pl,pv,dv] ∧ Rk .i64 h pv ps ∧ Rk .u8 h dv ds ∧ (∀ id,sid pv = some id → B ≤ id) ∧ (∀ id,sid dv = some id → B ≤ id)
theorem Rk.none (k : IntKind) (h : Heap) : Rk k h (.slice none 0 0) [] := ⟨(OwnS.nil _ _).sl,by simp,fun id b hid => by simp [sid] at hid,fun v hv => by cases hv⟩
theorem CI.none (B : Nat) (h : Heap) : CI B h (.agg #[.int .i64 0,.slice none 0 0,.slice none 0 0]) 0 [] [] :=
 ⟨⟨_,_,rfl,Rk.none _ _,Rk.none _ _,fun id hid => by simp [sid] at hid,fun id hid => by simp [sid] at hid⟩⟩
theorem CI.keep {B : Nat} {h h' : Heap} {v : Value} {pl : Int} {ps ds : List Int} (c : CI B h v pl ps ds) (hl : h.length ≤ h'.length) (hk : ∀ id,id < h.length → B ≤ id → blk? h' id = blk? h id) : CI B h' v pl ps ds := by
 obtain ⟨pv,dv,e,a,b,p,q⟩ := c.ex
 exact ⟨⟨pv,dv,e,a.keep hl fun id hid hs => hk id hid (p id hs),b.keep hl fun id hid hs => hk id hid (q id hs),p,q⟩⟩
def truncE (pl : Int) (ps ds : List Int) (n : Int) : Int := if validP pl ps ds ≠ 0 then validP pl ps ds else if n < 0 ∨ (ps.length : Int) < n then 2 else 0
def truncD (ps ds : List Int) (n : Nat) : List Int := if 0 < n then ds.take (ps.getD (n - 1) 0).toNat else []
theorem vgo_get : ∀ (ps : List Int) (l r : Int),vgo ps l = some r → ∀ i,i < ps.length → l ≤ ps.getD i 0 ∧ ps.getD i 0 ≤ r
 | [],_,_,_,i,h => by simp at h
 | x :: xs,l,r,hv,i,h => by
  unfold vgo at hv
  split at hv
  ·cases hv
  ·rename_i hx
   cases i with
   | zero =>
    refine ⟨by simp; omega,?_⟩
    cases xs with
    | nil => simp [vgo] at hv; simp; omega
    | cons y ys => have := vgo_get (y :: ys) x r hv 0 (by simp); simp at this ⊢; omega
   | succ i =>
    have := vgo_get xs x r hv i (by simpa using h)
    simp only [List.getD_cons_succ]; omega
theorem valid_ends {pl : Int} {ps ds : List Int} (h : validP pl ps ds = 0) : 0 ≤ pl ∧ pl ≤ 60 ∧ ((ps.length : Int) ≤ max 0 (3 * pl - 2)) ∧ vgo ps 0 = some (ds.length : Int) ∧ ds.length ≤ 65535 := by
 unfold validP at h
 split at h
 ·cases h
 ·split at h
  ·cases h
  ·split at h
   ·cases h
   ·rename_i l hl
    split at h
    ·cases h
    ·rename_i h4
     split at h
     ·cases h
     ·rw [hl]; simp only [ne_eq,Decidable.not_not] at h4; subst h4; refine ⟨by omega,by omega,by omega,rfl,by omega⟩
section
variable {h : Heap} {R : Value → Heap → Prop} {k : List RItem} {pv dv pv' dv' : Value} {pl pl' : Int} {ps ps' ds ds' : List Int} {m : MD}
theorem same_loop0 (hp : Rk .i64 h pv ps) (hp' : Rk .i64 h pv' ps') (hl : ps.length < 1000000) (he : ps.length = ps'.length) {X Y : Nat} (hX : blk? h X = some ⟨false,[.int .i64 pl,pv,dv]⟩) (hY : blk? h Y = some ⟨false,[.int .i64 pl',pv',dv']⟩)
  (hk : ∀ (K0 K1 K5 K6 K7 K8 K9 Ka Kb Kc Kd Ke Kf Kg Kh Ki Kj Kk Kl Km Kn Ko Kp Kq Kr Ks Kt Ku Kv Kw Kx Ky Kz J0 J1 J2 J3 J4 J5 J6 J7 J8 J9 Ja Jb Jc Jd Je Jf Jg Jh Ji Jj Jk Jl Jm Jn Jo Jp Jq Jr Js Jt : Value),ps = ps' → Ok tab R19 k #[K0,K1,ptr X,ptr Y,.bool false,K5,K6,K7,K8,K9,Ka,Kb,Kc,Kd,Ke,Kf,Kg,Kh,Ki,Kj,Kk,Kl,Km,Kn,Ko,Kp,Kq,Kr,Ks,Kt,Ku,Kv,Kw,Kx,Ky,Kz,J0,J1,J2,J3,J4,J5,J6,J7,J8,J9,Ja,Jb,Jc,Jd,Je,Jf,Jg,Jh,Ji,Jj,Jk,Jl,Jm,Jn,Jo,Jp,Jq,Jr,Js,Jt] h R) (hb : ps ≠ ps' → R (.bool false) h) :
  ∀ (d i : Nat) (K0 K1 K6 K7 K8 K9 Ka Kb Kc Kd Ke Kf Kg Kh Ki Kj Kk Kl Km Kn Ko Kp Kq Kr Ks Kt Ku Kv Kw Kx Ky Kz J0 J1 J2 J3 J4 J5 J6 J7 J8 J9 Ja Jb Jc Jd Je Jf Jg Jh Ji Jj Jk Jl Jm Jn Jo Jp Jq Jr Js Jt : Value),i + d = ps.length → ps.take i = ps'.take i → Ok tab R19 (.inLoop L19_0 :: .inBlock 0 :: k) #[K0,K1,ptr X,ptr Y,.bool false,.int .i64 (i : Nat),K6,K7,K8,K9,Ka,Kb,Kc,Kd,Ke,Kf,Kg,Kh,Ki,Kj,Kk,Kl,Km,Kn,Ko,Kp,Kq,Kr,Ks,Kt,Ku,Kv,Kw,Kx,Ky,Kz,J0,J1,J2,J3,J4,J5,J6,J7,J8,J9,Ja,Jb,Jc,Jd,Je,Jf,Jg,Jh,Ji,Jj,Jk,Jl,Jm,Jn,Jo,Jp,Jq,Jr,Js,Jt] h R := by
 intro d
 obtain ⟨pa,pc,hps⟩ := hp.sl.shape
 induction d with
 | zero =>
  intro i;intros;rename_i hd hv
  obtain rfl : i = ps.length := by omega
  rw [List.take_of_length_le (Nat.le_refl _),he,List.take_of_length_le (Nat.le_refl _)] at hv
  rw [hps] at hX
  rw [ok_round,l19_0,L19_0a,L19_0b]
  simp [hX]
  exact hk _ _ _ _ _ _ _ _ _ _ _ _ _ _ _ _ _ _ _ _ _ _ _ _ _ _ _ _ _ _ _ _ _ _ _ _ _ _ _ _ _ _ _ _ _ _ _ _ _ _ _ _ _ _ _ _ _ _ _ _ _ _ _ hv
 | succ d ih =>
  intro i;intros;rename_i hd hv
  have hi : i < ps.length := by omega
  have hi' : i < ps'.length := by omega
  have hlt : (i : Int) < (ps.length : Int) := by omega
  have hlt' : (i : Int) < (ps'.length : Int) := by omega
  obtain ⟨id,off,b,hpv,hbk,hc⟩ := hp.get hi
  obtain ⟨id',off',b',hpv',hbk',hc'⟩ := hp'.get hi'
  have hw : IntKind.i64.wrap ((i : Int) + 1) = ((i + 1 : Nat) : Int) := wrapN (n := i + 1) (by omega)
  have ih' := fun K0 K1 K6 K7 K8 K9 Ka Kb Kc Kd Ke Kf Kg Kh Ki Kj Kk Kl Km Kn Ko Kp Kq Kr Ks Kt Ku Kv Kw Kx Ky Kz J0 J1 J2 J3 J4 J5 J6 J7 J8 J9 Ja Jb Jc Jd Je Jf Jg Jh Ji Jj Jk Jl Jm Jn Jo Jp Jq Jr Js Jt => ih (i + 1) K0 K1 K6 K7 K8 K9 Ka Kb Kc Kd Ke Kf Kg Kh Ki Kj Kk Kl Km Kn Ko Kp Kq Kr Ks Kt Ku Kv Kw Kx Ky Kz J0 J1 J2 J3 J4 J5 J6 J7 J8 J9 Ja Jb Jc Jd Je Jf Jg Jh Ji Jj Jk Jl Jm Jn Jo Jp Jq Jr Js Jt (by omega)
  generalize hi1 : ((i + 1 : Nat) : Int) = i1 at *
  rw [hpv] at hX
  rw [hpv'] at hY
  rw [ok_round,l19_0,L19_0a,L19_0b]
  by_cases hx : ps[i] = ps'[i]
  ·have hx' : (ps[i] != ps'[i]) = false := by simp [hx]
   have e : ps.take (i + 1) = ps'.take (i + 1) := by
    rw [List.take_succ_eq_append_getElem hi,List.take_succ_eq_append_getElem hi',hv,hx]
   simp [hX,hY,hlt,hlt',hbk,hbk',hc,hc',hx',hw]
   exact ih' _ _ _ _ _ _ _ _ _ _ _ _ _ _ _ _ _ _ _ _ _ _ _ _ _ _ _ _ _ _ _ _ _ _ _ _ _ _ _ _ _ _ _ _ _ _ _ _ _ _ _ _ _ _ _ _ _ _ _ _ _ _ e
  ·have hx' : (ps[i] != ps'[i]) = true := by simpa using hx
   simp [hX,hY,hlt,hlt',hbk,hbk',hc,hc',hx',fin19]
   exact hb fun e => hx (by simp [e])
theorem same_loop1 (hd : Rk .u8 h dv ds) (hd' : Rk .u8 h dv' ds') (hl : ds.length < 1000000000) (he : ds.length = ds'.length) {X Y : Nat} (hX : blk? h X = some ⟨false,[.int .i64 pl,pv,dv]⟩) (hY : blk? h Y = some ⟨false,[.int .i64 pl',pv',dv']⟩)
  (hk : ∀ (K0 K1 K5 K6 K7 K8 K9 Ka Kb Kc Kd Ke Kf Kg Kh Ki Kj Kk Kl Km Kn Ko Kp Kq Kr Ks Kt Ku Kv Kw Kx Ky Kz J0 J1 J2 J3 J4 J5 J6 J7 J8 J9 Ja Jb Jc Jd Je Jf Jg Jh Ji Jj Jk Jl Jm Jn Jo Jp Jq Jr Js Jt : Value),ds = ds' → Ok tab R19 k #[K0,K1,ptr X,ptr Y,.bool false,K5,K6,K7,K8,K9,Ka,Kb,Kc,Kd,Ke,Kf,Kg,Kh,Ki,Kj,Kk,Kl,Km,Kn,Ko,Kp,Kq,Kr,Ks,Kt,Ku,Kv,Kw,Kx,Ky,Kz,J0,J1,J2,J3,J4,J5,J6,J7,J8,J9,Ja,Jb,Jc,Jd,Je,Jf,Jg,Jh,Ji,Jj,Jk,Jl,Jm,Jn,Jo,Jp,Jq,Jr,Js,Jt] h R) (hb : ds ≠ ds' → R (.bool false) h) :
  ∀ (d i : Nat) (K0 K1 K5 K7 K8 K9 Ka Kb Kc Kd Ke Kf Kg Kh Ki Kj Kk Kl Km Kn Ko Kp Kq Kr Ks Kt Ku Kv Kw Kx Ky Kz J0 J1 J2 J3 J4 J5 J6 J7 J8 J9 Ja Jb Jc Jd Je Jf Jg Jh Ji Jj Jk Jl Jm Jn Jo Jp Jq Jr Js Jt : Value),i + d = ds.length → ds.take i = ds'.take i → Ok tab R19 (.inLoop L19_1 :: .inBlock 2 :: k) #[K0,K1,ptr X,ptr Y,.bool false,K5,.int .i64 (i : Nat),K7,K8,K9,Ka,Kb,Kc,Kd,Ke,Kf,Kg,Kh,Ki,Kj,Kk,Kl,Km,Kn,Ko,Kp,Kq,Kr,Ks,Kt,Ku,Kv,Kw,Kx,Ky,Kz,J0,J1,J2,J3,J4,J5,J6,J7,J8,J9,Ja,Jb,Jc,Jd,Je,Jf,Jg,Jh,Ji,Jj,Jk,Jl,Jm,Jn,Jo,Jp,Jq,Jr,Js,Jt] h R := by
 intro d
 obtain ⟨pa,pc,hps⟩ := hd.sl.shape
 induction d with
 | zero =>
  intro i;intros;rename_i hd hv
  obtain rfl : i = ds.length := by omega
  rw [List.take_of_length_le (Nat.le_refl _),he,List.take_of_length_le (Nat.le_refl _)] at hv
  rw [hps] at hX
  rw [ok_round,l19_1,L19_1a,L19_1b]
  simp [hX]
  exact hk _ _ _ _ _ _ _ _ _ _ _ _ _ _ _ _ _ _ _ _ _ _ _ _ _ _ _ _ _ _ _ _ _ _ _ _ _ _ _ _ _ _ _ _ _ _ _ _ _ _ _ _ _ _ _ _ _ _ _ _ _ _ _ hv
 | succ d ih =>
  intro i;intros;rename_i hdd hv
  have hi : i < ds.length := by omega
  have hi' : i < ds'.length := by omega
  have hlt : (i : Int) < (ds.length : Int) := by omega
  have hlt' : (i : Int) < (ds'.length : Int) := by omega
  obtain ⟨id,off,b,hpv,hbk,hc⟩ := hd.get hi
  obtain ⟨id',off',b',hpv',hbk',hc'⟩ := hd'.get hi'
  have hw : IntKind.i64.wrap ((i : Int) + 1) = ((i + 1 : Nat) : Int) := wrapN (n := i + 1) (by omega)
  have ih' := fun K0 K1 K5 K7 K8 K9 Ka Kb Kc Kd Ke Kf Kg Kh Ki Kj Kk Kl Km Kn Ko Kp Kq Kr Ks Kt Ku Kv Kw Kx Ky Kz J0 J1 J2 J3 J4 J5 J6 J7 J8 J9 Ja Jb Jc Jd Je Jf Jg Jh Ji Jj Jk Jl Jm Jn Jo Jp Jq Jr Js Jt => ih (i + 1) K0 K1 K5 K7 K8 K9 Ka Kb Kc Kd Ke Kf Kg Kh Ki Kj Kk Kl Km Kn Ko Kp Kq Kr Ks Kt Ku Kv Kw Kx Ky Kz J0 J1 J2 J3 J4 J5 J6 J7 J8 J9 Ja Jb Jc Jd Je Jf Jg Jh Ji Jj Jk Jl Jm Jn Jo Jp Jq Jr Js Jt (by omega)
  generalize hi1 : ((i + 1 : Nat) : Int) = i1 at *
  rw [hpv] at hX
  rw [hpv'] at hY
  rw [ok_round,l19_1,L19_1a,L19_1b]
  by_cases hx : ds[i] = ds'[i]
  ·have hx' : (ds[i] != ds'[i]) = false := by simp [hx]
   have e : ds.take (i + 1) = ds'.take (i + 1) := by
    rw [List.take_succ_eq_append_getElem hi,List.take_succ_eq_append_getElem hi',hv,hx]
   simp [hX,hY,hlt,hlt',hbk,hbk',hc,hc',hx',hw]
   exact ih' _ _ _ _ _ _ _ _ _ _ _ _ _ _ _ _ _ _ _ _ _ _ _ _ _ _ _ _ _ _ _ _ _ _ _ _ _ _ _ _ _ _ _ _ _ _ _ _ _ _ _ _ _ _ _ _ _ _ _ _ _ _ e
  ·have hx' : (ds[i] != ds'[i]) = true := by simpa using hx
   simp [hX,hY,hlt,hlt',hbk,hbk',hc,hc',hx',fin19]
   exact hb fun e => hx (by simp [e])
theorem same_c (hp : Rk .i64 h pv ps) (hd : Rk .u8 h dv ds) (hp' : Rk .i64 h pv' ps') (hd' : Rk .u8 h dv' ds') (hl : ps.length < 1000000) (hdl : ds.length < 1000000000) :
  Gives 19 [.agg #[.int .i64 pl,pv,dv],.agg #[.int .i64 pl',pv',dv']] h (.bool (sameP pl pl' ps ps' ds ds')) := by
 refine Gives.mk fun R0 hR => ?_
 generalize hH : h ++ [some (⟨false,[.int .i64 pl,pv,dv]⟩ : Blk),some ⟨false,[.int .i64 pl',pv',dv']⟩] = H
 have hb0 : blk? H h.length = some ⟨false,[.int .i64 pl,pv,dv]⟩ := by rw [← hH,app_len]; rfl
 have hb1 : blk? H (h.length + 1) = some ⟨false,[.int .i64 pl',pv',dv']⟩ := by rw [← hH,app_add]; rfl
 have hpH : Rk .i64 H pv ps := by rw [← hH]; exact hp.push _
 have hpH' : Rk .i64 H pv' ps' := by rw [← hH]; exact hp'.push _
 have hdH : Rk .u8 H dv ds := by rw [← hH]; exact hd.push _
 have hdH' : Rk .u8 H dv' ds' := by rw [← hH]; exact hd'.push _
 have hR' := hR H (fun id hid => by rw [← hH]; exact app_lt hid) (by rw [← hH]; simp)
 clear hR
 rw [enter19,show B19 = .seq (nthC 0 B19) (.seq (nthC 1 B19) (.seq (nthC 2 B19) (tlC 3 B19))) from rfl]
 generalize hT : tlC 3 B19 = tl
 simp only [nthC,tlC,fstC,B19]
 obtain ⟨pa,pc,hpv⟩ := hp.sl.shape
 obtain ⟨da,dc,hdv⟩ := hd.sl.shape
 obtain ⟨pa',pc',hpv'⟩ := hp'.sl.shape
 obtain ⟨da',dc',hdv'⟩ := hd'.sl.shape
 by_cases h1 : pl = pl'
 case neg =>
  have e : sameP pl pl' ps ps' ds ds' = false := by simp [sameP,h1]
  have h1' : (pl != pl') = true := by simpa using h1
  rw [e] at hR'
  simp [k_guard,k_guardU,hH,hb0,hb1,h1',fin19]
  exact hR'
 have h1' : (pl != pl') = false := by simpa using h1
 by_cases h2 : ps.length = ps'.length
 case neg =>
  have e : sameP pl pl' ps ps' ds ds' = false := by
   simp only [sameP,decide_eq_false_iff_not]; rintro ⟨_,rfl,_⟩; exact h2 rfl
  have h2' : ((ps.length : Int) != (ps'.length : Int)) = true := by simp only [bne_iff_ne,ne_eq]; omega
  rw [e] at hR'
  rw [hpv] at hH hb0; rw [hpv'] at hH hb1
  rw [hpv,hpv']
  simp [k_guard,k_guardU,hH,hb0,hb1,h1',h2',fin19]
  exact hR'
 have h2' : ((ps.length : Int) != (ps'.length : Int)) = false := by simp [h2]
 by_cases h3 : ds.length = ds'.length
 case neg =>
  have e : sameP pl pl' ps ps' ds ds' = false := by
   simp only [sameP,decide_eq_false_iff_not]; rintro ⟨_,_,rfl⟩; exact h3 rfl
  have h3' : ((ds.length : Int) != (ds'.length : Int)) = true := by simp only [bne_iff_ne,ne_eq]; omega
  rw [e] at hR'
  rw [hpv,hdv] at hH hb0; rw [hpv',hdv'] at hH hb1
  rw [hpv,hpv',hdv,hdv']
  simp [k_guard,k_guardU,hH,hb0,hb1,h1',h2',h3',fin19]
  exact hR'
 have h3' : ((ds.length : Int) != (ds'.length : Int)) = false := by simp [h3]
 have hL0 := fun K0 K1 K6 K7 K8 K9 Ka Kb Kc Kd Ke Kf Kg Kh Ki Kj Kk Kl Km Kn Ko Kp Kq Kr Ks Kt Ku Kv Kw Kx Ky Kz J0 J1 J2 J3 J4 J5 J6 J7 J8 J9 Ja Jb Jc Jd Je Jf Jg Jh Ji Jj Jk Jl Jm Jn Jo Jp Jq Jr Js Jt => same_loop0 (R := R0) (k := [.code tl]) hpH hpH' hl h2 hb0 hb1
  (fun K0 K1 K5 K6 K7 K8 K9 Ka Kb Kc Kd Ke Kf Kg Kh Ki Kj Kk Kl Km Kn Ko Kp Kq Kr Ks Kt Ku Kv Kw Kx Ky Kz J0 J1 J2 J3 J4 J5 J6 J7 J8 J9 Ja Jb Jc Jd Je Jf Jg Jh Ji Jj Jk Jl Jm Jn Jo Jp Jq Jr Js Jt e1 => by
   have hL := fun K0 K1 K5 K7 K8 K9 Ka Kb Kc Kd Ke Kf Kg Kh Ki Kj Kk Kl Km Kn Ko Kp Kq Kr Ks Kt Ku Kv Kw Kx Ky Kz J0 J1 J2 J3 J4 J5 J6 J7 J8 J9 Ja Jb Jc Jd Je Jf Jg Jh Ji Jj Jk Jl Jm Jn Jo Jp Jq Jr Js Jt => same_loop1 (R := R0) (k := [.code (tlC 4 B19)]) hdH hdH' hdl h3 hb0 hb1
    (fun K0 K1 K5 K6 K7 K8 K9 Ka Kb Kc Kd Ke Kf Kg Kh Ki Kj Kk Kl Km Kn Ko Kp Kq Kr Ks Kt Ku Kv Kw Kx Ky Kz J0 J1 J2 J3 J4 J5 J6 J7 J8 J9 Ja Jb Jc Jd Je Jf Jg Jh Ji Jj Jk Jl Jm Jn Jo Jp Jq Jr Js Jt e2 => by
     have e : sameP pl pl' ps ps' ds ds' = true := by simp [sameP,h1,e1,e2]
     rw [e] at hR'
     simp only [nthC,tlC,fstC,B19]
     simp [fin19]
     exact hR')
    (fun e2 => by
     have e : sameP pl pl' ps ps' ds ds' = false := by simp [sameP,e2]
     rw [e] at hR'; exact hR') ds.length 0 K0 K1 K5 K7 K8 K9 Ka Kb Kc Kd Ke Kf Kg Kh Ki Kj Kk Kl Km Kn Ko Kp Kq Kr Ks Kt Ku Kv Kw Kx Ky Kz J0 J1 J2 J3 J4 J5 J6 J7 J8 J9 Ja Jb Jc Jd Je Jf Jg Jh Ji Jj Jk Jl Jm Jn Jo Jp Jq Jr Js Jt (by omega) rfl
   rw [← hT,show tlC 3 B19 = .seq (nthC 3 B19) (tlC 4 B19) from rfl]
   generalize tlC 4 B19 = tl4 at *
   simp only [nthC,tlC,fstC,B19]
   simp
   exact hL ..)
  (fun e1 => by
   have e : sameP pl pl' ps ps' ds ds' = false := by simp [sameP,e1]
   rw [e] at hR'; exact hR') ps.length 0 K0 K1 K6 K7 K8 K9 Ka Kb Kc Kd Ke Kf Kg Kh Ki Kj Kk Kl Km Kn Ko Kp Kq Kr Ks Kt Ku Kv Kw Kx Ky Kz J0 J1 J2 J3 J4 J5 J6 J7 J8 J9 Ja Jb Jc Jd Je Jf Jg Jh Ji Jj Jk Jl Jm Jn Jo Jp Jq Jr Js Jt (by omega) rfl
 rw [hpv,hdv] at hH hb0; rw [hpv',hdv'] at hH hb1
 rw [hpv,hpv',hdv,hdv']
 simp [k_guard,k_guardU,hH,hb0,hb1,h1',h2',h3']
 exact hL0 ..
set_option maxHeartbeats 1000000 in
theorem trunc_c (hp : Rk .i64 h pv ps) (hd : Rk .u8 h dv ds) (hl : ps.length < 1000000) (hdl : ds.length < 1000000000) (n : Int) :
  ∃ v h',(∀ R : Value → Heap → Prop,Ret tab 33 [.agg #[.int .i64 pl,pv,dv],.int .i64 n,m.val] h R = R (.tuple #[v,.int .i64 (truncE pl ps ds n)]) h') ∧
   (truncE pl ps ds n ≠ 0 → CI h.length h' v 0 [] []) ∧ (truncE pl ps ds n = 0 → CI h.length h' v pl (ps.take n.toNat) (truncD ps ds n.toNat)) ∧ (∀ id,id < h.length → blk? h' id = blk? h id) ∧ h.length ≤ h'.length := by
 have main : ∀ R0 : Value → Heap → Prop,(∀ v h',(truncE pl ps ds n ≠ 0 → CI h.length h' v 0 [] []) → (truncE pl ps ds n = 0 → CI h.length h' v pl (ps.take n.toNat) (truncD ps ds n.toNat)) → (∀ id,id < h.length → blk? h' id = blk? h id) → h.length ≤ h'.length → R0 (.tuple #[v,.int .i64 (truncE pl ps ds n)]) h') →
   Ret tab 33 [.agg #[.int .i64 pl,pv,dv],.int .i64 n,m.val] h R0 := by
  intro R0 hR
  generalize hH : h ++ [some (⟨false,[.int .i64 pl,pv,dv]⟩ : Blk),some ⟨false,[.bool m.byp,.bool m.res,.bool m.rst,.bool m.cz,.bool m.sy]⟩,some ⟨false,[.int .i64 0,.slice none 0 0,.slice none 0 0]⟩] = H
  have lH : H.length = h.length + 3 := by rw [← hH]; simp
  have hb0 : blk? H h.length = some ⟨false,[.int .i64 pl,pv,dv]⟩ := by rw [← hH,app_len]; rfl
  have hb1 : blk? H (h.length + 1) = some ⟨false,[.bool m.byp,.bool m.res,.bool m.rst,.bool m.cz,.bool m.sy]⟩ := by rw [← hH,app_add]; rfl
  have hb2 : blk? H (h.length + 2) = some ⟨false,[.int .i64 0,.slice none 0 0,.slice none 0 0]⟩ := by rw [← hH,app_add]; rfl
  have kH : ∀ id,id < h.length → blk? H id = blk? h id := fun id hid => by rw [← hH]; exact app_lt hid
  have hpH : Rk .i64 H pv ps := by rw [← hH]; exact hp.push _
  have hdH : Rk .u8 H dv ds := by rw [← hH]; exact hd.push _
  obtain ⟨H1,e1,k1,l1⟩ := valid_c (m := m) (pl := pl) hpH hdH hl hdl
  have hb0' : blk? H1 h.length = some ⟨false,[.int .i64 pl,pv,dv]⟩ := by rw [k1 _ (by omega)]; exact hb0
  have hb2' : blk? H1 (h.length + 2) = some ⟨false,[.int .i64 0,.slice none 0 0,.slice none 0 0]⟩ := by rw [k1 _ (by omega)]; exact hb2
  have hp1 : Rk .i64 H1 pv ps := hpH.keep l1 fun id hid _ => k1 id hid
  have hd1 : Rk .u8 H1 dv ds := hdH.keep l1 fun id hid _ => k1 id hid
  have kh1 : ∀ id,id < h.length → blk? H1 id = blk? h id := fun id hid => by rw [k1 id (by omega),kH id hid]
  simp only [MD.val] at e1
  rw [enter33,show B33 = .seq (nthC 0 B33) (.seq (nthC 1 B33) (.seq (nthC 2 B33) (tlC 3 B33))) from rfl]
  generalize hT : tlC 3 B33 = tl
  simp only [nthC,tlC,fstC,B33]
  obtain ⟨pa,pc,hpv⟩ := hp.sl.shape
  obtain ⟨da,dc,hdv⟩ := hd.sl.shape
  have lt2 := blk?_lt hb2'
  by_cases h1 : validP pl ps ds = 0
  case neg =>
   have h1' : (validP pl ps ds != 0) = true := by simpa using h1
   have e : truncE pl ps ds n = validP pl ps ds := by unfold truncE; rw [if_pos h1]
   rw [e] at hR
   simp [k_guard,k_guardU,MD.val,hH,hb0,hb1,e1,h1',hb2',blk?_set_eq lt2,finishV,R33,allSome,resV]
   exact hR _ _ (fun _ => CI.none _ _) (fun x => absurd x h1) (fun id hid => by rw [blk?_set_ne (by omega),kh1 id hid]) (by simp; omega)
  have h1' : (validP pl ps ds != 0) = false := by simpa using h1
  obtain ⟨pl0,pl1,hlen,hvg,hdl2⟩ := valid_ends h1
  by_cases h2 : n < 0
  ·have e : truncE pl ps ds n = 2 := by unfold truncE; rw [if_neg (by simp [h1]),if_pos (.inl h2)]
   rw [e] at hR
   simp [k_guard,k_guardU,MD.val,hH,hb0,hb1,e1,h1',h2,hb2',blk?_set_eq lt2,finishV,R33,allSome,resV]
   exact hR _ _ (fun _ => CI.none _ _) (fun x => absurd x (by decide)) (fun id hid => by rw [blk?_set_ne (by omega),kh1 id hid]) (by simp; omega)
  obtain ⟨n,rfl⟩ := Int.eq_ofNat_of_zero_le (show 0 ≤ n by omega)
  by_cases h3 : ps.length < n
  ·have e : truncE pl ps ds (n : Int) = 2 := by unfold truncE; rw [if_neg (by simp [h1]),if_pos (.inr (by omega))]
   have h3' : (ps.length : Int) < (n : Int) := by omega
   have h2' : ¬ (n : Int) < 0 := h2
   rw [e] at hR
   rw [hpv] at hH hb0 hb0' e1
   rw [hpv]
   simp [k_guard,k_guardU,MD.val,hH,hb0,hb1,e1,h1',hb0',h2',h3',hb2',blk?_set_eq lt2,finishV,R33,allSome,resV]
   exact hR _ _ (fun _ => CI.none _ _) (fun x => absurd x (by decide)) (fun id hid => by rw [blk?_set_ne (by omega),kh1 id hid]) (by simp; omega)
  have h3' : ¬ (ps.length : Int) < (n : Int) := by omega
  have e : truncE pl ps ds (n : Int) = 0 := by unfold truncE; rw [if_neg (by simp [h1]),if_neg (by omega)]
  rw [e] at hR
  simp only [ne_eq,not_true_eq_false,false_implies,forall_const,Int.toNat_natCast] at hR
  obtain ⟨s1,es1,hs1⟩ := hp1.sub (l := 0) (t := n) (lo := none) (hi' := some (.int .i64 (n : Int))) (by omega) (by omega) (by simp [bndO,bnd]; omega) (by simp [bndO])
  rw [List.drop_zero] at hs1
  have hl1 : (ps.take n).length = n := by rw [List.length_take]; omega
  obtain ⟨t1,H2,a1,o1,l2,k2,g2⟩ := app_any (bytes := 8) (OwnS.nil H1 1) hs1.sl (by unfold roomCells; omega) (by omega)
  rw [Nat.zero_add,List.nil_append] at o1
  have k2' : ∀ id,id < H1.length → blk? H2 id = blk? H1 id := fun id hid => k2 id hid (by simp [sid])
  generalize hH3 : H2 ++ [some (⟨false,[.int .i64 pl,t1,.slice none 0 0]⟩ : Blk)] = H3
  have l3 : H3.length = H2.length + 1 := by rw [← hH3]; simp
  have b9 : blk? (H2 ++ [some (⟨false,[.int .i64 0,.slice none 0 0,.slice none 0 0]⟩ : Blk)]) H2.length = some ⟨false,[.int .i64 0,.slice none 0 0,.slice none 0 0]⟩ := blk?_push_eq
  have s9 : (H2 ++ [some (⟨false,[.int .i64 0,.slice none 0 0,.slice none 0 0]⟩ : Blk)]).set H2.length (some ⟨false,[.int .i64 pl,t1,.slice none 0 0]⟩) = H3 := by rw [← hH3]; simp
  have k3 : ∀ id,id < H2.length → blk? H3 id = blk? H2 id := fun id hid => by rw [← hH3]; exact blk?_push_lt hid
  have b3 : blk? H3 H2.length = some ⟨false,[.int .i64 pl,t1,.slice none 0 0]⟩ := by rw [← hH3]; exact blk?_push_eq
  have k31 : ∀ id,id < H1.length → blk? H3 id = blk? H1 id := fun id hid => by rw [k3 id (by omega),k2' id hid]
  have hb03 : blk? H3 h.length = some ⟨false,[.int .i64 pl,pv,dv]⟩ := by rw [k31 _ (by omega)]; exact hb0'
  have hb23 : blk? H3 (h.length + 2) = some ⟨false,[.int .i64 0,.slice none 0 0,.slice none 0 0]⟩ := by rw [k31 _ (by omega)]; exact hb2'
  have hb02 : blk? H2 h.length = some ⟨false,[.int .i64 pl,pv,dv]⟩ := by rw [k2' _ (by omega)]; exact hb0'
  have hp3 : Rk .i64 H3 pv ps := hp1.keep (by omega) fun id hid _ => k31 id hid
  have hd3 : Rk .u8 H3 dv ds := hd1.keep (by omega) fun id hid _ => k31 id hid
  have ht1 : Rk .i64 H3 t1 (ps.take n) := by
   refine Rk.own (o1.of_blk fun id hid hb => by rw [k3 id (by have := g2 id hid; omega)]; exact hb) ?_ (fun v hv => hp.rng v (List.mem_of_mem_take hv))
   obtain ⟨ta,tc,rfl⟩ := o1.sl.shape
   cases ta with
   | none => simp
   | some a => have := g2 a.block (by simp [sid]); simp; omega
  rw [← hT,show tlC 3 B33 = .seq (nthC 3 B33) (.seq (nthC 4 B33) (tlC 5 B33)) from rfl]
  generalize hT5 : tlC 5 B33 = tl5
  simp only [nthC,tlC,fstC,B33]
  have h2' : ¬ (n : Int) < 0 := h2
  obtain ⟨ta,tc,ht1s⟩ := o1.sl.shape
  rw [hl1] at ht1s
  have fin : ∀ (H5 : Heap) (dv5 : Value) (ds5 : List Int) (K0 K1 K2 K3 K4 K5 K8 Ka Kb Kc Kd Ke Kf Kg Kh Ki Kj Kk Kl Km Kn Ko Kp Kq Kr Ks Kt Ku Kv Kw Kx Ky Kz J0 J1 J2 J3 J4 J5 J6 J7 J8 J9 Ja Jb Jc Jd Je : Value),blk? H5 H2.length = some ⟨false,[.int .i64 pl,t1,dv5]⟩ → Rk .u8 H5 dv5 ds5 → (∀ id,sid dv5 = some id → H3.length ≤ id) → (∀ id,id < H3.length → id ≠ H2.length → blk? H5 id = blk? H3 id) → H3.length ≤ H5.length → ds5 = truncD ps ds n →
    Ok tab R33 [.code tl5] #[K0,K1,K2,K3,K4,K5,ptr (h.length + 2),.int .i64 0,K8,ptr H2.length,Ka,Kb,Kc,Kd,Ke,Kf,Kg,Kh,Ki,Kj,Kk,Kl,Km,Kn,Ko,Kp,Kq,Kr,Ks,Kt,Ku,Kv,Kw,Kx,Ky,Kz,J0,J1,J2,J3,J4,J5,J6,J7,J8,J9,Ja,Jb,Jc,Jd,Je] H5 R0 := by
   intro H5 dv5 ds5;intros;rename_i b5 r5 g5 k5 l5 e5
   subst e5
   have b25 : blk? H5 (h.length + 2) = some ⟨false,[.int .i64 0,.slice none 0 0,.slice none 0 0]⟩ := by rw [k5 _ (by omega) (by omega)]; exact hb23
   have lt5 := blk?_lt b25
   have ne5 : ∀ x,blk? (H5.set (h.length + 2) x) (h.length + 2) = x := fun x => blk?_set_eq lt5
   rw [← hT5]
   simp only [nthC,tlC,fstC,B33]
   simp [b5,b25,ne5,finishV,R33,allSome,resV]
   refine hR _ _ ⟨⟨t1,dv5,rfl,ht1.keep (by simp; omega) fun id hid hs => ?_,r5.keep (by simp) fun id hid hs => ?_,fun id hid => by have := g2 id hid; omega,fun id hid => by have := g5 id hid; omega⟩⟩ (fun id hid => ?_) (by simp; omega)
   ·have := g2 id hs
    rw [blk?_set_ne (by omega),k5 id hid (by omega)]
   ·have := g5 id hs
    rw [blk?_set_ne (by omega)]
   ·rw [blk?_set_ne (by omega),k5 id (by omega) (by omega),k31 id (by omega),kh1 id hid]
  by_cases h4 : n = 0
  ·subst h4
   have fin' := fun K0 K1 K2 K3 K4 K5 K8 Ka Kb Kc Kd Ke Kf Kg Kh Ki Kj Kk Kl Km Kn Ko Kp Kq Kr Ks Kt Ku Kv Kw Kx Ky Kz J0 J1 J2 J3 J4 J5 J6 J7 J8 J9 Ja Jb Jc Jd Je => fin H3 (.slice none 0 0) [] K0 K1 K2 K3 K4 K5 K8 Ka Kb Kc Kd Ke Kf Kg Kh Ki Kj Kk Kl Km Kn Ko Kp Kq Kr Ks Kt Ku Kv Kw Kx Ky Kz J0 J1 J2 J3 J4 J5 J6 J7 J8 J9 Ja Jb Jc Jd Je b3 (Rk.none _ _) (fun id hid => by simp [sid] at hid) (fun _ _ _ => rfl) (Nat.le_refl _) (by simp [truncD])
   simp only [Int.cast_ofNat_Int] at es1 h3'
   rw [hpv] at hH hb0 hb0' hb02 e1 es1
   rw [ht1s] at a1 hH3 b3
   rw [hpv]
   simp [book,bookU,logOf,addLog,chk1,lookL,reload,k_guard,k_guardU,MD.val,hH,hb0,hb1,e1,h1',hb0',hb02,h2',h3',es1,a1,b9,hH3]
   exact fin' ..
  have h4' : (0 : Int) < (n : Int) := by omega
  have hn1 : n - 1 < ps.length := by omega
  obtain ⟨q1,q2⟩ := vgo_get ps 0 _ hvg (n - 1) hn1
  obtain ⟨z,hz⟩ := Int.eq_ofNat_of_zero_le q1
  have hzl : z ≤ ds.length := by omega
  have hgd : ps.getD (n - 1) 0 = ps[n - 1] := by simp [hn1]
  rw [hgd] at hz
  obtain ⟨id,off,b,hpv3,hbk,hc⟩ := hp3.get hn1
  rw [hz] at hc
  obtain ⟨s2,es2,hs2⟩ := hd3.sub (l := 0) (t := z) (lo := none) (hi' := some (.int .i64 (z : Int))) (by omega) hzl (by simp [bndO,bnd]; omega) (by simp [bndO])
  rw [List.drop_zero] at hs2
  have hl2 : (ds.take z).length = z := by rw [List.length_take]; omega
  obtain ⟨t2,H4,a2,o2,l4,k4,g4⟩ := app_any (bytes := 1) (OwnS.nil H3 1) hs2.sl (by unfold roomCells; omega) (by omega)
  rw [Nat.zero_add,List.nil_append] at o2
  have k4' : ∀ id,id < H3.length → blk? H4 id = blk? H3 id := fun id hid => k4 id hid (by simp [sid])
  have b4 : blk? H4 H2.length = some ⟨false,[.int .i64 pl,t1,.slice none 0 0]⟩ := by rw [k4' _ (by omega)]; exact b3
  have lt4 := blk?_lt b4
  have ht2 : Rk .u8 (H4.set H2.length (some ⟨false,[.int .i64 pl,t1,t2]⟩)) t2 (ds.take z) := by
   refine Rk.own (o2.of_blk fun id hid hb => by rw [blk?_set_ne (by have := g4 id hid; omega)]; exact hb) ?_ (fun v hv => hd.rng v (List.mem_of_mem_take hv))
   obtain ⟨ta,tc,rfl⟩ := o2.sl.shape
   cases ta with
   | none => simp
   | some a => have := g4 a.block (by simp [sid]); simp; omega
  have fin' := fun K0 K1 K2 K3 K4 K5 K8 Ka Kb Kc Kd Ke Kf Kg Kh Ki Kj Kk Kl Km Kn Ko Kp Kq Kr Ks Kt Ku Kv Kw Kx Ky Kz J0 J1 J2 J3 J4 J5 J6 J7 J8 J9 Ja Jb Jc Jd Je => fin (H4.set H2.length (some ⟨false,[.int .i64 pl,t1,t2]⟩)) t2 (ds.take z) K0 K1 K2 K3 K4 K5 K8 Ka Kb Kc Kd Ke Kf Kg Kh Ki Kj Kk Kl Km Kn Ko Kp Kq Kr Ks Kt Ku Kv Kw Kx Ky Kz J0 J1 J2 J3 J4 J5 J6 J7 J8 J9 Ja Jb Jc Jd Je (blk?_set_eq lt4) ht2 (fun id hid => (g4 id hid).1) (fun id h1 h2 => by rw [blk?_set_ne (Ne.symm h2),k4' id h1]) (by simp; omega)
   (by unfold truncD; rw [if_pos (by omega),hgd,hz,Int.toNat_natCast])
  have hw : IntKind.i64.wrap ((n : Int) - 1) = ((n - 1 : Nat) : Int) := by rw [wrapI (by omega) (by omega)]; omega
  have hlt1 : ((n - 1 : Nat) : Int) < (ps.length : Int) := by omega
  have htn : (((n - 1 : Nat) : Int)).toNat = n - 1 := Int.toNat_natCast _
  have hge1 : (0 : Int) ≤ ((n - 1 : Nat) : Int) := by omega
  generalize hnn : ((n - 1 : Nat) : Int) = nn at *
  obtain ⟨ta2,tc2,ht2s⟩ := o2.sl.shape
  rw [hpv3] at hH hb0 hb0' hb02 e1 es1 hb03
  rw [ht1s] at a1 hH3 b3 b4 fin'
  rw [hl2] at ht2s
  have h4'' : 0 < n := by omega
  rw [ht2s] at a2 fin'
  rw [hpv3]
  simp [book,bookU,logOf,addLog,chk1,lookL,reload,k_guard,k_guardU,MD.val,hH,hb0,hb1,e1,h1',hb0',hb02,h2',h3',es1,a1,b9,hH3,h4',h4'',b3,hb03,hw,hlt1,hge1,htn,hbk,hc,es2,a2,b4]
  exact fin' ..
 obtain ⟨v,h',e,w,rfl,a,b,c,d⟩ := ret_ex (main (fun v h' => ∃ w,v = .tuple #[w,.int .i64 (truncE pl ps ds n)] ∧ (truncE pl ps ds n ≠ 0 → CI h.length h' w 0 [] []) ∧ (truncE pl ps ds n = 0 → CI h.length h' w pl (ps.take n.toNat) (truncD ps ds n.toNat)) ∧ (∀ id,id < h.length → blk? h' id = blk? h id) ∧ h.length ≤ h'.length) fun v h' a b c d => ⟨v,rfl,a,b,c,d⟩)
 exact ⟨w,h',e,a,b,c,d⟩
end
set_option maxRecDepth 10000
deriving instance DecidableEq for Cd
def mdz : MD := ⟨false,false,false,false,false⟩
theorem ex1 : encRes [0] 1 1 0 mdz = (0,⟨0,[],[]⟩) := by decide +kernel
theorem ex2 : encRes [1] 1 1 0 mdz = (0,⟨1,[1],[128]⟩) := by decide +kernel
theorem ex3 : encRes [-1] 1 1 3 mdz = (0,⟨1,[1],[192]⟩) := by decide +kernel
theorem Sl.lit1 {h : Heap} {id : Nat} {v : Value} (hb : blk? h id = some ⟨false,[v]⟩) : Sl h 1 (.slice (some ⟨id,0,none⟩) 1 1) 1 [v] := ⟨rfl,.inr ⟨id,0,rfl,.inr ⟨_,hb,by simp,by simp⟩⟩⟩
theorem Ints.lit1 {h : Heap} {id : Nat} {v : Int} (hb : blk? h id = some ⟨false,[.int .i64 v]⟩) (hv : -9223372036854775808 ≤ v ∧ v < 9223372036854775808) : Ints h (.slice (some ⟨id,0,none⟩) 1 1) [v] := by
 refine ⟨Sl.lit1 hb,by simp; exact blk?_lt hb,fun j b hj hb' n => ?_,fun w hw => by simp at hw; subst hw; exact hv⟩
 simp [sid] at hj; subst hj
 rw [hb] at hb'; injection hb' with hb'; subst hb'
 simp [belowL]
theorem Rk.ofI {h : Heap} {s : Value} {xs : List Nat} (ho : OwnS h 1 s xs.length (nI xs)) (hx : ∀ v ∈ xs,v < 9223372036854775808) : Rk .i64 h s (xs.map Int.ofNat) := by
 refine Rk.own (by rw [List.length_map]; simpa [kis,nI,Function.comp_def] using ho) ?_ (fun v hv => ?_)
 ·obtain ⟨a,c,rfl⟩ := ho.sl.shape
  cases a with
  | none => simp
  | some a => have := ho.lt (id := a.block) (by simp [sid]); simp; omega
 ·obtain ⟨w,hw,rfl⟩ := List.mem_map.1 hv
  have := hx w hw
  simp [Lit.wf,IntKind.min,IntKind.max,IntKind.signed,IntKind.bits]; omega
theorem Rk.ofU {h : Heap} {s : Value} {xs : List Nat} (ho : OwnS h 1 s xs.length (nU xs)) (hx : ∀ v ∈ xs,v < 256) : Rk .u8 h s (xs.map Int.ofNat) := by
 refine Rk.own (by rw [List.length_map]; simpa [kis,nU,Function.comp_def] using ho) ?_ (fun v hv => ?_)
 ·obtain ⟨a,c,rfl⟩ := ho.sl.shape
  cases a with
  | none => simp
  | some a => have := ho.lt (id := a.block) (by simp [sid]); simp; omega
 ·obtain ⟨w,hw,rfl⟩ := List.mem_map.1 hv
  have := hx w hw
  simp [Lit.wf,IntKind.min,IntKind.max,IntKind.signed,IntKind.bits]; omega
theorem CdV.ci {B : Nat} {h : Heap} {v : Value} {r : Cd} (c : CdV B h v r) (h1 : ∀ v ∈ r.ps,v < 9223372036854775808) (h2 : ∀ v ∈ r.ds,v < 256) : CI B h v r.pl (r.ps.map Int.ofNat) (r.ds.map Int.ofNat) := by
 obtain ⟨pv,dv,e,a,b,p,q⟩ := c.ex
 exact ⟨⟨pv,dv,e,Rk.ofI a h1,Rk.ofU b h2,fun id hid => (p id hid).1,q⟩⟩
section
variable {h : Heap} {R : Value → Heap → Prop} {k : List RItem}
theorem enc1 {v o : Int} {r : Cd} (hv : -9223372036854775808 ≤ v ∧ v < 9223372036854775808) (hr : encRes [v] 1 1 o mdz = (0,r)) (h1 : ∀ v ∈ r.ps,v < 9223372036854775808) (h2 : ∀ v ∈ r.ds,v < 256) :
  ∃ w h',(∀ R : Value → Heap → Prop,Ret tab 17 [.slice (some ⟨h.length,0,none⟩) 1 1,.int .i64 1,.int .i64 1,.int .i64 o,.agg #[.bool false,.bool false,.bool false,.bool false,.bool false]] (h ++ [some ⟨false,[.int .i64 v]⟩]) R = R (.tuple #[w,.int .i64 0]) h') ∧
   CI (h.length + 1) h' w r.pl (r.ps.map Int.ofNat) (r.ds.map Int.ofNat) ∧ (∀ id,id < h.length → blk? h' id = blk? h id) ∧ h.length < h'.length := by
 obtain ⟨w,h',e,c,lo,le⟩ := encode_c (Ints.lit1 (h := h ++ [some ⟨false,[.int .i64 v]⟩]) (v := v) blk?_push_eq hv) (by simp) 1 1 o mdz (symRes_tot (by simp))
 rw [hr] at e c
 have hl : (h ++ [some (⟨false,[.int .i64 v]⟩ : Blk)]).length = h.length + 1 := by simp
 rw [hl] at c lo le
 exact ⟨w,h',e,c.ci h1 h2,fun id hid => by rw [lo id (by omega),blk?_push_lt hid],by omega⟩
set_option maxHeartbeats 2000000 in
theorem awake_c : Gives 16 [] h (.bool true) := by
 refine Gives.mk fun R0 hR => ?_
 obtain ⟨v1,H1,e1,c1,k1,l1⟩ := enc1 (h := h) (v := 0) (o := 0) (by omega) ex1 (by simp) (by simp)
 obtain ⟨p1,d1,rfl,P1,D1,_,_⟩ := c1.ex
 obtain ⟨pa1,pc1,hp1⟩ := P1.sl.shape
 obtain ⟨da1,dc1,hd1⟩ := D1.sl.shape
 generalize hA : H1 ++ [some (⟨false,[.int .i64 0,p1,d1]⟩ : Blk)] = A
 have lA : A.length = H1.length + 1 := by rw [← hA]; simp
 have bA : blk? A H1.length = some ⟨false,[.int .i64 0,p1,d1]⟩ := by rw [← hA]; exact blk?_push_eq
 have kA : ∀ id,id < H1.length → blk? A id = blk? H1 id := fun id hid => by rw [← hA]; exact blk?_push_lt hid
 obtain ⟨v2,H2,e2,c2,k2,l2⟩ := enc1 (h := A) (v := 1) (o := 0) (by omega) ex2 (by simp) (by simp)
 obtain ⟨p2,d2,rfl,P2,D2,_,_⟩ := c2.ex
 generalize hB : H2 ++ [some (⟨false,[.int .i64 1,p2,d2]⟩ : Blk)] = Bh
 have lB : Bh.length = H2.length + 1 := by rw [← hB]; simp
 have bB : blk? Bh H2.length = some ⟨false,[.int .i64 1,p2,d2]⟩ := by rw [← hB]; exact blk?_push_eq
 have kB : ∀ id,id < H2.length → blk? Bh id = blk? H2 id := fun id hid => by rw [← hB]; exact blk?_push_lt hid
 obtain ⟨v3,H3,e3,c3,k3,l3⟩ := enc1 (h := Bh) (v := -1) (o := 3) (by omega) ex3 (by simp) (by simp)
 obtain ⟨p3,d3,rfl,P3,D3,_,_⟩ := c3.ex
 generalize hC : H3 ++ [some (⟨false,[.int .i64 1,p3,d3]⟩ : Blk)] = C
 have lC : C.length = H3.length + 1 := by rw [← hC]; simp
 have bC : blk? C H3.length = some ⟨false,[.int .i64 1,p3,d3]⟩ := by rw [← hC]; exact blk?_push_eq
 have kC : ∀ id,id < H3.length → blk? C id = blk? H3 id := fun id hid => by rw [← hC]; exact blk?_push_lt hid
 have kBC : ∀ id,id < Bh.length → blk? C id = blk? Bh id := fun id hid => by rw [kC id (by omega),k3 id hid]
 have kAC : ∀ id,id < A.length → blk? C id = blk? A id := fun id hid => by rw [kBC id (by omega),kB id (by omega),k2 id hid]
 have khC : ∀ id,id < h.length → blk? C id = blk? h id := fun id hid => by rw [kAC id (by omega),kA id (by omega),k1 id hid]
 have b1C : blk? C H1.length = some ⟨false,[.int .i64 0,p1,d1]⟩ := by rw [kAC _ (by omega)]; exact bA
 have b2C : blk? C H2.length = some ⟨false,[.int .i64 1,p2,d2]⟩ := by rw [kBC _ (by omega)]; exact bB
 have P2C : Rk .i64 C p2 [1] := P2.keep (by omega) fun id hid _ => by rw [kBC id (by omega),kB id hid]
 have D2C : Rk .u8 C d2 [128] := D2.keep (by omega) fun id hid _ => by rw [kBC id (by omega),kB id hid]
 have D3C : Rk .u8 C d3 [192] := D3.keep (by omega) fun id hid _ => kC id hid
 have ht : truncE 1 [1] [128] 0 = 0 := by decide
 obtain ⟨v4,H4,e4,_,c4,k4,l4⟩ := trunc_c (m := mdz) (pl := 1) P2C D2C (by simp) (by simp) 0
 rw [ht] at e4 c4
 obtain ⟨p4,d4,rfl,P4,D4,_,_⟩ := (c4 rfl).ex
 generalize hD : H4 ++ [some (⟨false,[.int .i64 1,p4,d4]⟩ : Blk)] = D
 have lD : D.length = H4.length + 1 := by rw [← hD]; simp
 have bD : blk? D H4.length = some ⟨false,[.int .i64 1,p4,d4]⟩ := by rw [← hD]; exact blk?_push_eq
 have kD : ∀ id,id < H4.length → blk? D id = blk? H4 id := fun id hid => by rw [← hD]; exact blk?_push_lt hid
 have kCD : ∀ id,id < C.length → blk? D id = blk? C id := fun id hid => by rw [kD id (by omega),k4 id hid]
 have b1D : blk? D H1.length = some ⟨false,[.int .i64 0,p1,d1]⟩ := by rw [kCD _ (by omega)]; exact b1C
 have b2D : blk? D H2.length = some ⟨false,[.int .i64 1,p2,d2]⟩ := by rw [kCD _ (by omega)]; exact b2C
 have b3D : blk? D H3.length = some ⟨false,[.int .i64 1,p3,d3]⟩ := by rw [kCD _ (by omega)]; exact bC
 have P2D : Rk .i64 D p2 [1] := P2C.keep (by omega) fun id hid _ => kCD id hid
 have D2D : Rk .u8 D d2 [128] := D2C.keep (by omega) fun id hid _ => kCD id hid
 have D3D : Rk .u8 D d3 [192] := D3C.keep (by omega) fun id hid _ => kCD id hid
 obtain ⟨i2,o2,q2,hp2,g2,n2⟩ := P2D.get (i := 0) (by simp)
 obtain ⟨i3,o3,q3,hd2,g3,n3⟩ := D2D.get (i := 0) (by simp)
 obtain ⟨i4,o4,q4,hd3,g4,n4⟩ := D3D.get (i := 0) (by simp)
 obtain ⟨pa4,pc4,hp4⟩ := P4.sl.shape
 obtain ⟨da4,dc4,hd4⟩ := D4.sl.shape
 obtain ⟨pa3,pc3,hp3⟩ := P3.sl.shape
 have hv : validP 1 [1] [128] = 0 := by decide
 obtain ⟨H5,e5,k5,l5⟩ := valid_c (m := mdz) (pl := 1) P2D D2D (by simp) (by simp)
 rw [hv] at e5
 have hR' := hR H5 (fun id hid => by rw [k5 id (by omega),kCD id (by omega),khC id hid]) (by omega)
 simp only [List.map_nil,List.map_cons,List.length_nil,List.length_cons,Nat.zero_add,List.getElem_cons_zero,Nat.add_zero,Int.toNat_zero,List.take_zero,truncD,Nat.lt_irrefl,if_false,Int.ofNat_eq_natCast,Int.cast_ofNat_Int] at hp1 hd1 hp2 hd2 hp3 hd3 hp4 hd4 n2 n3 n4
 simp only [MD.val,mdz,Int.cast_ofNat_Int] at e1 e2 e3 e4 e5
 rw [hp1,hd1] at e1 hA b1C b1D
 rw [hp2,hd2] at e2 hB b2C b2D e4 e5
 rw [hp3,hd3] at e3 hC bC b3D
 rw [hp4,hd4] at e4 hD bD
 rw [enter16,show B16 = .seq (nthC 0 B16) (.seq (nthC 1 B16) (.seq (nthC 2 B16) (.seq (nthC 3 B16) (tlC 4 B16)))) from rfl]
 generalize hT : tlC 4 B16 = tl
 simp only [nthC,tlC,fstC,B16]
 simp [repL,blk?_push_eq,e1,hA,e2,hB,e3,hC]
 rw [← hT,show tlC 4 B16 = .seq (nthC 4 B16) (.seq (nthC 5 B16) (tlC 6 B16)) from rfl]
 generalize hT : tlC 6 B16 = tl
 simp only [nthC,tlC,fstC,B16]
 simp [k_guard,k_guardU,blk?_push_eq,b1C,b2C,bC,e4,hD]
 rw [← hT]
 simp only [nthC,tlC,fstC,B16]
 simp [k_guard,k_guardU,b1D,b2D,b3D,bD,g2,g3,g4,n2,n3,n4,e5,fin16]
 exact hR'
end
set_option maxRecDepth 10000
theorem ints_rk {h : Heap} {s : Value} {xs : List Int} (r : Rk .i64 h s xs) : Ints h s xs := by
 refine ⟨r.sl,r.sb,r.bl,fun v hv => ?_⟩
 have := r.rng v hv
 simp [Lit.wf,IntKind.min,IntKind.max,IntKind.signed,IntKind.bits] at this
 omega
section
variable {h : Heap} {s : Value} {xs : List Int} {x1 x2 x3 x4 x5 : Bool}
set_option maxHeartbeats 4000000 in
theorem ret_encodes {w hh o : Int} (hp : Rk .i64 h s xs) :
  Ret tab 5 [s,.agg #[.int .i64 w,.int .i64 hh,.int .i64 o,.bool x1,.bool x2,.bool x3,.bool x4,.bool x5]] h fun v _ => v = .bool true := by
 obtain ⟨pa,pc,hs⟩ := hp.sl.shape
 generalize hH : h ++ [some (⟨false,[.int .i64 w,.int .i64 hh,.int .i64 o,.bool x1,.bool x2,.bool x3,.bool x4,.bool x5]⟩ : Blk)] = H
 have b0 : blk? H h.length = some ⟨false,[.int .i64 w,.int .i64 hh,.int .i64 o,.bool x1,.bool x2,.bool x3,.bool x4,.bool x5]⟩ := by rw [← hH]; exact blk?_push_eq
 have lH : H.length = h.length + 1 := by rw [← hH]; simp
 have hpH : Rk .i64 H s xs := by rw [← hH]; exact hp.push _
 rw [enter5,B5]
 by_cases hl : 144 < xs.length
 ·have hl' : (144 : Int) < (xs.length : Int) := by omega
  obtain ⟨H2,e2,_,_⟩ := awake_c (h := H)
  rw [hs]
  simp [hH,hl',e2,fin5]
 have hl' : ¬ (144 : Int) < (xs.length : Int) := by omega
 obtain ⟨v1,H1,e1,c1,k1,l1⟩ := encode_c (ints_rk hpH) (by omega) w hh o ⟨x1,x2,x3,x4,x5⟩ (symRes_tot (by omega))
 obtain ⟨f1,f2⟩ := encRes_facts (xs := xs) (w := w) (hh := hh) (o := o) (m := ⟨x1,x2,x3,x4,x5⟩)
 have fp : ∀ v ∈ (encRes xs w hh o ⟨x1,x2,x3,x4,x5⟩).2.ps,v < 9223372036854775808 := by
  by_cases h0 : (encRes xs w hh o ⟨x1,x2,x3,x4,x5⟩).1 = 0
  ·obtain ⟨_,_,_,_,hv,_,hdl⟩ := f2 h0
   exact fun x hx => by have := vgoN_get _ _ _ hv x hx; omega
  ·rw [f1 h0]; simp
 have fd : ∀ v ∈ (encRes xs w hh o ⟨x1,x2,x3,x4,x5⟩).2.ds,v < 256 := by
  by_cases h0 : (encRes xs w hh o ⟨x1,x2,x3,x4,x5⟩).1 = 0
  ·exact (f2 h0).2.2.2.2.2.1
  ·rw [f1 h0]; simp
 have flen : (encRes xs w hh o ⟨x1,x2,x3,x4,x5⟩).2.ps.length ≤ 178 ∧ (encRes xs w hh o ⟨x1,x2,x3,x4,x5⟩).2.ds.length ≤ 65535 := by
  by_cases h0 : (encRes xs w hh o ⟨x1,x2,x3,x4,x5⟩).1 = 0
  ·obtain ⟨_,h60,_,hps,_,_,hdl⟩ := f2 h0
   exact ⟨by omega,hdl⟩
  ·rw [f1 h0]; simp
 have ci1 := c1.ci fp fd
 obtain ⟨p1,d1,rfl,P1,D1,_,_⟩ := ci1.ex
 generalize hA : H1 ++ [some (⟨false,[.int .i64 ((encRes xs w hh o ⟨x1,x2,x3,x4,x5⟩).2.pl : Nat),p1,d1]⟩ : Blk)] = A
 have lA : A.length = H1.length + 1 := by rw [← hA]; simp
 have kA : ∀ id,id < H1.length → blk? A id = blk? H1 id := fun id hid => by rw [← hA]; exact blk?_push_lt hid
 have bA : blk? A H1.length = some ⟨false,[.int .i64 ((encRes xs w hh o ⟨x1,x2,x3,x4,x5⟩).2.pl : Nat),p1,d1]⟩ := by rw [← hA]; exact blk?_push_eq
 have b0A : blk? A h.length = some ⟨false,[.int .i64 w,.int .i64 hh,.int .i64 o,.bool x1,.bool x2,.bool x3,.bool x4,.bool x5]⟩ := by rw [kA _ (by omega),k1 _ (by omega)]; exact b0
 have hpA : Rk .i64 A s xs := hpH.keep (by omega) fun id hid _ => by rw [kA id (by omega),k1 id hid]
 have P1A := P1.keep (h' := A) (by omega) fun id hid _ => kA id hid
 have D1A := D1.keep (h' := A) (by omega) fun id hid _ => kA id hid
 obtain ⟨v2,H2,e2,c2,k2,l2⟩ := rencode_x (ints_rk hpA) (by omega) w hh o ⟨x1,x2,x3,x4,x5⟩
 have ci2 := c2.ci fp fd
 obtain ⟨p2,d2,rfl,P2,D2,_,_⟩ := ci2.ex
 generalize hB : H2 ++ [some (⟨false,[.int .i64 ((encRes xs w hh o ⟨x1,x2,x3,x4,x5⟩).2.pl : Nat),p2,d2]⟩ : Blk)] = Bh
 have lB : Bh.length = H2.length + 1 := by rw [← hB]; simp
 have kB : ∀ id,id < H2.length → blk? Bh id = blk? H2 id := fun id hid => by rw [← hB]; exact blk?_push_lt hid
 have bB : blk? Bh H2.length = some ⟨false,[.int .i64 ((encRes xs w hh o ⟨x1,x2,x3,x4,x5⟩).2.pl : Nat),p2,d2]⟩ := by rw [← hB]; exact blk?_push_eq
 have bAB : blk? Bh H1.length = some ⟨false,[.int .i64 ((encRes xs w hh o ⟨x1,x2,x3,x4,x5⟩).2.pl : Nat),p1,d1]⟩ := by rw [kB _ (by omega),k2 _ (by omega)]; exact bA
 have P1B := P1A.keep (h' := Bh) (by omega) fun id hid _ => by rw [kB id (by omega),k2 id hid]
 have D1B := D1A.keep (h' := Bh) (by omega) fun id hid _ => by rw [kB id (by omega),k2 id hid]
 have P2B := P2.keep (h' := Bh) (by omega) fun id hid _ => kB id hid
 have D2B := D2.keep (h' := Bh) (by omega) fun id hid _ => kB id hid
 obtain ⟨H3,e3,k3,l3⟩ := same_c (pl := ((encRes xs w hh o ⟨x1,x2,x3,x4,x5⟩).2.pl : Nat)) (pl' := ((encRes xs w hh o ⟨x1,x2,x3,x4,x5⟩).2.pl : Nat)) P1B D1B P2B D2B (by rw [List.length_map]; omega) (by rw [List.length_map]; omega)
 have hsm : ∀ (a : Int) (b c : List Int),sameP a a b b c c = true := fun a b c => by simp [sameP]
 rw [hsm] at e3
 obtain ⟨H4,e4,_,_⟩ := awake_c (h := H3)
 obtain ⟨pa1,pc1,hp1⟩ := P1.sl.shape
 obtain ⟨da1,dc1,hd1⟩ := D1.sl.shape
 obtain ⟨pa2,pc2,hp2⟩ := P2.sl.shape
 obtain ⟨da2,dc2,hd2⟩ := D2.sl.shape
 rw [List.length_map] at hp1 hd1 hp2 hd2
 simp only [MD.val] at e1 e2
 generalize (encRes xs w hh o ⟨x1,x2,x3,x4,x5⟩).2.ps.length = n1 at *
 generalize (encRes xs w hh o ⟨x1,x2,x3,x4,x5⟩).2.ds.length = n2 at *
 generalize (((encRes xs w hh o ⟨x1,x2,x3,x4,x5⟩).2.pl : Nat) : Int) = pl at *
 generalize (encRes xs w hh o ⟨x1,x2,x3,x4,x5⟩).1 = er at *
 rw [hp1,hd1] at e1 hA bAB e3
 rw [hp2,hd2] at e2 hB bB e3
 rw [hs] at e1 e2
 rw [hs]
 simp [k_guard,k_guardU,hH,hl',b0,e1,blk?_push_eq,hA,b0A,e2,hB,bAB,bB,e3,e4,fin5]
end
end Go.Proofs.YtjpjohchdfoeaaaGreat
