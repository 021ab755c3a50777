/-
  The decoder's reference: what its passes read, questions, signs.
  The decoder's reference: significance, refinement.
  The decoder's reference: the cleanup pass.
  The decoder's reference: Run.
  The reference's source: some bits, and 0 beyond them; what was asked for is noted.
-/
import Derived.Test.YtjpjohchdfoeaaaDec4
import Derived.Test.YtjpjohchdfoeaaaDst
namespace Go.Proofs.Ytjpjohchdfoeaaa
open Go Go.Sim
set_option linter.unusedSimpArgs false
set_option linter.unusedVariables false
/-- The call of a source of the reference. -/
def callN (sb : Nat) : Heap → Int → (Value → Heap → Prop) → Prop := fun h x R => Ret tab 164 [ptr sb, .int .i64 x] h R

/-- A pass of the reference at q over the block at p (coefficients at c). -/
structure QD (h : Heap) (f : Bool) (q p c : Nat) (P : PP) (m : MD) (sb : Nat) (b : BS) : Prop where
  blk : blk? h q = some ⟨f, [ptr p, .int .i64 P.s, .int .i64 P.o, .bool m.byp, .bool m.res, .bool m.rst, .bool P.cz, .bool m.sy, .bool P.rw, ptr sb]⟩
  cb : CB h f p c b
  sbl : sb < h.length
  pok : P.Ok
  rng : b.Rng
theorem QD.frz {h : Heap} {f : Bool} {q p c : Nat} {P : PP} {m : MD} {sb : Nat} {b : BS} (hr : QD h f q p c P m sb b) : QD (frz h) true q p c P m sb b :=
  ⟨blk_frz hr.blk (by simp [hr.sbl, blk?_lt hr.cb.blkp]), hr.cb.frz, by rw [len_frz]; exact hr.sbl, hr.pok, hr.rng⟩
theorem QD.keep {h h' : Heap} {q p c : Nat} {P : PP} {m : MD} {sb : Nat} {b : BS} (hr : QD h false q p c P m sb b) (hk : ∀ id, id = q ∨ id = p ∨ id = c → blk? h' id = blk? h id) (hl : h.length ≤ h'.length) : QD h' false q p c P m sb b :=
  ⟨by rw [hk q (.inl rfl)]; exact hr.blk, ⟨by rw [hk p (.inr (.inl rfl))]; exact hr.cb.blkp, by rw [hk c (.inr (.inr rfl))]; exact hr.cb.blkc, hr.cb.ok⟩, Nat.lt_of_lt_of_le hr.sbl hl, hr.pok, hr.rng⟩

section
variable {h : Heap} {f : Bool} {q p c : Nat} {P : PP} {m : MD} {sb : Nat} {b : BS} {x y : Int} {R : Value → Heap → Prop}

theorem set_bad_r (hb : CB h false p c b) (hi : b.inb x y) {v : Int} (hv : ¬ (-1152921504606846976 < v ∧ v < 1152921504606846976)) : ∃ e : Int, ∀ R, Ret tab 66 [ptr p, .int .i64 x, .int .i64 y, .int .i64 v] h R = R (.int .i64 e) h := by
  have hlp := blk?_lt hb.blkp
  have hp := hb.blkp
  refine ⟨2, fun R => ?_⟩
  rw [enter66, B66]
  by_cases h1 : v ≤ -1152921504606846976
  · simp [k_guard, k_guardU, hlp, error_r hb hi, hp, h1, fin66]
  · have h2 : 1152921504606846976 ≤ v := by omega
    simp [k_guard, hlp, error_r hb hi, hp, h1, h2, fin66]

theorem near_q (hr : QD h f q p c P m sb b) (hi : b.inb x y) : Ret tab 127 [ptr q, .int .i64 x, .int .i64 y] h R = R (.int .i64 (nbH b x y + nbV b x y P.cz + nbD b x y P.cz : Nat)) h := by
  have hq := hr.frz.blk
  have hlq := blk?_lt hr.blk
  obtain ⟨n1, n2, n3⟩ := nb_le b x y P.cz
  have s1 : IntKind.i64.wrap ((nbH b x y : Int) + (nbV b x y P.cz : Int)) = ((nbH b x y + nbV b x y P.cz : Nat) : Int) := wrapNN (by omega)
  have s2 : IntKind.i64.wrap (((nbH b x y + nbV b x y P.cz : Nat) : Int) + (nbD b x y P.cz : Int)) = ((nbH b x y + nbV b x y P.cz + nbD b x y P.cz : Nat) : Int) := wrapNN (by omega)
  rw [enter127, B127]
  simp [-Int.natCast_add, hq, hlq, neighbors_r hr.frz.cb hi, s1, s2, fin127]
theorem quiet_loop_q (hr : QD h true q p c P m sb b) {x : Int} (hx : 0 ≤ x ∧ x < b.w) {top : Int} (ht : 0 ≤ top ∧ top + 4 ≤ b.h) {k : List RItem} {R : Value → Heap → Prop} {v3 v8 : Value}
    (hk : ∀ K4 K5 K6 K7 K9 Ka Kb Kc Kd Ke Kf Kg Kh Ki Kj Kk Kl Km Kn Ko Kp Kq Kr Ks Kt Ku Kv Kw Kx Ky Kz J0 J1 J2 J3 J4 J5 J6 J7 J8 J9 Ja Jb Jc Jd Je Jf : Value, Ok tab R131 k #[ptr q,.int .i64 x,.int .i64 top,v3,K4,K5,K6,K7,v8,K9,Ka,Kb,Kc,Kd,Ke,Kf,Kg,Kh,Ki,Kj,Kk,Kl,Km,Kn,Ko,Kp,Kq,Kr,Ks,Kt,Ku,Kv,Kw,Kx,Ky,Kz,J0,J1,J2,J3,J4,J5,J6,J7,J8,J9,Ja,Jb,Jc,Jd,Je,Jf] h R = R (.bool true) h) :
    ∀ (n i : Nat) (K4 K5 K6 K7 Ka Kb Kc Kd Ke Kf Kg Kh Ki Kj Kk Kl Km Kn Ko Kp Kq Kr Ks Kt Ku Kv Kw Kx Ky Kz J0 J1 J2 J3 J4 J5 J6 J7 J8 J9 Ja Jb Jc Jd Je Jf : Value), i + n = 4 →
      Ok tab R131 (.inLoop L131_0 :: .inBlock 0 :: k) #[ptr q,.int .i64 x,.int .i64 top,v3,K4,K5,K6,K7,v8,.int .i64 i,Ka,Kb,Kc,Kd,Ke,Kf,Kg,Kh,Ki,Kj,Kk,Kl,Km,Kn,Ko,Kp,Kq,Kr,Ks,Kt,Ku,Kv,Kw,Kx,Ky,Kz,J0,J1,J2,J3,J4,J5,J6,J7,J8,J9,Ja,Jb,Jc,Jd,Je,Jf] h R = R (.bool (quietFrom b x (top + i) P.cz n)) h := by
  intro n
  induction n with
  | zero =>
    intro i K4 K5 K6 K7 Ka Kb Kc Kd Ke Kf Kg Kh Ki Kj Kk Kl Km Kn Ko Kp Kq Kr Ks Kt Ku Kv Kw Kx Ky Kz J0 J1 J2 J3 J4 J5 J6 J7 J8 J9 Ja Jb Jc Jd Je Jf hi
    obtain rfl : i = 4 := by omega
    rw [ok_round, l131_0, L131_0a, L131_0b]
    simp [hk, quietFrom]
  | succ n ih =>
    intro i K4 K5 K6 K7 Ka Kb Kc Kd Ke Kf Kg Kh Ki Kj Kk Kl Km Kn Ko Kp Kq Kr Ks Kt Ku Kv Kw Kx Ky Kz J0 J1 J2 J3 J4 J5 J6 J7 J8 J9 Ja Jb Jc Jd Je Jf hi
    have hb2 := hr.cb.ok.h2
    have hw1 : IntKind.i64.wrap ((i : Int) + 1) = ((i + 1 : Nat) : Int) := wrapN (n := i + 1) (by omega)
    have hw2 : IntKind.i64.wrap (top + (i : Int)) = top + (i : Int) := wrapI (by omega) (by omega)
    have hlt : (i : Int) < 4 := by omega
    have hi' : b.inb x (top + i) := ⟨hx.1, hx.2, by omega, by show top + (i : Int) < b.h; omega⟩
    have hq := hr.blk
    have ih' := fun K4 K5 K6 K7 Ka Kb Kc Kd Ke Kf Kg Kh Ki Kj Kk Kl Km Kn Ko Kp Kq Kr Ks Kt Ku Kv Kw Kx Ky Kz J0 J1 J2 J3 J4 J5 J6 J7 J8 J9 Ja Jb Jc Jd Je Jf => ih (i + 1) K4 K5 K6 K7 Ka Kb Kc Kd Ke Kf Kg Kh Ki Kj Kk Kl Km Kn Ko Kp Kq Kr Ks Kt Ku Kv Kw Kx Ky Kz J0 J1 J2 J3 J4 J5 J6 J7 J8 J9 Ja Jb Jc Jd Je Jf (by omega)
    have hnp : decide (0 < nbH b x (top + i) + nbV b x (top + i) P.cz + nbD b x (top + i) P.cz) = near b x (top + i) P.cz := rfl
    have hyy : top + ((i + 1 : Nat) : Int) = top + (i : Int) + 1 := by omega
    rw [ok_round, l131_0, L131_0a, L131_0b]
    cases hs : (b.get x (top + i)).s
    · cases ht : (b.get x (top + i)).t
      · cases hn : near b x (top + i) P.cz
        · rw [hn] at hnp
          simp [-Int.natCast_add, k_guard, hw1, hw2, hlt, hq, significant_r hr.cb, touched_r hr.cb, near_q hr hi', hs, ht, hn, hnp, ih', hyy, quietFrom, still]
        · rw [hn] at hnp
          simp [-Int.natCast_add, k_guard, hw1, hw2, hlt, hq, significant_r hr.cb, touched_r hr.cb, near_q hr hi', hs, ht, hn, hnp, quietFrom, still, fin131]
      · simp [-Int.natCast_add, k_guard, k_guardU, hw1, hw2, hlt, hq, significant_r hr.cb, touched_r hr.cb, hs, ht, quietFrom, still, fin131]
    · simp [-Int.natCast_add, k_guard, k_guardU, hw1, hw2, hlt, hq, significant_r hr.cb, hs, quietFrom, still, fin131]

theorem quiet_q (hr : QD h f q p c P m sb b) {x y : Int} (hi : b.inb x y) : Ret tab 131 [ptr q, .int .i64 x, .int .i64 y, .int .i64 b.h] h R = R (.bool (quietQ b x y P.cz)) h := by
  have hq := hr.frz.blk
  have hlq := blk?_lt hr.blk
  obtain ⟨i1, i2, i3, i4⟩ := hi
  have hb2 := hr.cb.ok.h2
  have hw : IntKind.i64.wrap (y + 4) = y + 4 := wrapI (by omega) (by omega)
  have hm := tmod4 i3
  rw [enter131, B131]
  by_cases hy : y % 4 = 0
  · by_cases h4 : y + 4 ≤ b.h
    · have h4' : ¬ (b.h : Int) < y + 4 := by omega
      have := fun K4 K5 K6 K7 Ka Kb Kc Kd Ke Kf Kg Kh Ki Kj Kk Kl Km Kn Ko Kp Kq Kr Ks Kt Ku Kv Kw Kx Ky Kz J0 J1 J2 J3 J4 J5 J6 J7 J8 J9 Ja Jb Jc Jd Je Jf v3 v8 R hk => quiet_loop_q (R := R) (v3 := v3) (v8 := v8) hr.frz ⟨i1, i2⟩ (top := y) ⟨i3, h4⟩ (k := [.code ((RCode.region [⟨some 8, .mov (.const (.bool true)), none⟩] []).seq .ret)]) hk 4 0 K4 K5 K6 K7 Ka Kb Kc Kd Ke Kf Kg Kh Ki Kj Kk Kl Km Kn Ko Kp Kq Kr Ks Kt Ku Kv Kw Kx Ky Kz J0 J1 J2 J3 J4 J5 J6 J7 J8 J9 Ja Jb Jc Jd Je Jf (by omega)
      simp at this
      simp [k_guard, hq, hlq, hw, hm, hy, h4']
      rw [this]
      · simp [quietQ, quiet, h4, hy]
      · intro K4 K5 K6 K7 K9 Ka Kb Kc Kd Ke Kf Kg Kh Ki Kj Kk Kl Km Kn Ko Kp Kq Kr Ks Kt Ku Kv Kw Kx Ky Kz J0 J1 J2 J3 J4 J5 J6 J7 J8 J9 Ja Jb Jc Jd Je Jf
        simp [fin131]
    · have h4' : (b.h : Int) < y + 4 := by omega
      simp [k_guard, hq, hlq, hw, hm, hy, h4', quietQ, quiet, h4, fin131]
  · have hy' : (y % 4 != 0) = true := by simp [hy]
    simp [k_guard, k_guardU, hq, hlq, hm, hy', quietQ, hy, fin131]
end

/-- A pass in progress. -/
structure PQ {c sb : Nat} (A : Src c (callN sb)) (h : Heap) (q p : Nat) (P : PP) (m : MD) (t : A.T) (b : BS) (s : A.S) : Prop where
  qr : QD h false q p c P m sb b
  rel : A.rel h t s
  n1 : c ≠ q ∧ c ≠ p
  n3 : ¬ A.own t q ∧ ¬ A.own t p

section
variable {c sb : Nat} {A : Src c (callN sb)} {h : Heap} {q p : Nat} {P : PP} {m : MD} {t : A.T} {b : BS} {s : A.S}

theorem PQ.lts (he : PQ A h q p P m t b s) : q < h.length ∧ p < h.length ∧ c < h.length := ⟨blk?_lt he.qr.blk, blk?_lt he.qr.cb.blkp, blk?_lt he.qr.cb.blkc⟩
theorem PQ.good (he : PQ A h q p P m t b s) : b.Good := ⟨he.qr.cb.ok, he.qr.rng⟩
theorem PQ.low (he : PQ A h q p P m t b s) {h' : Heap} (hk : ∀ id, id < h.length → blk? h' id = blk? h id) (hl : h.length ≤ h'.length) : PQ A h' q p P m t b s := by
  obtain ⟨l1, l2, l3⟩ := he.lts
  refine ⟨he.qr.keep (fun id hid => hk id ?_) hl, A.stable he.rel hl (fun id h1 _ => hk id h1), he.n1, he.n3⟩
  rcases hid with rfl | rfl | rfl <;> assumption
theorem PQ.push (he : PQ A h q p P m t b s) (x : Option Blk) : PQ A (h ++ [x]) q p P m t b s := he.low (fun id hid => blk?_push_lt hid) (by simp)
/-- The block is changed. -/
theorem PQ.to (he : PQ A h q p P m t b s) {b' : BS} (hb : b.Le b') : PQ A (h.set c (some ⟨false, encC b'.cs⟩)) q p P m t b' s ∧ Stq h (h.set c (some ⟨false, encC b'.cs⟩)) c (A.own t) (A.own t) := by
  obtain ⟨l1, l2, l3⟩ := he.lts
  obtain ⟨m1, m2⟩ := he.n1
  refine ⟨⟨⟨?_, he.qr.cb.set hb.w hb.h hb.good.ok, by have := he.qr.sbl; simpa using this, he.qr.pok, hb.good.rng⟩, A.stable he.rel (by simp) (fun id _ hc => blk?_set_ne (Ne.symm hc)), he.n1, he.n3⟩, Stq.setc _ _ _ _⟩
  rw [blk?_set_ne m1]; exact he.qr.blk

/-- A question. -/
theorem ask_q (he : PQ A h q p P m t b s) (hn : A.size s < 1000000) (ctx : Int) :
    ∃ t' h', (∀ R, Ret tab 129 [ptr q, .int .i64 ctx] h R = R (.int .i64 ((A.ask s (P.cx ctx)).1.toNat : Nat)) h') ∧ PQ A h' q p P m t' b (A.ask s (P.cx ctx)).2 ∧ Stq h h' c (A.own t) (A.own t') := by
  obtain ⟨l1, l2, l3⟩ := he.lts
  obtain ⟨n1, n2⟩ := he.n3
  obtain ⟨t', h', v, e, hv, hr, st⟩ := A.step he.rel hn (P.cx ctx)
  have hfr : ∀ id, id < h.length → ¬ A.own t id → ¬ A.own t' id := fun id hid hno ho => by
    rcases st.fresh id ho with k | k
    · exact hno k
    · omega
  refine ⟨t', h', fun R => ?_, ⟨he.qr.keep (fun id hid => ?_) st.len, hr, he.n1, hfr _ l1 n1, hfr _ l2 n2⟩, st.q c⟩
  · have hpq := he.qr.blk
    unfold callN at e
    rw [enter129, B129]
    generalize (A.ask s (P.cx ctx)).1 = bit at hv
    unfold PP.cx at e
    cases hrw : P.rw
    · rw [hrw] at e hpq
      simp only [Bool.false_eq_true, if_false] at e
      cases bit <;> simp [hpq, e, hv, fin129]
    · rw [hrw] at e hpq
      simp only [if_true] at e
      cases bit <;> simp [hpq, e, hv, fin129]
  · rcases hid with rfl | rfl | rfl
    · exact st.same _ l1 n1
    · exact st.same _ l2 n2
    · exact st.same _ l3 (A.c_own he.rel)

/-- The sign of a coefficient. -/
theorem sign_q (he : PQ A h q p P m t b s) (hn : A.size s < 1000000) {x y : Int} (hi : b.inb x y) :
    ∃ t' h', (∀ R, Ret tab 163 [ptr q, .int .i64 x, .int .i64 y] h R = R (.tuple #[]) h') ∧ PQ A h' q p P m t' ((dsign P b x y).run A.ask s).1 ((dsign P b x y).run A.ask s).2 ∧ Stq h h' c (A.own t) (A.own t') := by
  obtain ⟨t1, h1, e1, p1, s1⟩ := ask_q he hn (signCtx (sgH b x y) (sgV b x y P.cz))
  rw [dsign, Tr.run_ask, Tr.run_ret]
  generalize hbit : (A.ask s (P.cx (signCtx (sgH b x y) (sgV b x y P.cz)))).1 = bit at *
  generalize (A.ask s (P.cx (signCtx (sgH b x y) (sgV b x y P.cz)))).2 = s' at *
  have hg := he.good
  have hdv := dval_rng he.qr.pok b x y bit
  have g1 := good_putV hg hi hdv
  obtain ⟨p2, s2⟩ := p1.to g1
  have g2 := good_map g1.good (g1.inb hi) kv_mark
  obtain ⟨p3, s3⟩ := p2.to g2
  refine ⟨t1, _, fun R => ?_, p3, (s1.trans s2).trans s3⟩
  have hq := he.qr.blk
  have hq1 := p1.qr.blk
  have hq2 := p2.qr.blk
  have hsc := fun R => set_r (R := R) p1.qr.cb (x := x) (y := y) hi hdv
  have hm := fun R => mark_r (R := R) p2.qr.cb (x := x) (y := y) (g1.inb hi)
  have hc := fun R => ctxSign_r (h := h) (R := R) (joint_range (sgn b (x - 1) y) (sgn b (x + 1) y)) (joint_range (sgn b x (y - 1)) (if (!P.cz || y % 4 != 3) = true then sgn b x (y + 1) else 0))
  change ∀ R, Ret tab _ [.int .i64 (sgH b x y), .int .i64 (sgV b x y P.cz)] h R = R (.tuple #[.int .i64 (signCtx (sgH b x y) (sgV b x y P.cz)), .int .i64 (signFlip (sgH b x y) (sgV b x y P.cz))]) h at hc
  have hs := fun R => signs_r (R := R) he.qr.cb hi P.cz
  have hmm : (fun z : Cell => ({ z with s := true } : Cell)) = mark := rfl
  have hvv : (fun z : Cell => ({ z with v := dval P b x y bit } : Cell)) = putV (dval P b x y bit) := rfl
  rw [hmm] at hm
  rw [hvv] at hsc
  have hsh := shl1 he.qr.pok.s1
  have hwu : IntKind.u64.wrap (P.s : Int) = (P.s : Int) := wrapU (by have := he.qr.pok.s1; omega)
  have hs0 : ¬ (P.s : Int) < 0 := by omega
  have hpw := pw_le he.qr.pok.s1
  have hpp := pw_pos P.s
  have hneg : IntKind.i64.wrap (0 - pw P.s) = -pw P.s := by rw [wrapI (by omega) (by omega)]; omega
  have hneg2 : IntKind.i64.wrap (-pw P.s) = -pw P.s := wrapI (by omega) (by omega)
  have hfl := signFlip_le (sgH b x y) (sgV b x y P.cz)
  have hdd : dval P b x y bit = if (bit != (!P.rw && signFlip (sgH b x y) (sgV b x y P.cz) == 1)) = true then -pw P.s else pw P.s := rfl
  rw [enter163, B163]
  generalize dval P b x y bit = dv at *
  generalize sgH b x y = H at *
  generalize sgV b x y P.cz = V at *
  generalize pw P.s = pp at *
  have hf' : signFlip H V = 0 ∨ signFlip H V = 1 := by omega
  cases hrw : P.rw
  · rw [hrw] at hq hq1 hq2 hdd
    rcases hf' with hf | hf
    all_goals
      rw [hf] at hc hdd
      cases bit
      all_goals
        simp at hdd e1 hc
        subst hdd
        simp [hq, hq1, hq2, hs, hc, hwu, hs0, hsh, e1, xor00, xor01', xor10, xor11, hneg, hneg2, hsc, hm, fin163]
  · rw [hrw] at hq hq1 hq2 hdd
    cases bit
    all_goals
      simp at hdd e1 hc
      subst hdd
      simp [hq, hq1, hq2, hs, hc, hwu, hs0, hsh, e1, xor00, xor01', xor10, xor11, hneg, hneg2, hsc, hm, fin163]

/-- The bit of a coefficient, and its sign. -/
theorem code_q (he : PQ A h q p P m t b s) (hn : A.size s + 2 < 1000000) {x y : Int} (hi : b.inb x y) :
    ∃ t' h', (∀ R, Ret tab 128 [ptr q, .int .i64 x, .int .i64 y] h R = R (.tuple #[]) h') ∧ PQ A h' q p P m t' ((dcode P b x y).run A.ask s).1 ((dcode P b x y).run A.ask s).2 ∧ Stq h h' c (A.own t) (A.own t') := by
  obtain ⟨t1, h1, e1, p1, s1⟩ := ask_q he (by omega) (ctxOf P b x y)
  have hsz := A.size_ask s (P.cx (ctxOf P b x y))
  rw [dcode, Tr.run_ask]
  generalize (A.ask s (P.cx (ctxOf P b x y))).1 = bit at *
  generalize (A.ask s (P.cx (ctxOf P b x y))).2 = s' at *
  have hq := he.qr.blk
  have hq1 := p1.qr.blk
  obtain ⟨n1, n2, n3⟩ := nb_le b x y P.cz
  have hnb := fun R => neighbors_r (R := R) he.qr.cb hi P.cz
  have hsg := fun R => significance_r (h := h) (R := R) he.qr.pok.o1 n1 n2 n3
  change ∀ R, Ret tab _ _ h R = R (.int .i64 (ctxOf P b x y)) h at hsg
  cases bit
  · refine ⟨t1, h1, fun R => ?_, p1, s1⟩
    simp at e1
    rw [enter128, B128]
    simp [hq, hq1, hnb, hsg, e1, fin128, book, logOf, addLog, chk1, lookL, reload]
  · obtain ⟨t2, h2, e2, p2, s2⟩ := sign_q p1 (by omega) hi
    refine ⟨t2, h2, fun R => ?_, p2, s1.trans s2⟩
    simp at e1
    rw [enter128, B128]
    simp [hq, hq1, hnb, hsg, e1, e2, fin128, book, logOf, addLog, chk1, lookL, reload]
end
section
variable {c sb : Nat} {A : Src c (callN sb)} {h : Heap} {q p : Nat} {P : PP} {m : MD} {t : A.T} {b : BS} {s : A.S}

theorem dsig_loop_q {sl v1 : Value} {pts : List (Int × Int)} {k : List RItem} {R : Value → Heap → Prop} :
    ∀ (n i : Nat) (h : Heap) (t : A.T) (b : BS) (s : A.S) (K2 K3 K4 K5 K9 Ka Kb Kc Kd Ke Kf Kg Kh Ki Kj Kk Kl Km Kn Ko Kp Kq Kr Ks Kt Ku Kv Kw Kx Ky Kz J0 J1 J2 J3 J4 J5 J6 J7 J8 J9 Ja : Value), n = pts.length - i → i ≤ pts.length → PQ A h q p P m t b s → Fad h sl pts c (A.own t) → AllIn b pts → A.size s + 2 * n + 3 < 1000000 → pts.length < 1000000 →
      (∀ (h' : Heap) (t' : A.T) (K1 K2 K3 K4 K5 K6 K7 K8 K9 Ka Kb Kc Kd Ke Kf Kg Kh Ki Kj Kk Kl Km Kn Ko Kp Kq Kr Ks Kt Ku Kv Kw Kx Ky Kz J0 J1 J2 J3 J4 J5 J6 J7 J8 J9 Ja : Value), PQ A h' q p P m t' ((dsigs P b (pts.drop i)).run A.ask s).1 ((dsigs P b (pts.drop i)).run A.ask s).2 → Stq h h' c (A.own t) (A.own t') → Ok tab R83 k #[ptr q,K1,K2,K3,K4,K5,K6,K7,K8,K9,Ka,Kb,Kc,Kd,Ke,Kf,Kg,Kh,Ki,Kj,Kk,Kl,Km,Kn,Ko,Kp,Kq,Kr,Ks,Kt,Ku,Kv,Kw,Kx,Ky,Kz,J0,J1,J2,J3,J4,J5,J6,J7,J8,J9,Ja] h' R) →
      Ok tab R83 (.inLoop L83_0 :: .inBlock 0 :: k) #[ptr q,v1,K2,K3,K4,K5,sl,.int .i64 pts.length,.int .i64 i,K9,Ka,Kb,Kc,Kd,Ke,Kf,Kg,Kh,Ki,Kj,Kk,Kl,Km,Kn,Ko,Kp,Kq,Kr,Ks,Kt,Ku,Kv,Kw,Kx,Ky,Kz,J0,J1,J2,J3,J4,J5,J6,J7,J8,J9,Ja] h R := by
  intro n
  induction n with
  | zero =>
    intro i h t b s K2 K3 K4 K5 K9 Ka Kb Kc Kd Ke Kf Kg Kh Ki Kj Kk Kl Km Kn Ko Kp Kq Kr Ks Kt Ku Kv Kw Kx Ky Kz J0 J1 J2 J3 J4 J5 J6 J7 J8 J9 Ja hm hi he hf ha hl hpl hk
    have hlt : ¬ ((i : Int) < pts.length) := by omega
    rw [ok_round, l83_0, L83_0a, L83_0b]
    simp [hlt]
    refine hk h t _ _ _ _ _ _ _ _ _ _ _ _ _ _ _ _ _ _ _ _ _ _ _ _ _ _ _ _ _ _ _ _ _ _ _ _ _ _ _ _ _ _ _ _ _ _ ?_ (Stq.refl _ _ _)
    rw [List.drop_of_length_le (by omega)]; exact he
  | succ n ih =>
    intro i h t b s K2 K3 K4 K5 K9 Ka Kb Kc Kd Ke Kf Kg Kh Ki Kj Kk Kl Km Kn Ko Kp Kq Kr Ks Kt Ku Kv Kw Kx Ky Kz J0 J1 J2 J3 J4 J5 J6 J7 J8 J9 Ja hm hi he hf ha hl hpl hk
    have hlt : ((i : Int) < pts.length) := by omega
    have hw : IntKind.i64.wrap ((i : Int) + 1) = (i : Int) + 1 := wrapN (n := i + 1) (by omega)
    have hil : i < pts.length := by omega
    obtain ⟨id, off, blk, hs, hb, ht, hle⟩ := hf.get hil
    have hin := ha _ (List.getElem_mem hil)
    have hsp : dsigs P b (pts.drop i) = (dsig1 P b pts[i].1 pts[i].2).bind fun b => dsigs P b (pts.drop (i + 1)) := by
      rw [List.drop_eq_getElem_cons hil]; rfl
    have hlv := lv_dsig1 he.qr.pok he.good hin
    obtain ⟨hle1, hsz1⟩ := Tr.Lv.out (A := A.ask) (size := A.size) A.size_ask s hlv
    generalize hx : pts[i].1 = x at *
    generalize hy : pts[i].2 = y at *
    rw [hsp] at hk
    simp only [Tr.run_bind] at hk
    have he2 := he.push (some ⟨false, [.int .i64 x, .int .i64 y]⟩)
    have hs2 := Stq.push h (some ⟨false, [.int .i64 x, .int .i64 y]⟩) c (A.own t)
    have hf2 := hf.stq hs2
    have hK : ∀ y : Blk, blk? (h ++ [some y]) h.length = some y := fun y => blk?_push_eq
    obtain ⟨l1, l2, l3⟩ := he.lts
    have hq2 := he2.qr.blk
    have hcb2 := he2.qr.cb
    have hsig := fun R => significant_r (R := R) (x := x) (y := y) hcb2
    have hnb := fun R => near_q (R := R) (x := x) (y := y) he2.qr hin
    have hnp : decide (0 < nbH b x y + nbV b x y P.cz + nbD b x y P.cz) = near b x y P.cz := rfl
    -- nothing is asked
    have hskip : dsig1 P b x y = .ret b → ∀ K2 K3 K4 K5 K9 Ka Kb Kc Kd Ke Kf Kg Kh Ki Kj Kk Kl Km Kn Ko Kp Kq Kr Ks Kt Ku Kv Kw Kx Ky Kz J0 J1 J2 J3 J4 J5 J6 J7 J8 J9 Ja : Value, Ok tab R83 (.inLoop L83_0 :: .inBlock 0 :: k) #[ptr q,v1,K2,K3,K4,K5,sl,.int .i64 pts.length,.int .i64 ((i : Int) + 1),K9,Ka,Kb,Kc,Kd,Ke,Kf,Kg,Kh,Ki,Kj,Kk,Kl,Km,Kn,Ko,Kp,Kq,Kr,Ks,Kt,Ku,Kv,Kw,Kx,Ky,Kz,J0,J1,J2,J3,J4,J5,J6,J7,J8,J9,Ja] (h ++ [some ⟨false, [.int .i64 x, .int .i64 y]⟩]) R := by
      intro h1 K2 K3 K4 K5 K9 Ka Kb Kc Kd Ke Kf Kg Kh Ki Kj Kk Kl Km Kn Ko Kp Kq Kr Ks Kt Ku Kv Kw Kx Ky Kz J0 J1 J2 J3 J4 J5 J6 J7 J8 J9 Ja
      rw [h1] at hk
      refine ih (i + 1) _ t b s _ _ _ _ _ _ _ _ _ _ _ _ _ _ _ _ _ _ _ _ _ _ _ _ _ _ _ _ _ _ _ _ _ _ _ _ _ _ _ _ _ _ (by omega) (by omega) he2 hf2 ha (by omega) hpl ?_
      intro h' t' K1 K2 K3 K4 K5 K6 K7 K8 K9 Ka Kb Kc Kd Ke Kf Kg Kh Ki Kj Kk Kl Km Kn Ko Kp Kq Kr Ks Kt Ku Kv Kw Kx Ky Kz J0 J1 J2 J3 J4 J5 J6 J7 J8 J9 Ja pe st
      exact hk h' t' _ _ _ _ _ _ _ _ _ _ _ _ _ _ _ _ _ _ _ _ _ _ _ _ _ _ _ _ _ _ _ _ _ _ _ _ _ _ _ _ _ _ _ _ _ _ pe (hs2.trans st)
    rw [ok_round, l83_0, L83_0a, L83_0b]
    cases hsg : (b.get x y).s
    · cases hnr : near b x y P.cz
      · have h1 : dsig1 P b x y = .ret b := by unfold dsig1; rw [if_neg (by simp [hnr])]
        rw [hsg] at hsig; rw [hnr] at hnp
        simp [-Int.natCast_add, -List.cons_append, -List.append_assoc, k_guard, hlt, hw, hs, hb, ht, hle, hK, hq2, hsig, hnb, hnp]
        rw [← hs]
        exact hskip h1 _ _ _ _ _ _ _ _ _ _ _ _ _ _ _ _ _ _ _ _ _ _ _ _ _ _ _ _ _ _ _ _ _ _ _ _ _ _ _ _ _ _
      · obtain ⟨t3, h3, e3, p3, s3⟩ := code_q he2 (by omega) hin
        obtain ⟨hc1, hc2⟩ := Tr.Lv.out (A := A.ask) (size := A.size) A.size_ask s (lv_dcode he.qr.pok he.good hin)
        have h1 : dsig1 P b x y = (dcode P b x y).bind fun b => .ret (b.upd x y (touch true)) := by unfold dsig1; rw [if_pos ⟨hsg, hnr⟩]
        rw [h1] at hk hle1 hsz1
        simp only [Tr.run_bind, Tr.run_ret] at hk hle1 hsz1
        generalize ((dcode P b x y).run A.ask s).1 = b3 at *
        generalize ((dcode P b x y).run A.ask s).2 = s3' at *
        have hq3 := p3.qr.blk
        have hv3 : blk? h3 h.length = some ⟨false, [.int .i64 x, .int .i64 y]⟩ := by
          rw [s3.same h.length (by simp) (by omega) (fun e => by have := A.lt he.rel _ e; omega)]; exact blk?_push_eq
        have htc := fun R => touch_r (R := R) (v := true) p3.qr.cb (x := x) (y := y) (hc1.inb hin)
        obtain ⟨p4, s4⟩ := p3.to (good_map hc1.good (hc1.inb hin) (kv_touch true))
        have hmm : (fun z : Cell => ({ z with t := true } : Cell)) = touch true := rfl
        rw [hmm] at htc
        rw [hsg] at hsig; rw [hnr] at hnp
        simp [-Int.natCast_add, -List.cons_append, -List.append_assoc, k_guard, hlt, hw, hs, hb, ht, hle, hK, hq2, hsig, hnb, hnp, e3, hq3, hv3, htc]
        rw [← hs]
        have st4 := (hs2.trans s3).trans s4
        refine ih (i + 1) _ t3 _ _ _ _ _ _ _ _ _ _ _ _ _ _ _ _ _ _ _ _ _ _ _ _ _ _ _ _ _ _ _ _ _ _ _ _ _ _ _ _ _ _ _ _ (by omega) (by omega) p4 (hf.stq st4) (hle1.all ha) (by omega) hpl ?_
        intro h' t' K1 K2 K3 K4 K5 K6 K7 K8 K9 Ka Kb Kc Kd Ke Kf Kg Kh Ki Kj Kk Kl Km Kn Ko Kp Kq Kr Ks Kt Ku Kv Kw Kx Ky Kz J0 J1 J2 J3 J4 J5 J6 J7 J8 J9 Ja pe st
        exact hk h' t' _ _ _ _ _ _ _ _ _ _ _ _ _ _ _ _ _ _ _ _ _ _ _ _ _ _ _ _ _ _ _ _ _ _ _ _ _ _ _ _ _ _ _ _ _ _ pe (st4.trans st)
    · have h1 : dsig1 P b x y = .ret b := by unfold dsig1; rw [if_neg (by simp [hsg])]
      rw [hsg] at hsig
      simp [-Int.natCast_add, -List.cons_append, -List.append_assoc, k_guard, hlt, hw, hs, hb, ht, hle, hK, hq2, hsig]
      rw [← hs]
      exact hskip h1 _ _ _ _ _ _ _ _ _ _ _ _ _ _ _ _ _ _ _ _ _ _ _ _ _ _ _ _ _ _ _ _ _ _ _ _ _ _ _ _ _ _

theorem significance_q (he : PQ A h q p P m t b s) (hl : A.size s + 100000 < 1000000) {sl : Value} (hf : Fad h sl (scan b.w b.h) c (A.own t)) :
    ∃ t' h', (∀ R, Ret tab 83 [ptr q, sl] h R = R (.tuple #[]) h') ∧ PQ A h' q p P m t' ((dsigs P b (scan b.w b.h)).run A.ask s).1 ((dsigs P b (scan b.w b.h)).run A.ask s).2 ∧ Stq h h' c (A.own t) (A.own t') := by
  have key : Ret tab 83 [ptr q, sl] h fun v h' => v = .tuple #[] ∧ ∃ t', PQ A h' q p P m t' ((dsigs P b (scan b.w b.h)).run A.ask s).1 ((dsigs P b (scan b.w b.h)).run A.ask s).2 ∧ Stq h h' c (A.own t) (A.own t') := by
    obtain ⟨a, cc, hs⟩ := hf.sl.shape
    have hsl := scan_len he.qr.cb.ok.w2 he.qr.cb.ok.h2
    rw [enter83, B83]
    simp [hs]
    rw [← hs]
    refine dsig_loop_q _ 0 h t b s _ _ _ _ _ _ _ _ _ _ _ _ _ _ _ _ _ _ _ _ _ _ _ _ _ _ _ _ _ _ _ _ _ _ _ _ _ _ _ _ _ _ rfl (by omega) he hf (scanIn b) (by omega) (by omega) ?_
    intro h' t' K1 K2 K3 K4 K5 K6 K7 K8 K9 Ka Kb Kc Kd Ke Kf Kg Kh Ki Kj Kk Kl Km Kn Ko Kp Kq Kr Ks Kt Ku Kv Kw Kx Ky Kz J0 J1 J2 J3 J4 J5 J6 J7 J8 J9 Ja pe st
    simp [fin83]
    exact ⟨t', by simpa using pe, st⟩
  obtain ⟨v, h', e, rfl, t', pe, st⟩ := ret_ex key
  exact ⟨t', h', e, pe, st⟩

/-- The value of a coefficient grows. -/
theorem grow_q (he : PQ A h q p P m t b s) {x y : Int} (hi : b.inb x y) :
    ∃ e h', (∀ R, Ret tab 66 [ptr p, .int .i64 x, .int .i64 y, .int .i64 (growV P.s (b.get x y).v)] h R = R (.int .i64 e) h') ∧ PQ A h' q p P m t (grow P.s b x y) s ∧ Stq h h' c (A.own t) (A.own t) ∧ ∀ id, id < h.length → id ≠ c → blk? h' id = blk? h id := by
  have hg := he.good
  have hvv : ∀ v, (fun z : Cell => ({ z with v := v } : Cell)) = putV v := fun v => rfl
  unfold grow
  by_cases hin : -1152921504606846976 < growV P.s (b.get x y).v ∧ growV P.s (b.get x y).v < 1152921504606846976
  · rw [if_pos hin]
    obtain ⟨p2, s2⟩ := he.to (good_putV hg hi hin)
    have hsc := fun R => set_r (R := R) he.qr.cb (x := x) (y := y) hi hin
    rw [hvv] at hsc
    exact ⟨0, _, hsc, p2, s2, fun id _ hc => blk?_set_ne (Ne.symm hc)⟩
  · rw [if_neg hin]
    obtain ⟨e, he'⟩ := set_bad_r he.qr.cb (x := x) (y := y) hi hin
    exact ⟨e, h, he', he, Stq.refl _ _ _, fun _ _ _ => rfl⟩

set_option maxRecDepth 10000 in
set_option maxHeartbeats 2000000 in
theorem dref_loop_q {sl v1 : Value} {pts : List (Int × Int)} {k : List RItem} {R : Value → Heap → Prop} :
    ∀ (n i : Nat) (h : Heap) (t : A.T) (b : BS) (s : A.S) (K2 K3 K4 K5 K6 Ka Kb Kc Kd Ke Kf Kg Kh Ki Kj Kk Kl Km Kn Ko Kp Kq Kr Ks Kt Ku Kv Kw Kx Ky Kz J0 J1 J2 J3 J4 J5 J6 J7 J8 J9 Ja Jb Jc Jd Je Jf Jg Jh Ji Jj Jk Jl Jm Jn Jo Jp Jq Jr Js Jt Ju Jv Jw Jx Jy Jz Y0 Y1 Y2 Y3 Y4 Y5 Y6 Y7 Y8 Y9 Ya Yb Yc Yd Ye Yf Yg Yh Yi Yj Yk Yl Ym Yn Yo Yp Yq Yr Ys Yt Yu Yv Yw Yx Yy Yz Z0 Z1 Z2 Z3 Z4 Z5 Z6 Z7 Z8 Z9 Za : Value), n = pts.length - i → i ≤ pts.length → PQ A h q p P m t b s → Fad h sl pts c (A.own t) → AllIn b pts → A.size s + 2 * n + 3 < 1000000 → pts.length < 1000000 →
      (∀ (h' : Heap) (t' : A.T) (K1 K2 K3 K4 K5 K6 K7 K8 K9 Ka Kb Kc Kd Ke Kf Kg Kh Ki Kj Kk Kl Km Kn Ko Kp Kq Kr Ks Kt Ku Kv Kw Kx Ky Kz J0 J1 J2 J3 J4 J5 J6 J7 J8 J9 Ja Jb Jc Jd Je Jf Jg Jh Ji Jj Jk Jl Jm Jn Jo Jp Jq Jr Js Jt Ju Jv Jw Jx Jy Jz Y0 Y1 Y2 Y3 Y4 Y5 Y6 Y7 Y8 Y9 Ya Yb Yc Yd Ye Yf Yg Yh Yi Yj Yk Yl Ym Yn Yo Yp Yq Yr Ys Yt Yu Yv Yw Yx Yy Yz Z0 Z1 Z2 Z3 Z4 Z5 Z6 Z7 Z8 Z9 Za : Value), PQ A h' q p P m t' ((drefs P b (pts.drop i)).run A.ask s).1 ((drefs P b (pts.drop i)).run A.ask s).2 → Stq h h' c (A.own t) (A.own t') → Ok tab R84 k #[ptr q,K1,K2,K3,K4,K5,K6,K7,K8,K9,Ka,Kb,Kc,Kd,Ke,Kf,Kg,Kh,Ki,Kj,Kk,Kl,Km,Kn,Ko,Kp,Kq,Kr,Ks,Kt,Ku,Kv,Kw,Kx,Ky,Kz,J0,J1,J2,J3,J4,J5,J6,J7,J8,J9,Ja,Jb,Jc,Jd,Je,Jf,Jg,Jh,Ji,Jj,Jk,Jl,Jm,Jn,Jo,Jp,Jq,Jr,Js,Jt,Ju,Jv,Jw,Jx,Jy,Jz,Y0,Y1,Y2,Y3,Y4,Y5,Y6,Y7,Y8,Y9,Ya,Yb,Yc,Yd,Ye,Yf,Yg,Yh,Yi,Yj,Yk,Yl,Ym,Yn,Yo,Yp,Yq,Yr,Ys,Yt,Yu,Yv,Yw,Yx,Yy,Yz,Z0,Z1,Z2,Z3,Z4,Z5,Z6,Z7,Z8,Z9,Za] h' R) →
      Ok tab R84 (.inLoop L84_0 :: .inBlock 0 :: k) #[ptr q,v1,K2,K3,K4,K5,K6,sl,.int .i64 pts.length,.int .i64 i,Ka,Kb,Kc,Kd,Ke,Kf,Kg,Kh,Ki,Kj,Kk,Kl,Km,Kn,Ko,Kp,Kq,Kr,Ks,Kt,Ku,Kv,Kw,Kx,Ky,Kz,J0,J1,J2,J3,J4,J5,J6,J7,J8,J9,Ja,Jb,Jc,Jd,Je,Jf,Jg,Jh,Ji,Jj,Jk,Jl,Jm,Jn,Jo,Jp,Jq,Jr,Js,Jt,Ju,Jv,Jw,Jx,Jy,Jz,Y0,Y1,Y2,Y3,Y4,Y5,Y6,Y7,Y8,Y9,Ya,Yb,Yc,Yd,Ye,Yf,Yg,Yh,Yi,Yj,Yk,Yl,Ym,Yn,Yo,Yp,Yq,Yr,Ys,Yt,Yu,Yv,Yw,Yx,Yy,Yz,Z0,Z1,Z2,Z3,Z4,Z5,Z6,Z7,Z8,Z9,Za] h R := by
  intro n
  induction n with
  | zero =>
    intro i h t b s K2 K3 K4 K5 K6 Ka Kb Kc Kd Ke Kf Kg Kh Ki Kj Kk Kl Km Kn Ko Kp Kq Kr Ks Kt Ku Kv Kw Kx Ky Kz J0 J1 J2 J3 J4 J5 J6 J7 J8 J9 Ja Jb Jc Jd Je Jf Jg Jh Ji Jj Jk Jl Jm Jn Jo Jp Jq Jr Js Jt Ju Jv Jw Jx Jy Jz Y0 Y1 Y2 Y3 Y4 Y5 Y6 Y7 Y8 Y9 Ya Yb Yc Yd Ye Yf Yg Yh Yi Yj Yk Yl Ym Yn Yo Yp Yq Yr Ys Yt Yu Yv Yw Yx Yy Yz Z0 Z1 Z2 Z3 Z4 Z5 Z6 Z7 Z8 Z9 Za hm hi he hf ha hl hpl hk
    have hlt : ¬ ((i : Int) < pts.length) := by omega
    rw [ok_round, l84_0, L84_0a, L84_0b]
    simp [hlt]
    refine hk h t _ _ _ _ _ _ _ _ _ _ _ _ _ _ _ _ _ _ _ _ _ _ _ _ _ _ _ _ _ _ _ _ _ _ _ _ _ _ _ _ _ _ _ _ _ _ _ _ _ _ _ _ _ _ _ _ _ _ _ _ _ _ _ _ _ _ _ _ _ _ _ _ _ _ _ _ _ _ _ _ _ _ _ _ _ _ _ _ _ _ _ _ _ _ _ _ _ _ _ _ _ _ _ _ _ _ _ _ _ _ _ _ _ _ _ _ _ _ ?_ (Stq.refl _ _ _)
    rw [List.drop_of_length_le (by omega)]; exact he
  | succ n ih =>
    intro i h t b s K2 K3 K4 K5 K6 Ka Kb Kc Kd Ke Kf Kg Kh Ki Kj Kk Kl Km Kn Ko Kp Kq Kr Ks Kt Ku Kv Kw Kx Ky Kz J0 J1 J2 J3 J4 J5 J6 J7 J8 J9 Ja Jb Jc Jd Je Jf Jg Jh Ji Jj Jk Jl Jm Jn Jo Jp Jq Jr Js Jt Ju Jv Jw Jx Jy Jz Y0 Y1 Y2 Y3 Y4 Y5 Y6 Y7 Y8 Y9 Ya Yb Yc Yd Ye Yf Yg Yh Yi Yj Yk Yl Ym Yn Yo Yp Yq Yr Ys Yt Yu Yv Yw Yx Yy Yz Z0 Z1 Z2 Z3 Z4 Z5 Z6 Z7 Z8 Z9 Za hm hi he hf ha hl hpl hk
    have hlt : ((i : Int) < pts.length) := by omega
    have hw : IntKind.i64.wrap ((i : Int) + 1) = (i : Int) + 1 := wrapN (n := i + 1) (by omega)
    have hil : i < pts.length := by omega
    obtain ⟨id, off, blk, hs, hb, ht, hle⟩ := hf.get hil
    have hin := ha _ (List.getElem_mem hil)
    have hsp : drefs P b (pts.drop i) = (dref1 P b pts[i].1 pts[i].2).bind fun b => drefs P b (pts.drop (i + 1)) := by
      rw [List.drop_eq_getElem_cons hil]; rfl
    obtain ⟨hle1, hsz1⟩ := Tr.Lv.out (A := A.ask) (size := A.size) A.size_ask s (lv_dref1 (P := P) he.good hin)
    generalize hx : pts[i].1 = x at *
    generalize hy : pts[i].2 = y at *
    rw [hsp] at hk
    simp only [Tr.run_bind] at hk
    have he2 := he.push (some ⟨false, [.int .i64 x, .int .i64 y]⟩)
    have hs2 := Stq.push h (some ⟨false, [.int .i64 x, .int .i64 y]⟩) c (A.own t)
    have hf2 := hf.stq hs2
    have hK : ∀ y : Blk, blk? (h ++ [some y]) h.length = some y := fun y => blk?_push_eq
    obtain ⟨l1, l2, l3⟩ := he.lts
    have hq2 := he2.qr.blk
    have hcb2 := he2.qr.cb
    have hsig := fun R => significant_r (R := R) (x := x) (y := y) hcb2
    have htch := fun R => touched_r (R := R) (x := x) (y := y) hcb2
    have hrfd := fun R => refined_r (R := R) (x := x) (y := y) hcb2
    have hnb := fun R => near_q (R := R) (x := x) (y := y) he2.qr hin
    have hcx := fun a b R => ctxRefine_r (h := h ++ [some (⟨false, [.int .i64 x, .int .i64 y]⟩ : Blk)]) (R := R) (a := a) (b := b)
    have hnp : decide (0 < nbH b x y + nbV b x y P.cz + nbD b x y P.cz) = near b x y P.cz := rfl
    -- nothing is asked
    have hskip : dref1 P b x y = .ret b → ∀ K2 K3 K4 K5 K6 Ka Kb Kc Kd Ke Kf Kg Kh Ki Kj Kk Kl Km Kn Ko Kp Kq Kr Ks Kt Ku Kv Kw Kx Ky Kz J0 J1 J2 J3 J4 J5 J6 J7 J8 J9 Ja Jb Jc Jd Je Jf Jg Jh Ji Jj Jk Jl Jm Jn Jo Jp Jq Jr Js Jt Ju Jv Jw Jx Jy Jz Y0 Y1 Y2 Y3 Y4 Y5 Y6 Y7 Y8 Y9 Ya Yb Yc Yd Ye Yf Yg Yh Yi Yj Yk Yl Ym Yn Yo Yp Yq Yr Ys Yt Yu Yv Yw Yx Yy Yz Z0 Z1 Z2 Z3 Z4 Z5 Z6 Z7 Z8 Z9 Za : Value, Ok tab R84 (.inLoop L84_0 :: .inBlock 0 :: k) #[ptr q,v1,K2,K3,K4,K5,K6,sl,.int .i64 pts.length,.int .i64 ((i : Int) + 1),Ka,Kb,Kc,Kd,Ke,Kf,Kg,Kh,Ki,Kj,Kk,Kl,Km,Kn,Ko,Kp,Kq,Kr,Ks,Kt,Ku,Kv,Kw,Kx,Ky,Kz,J0,J1,J2,J3,J4,J5,J6,J7,J8,J9,Ja,Jb,Jc,Jd,Je,Jf,Jg,Jh,Ji,Jj,Jk,Jl,Jm,Jn,Jo,Jp,Jq,Jr,Js,Jt,Ju,Jv,Jw,Jx,Jy,Jz,Y0,Y1,Y2,Y3,Y4,Y5,Y6,Y7,Y8,Y9,Ya,Yb,Yc,Yd,Ye,Yf,Yg,Yh,Yi,Yj,Yk,Yl,Ym,Yn,Yo,Yp,Yq,Yr,Ys,Yt,Yu,Yv,Yw,Yx,Yy,Yz,Z0,Z1,Z2,Z3,Z4,Z5,Z6,Z7,Z8,Z9,Za] (h ++ [some ⟨false, [.int .i64 x, .int .i64 y]⟩]) R := by
      intro h1 K2 K3 K4 K5 K6 Ka Kb Kc Kd Ke Kf Kg Kh Ki Kj Kk Kl Km Kn Ko Kp Kq Kr Ks Kt Ku Kv Kw Kx Ky Kz J0 J1 J2 J3 J4 J5 J6 J7 J8 J9 Ja Jb Jc Jd Je Jf Jg Jh Ji Jj Jk Jl Jm Jn Jo Jp Jq Jr Js Jt Ju Jv Jw Jx Jy Jz Y0 Y1 Y2 Y3 Y4 Y5 Y6 Y7 Y8 Y9 Ya Yb Yc Yd Ye Yf Yg Yh Yi Yj Yk Yl Ym Yn Yo Yp Yq Yr Ys Yt Yu Yv Yw Yx Yy Yz Z0 Z1 Z2 Z3 Z4 Z5 Z6 Z7 Z8 Z9 Za
      rw [h1] at hk
      refine ih (i + 1) _ t b s _ _ _ _ _ _ _ _ _ _ _ _ _ _ _ _ _ _ _ _ _ _ _ _ _ _ _ _ _ _ _ _ _ _ _ _ _ _ _ _ _ _ _ _ _ _ _ _ _ _ _ _ _ _ _ _ _ _ _ _ _ _ _ _ _ _ _ _ _ _ _ _ _ _ _ _ _ _ _ _ _ _ _ _ _ _ _ _ _ _ _ _ _ _ _ _ _ _ _ _ _ _ _ _ _ _ _ _ _ _ _ _ _ _ (by omega) (by omega) he2 hf2 ha (by omega) hpl ?_
      intro h' t' K1 K2 K3 K4 K5 K6 K7 K8 K9 Ka Kb Kc Kd Ke Kf Kg Kh Ki Kj Kk Kl Km Kn Ko Kp Kq Kr Ks Kt Ku Kv Kw Kx Ky Kz J0 J1 J2 J3 J4 J5 J6 J7 J8 J9 Ja Jb Jc Jd Je Jf Jg Jh Ji Jj Jk Jl Jm Jn Jo Jp Jq Jr Js Jt Ju Jv Jw Jx Jy Jz Y0 Y1 Y2 Y3 Y4 Y5 Y6 Y7 Y8 Y9 Ya Yb Yc Yd Ye Yf Yg Yh Yi Yj Yk Yl Ym Yn Yo Yp Yq Yr Ys Yt Yu Yv Yw Yx Yy Yz Z0 Z1 Z2 Z3 Z4 Z5 Z6 Z7 Z8 Z9 Za pe st
      exact hk h' t' _ _ _ _ _ _ _ _ _ _ _ _ _ _ _ _ _ _ _ _ _ _ _ _ _ _ _ _ _ _ _ _ _ _ _ _ _ _ _ _ _ _ _ _ _ _ _ _ _ _ _ _ _ _ _ _ _ _ _ _ _ _ _ _ _ _ _ _ _ _ _ _ _ _ _ _ _ _ _ _ _ _ _ _ _ _ _ _ _ _ _ _ _ _ _ _ _ _ _ _ _ _ _ _ _ _ _ _ _ _ _ _ _ _ _ _ _ _ pe (hs2.trans st)
    rw [ok_round, l84_0, L84_0a, L84_0b]
    cases hsg : (b.get x y).s
    · have h1 : dref1 P b x y = .ret b := by unfold dref1; rw [if_pos (.inl hsg)]
      rw [hsg] at hsig
      simp [-Int.natCast_add, -List.cons_append, -List.append_assoc, k_guard, hlt, hw, hs, hb, ht, hle, hK, hq2, hsig]
      rw [← hs]
      exact hskip h1 _ _ _ _ _ _ _ _ _ _ _ _ _ _ _ _ _ _ _ _ _ _ _ _ _ _ _ _ _ _ _ _ _ _ _ _ _ _ _ _ _ _ _ _ _ _ _ _ _ _ _ _ _ _ _ _ _ _ _ _ _ _ _ _ _ _ _ _ _ _ _ _ _ _ _ _ _ _ _ _ _ _ _ _ _ _ _ _ _ _ _ _ _ _ _ _ _ _ _ _ _ _ _ _ _ _ _ _ _ _ _ _ _ _
    · cases htc0 : (b.get x y).t
      · -- refined
        have h1 : dref1 P b x y = .ask (P.cx (refCtx (!(b.get x y).r) (near b x y P.cz))) fun bit => .ret (((growB P.s b x y bit).upd x y refine').upd x y (touch true)) := by unfold dref1; rw [if_neg (by simp [hsg, htc0])]
        obtain ⟨u3, h3, e3, p3, s3⟩ := ask_q he2 (by omega) (refCtx (!(b.get x y).r) (near b x y P.cz))
        rw [h1] at hk hle1 hsz1
        simp only [Tr.run_ask, Tr.run_ret] at hk hle1 hsz1
        generalize (A.ask s (P.cx (refCtx (!(b.get x y).r) (near b x y P.cz)))).1 = bit at *
        generalize (A.ask s (P.cx (refCtx (!(b.get x y).r) (near b x y P.cz)))).2 = s3' at *
        have hq3 := p3.qr.blk
        have hv3 : blk? h3 h.length = some ⟨false, [.int .i64 x, .int .i64 y]⟩ := by
          rw [s3.same h.length (by simp) (by omega) (fun e => by have := A.lt he.rel _ e; omega)]; exact blk?_push_eq
        have hnown : ¬ A.own u3 h.length := fun e => by
          rcases s3.fresh _ e with k | k
          · have := A.lt he.rel _ k; omega
          · simp at k; omega
        have hlen3 := s3.len
        simp only [List.length_append, List.length_singleton] at hlen3
        -- the value
        have hgr : ∃ e0 h4, (∀ R, (if bit = true then Ret tab 66 [ptr p, .int .i64 x, .int .i64 y, .int .i64 (growV P.s (b.get x y).v)] h3 R else R (.int .i64 0) h3) = R (.int .i64 e0) h4) ∧ PQ A h4 q p P m u3 (growB P.s b x y bit) s3' ∧ Stq h3 h4 c (A.own u3) (A.own u3) ∧ ∀ id, id < h3.length → id ≠ c → blk? h4 id = blk? h3 id := by
          cases bit
          · exact ⟨0, h3, fun R => by simp, p3, Stq.refl _ _ _, fun _ _ _ => rfl⟩
          · obtain ⟨e0, h4, e4, p4, s4, k4⟩ := grow_q p3 hin
            exact ⟨e0, h4, fun R => by simp [e4], p4, s4, k4⟩
        obtain ⟨e0, h4, e4, p4, s4, k4⟩ := hgr
        have hl4 := le_growB (s := P.s) he.good hin bit
        have hq4 := p4.qr.blk
        have hv4 : blk? h4 h.length = some ⟨false, [.int .i64 x, .int .i64 y]⟩ := by rw [k4 _ (by omega) (by omega)]; exact hv3
        generalize growB P.s b x y bit = b4 at *
        have hrf := fun R => refine_r (R := R) p4.qr.cb (x := x) (y := y) (hl4.inb hin)
        have hl5 := good_map hl4.good (hl4.inb hin) kv_refine
        obtain ⟨p5, s5⟩ := p4.to hl5
        have hq5 := p5.qr.blk
        have hv5 : blk? (h4.set c (some ⟨false, encC (b4.upd x y refine').cs⟩)) h.length = some ⟨false, [.int .i64 x, .int .i64 y]⟩ := by
          rw [blk?_set_ne (by omega)]; exact hv4
        have htc := fun R => touch_r (R := R) (v := true) p5.qr.cb (x := x) (y := y) (hl5.inb (hl4.inb hin))
        obtain ⟨p6, s6⟩ := p5.to (good_map hl5.good (hl5.inb (hl4.inb hin)) (kv_touch true))
        have hmm : (fun z : Cell => ({ z with t := true } : Cell)) = touch true := rfl
        have hmr : (fun z : Cell => ({ z with r := true } : Cell)) = refine' := rfl
        rw [hmm] at htc
        rw [hmr] at hrf
        have st6 := (((hs2.trans s3).trans s4).trans s5).trans s6
        have hgo : ∀ K2 K3 K4 K5 K6 Ka Kb Kc Kd Ke Kf Kg Kh Ki Kj Kk Kl Km Kn Ko Kp Kq Kr Ks Kt Ku Kv Kw Kx Ky Kz J0 J1 J2 J3 J4 J5 J6 J7 J8 J9 Ja Jb Jc Jd Je Jf Jg Jh Ji Jj Jk Jl Jm Jn Jo Jp Jq Jr Js Jt Ju Jv Jw Jx Jy Jz Y0 Y1 Y2 Y3 Y4 Y5 Y6 Y7 Y8 Y9 Ya Yb Yc Yd Ye Yf Yg Yh Yi Yj Yk Yl Ym Yn Yo Yp Yq Yr Ys Yt Yu Yv Yw Yx Yy Yz Z0 Z1 Z2 Z3 Z4 Z5 Z6 Z7 Z8 Z9 Za : Value, Ok tab R84 (.inLoop L84_0 :: .inBlock 0 :: k) #[ptr q,v1,K2,K3,K4,K5,K6,sl,.int .i64 pts.length,.int .i64 ((i : Int) + 1),Ka,Kb,Kc,Kd,Ke,Kf,Kg,Kh,Ki,Kj,Kk,Kl,Km,Kn,Ko,Kp,Kq,Kr,Ks,Kt,Ku,Kv,Kw,Kx,Ky,Kz,J0,J1,J2,J3,J4,J5,J6,J7,J8,J9,Ja,Jb,Jc,Jd,Je,Jf,Jg,Jh,Ji,Jj,Jk,Jl,Jm,Jn,Jo,Jp,Jq,Jr,Js,Jt,Ju,Jv,Jw,Jx,Jy,Jz,Y0,Y1,Y2,Y3,Y4,Y5,Y6,Y7,Y8,Y9,Ya,Yb,Yc,Yd,Ye,Yf,Yg,Yh,Yi,Yj,Yk,Yl,Ym,Yn,Yo,Yp,Yq,Yr,Ys,Yt,Yu,Yv,Yw,Yx,Yy,Yz,Z0,Z1,Z2,Z3,Z4,Z5,Z6,Z7,Z8,Z9,Za] ((h4.set c (some ⟨false, encC (b4.upd x y refine').cs⟩)).set c (some ⟨false, encC ((b4.upd x y refine').upd x y (touch true)).cs⟩)) R := by
          intro K2 K3 K4 K5 K6 Ka Kb Kc Kd Ke Kf Kg Kh Ki Kj Kk Kl Km Kn Ko Kp Kq Kr Ks Kt Ku Kv Kw Kx Ky Kz J0 J1 J2 J3 J4 J5 J6 J7 J8 J9 Ja Jb Jc Jd Je Jf Jg Jh Ji Jj Jk Jl Jm Jn Jo Jp Jq Jr Js Jt Ju Jv Jw Jx Jy Jz Y0 Y1 Y2 Y3 Y4 Y5 Y6 Y7 Y8 Y9 Ya Yb Yc Yd Ye Yf Yg Yh Yi Yj Yk Yl Ym Yn Yo Yp Yq Yr Ys Yt Yu Yv Yw Yx Yy Yz Z0 Z1 Z2 Z3 Z4 Z5 Z6 Z7 Z8 Z9 Za
          refine ih (i + 1) _ u3 _ _ _ _ _ _ _ _ _ _ _ _ _ _ _ _ _ _ _ _ _ _ _ _ _ _ _ _ _ _ _ _ _ _ _ _ _ _ _ _ _ _ _ _ _ _ _ _ _ _ _ _ _ _ _ _ _ _ _ _ _ _ _ _ _ _ _ _ _ _ _ _ _ _ _ _ _ _ _ _ _ _ _ _ _ _ _ _ _ _ _ _ _ _ _ _ _ _ _ _ _ _ _ _ _ _ _ _ _ _ _ _ _ _ _ _ (by omega) (by omega) p6 (hf.stq st6) (hle1.all ha) (by omega) hpl ?_
          intro h' t' K1 K2 K3 K4 K5 K6 K7 K8 K9 Ka Kb Kc Kd Ke Kf Kg Kh Ki Kj Kk Kl Km Kn Ko Kp Kq Kr Ks Kt Ku Kv Kw Kx Ky Kz J0 J1 J2 J3 J4 J5 J6 J7 J8 J9 Ja Jb Jc Jd Je Jf Jg Jh Ji Jj Jk Jl Jm Jn Jo Jp Jq Jr Js Jt Ju Jv Jw Jx Jy Jz Y0 Y1 Y2 Y3 Y4 Y5 Y6 Y7 Y8 Y9 Ya Yb Yc Yd Ye Yf Yg Yh Yi Yj Yk Yl Ym Yn Yo Yp Yq Yr Ys Yt Yu Yv Yw Yx Yy Yz Z0 Z1 Z2 Z3 Z4 Z5 Z6 Z7 Z8 Z9 Za pe st
          exact hk h' t' _ _ _ _ _ _ _ _ _ _ _ _ _ _ _ _ _ _ _ _ _ _ _ _ _ _ _ _ _ _ _ _ _ _ _ _ _ _ _ _ _ _ _ _ _ _ _ _ _ _ _ _ _ _ _ _ _ _ _ _ _ _ _ _ _ _ _ _ _ _ _ _ _ _ _ _ _ _ _ _ _ _ _ _ _ _ _ _ _ _ _ _ _ _ _ _ _ _ _ _ _ _ _ _ _ _ _ _ _ _ _ _ _ _ _ _ _ _ pe (st6.trans st)
        rw [List.set_set] at hgo
        rw [hsg] at hsig; rw [htc0] at htch
        have hvl := fun R => value_r (R := R) (x := x) (y := y) p3.qr.cb
        have hsh := shl1 he.qr.pok.s1
        have hwu : IntKind.u64.wrap (P.s : Int) = (P.s : Int) := wrapU (by have := he.qr.pok.s1; omega)
        have hs0 : ¬ (P.s : Int) < 0 := by omega
        have hpw := pw_le he.qr.pok.s1
        have hpp := pw_pos P.s
        obtain ⟨r1, r2⟩ := he.qr.rng x y
        have hgv : growV P.s (b.get x y).v = (b.get x y).v + if (b.get x y).v < 0 then -pw P.s else pw P.s := rfl
        generalize growV P.s (b.get x y).v = G at *
        cases bit
        · simp only [Bool.false_eq_true, if_false] at e4
          obtain rfl : h3 = h4 := by
            have := e4 fun _ h' => h3 = h'
            exact this.mp rfl
          simp at e3
          simp [-Int.natCast_add, -List.cons_append, -List.append_assoc, k_guard, hlt, hw, hs, hb, ht, hle, hK, hq2, hsig, htch, hrfd, hnb, hnp, hcx, e3, hq3, hv3, hrf, hq5, hv5, htc, book, logOf, addLog, chk1, lookL, reload]
          rw [← hs]
          exact hgo _ _ _ _ _ _ _ _ _ _ _ _ _ _ _ _ _ _ _ _ _ _ _ _ _ _ _ _ _ _ _ _ _ _ _ _ _ _ _ _ _ _ _ _ _ _ _ _ _ _ _ _ _ _ _ _ _ _ _ _ _ _ _ _ _ _ _ _ _ _ _ _ _ _ _ _ _ _ _ _ _ _ _ _ _ _ _ _ _ _ _ _ _ _ _ _ _ _ _ _ _ _ _ _ _ _ _ _ _ _ _ _ _ _
        · simp only [if_true] at e4
          simp at e3
          by_cases hlt0 : (b.get x y).v < 0
          · rw [if_pos hlt0] at hgv
            have hwg : IntKind.i64.wrap ((b.get x y).v - pw P.s) = G := by rw [wrapI (by omega) (by omega)]; omega
            simp [-Int.natCast_add, -List.cons_append, -List.append_assoc, k_guard, hlt, hw, hs, hb, ht, hle, hK, hq2, hsig, htch, hrfd, hnb, hnp, hvl, hsh, hwu, hs0, hlt0, hwg, hcx, e3, hq3, hv3, e4, hq4, hv4, hrf, hq5, hv5, htc, book, logOf, addLog, chk1, lookL, reload]
            rw [← hs]
            exact hgo _ _ _ _ _ _ _ _ _ _ _ _ _ _ _ _ _ _ _ _ _ _ _ _ _ _ _ _ _ _ _ _ _ _ _ _ _ _ _ _ _ _ _ _ _ _ _ _ _ _ _ _ _ _ _ _ _ _ _ _ _ _ _ _ _ _ _ _ _ _ _ _ _ _ _ _ _ _ _ _ _ _ _ _ _ _ _ _ _ _ _ _ _ _ _ _ _ _ _ _ _ _ _ _ _ _ _ _ _ _ _ _ _ _
          · rw [if_neg hlt0] at hgv
            have hwg : IntKind.i64.wrap ((b.get x y).v + pw P.s) = G := by rw [wrapI (by omega) (by omega)]; omega
            simp [-Int.natCast_add, -List.cons_append, -List.append_assoc, k_guard, hlt, hw, hs, hb, ht, hle, hK, hq2, hsig, htch, hrfd, hnb, hnp, hvl, hsh, hwu, hs0, hlt0, hwg, hcx, e3, hq3, hv3, e4, hq4, hv4, hrf, hq5, hv5, htc, book, logOf, addLog, chk1, lookL, reload]
            rw [← hs]
            exact hgo _ _ _ _ _ _ _ _ _ _ _ _ _ _ _ _ _ _ _ _ _ _ _ _ _ _ _ _ _ _ _ _ _ _ _ _ _ _ _ _ _ _ _ _ _ _ _ _ _ _ _ _ _ _ _ _ _ _ _ _ _ _ _ _ _ _ _ _ _ _ _ _ _ _ _ _ _ _ _ _ _ _ _ _ _ _ _ _ _ _ _ _ _ _ _ _ _ _ _ _ _ _ _ _ _ _ _ _ _ _ _ _ _ _
      · have h1 : dref1 P b x y = .ret b := by unfold dref1; rw [if_pos (.inr htc0)]
        rw [hsg] at hsig; rw [htc0] at htch
        simp [-Int.natCast_add, -List.cons_append, -List.append_assoc, k_guard, hlt, hw, hs, hb, ht, hle, hK, hq2, hsig, htch]
        rw [← hs]
        exact hskip h1 _ _ _ _ _ _ _ _ _ _ _ _ _ _ _ _ _ _ _ _ _ _ _ _ _ _ _ _ _ _ _ _ _ _ _ _ _ _ _ _ _ _ _ _ _ _ _ _ _ _ _ _ _ _ _ _ _ _ _ _ _ _ _ _ _ _ _ _ _ _ _ _ _ _ _ _ _ _ _ _ _ _ _ _ _ _ _ _ _ _ _ _ _ _ _ _ _ _ _ _ _ _ _ _ _ _ _ _ _ _ _ _ _ _

set_option maxRecDepth 10000 in
theorem refinement_q (he : PQ A h q p P m t b s) (hl : A.size s + 100000 < 1000000) {sl : Value} (hf : Fad h sl (scan b.w b.h) c (A.own t)) :
    ∃ t' h', (∀ R, Ret tab 84 [ptr q, sl] h R = R (.tuple #[]) h') ∧ PQ A h' q p P m t' ((drefs P b (scan b.w b.h)).run A.ask s).1 ((drefs P b (scan b.w b.h)).run A.ask s).2 ∧ Stq h h' c (A.own t) (A.own t') := by
  have key : Ret tab 84 [ptr q, sl] h fun v h' => v = .tuple #[] ∧ ∃ t', PQ A h' q p P m t' ((drefs P b (scan b.w b.h)).run A.ask s).1 ((drefs P b (scan b.w b.h)).run A.ask s).2 ∧ Stq h h' c (A.own t) (A.own t') := by
    obtain ⟨a, cc, hs⟩ := hf.sl.shape
    have hsl := scan_len he.qr.cb.ok.w2 he.qr.cb.ok.h2
    rw [enter84, B84]
    simp [hs]
    rw [← hs]
    refine dref_loop_q _ 0 h t b s _ _ _ _ _ _ _ _ _ _ _ _ _ _ _ _ _ _ _ _ _ _ _ _ _ _ _ _ _ _ _ _ _ _ _ _ _ _ _ _ _ _ _ _ _ _ _ _ _ _ _ _ _ _ _ _ _ _ _ _ _ _ _ _ _ _ _ _ _ _ _ _ _ _ _ _ _ _ _ _ _ _ _ _ _ _ _ _ _ _ _ _ _ _ _ _ _ _ _ _ _ _ _ _ _ _ _ _ _ _ _ _ _ _ rfl (by omega) he hf (scanIn b) (by omega) (by omega) ?_
    intro h' t' K1 K2 K3 K4 K5 K6 K7 K8 K9 Ka Kb Kc Kd Ke Kf Kg Kh Ki Kj Kk Kl Km Kn Ko Kp Kq Kr Ks Kt Ku Kv Kw Kx Ky Kz J0 J1 J2 J3 J4 J5 J6 J7 J8 J9 Ja Jb Jc Jd Je Jf Jg Jh Ji Jj Jk Jl Jm Jn Jo Jp Jq Jr Js Jt Ju Jv Jw Jx Jy Jz Y0 Y1 Y2 Y3 Y4 Y5 Y6 Y7 Y8 Y9 Ya Yb Yc Yd Ye Yf Yg Yh Yi Yj Yk Yl Ym Yn Yo Yp Yq Yr Ys Yt Yu Yv Yw Yx Yy Yz Z0 Z1 Z2 Z3 Z4 Z5 Z6 Z7 Z8 Z9 Za pe st
    simp [fin84]
    exact ⟨t', by simpa using pe, st⟩
  obtain ⟨v, h', e, rfl, t', pe, st⟩ := ret_ex key
  exact ⟨t', h', e, pe, st⟩
end
theorem dchk_run_q {S : Type} (A : S → Int → Bool × S) (P : PP) (r x : Bool) (l : List Bool) (s : S) : (dchk P r (x :: l)).run A s = (dchk P (r && (A s (P.cx 18)).1 == x) l).run A (A s (P.cx 18)).2 := rfl

section
variable {c sb : Nat} {A : Src c (callN sb)} {h : Heap} {q p : Nat} {P : PP} {m : MD} {t : A.T} {b : BS} {s : A.S} {k : List RItem} {R : Value → Heap → Prop}

theorem runLength_q (he : PQ A h q p P m t b s) (hn : A.size s + 5 < 1000000) {x y : Int} (hx : 0 ≤ x ∧ x < b.w) (hy : 0 ≤ y ∧ y + 4 ≤ b.h) :
    ∃ t' h', (∀ R, Ret tab 132 [ptr q, .int .i64 x, .int .i64 y] h R = R (.int .i64 (((drun P b x y).run A.ask s).1.2 - y)) h') ∧ PQ A h' q p P m t' ((drun P b x y).run A.ask s).1.1 ((drun P b x y).run A.ask s).2 ∧ Stq h h' c (A.own t) (A.own t') := by
  have hb2 := he.qr.cb.ok.h2
  obtain ⟨u1, h1, e1, p1, s1⟩ := ask_q he (by omega) 17
  have z1 := A.size_ask s (P.cx 17)
  have hrun : (drun P b x y).run A.ask s = (if (A.ask s (P.cx 17)).1 = true then Tr.ask (P.cx 18) fun k1 => .ask (P.cx 18) fun k0 => (dsign P b x (y + two2 k1 k0)).bind fun b => .ret (b, y + two2 k1 k0 + 1) else .ret (b, y + 4)).run A.ask (A.ask s (P.cx 17)).2 := rfl
  rw [hrun]
  generalize (A.ask s (P.cx 17)).1 = bit at *
  generalize (A.ask s (P.cx 17)).2 = sa at *
  cases bit
  · simp only [Bool.false_eq_true, if_false, Tr.run_ret]
    refine ⟨u1, h1, fun R => ?_, p1, s1⟩
    simp at e1
    rw [enter132, B132, show y + 4 - y = 4 by omega]
    simp [e1, fin132]
  · simp only [if_true, Tr.run_ask, Tr.run_bind, Tr.run_ret]
    obtain ⟨u2, h2, e2, p2, s2⟩ := ask_q p1 (by omega) 18
    have z2 := A.size_ask sa (P.cx 18)
    generalize (A.ask sa (P.cx 18)).1 = k1 at *
    generalize (A.ask sa (P.cx 18)).2 = sb' at *
    obtain ⟨u3, h3, e3, p3, s3⟩ := ask_q p2 (by omega) 18
    have z3 := A.size_ask sb' (P.cx 18)
    generalize (A.ask sb' (P.cx 18)).1 = k0 at *
    generalize (A.ask sb' (P.cx 18)).2 = sc at *
    have h22 := two2_le k1 k0
    have hi4 : b.inb x (y + two2 k1 k0) := ⟨hx.1, hx.2, by omega, by omega⟩
    obtain ⟨u4, h4, e4, p4, s4⟩ := sign_q p3 (by omega) hi4
    refine ⟨u4, h4, fun R => ?_, p4, ((s1.trans s2).trans s3).trans s4⟩
    simp at e1
    have hwa : IntKind.i64.wrap (2 * ((k1.toNat : Nat) : Int)) = 2 * ((k1.toNat : Nat) : Int) := by cases k1 <;> simp [wrapI]
    have hwb : IntKind.i64.wrap (2 * ((k1.toNat : Nat) : Int) + ((k0.toNat : Nat) : Int)) = (two2 k1 k0 : Nat) := by
      have : 2 * ((k1.toNat : Nat) : Int) + ((k0.toNat : Nat) : Int) = (two2 k1 k0 : Nat) := by unfold two2; simp
      rw [this]; exact wrapN (by omega)
    have hwc : IntKind.i64.wrap (y + ((two2 k1 k0 : Nat) : Int)) = y + (two2 k1 k0 : Nat) := wrapI (by omega) (by omega)
    have hwd : IntKind.i64.wrap (((two2 k1 k0 : Nat) : Int) + 1) = ((two2 k1 k0 : Nat) : Int) + 1 := wrapI (by omega) (by omega)
    generalize two2 k1 k0 = kk at *
    generalize ((k1.toNat : Nat) : Int) = k1i at *
    generalize ((k0.toNat : Nat) : Int) = k0i at *
    rw [enter132, B132, show y + (kk : Int) + 1 - y = (kk : Int) + 1 by omega]
    simp [e1, e2, hwa, e3, hwb, hwc, e4, hwd, fin132]

set_option maxRecDepth 10000 in
set_option maxHeartbeats 4000000 in
theorem clean_loop_q {sl v6 : Value} {pts : List (Int × Int)} {hh : Nat} :
    ∀ (n i : Nat) (h : Heap) (t : A.T) (τ : BS × Nat) (s : A.S) (K3 K4 K5 K8 K9 Ka Kb Kc Kd Kh Ki Kj Kk Kl Km Kn Ko Kp Kq Kr Ks Kt Ku Kv Kw Kx Ky Kz J0 J1 J2 J3 J4 J5 J6 J7 J8 J9 Ja Jb Jc Jd Je Jf Jg Jh Ji Jj Jk Jl Jm Jn Jo Jp Jq Jr Js Jt Ju Jv Jw Jx Jy Jz Y0 Y1 Y2 Y3 Y4 Y5 Y6 Y7 Y8 Y9 Ya Yb Yc Yd Ye Yf Yg Yh Yi Yj Yk Yl Ym Yn Yo Yp Yq : Value), n = pts.length - i → i ≤ pts.length → PQ A h q p P m t τ.1 s → Fad h sl pts c (A.own t) → AllIn τ.1 pts → τ.1.h = hh → A.size s + 4 * n + 6 < 1000000 → τ.2 ≤ 3 → pts.length < 1000000 →
      (∀ (h' : Heap) (t' : A.T) (K2 K3 K4 K5 K7 K8 K9 Ka Kb Kc Kd Ke Kf Kg Kh Ki Kj Kk Kl Km Kn Ko Kp Kq Kr Ks Kt Ku Kv Kw Kx Ky Kz J0 J1 J2 J3 J4 J5 J6 J7 J8 J9 Ja Jb Jc Jd Je Jf Jg Jh Ji Jj Jk Jl Jm Jn Jo Jp Jq Jr Js Jt Ju Jv Jw Jx Jy Jz Y0 Y1 Y2 Y3 Y4 Y5 Y6 Y7 Y8 Y9 Ya Yb Yc Yd Ye Yf Yg Yh Yi Yj Yk Yl Ym Yn Yo Yp Yq : Value), PQ A h' q p P m t' ((dcsteps P τ (pts.drop i)).run A.ask s).1.1 ((dcsteps P τ (pts.drop i)).run A.ask s).2 → Stq h h' c (A.own t) (A.own t') → Ok tab R85 k #[ptr q,sl,K2,K3,K4,K5,v6,K7,K8,K9,Ka,Kb,Kc,Kd,Ke,Kf,Kg,Kh,Ki,Kj,Kk,Kl,Km,Kn,Ko,Kp,Kq,Kr,Ks,Kt,Ku,Kv,Kw,Kx,Ky,Kz,J0,J1,J2,J3,J4,J5,J6,J7,J8,J9,Ja,Jb,Jc,Jd,Je,Jf,Jg,Jh,Ji,Jj,Jk,Jl,Jm,Jn,Jo,Jp,Jq,Jr,Js,Jt,Ju,Jv,Jw,Jx,Jy,Jz,Y0,Y1,Y2,Y3,Y4,Y5,Y6,Y7,Y8,Y9,Ya,Yb,Yc,Yd,Ye,Yf,Yg,Yh,Yi,Yj,Yk,Yl,Ym,Yn,Yo,Yp,Yq] h' R) →
      Ok tab R85 (.inLoop L85_0 :: .inBlock 0 :: k) #[ptr q,sl,.int .i64 hh,K3,K4,K5,v6,.int .i64 τ.2,K8,K9,Ka,Kb,Kc,Kd,sl,.int .i64 pts.length,.int .i64 i,Kh,Ki,Kj,Kk,Kl,Km,Kn,Ko,Kp,Kq,Kr,Ks,Kt,Ku,Kv,Kw,Kx,Ky,Kz,J0,J1,J2,J3,J4,J5,J6,J7,J8,J9,Ja,Jb,Jc,Jd,Je,Jf,Jg,Jh,Ji,Jj,Jk,Jl,Jm,Jn,Jo,Jp,Jq,Jr,Js,Jt,Ju,Jv,Jw,Jx,Jy,Jz,Y0,Y1,Y2,Y3,Y4,Y5,Y6,Y7,Y8,Y9,Ya,Yb,Yc,Yd,Ye,Yf,Yg,Yh,Yi,Yj,Yk,Yl,Ym,Yn,Yo,Yp,Yq] h R := by
  intro n
  induction n with
  | zero =>
    intro i h t τ s K3 K4 K5 K8 K9 Ka Kb Kc Kd Kh Ki Kj Kk Kl Km Kn Ko Kp Kq Kr Ks Kt Ku Kv Kw Kx Ky Kz J0 J1 J2 J3 J4 J5 J6 J7 J8 J9 Ja Jb Jc Jd Je Jf Jg Jh Ji Jj Jk Jl Jm Jn Jo Jp Jq Jr Js Jt Ju Jv Jw Jx Jy Jz Y0 Y1 Y2 Y3 Y4 Y5 Y6 Y7 Y8 Y9 Ya Yb Yc Yd Ye Yf Yg Yh Yi Yj Yk Yl Ym Yn Yo Yp Yq hm hi he hf ha hh' hl hsk hpl hk
    have hlt : ¬ ((i : Int) < pts.length) := by omega
    rw [ok_round, l85_0, L85_0a, L85_0b]
    simp [hlt]
    refine hk h t _ _ _ _ _ _ _ _ _ _ _ _ _ _ _ _ _ _ _ _ _ _ _ _ _ _ _ _ _ _ _ _ _ _ _ _ _ _ _ _ _ _ _ _ _ _ _ _ _ _ _ _ _ _ _ _ _ _ _ _ _ _ _ _ _ _ _ _ _ _ _ _ _ _ _ _ _ _ _ _ _ _ _ _ _ _ _ _ _ _ _ _ _ _ _ _ ?_ (Stq.refl _ _ _)
    rw [List.drop_of_length_le (by omega)]; exact he
  | succ n ih =>
    intro i h t τ s K3 K4 K5 K8 K9 Ka Kb Kc Kd Kh Ki Kj Kk Kl Km Kn Ko Kp Kq Kr Ks Kt Ku Kv Kw Kx Ky Kz J0 J1 J2 J3 J4 J5 J6 J7 J8 J9 Ja Jb Jc Jd Je Jf Jg Jh Ji Jj Jk Jl Jm Jn Jo Jp Jq Jr Js Jt Ju Jv Jw Jx Jy Jz Y0 Y1 Y2 Y3 Y4 Y5 Y6 Y7 Y8 Y9 Ya Yb Yc Yd Ye Yf Yg Yh Yi Yj Yk Yl Ym Yn Yo Yp Yq hm hi he hf ha hh' hl hsk hpl hk
    obtain ⟨b, sk⟩ := τ
    simp only at he ha hh' hl hsk
    have hlt : ((i : Int) < pts.length) := by omega
    have hw : IntKind.i64.wrap ((i : Int) + 1) = (i : Int) + 1 := wrapN (n := i + 1) (by omega)
    have hil : i < pts.length := by omega
    obtain ⟨id, off, blk, hs, hb, ht, hle⟩ := hf.get hil
    have hin := ha _ (List.getElem_mem hil)
    have hsp : dcsteps P (b, sk) (pts.drop i) = (dcstep P (b, sk) (pts[i].1, pts[i].2)).bind fun τ => dcsteps P τ (pts.drop (i + 1)) := by
      rw [List.drop_eq_getElem_cons hil]; rfl
    obtain ⟨⟨hle1, hsk1⟩, hsz1⟩ := Tr.Lv.out (A := A.ask) (size := A.size) A.size_ask s (lv_dcstep he.qr.pok (τ := (b, sk)) he.good (p := (pts[i].1, pts[i].2)) hin)
    simp only at hle1 hsk1
    generalize hx : pts[i].1 = x at *
    generalize hy : pts[i].2 = y at *
    rw [hsp] at hk
    simp only [Tr.run_bind] at hk
    have he2 := he.push (some ⟨false, [.int .i64 x, .int .i64 y]⟩)
    have hs2 := Stq.push h (some ⟨false, [.int .i64 x, .int .i64 y]⟩) c (A.own t)
    have hf2 := hf.stq hs2
    have hK : ∀ y : Blk, blk? (h ++ [some y]) h.length = some y := fun y => blk?_push_eq
    obtain ⟨l1, l2, l3⟩ := he.lts
    obtain ⟨i1, i2, i3, i4⟩ := hin
    have hb2 := he.qr.cb.ok.h2
    -- on
    have hnext : ∀ (h' : Heap) (t' : A.T) (υ : BS × Nat) (s' : A.S) (K3 K4 K5 K8 K9 Ka Kb Kc Kd Kh Ki Kj Kk Kl Km Kn Ko Kp Kq Kr Ks Kt Ku Kv Kw Kx Ky Kz J0 J1 J2 J3 J4 J5 J6 J7 J8 J9 Ja Jb Jc Jd Je Jf Jg Jh Ji Jj Jk Jl Jm Jn Jo Jp Jq Jr Js Jt Ju Jv Jw Jx Jy Jz Y0 Y1 Y2 Y3 Y4 Y5 Y6 Y7 Y8 Y9 Ya Yb Yc Yd Ye Yf Yg Yh Yi Yj Yk Yl Ym Yn Yo Yp Yq : Value), (dcstep P (b, sk) (x, y)).run A.ask s = (υ, s') → PQ A h' q p P m t' υ.1 s' → Stq h h' c (A.own t) (A.own t') →
        Ok tab R85 (.inLoop L85_0 :: .inBlock 0 :: k) #[ptr q,sl,.int .i64 hh,K3,K4,K5,v6,.int .i64 υ.2,K8,K9,Ka,Kb,Kc,Kd,sl,.int .i64 pts.length,.int .i64 ((i : Int) + 1),Kh,Ki,Kj,Kk,Kl,Km,Kn,Ko,Kp,Kq,Kr,Ks,Kt,Ku,Kv,Kw,Kx,Ky,Kz,J0,J1,J2,J3,J4,J5,J6,J7,J8,J9,Ja,Jb,Jc,Jd,Je,Jf,Jg,Jh,Ji,Jj,Jk,Jl,Jm,Jn,Jo,Jp,Jq,Jr,Js,Jt,Ju,Jv,Jw,Jx,Jy,Jz,Y0,Y1,Y2,Y3,Y4,Y5,Y6,Y7,Y8,Y9,Ya,Yb,Yc,Yd,Ye,Yf,Yg,Yh,Yi,Yj,Yk,Yl,Ym,Yn,Yo,Yp,Yq] h' R := by
      intro h' t' υ s' K3 K4 K5 K8 K9 Ka Kb Kc Kd Kh Ki Kj Kk Kl Km Kn Ko Kp Kq Kr Ks Kt Ku Kv Kw Kx Ky Kz J0 J1 J2 J3 J4 J5 J6 J7 J8 J9 Ja Jb Jc Jd Je Jf Jg Jh Ji Jj Jk Jl Jm Jn Jo Jp Jq Jr Js Jt Ju Jv Jw Jx Jy Jz Y0 Y1 Y2 Y3 Y4 Y5 Y6 Y7 Y8 Y9 Ya Yb Yc Yd Ye Yf Yg Yh Yi Yj Yk Yl Ym Yn Yo Yp Yq hυ pe st
      rw [hυ] at hle1 hsk1 hsz1 hk
      simp only at hle1 hsk1 hsz1 hk
      refine ih (i + 1) h' t' υ s' _ _ _ _ _ _ _ _ _ _ _ _ _ _ _ _ _ _ _ _ _ _ _ _ _ _ _ _ _ _ _ _ _ _ _ _ _ _ _ _ _ _ _ _ _ _ _ _ _ _ _ _ _ _ _ _ _ _ _ _ _ _ _ _ _ _ _ _ _ _ _ _ _ _ _ _ _ _ _ _ _ _ _ _ _ _ _ _ _ _ _ (by omega) (by omega) pe (hf.stq st) (hle1.all ha) (hle1.h.trans hh') (by omega) (by omega) hpl ?_
      intro h'' t'' K2 K3 K4 K5 K7 K8 K9 Ka Kb Kc Kd Ke Kf Kg Kh Ki Kj Kk Kl Km Kn Ko Kp Kq Kr Ks Kt Ku Kv Kw Kx Ky Kz J0 J1 J2 J3 J4 J5 J6 J7 J8 J9 Ja Jb Jc Jd Je Jf Jg Jh Ji Jj Jk Jl Jm Jn Jo Jp Jq Jr Js Jt Ju Jv Jw Jx Jy Jz Y0 Y1 Y2 Y3 Y4 Y5 Y6 Y7 Y8 Y9 Ya Yb Yc Yd Ye Yf Yg Yh Yi Yj Yk Yl Ym Yn Yo Yp Yq pe2 st2
      exact hk h'' t'' _ _ _ _ _ _ _ _ _ _ _ _ _ _ _ _ _ _ _ _ _ _ _ _ _ _ _ _ _ _ _ _ _ _ _ _ _ _ _ _ _ _ _ _ _ _ _ _ _ _ _ _ _ _ _ _ _ _ _ _ _ _ _ _ _ _ _ _ _ _ _ _ _ _ _ _ _ _ _ _ _ _ _ _ _ _ _ _ _ _ _ _ _ _ _ _ pe2 (st.trans st2)
    rw [ok_round, l85_0, L85_0a, L85_0b]
    cases sk with
    | succ sk =>
      have hsk0 : (0 : Int) < ((sk + 1 : Nat) : Int) := by omega
      have hskw : IntKind.i64.wrap (((sk + 1 : Nat) : Int) - 1) = (sk : Int) := by rw [wrapI (by omega) (by omega)]; omega
      generalize ((sk + 1 : Nat) : Int) = ski at *
      simp [-List.cons_append, -List.append_assoc, hlt, hw, hs, hb, ht, hle, hK, hsk0, hskw]
      rw [← hs]
      exact hnext _ t (b, sk) s _ _ _ _ _ _ _ _ _ _ _ _ _ _ _ _ _ _ _ _ _ _ _ _ _ _ _ _ _ _ _ _ _ _ _ _ _ _ _ _ _ _ _ _ _ _ _ _ _ _ _ _ _ _ _ _ _ _ _ _ _ _ _ _ _ _ _ _ _ _ _ _ _ _ _ _ _ _ _ _ _ _ _ _ _ _ _ _ _ _ _ rfl he2 hs2
    | zero =>
      have hqt := fun R => quiet_q (R := R) (x := x) (y := y) he2.qr ⟨i1, i2, i3, i4⟩
      rw [hh'] at hqt
      have hq2 := he2.qr.blk
      have hcb2 := he2.qr.cb
      have hsig := fun R => significant_r (R := R) (x := x) (y := y) hcb2
      have htch := fun R => touched_r (R := R) (x := x) (y := y) hcb2
      cases hqq : quietQ b x y P.cz
      · rw [hqq] at hqt
        have hst : dcstep P (b, 0) (x, y) = (dcln1 P b x y).bind fun b => .ret (b, 0) := by simp [dcstep, hqq]
        cases hsg : (b.get x y).s
        · cases htc : (b.get x y).t
          · have h1 : dcln1 P b x y = dcode P b x y := by unfold dcln1; rw [if_pos ⟨hsg, htc⟩]
            obtain ⟨u3, h3, e3, p3, s3⟩ := code_q he2 (by omega) (x := x) (y := y) ⟨i1, i2, i3, i4⟩
            rw [hsg] at hsig; rw [htc] at htch
            simp [-List.cons_append, -List.append_assoc, k_guard, hlt, hw, hs, hb, ht, hle, hK, hqt, hq2, hsig, htch, e3]
            rw [← hs]
            exact hnext _ u3 (((dcode P b x y).run A.ask s).1, 0) _ _ _ _ _ _ _ _ _ _ _ _ _ _ _ _ _ _ _ _ _ _ _ _ _ _ _ _ _ _ _ _ _ _ _ _ _ _ _ _ _ _ _ _ _ _ _ _ _ _ _ _ _ _ _ _ _ _ _ _ _ _ _ _ _ _ _ _ _ _ _ _ _ _ _ _ _ _ _ _ _ _ _ _ _ _ _ _ _ _ _ _ (by rw [hst, h1, Tr.run_bind, Tr.run_ret]) p3 (hs2.trans s3)
          · have h1 : dcln1 P b x y = .ret b := by unfold dcln1; rw [if_neg (by simp [htc])]
            rw [hsg] at hsig; rw [htc] at htch
            simp [-List.cons_append, -List.append_assoc, k_guard, hlt, hw, hs, hb, ht, hle, hK, hqt, hq2, hsig, htch]
            rw [← hs]
            exact hnext _ t (b, 0) s _ _ _ _ _ _ _ _ _ _ _ _ _ _ _ _ _ _ _ _ _ _ _ _ _ _ _ _ _ _ _ _ _ _ _ _ _ _ _ _ _ _ _ _ _ _ _ _ _ _ _ _ _ _ _ _ _ _ _ _ _ _ _ _ _ _ _ _ _ _ _ _ _ _ _ _ _ _ _ _ _ _ _ _ _ _ _ _ _ _ _ (by rw [hst, h1]; rfl) he2 hs2
        · have h1 : dcln1 P b x y = .ret b := by unfold dcln1; rw [if_neg (by simp [hsg])]
          rw [hsg] at hsig
          simp [-List.cons_append, -List.append_assoc, k_guard, k_guardU, hlt, hw, hs, hb, ht, hle, hK, hqt, hq2, hsig]
          rw [← hs]
          exact hnext _ t (b, 0) s _ _ _ _ _ _ _ _ _ _ _ _ _ _ _ _ _ _ _ _ _ _ _ _ _ _ _ _ _ _ _ _ _ _ _ _ _ _ _ _ _ _ _ _ _ _ _ _ _ _ _ _ _ _ _ _ _ _ _ _ _ _ _ _ _ _ _ _ _ _ _ _ _ _ _ _ _ _ _ _ _ _ _ _ _ _ _ _ _ _ _ (by rw [hst, h1]; rfl) he2 hs2
      · have htop := quietQ_top hqq
        obtain ⟨u3, h3, e3, p3, s3⟩ := runLength_q he2 (by omega) (x := x) (y := y) ⟨i1, i2⟩ ⟨i3, htop⟩
        obtain ⟨⟨r1, r2, r3⟩, _⟩ := Tr.Lv.out (A := A.ask) (size := A.size) A.size_ask s (lv_drun he.qr.pok he.good (x := x) (top := y) ⟨i1, i2, i3, i4⟩ htop)
        have hst : dcstep P (b, 0) (x, y) = (drun P b x y).bind fun r => .ret (r.1, (r.2 - y - 1).toNat) := by simp [dcstep, hqq]
        have hgo := hnext h3 u3 (((drun P b x y).run A.ask s).1.1, (((drun P b x y).run A.ask s).1.2 - y - 1).toNat) ((drun P b x y).run A.ask s).2
        have hrw : IntKind.i64.wrap (((drun P b x y).run A.ask s).1.2 - y - 1) = ((((drun P b x y).run A.ask s).1.2 - y - 1).toNat : Int) := by rw [wrapI (by omega) (by omega)]; omega
        have hrr : (dcstep P (b, 0) (x, y)).run A.ask s = ((((drun P b x y).run A.ask s).1.1, (((drun P b x y).run A.ask s).1.2 - y - 1).toNat), ((drun P b x y).run A.ask s).2) := by rw [hst, Tr.run_bind, Tr.run_ret]
        rw [hqq] at hqt
        simp only at hgo
        generalize (((drun P b x y).run A.ask s).1.2 - y - 1).toNat = nsk at *
        generalize ((drun P b x y).run A.ask s).1.2 - y = rl at *
        simp [-List.cons_append, -List.append_assoc, -Int.ofNat_toNat, hlt, hw, hs, hb, ht, hle, hK, hqt, hq2, e3, hrw]
        rw [← hs]
        exact hgo _ _ _ _ _ _ _ _ _ _ _ _ _ _ _ _ _ _ _ _ _ _ _ _ _ _ _ _ _ _ _ _ _ _ _ _ _ _ _ _ _ _ _ _ _ _ _ _ _ _ _ _ _ _ _ _ _ _ _ _ _ _ _ _ _ _ _ _ _ _ _ _ _ _ _ _ _ _ _ _ _ _ _ _ _ _ _ _ _ _ _ hrr p3 (hs2.trans s3)

set_option maxRecDepth 10000 in
theorem clear_loop_q {sl v6 : Value} {pts : List (Int × Int)} :
    ∀ (n i : Nat) (h : Heap) (t : A.T) (b : BS) (s : A.S) (K1 K2 K3 K4 K5 K7 K8 K9 Ka Kb Kc Kd Ke Kf Kg Kh Ki Kj Kk Kl Km Kn Ko Kp Kq Kr Ks Kt Ku Kv Kw Kx Ky Kz J0 J1 J2 J3 J4 J5 J6 J7 J8 J9 Ja Jb Jc Jd Je Jf Jg Jh Ji Jj Jk Jl Jm Jn Jo Jp Jq Jr Js Jt Ju Jy Jz Y0 Y1 Y2 Y3 Y4 Y5 Y6 Y7 Y8 Y9 Ya Yb Yc Yd Ye Yf Yg Yh Yi Yj Yk Yl Ym Yn Yo Yp Yq : Value), n = pts.length - i → i ≤ pts.length → PQ A h q p P m t b s → Fad h sl pts c (A.own t) → AllIn b pts → pts.length < 1000000 →
      (∀ (h' : Heap) (K1 K2 K3 K4 K5 K7 K8 K9 Ka Kb Kc Kd Ke Kf Kg Kh Ki Kj Kk Kl Km Kn Ko Kp Kq Kr Ks Kt Ku Kv Kw Kx Ky Kz J0 J1 J2 J3 J4 J5 J6 J7 J8 J9 Ja Jb Jc Jd Je Jf Jg Jh Ji Jj Jk Jl Jm Jn Jo Jp Jq Jr Js Jt Ju Jv Jw Jx Jy Jz Y0 Y1 Y2 Y3 Y4 Y5 Y6 Y7 Y8 Y9 Ya Yb Yc Yd Ye Yf Yg Yh Yi Yj Yk Yl Ym Yn Yo Yp Yq : Value), PQ A h' q p P m t (b.clr (pts.drop i)) s → Stq h h' c (A.own t) (A.own t) → Ok tab R85 k #[ptr q,K1,K2,K3,K4,K5,v6,K7,K8,K9,Ka,Kb,Kc,Kd,Ke,Kf,Kg,Kh,Ki,Kj,Kk,Kl,Km,Kn,Ko,Kp,Kq,Kr,Ks,Kt,Ku,Kv,Kw,Kx,Ky,Kz,J0,J1,J2,J3,J4,J5,J6,J7,J8,J9,Ja,Jb,Jc,Jd,Je,Jf,Jg,Jh,Ji,Jj,Jk,Jl,Jm,Jn,Jo,Jp,Jq,Jr,Js,Jt,Ju,Jv,Jw,Jx,Jy,Jz,Y0,Y1,Y2,Y3,Y4,Y5,Y6,Y7,Y8,Y9,Ya,Yb,Yc,Yd,Ye,Yf,Yg,Yh,Yi,Yj,Yk,Yl,Ym,Yn,Yo,Yp,Yq] h' R) →
      Ok tab R85 (.inLoop L85_1 :: .inBlock 2 :: k) #[ptr q,K1,K2,K3,K4,K5,v6,K7,K8,K9,Ka,Kb,Kc,Kd,Ke,Kf,Kg,Kh,Ki,Kj,Kk,Kl,Km,Kn,Ko,Kp,Kq,Kr,Ks,Kt,Ku,Kv,Kw,Kx,Ky,Kz,J0,J1,J2,J3,J4,J5,J6,J7,J8,J9,Ja,Jb,Jc,Jd,Je,Jf,Jg,Jh,Ji,Jj,Jk,Jl,Jm,Jn,Jo,Jp,Jq,Jr,Js,Jt,Ju,sl,.int .i64 pts.length,.int .i64 i,Jy,Jz,Y0,Y1,Y2,Y3,Y4,Y5,Y6,Y7,Y8,Y9,Ya,Yb,Yc,Yd,Ye,Yf,Yg,Yh,Yi,Yj,Yk,Yl,Ym,Yn,Yo,Yp,Yq] h R := by
  intro n
  induction n with
  | zero =>
    intro i h t b s K1 K2 K3 K4 K5 K7 K8 K9 Ka Kb Kc Kd Ke Kf Kg Kh Ki Kj Kk Kl Km Kn Ko Kp Kq Kr Ks Kt Ku Kv Kw Kx Ky Kz J0 J1 J2 J3 J4 J5 J6 J7 J8 J9 Ja Jb Jc Jd Je Jf Jg Jh Ji Jj Jk Jl Jm Jn Jo Jp Jq Jr Js Jt Ju Jy Jz Y0 Y1 Y2 Y3 Y4 Y5 Y6 Y7 Y8 Y9 Ya Yb Yc Yd Ye Yf Yg Yh Yi Yj Yk Yl Ym Yn Yo Yp Yq hm hi he hf ha hpl hk
    have hlt : ¬ ((i : Int) < pts.length) := by omega
    rw [ok_round, l85_1, L85_1a, L85_1b]
    simp [hlt]
    refine hk h _ _ _ _ _ _ _ _ _ _ _ _ _ _ _ _ _ _ _ _ _ _ _ _ _ _ _ _ _ _ _ _ _ _ _ _ _ _ _ _ _ _ _ _ _ _ _ _ _ _ _ _ _ _ _ _ _ _ _ _ _ _ _ _ _ _ _ _ _ _ _ _ _ _ _ _ _ _ _ _ _ _ _ _ _ _ _ _ _ _ _ _ _ _ _ _ _ ?_ (Stq.refl _ _ _)
    rw [List.drop_of_length_le (by omega)]; exact he
  | succ n ih =>
    intro i h t b s K1 K2 K3 K4 K5 K7 K8 K9 Ka Kb Kc Kd Ke Kf Kg Kh Ki Kj Kk Kl Km Kn Ko Kp Kq Kr Ks Kt Ku Kv Kw Kx Ky Kz J0 J1 J2 J3 J4 J5 J6 J7 J8 J9 Ja Jb Jc Jd Je Jf Jg Jh Ji Jj Jk Jl Jm Jn Jo Jp Jq Jr Js Jt Ju Jy Jz Y0 Y1 Y2 Y3 Y4 Y5 Y6 Y7 Y8 Y9 Ya Yb Yc Yd Ye Yf Yg Yh Yi Yj Yk Yl Ym Yn Yo Yp Yq hm hi he hf ha hpl hk
    have hlt : ((i : Int) < pts.length) := by omega
    have hw : IntKind.i64.wrap ((i : Int) + 1) = (i : Int) + 1 := wrapN (n := i + 1) (by omega)
    have hil : i < pts.length := by omega
    obtain ⟨id, off, blk, hs, hb, ht, hle⟩ := hf.get hil
    have hin := ha _ (List.getElem_mem hil)
    have hsp : b.clr (pts.drop i) = (b.upd pts[i].1 pts[i].2 (touch false)).clr (pts.drop (i + 1)) := by
      rw [List.drop_eq_getElem_cons hil]; rfl
    generalize hx : pts[i].1 = x at *
    generalize hy : pts[i].2 = y at *
    rw [hsp] at hk
    have he2 := he.push (some ⟨false, [.int .i64 x, .int .i64 y]⟩)
    have hs2 := Stq.push h (some ⟨false, [.int .i64 x, .int .i64 y]⟩) c (A.own t)
    have hf2 := hf.stq hs2
    have hK : ∀ y : Blk, blk? (h ++ [some y]) h.length = some y := fun y => blk?_push_eq
    have hq2 := he2.qr.blk
    have htc := fun R => touch_r (R := R) (v := false) he2.qr.cb (x := x) (y := y) hin
    have hl1 := good_map he.good hin (kv_touch false)
    obtain ⟨p4, s4⟩ := he2.to hl1
    have hmm : (fun z : Cell => ({ z with t := false } : Cell)) = touch false := rfl
    rw [hmm] at htc
    have hls : (h ++ [some (⟨false, [.int .i64 x, .int .i64 y]⟩ : Blk)]).set c (some ⟨false, encC (b.upd x y (touch false)).cs⟩) = h.set c (some ⟨false, encC (b.upd x y (touch false)).cs⟩) ++ [some ⟨false, [.int .i64 x, .int .i64 y]⟩] :=
      List.set_append_left _ _ he.lts.2.2
    rw [ok_round, l85_1, L85_1a, L85_1b]
    rw [hls] at htc p4 s4
    simp [-List.cons_append, -List.append_assoc, hlt, hw, hs, hb, ht, hle, hK, hq2, htc]
    rw [← hs]
    have st4 := hs2.trans s4
    refine ih (i + 1) _ t _ s _ _ _ _ _ _ _ _ _ _ _ _ _ _ _ _ _ _ _ _ _ _ _ _ _ _ _ _ _ _ _ _ _ _ _ _ _ _ _ _ _ _ _ _ _ _ _ _ _ _ _ _ _ _ _ _ _ _ _ _ _ _ _ _ _ _ _ _ _ _ _ _ _ _ _ _ _ _ _ _ _ _ _ _ _ _ _ _ _ _ _ _ _ _ (by omega) (by omega) p4 (hf.stq st4) (hl1.all ha) hpl ?_
    intro h' K1 K2 K3 K4 K5 K7 K8 K9 Ka Kb Kc Kd Ke Kf Kg Kh Ki Kj Kk Kl Km Kn Ko Kp Kq Kr Ks Kt Ku Kv Kw Kx Ky Kz J0 J1 J2 J3 J4 J5 J6 J7 J8 J9 Ja Jb Jc Jd Je Jf Jg Jh Ji Jj Jk Jl Jm Jn Jo Jp Jq Jr Js Jt Ju Jv Jw Jx Jy Jz Y0 Y1 Y2 Y3 Y4 Y5 Y6 Y7 Y8 Y9 Ya Yb Yc Yd Ye Yf Yg Yh Yi Yj Yk Yl Ym Yn Yo Yp Yq pe st
    exact hk h' _ _ _ _ _ _ _ _ _ _ _ _ _ _ _ _ _ _ _ _ _ _ _ _ _ _ _ _ _ _ _ _ _ _ _ _ _ _ _ _ _ _ _ _ _ _ _ _ _ _ _ _ _ _ _ _ _ _ _ _ _ _ _ _ _ _ _ _ _ _ _ _ _ _ _ _ _ _ _ _ _ _ _ _ _ _ _ _ _ _ _ _ _ _ _ _ _ pe (st4.trans st)

set_option maxRecDepth 10000 in
set_option maxHeartbeats 4000000 in
theorem check_loop_q {v6 : Value} :
    ∀ (n i : Nat) (h : Heap) (t : A.T) (s : A.S) (r : Bool) (K1 K2 K3 K4 K5 K7 K8 K9 Ka Kb Ke Kf Kg Kh Ki Kj Kk Kl Km Kn Ko Kp Kq Kr Ks Kt Ku Kv Kw Kx Ky Kz J0 J1 J2 J3 J4 J5 J6 J7 J8 J9 Ja Jb Jc Jd Je Jf Jg Jh Ji Jj Jk Jl Jm Jn Jo Jp Jq Jr Js Jt Ju Jv Jw Jx Jy Jz Y0 Y1 Y2 Y3 Y4 Y5 Y6 Y7 Y8 Y9 Ya Yb Yc Yd Ye Yf Yg Yh Yi Yj Yk Yl Ym Yn Yo Yp Yq : Value), i + n = 4 → PQ A h q p P m t b s → A.size s + 10 < 1000000 + i →
      (∀ (h' : Heap) (t' : A.T) (K1 K2 K3 K4 K5 K7 K8 K9 Ka Kb Kd Ke Kf Kg Kh Ki Kj Kk Kl Km Kn Ko Kp Kq Kr Ks Kt Ku Kv Kw Kx Ky Kz J0 J1 J2 J3 J4 J5 J6 J7 J8 J9 Ja Jb Jc Jd Je Jf Jg Jh Ji Jj Jk Jl Jm Jn Jo Jp Jq Jr Js Jt Ju Jv Jw Jx Jy Jz Y0 Y1 Y2 Y3 Y4 Y5 Y6 Y7 Y8 Y9 Ya Yb Yc Yd Ye Yf Yg Yh Yi Yj Yk Yl Ym Yn Yo Yp Yq : Value), PQ A h' q p P m t' b ((dchk P r ([true, false, true, false].drop i)).run A.ask s).2 → Stq h h' c (A.own t) (A.own t') → Ok tab R85 k #[ptr q,K1,K2,K3,K4,K5,v6,K7,K8,K9,Ka,Kb,.bool ((dchk P r ([true, false, true, false].drop i)).run A.ask s).1,Kd,Ke,Kf,Kg,Kh,Ki,Kj,Kk,Kl,Km,Kn,Ko,Kp,Kq,Kr,Ks,Kt,Ku,Kv,Kw,Kx,Ky,Kz,J0,J1,J2,J3,J4,J5,J6,J7,J8,J9,Ja,Jb,Jc,Jd,Je,Jf,Jg,Jh,Ji,Jj,Jk,Jl,Jm,Jn,Jo,Jp,Jq,Jr,Js,Jt,Ju,Jv,Jw,Jx,Jy,Jz,Y0,Y1,Y2,Y3,Y4,Y5,Y6,Y7,Y8,Y9,Ya,Yb,Yc,Yd,Ye,Yf,Yg,Yh,Yi,Yj,Yk,Yl,Ym,Yn,Yo,Yp,Yq] h' R) →
      Ok tab R85 (.inLoop L85_2 :: .inBlock 4 :: k) #[ptr q,K1,K2,K3,K4,K5,v6,K7,K8,K9,Ka,Kb,.bool r,.int .i64 i,Ke,Kf,Kg,Kh,Ki,Kj,Kk,Kl,Km,Kn,Ko,Kp,Kq,Kr,Ks,Kt,Ku,Kv,Kw,Kx,Ky,Kz,J0,J1,J2,J3,J4,J5,J6,J7,J8,J9,Ja,Jb,Jc,Jd,Je,Jf,Jg,Jh,Ji,Jj,Jk,Jl,Jm,Jn,Jo,Jp,Jq,Jr,Js,Jt,Ju,Jv,Jw,Jx,Jy,Jz,Y0,Y1,Y2,Y3,Y4,Y5,Y6,Y7,Y8,Y9,Ya,Yb,Yc,Yd,Ye,Yf,Yg,Yh,Yi,Yj,Yk,Yl,Ym,Yn,Yo,Yp,Yq] h R := by
  intro n
  induction n with
  | zero =>
    intro i h t s r K1 K2 K3 K4 K5 K7 K8 K9 Ka Kb Ke Kf Kg Kh Ki Kj Kk Kl Km Kn Ko Kp Kq Kr Ks Kt Ku Kv Kw Kx Ky Kz J0 J1 J2 J3 J4 J5 J6 J7 J8 J9 Ja Jb Jc Jd Je Jf Jg Jh Ji Jj Jk Jl Jm Jn Jo Jp Jq Jr Js Jt Ju Jv Jw Jx Jy Jz Y0 Y1 Y2 Y3 Y4 Y5 Y6 Y7 Y8 Y9 Ya Yb Yc Yd Ye Yf Yg Yh Yi Yj Yk Yl Ym Yn Yo Yp Yq hi he hl hk
    obtain rfl : i = 4 := by omega
    rw [ok_round, l85_2, L85_2a, L85_2b]
    simp
    exact hk h t _ _ _ _ _ _ _ _ _ _ _ _ _ _ _ _ _ _ _ _ _ _ _ _ _ _ _ _ _ _ _ _ _ _ _ _ _ _ _ _ _ _ _ _ _ _ _ _ _ _ _ _ _ _ _ _ _ _ _ _ _ _ _ _ _ _ _ _ _ _ _ _ _ _ _ _ _ _ _ _ _ _ _ _ _ _ _ _ _ _ _ _ _ _ _ _ he (Stq.refl _ _ _)
  | succ n ih =>
    intro i h t s r K1 K2 K3 K4 K5 K7 K8 K9 Ka Kb Ke Kf Kg Kh Ki Kj Kk Kl Km Kn Ko Kp Kq Kr Ks Kt Ku Kv Kw Kx Ky Kz J0 J1 J2 J3 J4 J5 J6 J7 J8 J9 Ja Jb Jc Jd Je Jf Jg Jh Ji Jj Jk Jl Jm Jn Jo Jp Jq Jr Js Jt Ju Jv Jw Jx Jy Jz Y0 Y1 Y2 Y3 Y4 Y5 Y6 Y7 Y8 Y9 Ya Yb Yc Yd Ye Yf Yg Yh Yi Yj Yk Yl Ym Yn Yo Yp Yq hi he hl hk
    obtain ⟨u1, h1, e1, p1, s1⟩ := ask_q he (by omega) 18
    have z1 := A.size_ask s (P.cx 18)
    obtain ⟨x, hx, hxr⟩ : ∃ x : Bool, [true, false, true, false].drop i = x :: [true, false, true, false].drop (i + 1) ∧ IntKind.i64.wrap (1 - (i : Int).tmod 2) = ((x.toNat : Nat) : Int) := by
      have : i = 0 ∨ i = 1 ∨ i = 2 ∨ i = 3 := by omega
      rcases this with rfl | rfl | rfl | rfl
      · exact ⟨true, rfl, by decide⟩
      · exact ⟨false, rfl, by decide⟩
      · exact ⟨true, rfl, by decide⟩
      · exact ⟨false, rfl, by decide⟩
    rw [hx, dchk_run_q] at hk
    generalize (A.ask s (P.cx 18)).1 = bit at *
    generalize (A.ask s (P.cx 18)).2 = sa at *
    have hlt : (i : Int) < 4 := by omega
    have hw : IntKind.i64.wrap ((i : Int) + 1) = ((i + 1 : Nat) : Int) := wrapN (n := i + 1) (by omega)
    have hcmp : (((bit.toNat : Nat) : Int) == ((x.toNat : Nat) : Int)) = (bit == x) := by cases bit <;> cases x <;> rfl
    have hcmp2 : (((bit.toNat : Nat) : Int) != ((x.toNat : Nat) : Int)) = !(bit == x) := by cases bit <;> cases x <;> rfl
    have hgo := fun K1 K2 K3 K4 K5 K7 K8 K9 Ka Kb Ke Kf Kg Kh Ki Kj Kk Kl Km Kn Ko Kp Kq Kr Ks Kt Ku Kv Kw Kx Ky Kz J0 J1 J2 J3 J4 J5 J6 J7 J8 J9 Ja Jb Jc Jd Je Jf Jg Jh Ji Jj Jk Jl Jm Jn Jo Jp Jq Jr Js Jt Ju Jv Jw Jx Jy Jz Y0 Y1 Y2 Y3 Y4 Y5 Y6 Y7 Y8 Y9 Ya Yb Yc Yd Ye Yf Yg Yh Yi Yj Yk Yl Ym Yn Yo Yp Yq => ih (i + 1) h1 u1 sa (r && bit == x) K1 K2 K3 K4 K5 K7 K8 K9 Ka Kb Ke Kf Kg Kh Ki Kj Kk Kl Km Kn Ko Kp Kq Kr Ks Kt Ku Kv Kw Kx Ky Kz J0 J1 J2 J3 J4 J5 J6 J7 J8 J9 Ja Jb Jc Jd Je Jf Jg Jh Ji Jj Jk Jl Jm Jn Jo Jp Jq Jr Js Jt Ju Jv Jw Jx Jy Jz Y0 Y1 Y2 Y3 Y4 Y5 Y6 Y7 Y8 Y9 Ya Yb Yc Yd Ye Yf Yg Yh Yi Yj Yk Yl Ym Yn Yo Yp Yq (by omega) p1 (by omega)
    rw [ok_round, l85_2, L85_2a, L85_2b]
    generalize hbx : (bit == x) = bx at *
    generalize ((bit.toNat : Nat) : Int) = bn at *
    generalize ((x.toNat : Nat) : Int) = xn at *
    generalize ((i + 1 : Nat) : Int) = wi at *
    cases bx
    · rw [Bool.and_false] at hgo hk
      simp [k_guard, hlt, hw, e1, hxr, hcmp2]
      refine hgo _ _ _ _ _ _ _ _ _ _ _ _ _ _ _ _ _ _ _ _ _ _ _ _ _ _ _ _ _ _ _ _ _ _ _ _ _ _ _ _ _ _ _ _ _ _ _ _ _ _ _ _ _ _ _ _ _ _ _ _ _ _ _ _ _ _ _ _ _ _ _ _ _ _ _ _ _ _ _ _ _ _ _ _ _ _ _ _ _ _ _ _ _ _ _ ?_
      intro h' t' K1 K2 K3 K4 K5 K7 K8 K9 Ka Kb Kd Ke Kf Kg Kh Ki Kj Kk Kl Km Kn Ko Kp Kq Kr Ks Kt Ku Kv Kw Kx Ky Kz J0 J1 J2 J3 J4 J5 J6 J7 J8 J9 Ja Jb Jc Jd Je Jf Jg Jh Ji Jj Jk Jl Jm Jn Jo Jp Jq Jr Js Jt Ju Jv Jw Jx Jy Jz Y0 Y1 Y2 Y3 Y4 Y5 Y6 Y7 Y8 Y9 Ya Yb Yc Yd Ye Yf Yg Yh Yi Yj Yk Yl Ym Yn Yo Yp Yq pe st
      exact hk h' t' _ _ _ _ _ _ _ _ _ _ _ _ _ _ _ _ _ _ _ _ _ _ _ _ _ _ _ _ _ _ _ _ _ _ _ _ _ _ _ _ _ _ _ _ _ _ _ _ _ _ _ _ _ _ _ _ _ _ _ _ _ _ _ _ _ _ _ _ _ _ _ _ _ _ _ _ _ _ _ _ _ _ _ _ _ _ _ _ _ _ _ _ _ _ _ _ pe (s1.trans st)
    · rw [Bool.and_true] at hgo hk
      simp [k_guard, hlt, hw, e1, hxr, hcmp2]
      refine hgo _ _ _ _ _ _ _ _ _ _ _ _ _ _ _ _ _ _ _ _ _ _ _ _ _ _ _ _ _ _ _ _ _ _ _ _ _ _ _ _ _ _ _ _ _ _ _ _ _ _ _ _ _ _ _ _ _ _ _ _ _ _ _ _ _ _ _ _ _ _ _ _ _ _ _ _ _ _ _ _ _ _ _ _ _ _ _ _ _ _ _ _ _ _ _ ?_
      intro h' t' K1 K2 K3 K4 K5 K7 K8 K9 Ka Kb Kd Ke Kf Kg Kh Ki Kj Kk Kl Km Kn Ko Kp Kq Kr Ks Kt Ku Kv Kw Kx Ky Kz J0 J1 J2 J3 J4 J5 J6 J7 J8 J9 Ja Jb Jc Jd Je Jf Jg Jh Ji Jj Jk Jl Jm Jn Jo Jp Jq Jr Js Jt Ju Jv Jw Jx Jy Jz Y0 Y1 Y2 Y3 Y4 Y5 Y6 Y7 Y8 Y9 Ya Yb Yc Yd Ye Yf Yg Yh Yi Yj Yk Yl Ym Yn Yo Yp Yq pe st
      exact hk h' t' _ _ _ _ _ _ _ _ _ _ _ _ _ _ _ _ _ _ _ _ _ _ _ _ _ _ _ _ _ _ _ _ _ _ _ _ _ _ _ _ _ _ _ _ _ _ _ _ _ _ _ _ _ _ _ _ _ _ _ _ _ _ _ _ _ _ _ _ _ _ _ _ _ _ _ _ _ _ _ _ _ _ _ _ _ _ _ _ _ _ _ _ _ _ _ _ pe (s1.trans st)

set_option maxRecDepth 10000 in
set_option maxHeartbeats 4000000 in
theorem cleanup_q (he : PQ A h q p P m t b s) (hl : A.size s + 100000 < 1000000) {sl : Value} (hf : Fad h sl (scan b.w b.h) c (A.own t)) :
    ∃ t' h', (∀ R, Ret tab 85 [ptr q, sl, .int .i64 b.h] h R = R (.bool ((dclean P b m.sy).run A.ask s).1.2) h') ∧ PQ A h' q p P m t' ((dclean P b m.sy).run A.ask s).1.1 ((dclean P b m.sy).run A.ask s).2 ∧ Stq h h' c (A.own t) (A.own t') := by
  have key : Ret tab 85 [ptr q, sl, .int .i64 b.h] h fun v h' => v = .bool ((dclean P b m.sy).run A.ask s).1.2 ∧ ∃ t', PQ A h' q p P m t' ((dclean P b m.sy).run A.ask s).1.1 ((dclean P b m.sy).run A.ask s).2 ∧ Stq h h' c (A.own t) (A.own t') := by
    have hw2 := he.qr.cb.ok.w2
    have hh2 := he.qr.cb.ok.h2
    have hsl := scan_len he.qr.cb.ok.w2 he.qr.cb.ok.h2
    have hst : 12 * b.w * stripesOf b.h ≤ 12 * 64 * 16 := Nat.mul_le_mul (by omega) (by unfold stripesOf; omega)
    have g2 : 0 + 4 * ((stripesOf b.h : Nat) : Int) ≤ b.h + 3 := by unfold stripesOf; omega
    obtain ⟨hls, hsz⟩ := Tr.Lv.out (A := A.ask) (size := A.size) A.size_ask s (lv_dstripes he.qr.pok (n := stripesOf b.h) he.good (top := 0) (by omega) g2)
    have hcl : (dclean P b m.sy).run A.ask s = ((((dstripes P b 0 (stripesOf b.h)).run A.ask s).1.clr (scan b.w b.h), ((dcheck P m.sy).run A.ask ((dstripes P b 0 (stripesOf b.h)).run A.ask s).2).1), ((dcheck P m.sy).run A.ask ((dstripes P b 0 (stripesOf b.h)).run A.ask s).2).2) := by
      unfold dclean
      simp only [Tr.run_bind, Tr.run_ret]
      rw [hls.w, hls.h]
    rw [hcl]
    obtain ⟨a, cc, hs⟩ := hf.sl.shape
    rw [enter85, show B85 = .seq (nthC 0 B85) (.seq (nthC 1 B85) (.seq (nthC 2 B85) (.seq (nthC 3 B85) (tlC 4 B85)))) from rfl]
    generalize hT : tlC 4 B85 = tl
    simp only [nthC, tlC, fstC, B85]
    simp [hs]
    rw [← hs]
    refine clean_loop_q _ 0 h t (b, 0) s _ _ _ _ _ _ _ _ _ _ _ _ _ _ _ _ _ _ _ _ _ _ _ _ _ _ _ _ _ _ _ _ _ _ _ _ _ _ _ _ _ _ _ _ _ _ _ _ _ _ _ _ _ _ _ _ _ _ _ _ _ _ _ _ _ _ _ _ _ _ _ _ _ _ _ _ _ _ _ _ _ _ _ _ _ _ _ _ _ _ _ rfl (by omega) he hf (scanIn b) rfl (by omega) (Nat.zero_le _) (by omega) ?_
    intro h1 u1 K2 K3 K4 K5 K7 K8 K9 Ka Kb Kc Kd Ke Kf Kg Kh Ki Kj Kk Kl Km Kn Ko Kp Kq Kr Ks Kt Ku Kv Kw Kx Ky Kz J0 J1 J2 J3 J4 J5 J6 J7 J8 J9 Ja Jb Jc Jd Je Jf Jg Jh Ji Jj Jk Jl Jm Jn Jo Jp Jq Jr Js Jt Ju Jv Jw Jx Jy Jz Y0 Y1 Y2 Y3 Y4 Y5 Y6 Y7 Y8 Y9 Ya Yb Yc Yd Ye Yf Yg Yh Yi Yj Yk Yl Ym Yn Yo Yp Yq p1 s1
    rw [List.drop_zero, dcsteps_all he.qr.pok he.good, Tr.run_bind, Tr.run_ret] at p1
    simp only at p1
    have f1 := hf.stq s1
    have hall : AllIn ((dstripes P b 0 (stripesOf b.h)).run A.ask s).1 (scan b.w b.h) := by have := scanIn ((dstripes P b 0 (stripesOf b.h)).run A.ask s).1; rwa [hls.w, hls.h] at this
    simp [hs]
    rw [← hs]
    refine clear_loop_q _ 0 h1 u1 _ _ _ _ _ _ _ _ _ _ _ _ _ _ _ _ _ _ _ _ _ _ _ _ _ _ _ _ _ _ _ _ _ _ _ _ _ _ _ _ _ _ _ _ _ _ _ _ _ _ _ _ _ _ _ _ _ _ _ _ _ _ _ _ _ _ _ _ _ _ _ _ _ _ _ _ _ _ _ _ _ _ _ _ _ _ _ _ _ _ _ _ _ _ _ _ rfl (by omega) p1 f1 hall (by omega) ?_
    intro h3 K1 K2 K3 K4 K5 K7 K8 K9 Ka Kb Kc Kd Ke Kf Kg Kh Ki Kj Kk Kl Km Kn Ko Kp Kq Kr Ks Kt Ku Kv Kw Kx Ky Kz J0 J1 J2 J3 J4 J5 J6 J7 J8 J9 Ja Jb Jc Jd Je Jf Jg Jh Ji Jj Jk Jl Jm Jn Jo Jp Jq Jr Js Jt Ju Jv Jw Jx Jy Jz Y0 Y1 Y2 Y3 Y4 Y5 Y6 Y7 Y8 Y9 Ya Yb Yc Yd Ye Yf Yg Yh Yi Yj Yk Yl Ym Yn Yo Yp Yq p3 s3
    rw [List.drop_zero] at p3
    have hcg := le_clr hls.good hall
    generalize ((dstripes P b 0 (stripesOf b.h)).run A.ask s).2 = sa at *
    generalize ((dstripes P b 0 (stripesOf b.h)).run A.ask s).1.clr (scan b.w b.h) = b3 at *
    have hq3 := p3.qr.blk
    rw [← hT]
    simp only [tlC, B85]
    cases hon : m.sy
    · rw [hon] at hq3
      simp [hq3, dcheck, Tr.run_ret, fin85]
      exact ⟨u1, p3, s1.trans s3⟩
    · rw [hon] at hq3
      have hdc : dcheck P true = dchk P true [true, false, true, false] := rfl
      rw [hdc]
      simp [hq3]
      refine check_loop_q 4 0 h3 u1 sa true _ _ _ _ _ _ _ _ _ _ _ _ _ _ _ _ _ _ _ _ _ _ _ _ _ _ _ _ _ _ _ _ _ _ _ _ _ _ _ _ _ _ _ _ _ _ _ _ _ _ _ _ _ _ _ _ _ _ _ _ _ _ _ _ _ _ _ _ _ _ _ _ _ _ _ _ _ _ _ _ _ _ _ _ _ _ _ _ _ _ _ _ _ _ _ (by omega) p3 (by omega) ?_
      intro h' t' K1 K2 K3 K4 K5 K7 K8 K9 Ka Kb Kd Ke Kf Kg Kh Ki Kj Kk Kl Km Kn Ko Kp Kq Kr Ks Kt Ku Kv Kw Kx Ky Kz J0 J1 J2 J3 J4 J5 J6 J7 J8 J9 Ja Jb Jc Jd Je Jf Jg Jh Ji Jj Jk Jl Jm Jn Jo Jp Jq Jr Js Jt Ju Jv Jw Jx Jy Jz Y0 Y1 Y2 Y3 Y4 Y5 Y6 Y7 Y8 Y9 Ya Yb Yc Yd Ye Yf Yg Yh Yi Yj Yk Yl Ym Yn Yo Yp Yq pe st
      simp [fin85]
      exact ⟨t', by simpa using pe, (s1.trans s3).trans st⟩
  obtain ⟨v, h', e, rfl, t', pe, st⟩ := ret_ex key
  exact ⟨t', h', e, pe, st⟩
end
theorem eq_ptrN {a : Nat} : eqV .ptr (ptr a) (.pointer none) = some false := by simp [eqV]

section
variable {c sb : Nat} {A : Src c (callN sb)} {h : Heap} {p : Nat} {t : A.T} {b : BS} {s : A.S}

theorem DRes.low {h h' : Heap} (hb : CB h false p c b) (hr : b.Rng) (hrel : A.rel h t s) (hk : ∀ id, id < h.length → blk? h' id = blk? h id) (hl : h.length ≤ h'.length) : DRes A h h' p t t b s :=
  ⟨⟨by rw [hk _ (blk?_lt hb.blkp)]; exact hb.blkp, by rw [hk _ (blk?_lt hb.blkc)]; exact hb.blkc, hb.ok⟩, ⟨hb.ok, hr⟩, A.stable hrel hl (fun id h1 _ => hk id h1), Stq.low hk hl _ _⟩
theorem PQ.scan {q : Nat} {P : PP} {m : MD} (he : PQ A h q p P m t b s) : ∃ sl h', (∀ R, Ret tab 82 [.int .i64 b.w, .int .i64 b.h] h R = R sl h') ∧ PQ A h' q p P m t b s ∧ Stq h h' c (A.own t) (A.own t) ∧ Fad h' sl (scan b.w b.h) c (A.own t) := by
  have ho := he.qr.cb.ok
  obtain ⟨l1, l2, l3⟩ := he.lts
  obtain ⟨s1, h', e, m'⟩ := scan_r ho.w1 ho.w2 ho.h1 ho.h2 h
  refine ⟨s1, h', e, he.low m'.low m'.len, Stq.low m'.low m'.len c _, ⟨m'.own.sl, fun id hid => ?_⟩⟩
  have h1 := m'.far id hid
  refine ⟨?_, by omega, fun e => by have := A.lt he.rel id e; omega⟩
  rcases m'.own.2 with ⟨rfl, _⟩ | ⟨id', rfl, hb⟩
  · simp [sid] at hid
  · simp [sid] at hid; subst hid; exact blk?_lt hb

set_option maxHeartbeats 1000000 in
theorem run_q (hb : CB h false p c b) (hr : b.Rng) (hrel : A.rel h t s) (hp : ¬ A.own t p) (hsb : sb < h.length) (hl : A.size s + 100000 < 1000000) (n planes o : Int) (m : MD) :
    ∃ t' h', (∀ R, Ret tab 26 [ptr p, .int .i64 n, .int .i64 planes, .int .i64 o, m.val, ptr sb] h R = R (.int .i64 (dErr n planes o (dOut A.ask m b n planes o s).1.2)) h') ∧
      DRes A h h' p t t' (dOut A.ask m b n planes o s).1.1 (dOut A.ask m b n planes o s).2 := by
  have key : Ret tab 26 [ptr p, .int .i64 n, .int .i64 planes, .int .i64 o, m.val, ptr sb] h fun v h' => v = .int .i64 (dErr n planes o (dOut A.ask m b n planes o s).1.2) ∧ ∃ t', DRes A h h' p t t' (dOut A.ask m b n planes o s).1.1 (dOut A.ask m b n planes o s).2 := by
    have hb1 : CB (h ++ [some ⟨false, [.bool m.byp, .bool m.res, .bool m.rst, .bool m.cz, .bool m.sy]⟩]) false p c b := ⟨blk?_push hb.blkp, blk?_push hb.blkc, hb.ok⟩
    have hsz := fun R => size_r (R := R) hb1
    have hw0 := hb.ok.w1
    have hw0' : ((b.w : Int) == 0) = false := by simp; omega
    have hnone : runErr n planes o ≠ 0 → ∀ h', (∀ id, id < h.length → blk? h' id = blk? h id) → h.length ≤ h'.length → ∃ t', DRes A h h' p t t' (dOut A.ask m b n planes o s).1.1 (dOut A.ask m b n planes o s).2 := by
      intro he h' hk hl
      unfold dOut
      rw [if_neg he]
      exact ⟨t, DRes.low hb hr hrel hk hl⟩
    have hkp : ∀ x : Option Blk, ∀ id, id < h.length → blk? (h ++ [x]) id = blk? h id := fun x id hid => blk?_push_lt hid
    rw [enter26, show B26 = .seq (nthC 0 B26) (.seq (nthC 1 B26) (.seq (nthC 2 B26) (.seq (nthC 3 B26) (.seq (nthC 4 B26) (.seq (nthC 5 B26) (tlC 6 B26)))))) from rfl]
    generalize hT : tlC 6 B26 = tl
    simp only [nthC, tlC, fstC, B26]
    obtain ⟨byp, res, rst, cz, sy⟩ := m
    simp only [MD.val] at *
    have herr : ∀ e, runErr n planes o = e → e ≠ 0 → dErr n planes o (dOut A.ask ⟨byp, res, rst, cz, sy⟩ b n planes o s).1.2 = e := by
      intro e he h0
      unfold dErr; rw [he, if_pos h0]
    by_cases h1 : planes < 1
    · have he := runErr_lo (n := n) (o := o) (.inl h1 : planes < 1 ∨ 60 < planes ∨ n < 0 ∨ 3 * planes - 3 < n)
      simp [k_guard, k_guardU, hsz, hw0', eq_ptrN, h1, fin26]
      exact ⟨(herr 2 he (by decide)).symm, hnone (by rw [he]; decide) _ (hkp _) (by simp)⟩
    by_cases h2 : 60 < planes
    · have he := runErr_lo (n := n) (o := o) (.inr (.inl h2) : planes < 1 ∨ 60 < planes ∨ n < 0 ∨ 3 * planes - 3 < n)
      simp [k_guard, k_guardU, hsz, hw0', eq_ptrN, h1, h2, fin26]
      exact ⟨(herr 2 he (by decide)).symm, hnone (by rw [he]; decide) _ (hkp _) (by simp)⟩
    by_cases h3 : n < 0
    · have he := runErr_lo (n := n) (o := o) (.inr (.inr (.inl h3)) : planes < 1 ∨ 60 < planes ∨ n < 0 ∨ 3 * planes - 3 < n)
      simp [k_guard, k_guardU, hsz, hw0', eq_ptrN, h1, h2, h3, fin26]
      exact ⟨(herr 2 he (by decide)).symm, hnone (by rw [he]; decide) _ (hkp _) (by simp)⟩
    have hm1 : IntKind.i64.wrap (3 * planes) = 3 * planes := wrapI (by omega) (by omega)
    have hm2 : IntKind.i64.wrap (3 * planes - 3) = 3 * planes - 3 := wrapI (by omega) (by omega)
    by_cases h4 : 3 * planes - 3 < n
    · have he := runErr_lo (n := n) (o := o) (.inr (.inr (.inr h4)) : planes < 1 ∨ 60 < planes ∨ n < 0 ∨ 3 * planes - 3 < n)
      simp [k_guard, k_guardU, hsz, hw0', eq_ptrN, h1, h2, h3, hm1, hm2, h4, fin26]
      exact ⟨(herr 2 he (by decide)).symm, hnone (by rw [he]; decide) _ (hkp _) (by simp)⟩
    by_cases h5 : 0 ≤ o ∧ o ≤ 3
    case neg =>
      have he : runErr n planes o = 3 := by unfold runErr; rw [if_neg (by omega), if_pos (by omega)]
      have hd : decide (0 ≤ o ∧ o ≤ 3) = false := by simp [h5]
      simp [-decide_eq_false_iff_not, -Bool.decide_and, k_guard, k_guardU, hsz, hw0', eq_ptrN, h1, h2, h3, hm1, hm2, h4, validOrient_r, hd, fin26]
      exact ⟨(herr 3 he (by decide)).symm, hnone (by rw [he]; decide) _ (hkp _) (by simp)⟩
    have hd : decide (0 ≤ o ∧ o ≤ 3) = true := by simp [h5]
    simp [-decide_eq_true_eq, -Bool.decide_and, k_guard, k_guardU, hsz, hw0', eq_ptrN, h1, h2, h3, hm1, hm2, h4, validOrient_r, hd]
    have he : runErr n planes o = 0 := by unfold runErr; rw [if_neg (by omega), if_neg (by omega)]
    unfold dErr dOut
    rw [he]
    simp only [ne_eq, not_true_eq_false, if_false, if_true]
    obtain ⟨n, rfl⟩ := Int.eq_ofNat_of_zero_le (show 0 ≤ n by omega)
    obtain ⟨planes, rfl⟩ := Int.eq_ofNat_of_zero_le (show 0 ≤ planes by omega)
    obtain ⟨o, rfl⟩ := Int.eq_ofNat_of_zero_le (show 0 ≤ o by omega)
    simp only [Int.toNat_natCast]
    generalize hres : (dRun ⟨byp, res, rst, cz, sy⟩ b n planes o).run A.ask s = dr
    have hp' := fun h R => pass_r (h := h) (R := R) (n := n) (by omega)
    have hrw := fun h R => raw_r (h := h) (R := R) (n := n) (by omega) ⟨byp, res, rst, cz, sy⟩
    have hpl := planeOf_le (n := n) (planes := planes) (by omega) (by omega)
    have e1 : IntKind.i64.wrap ((planes : Int) - 1) = ((planes - 1 : Nat) : Int) := by rw [wrapI (by omega) (by omega)]; omega
    have e2 : IntKind.i64.wrap (((planes - 1 : Nat) : Int) - (planeOf n : Int)) = ((planes - 1 - planeOf n : Nat) : Int) := by rw [wrapI (by omega) (by omega)]; omega
    rw [← hT, show tlC 6 B26 = .seq (nthC 6 B26) (.seq (nthC 7 B26) (tlC 8 B26)) from rfl]
    generalize hT2 : tlC 8 B26 = tl2
    simp only [nthC, tlC, fstC, B26]
    simp only [MD.val] at hrw
    have hlp := blk?_lt hb.blkp
    have hlc := blk?_lt hb.blkc
    simp [hp', hrw, e1, e2, app_len, app_add, app_zero, app_succ, app_set, app_setk, book, logOf, addLog, chk1, lookL, reload]
    generalize hP : runPP ⟨byp, res, rst, cz, sy⟩ n planes o = P
    have hPs : P.s = planes - 1 - planeOf n := by rw [← hP]; rfl
    have hPo : P.o = o := by rw [← hP]; rfl
    have hPc : P.cz = cz := by rw [← hP]; rfl
    have hPr : P.rw = rawOf ⟨byp, res, rst, cz, sy⟩ n := by rw [← hP]; rfl
    have hrs : dRun ⟨byp, res, rst, cz, sy⟩ b n planes o = if kindOf n = 0 then (dsigs P b (scan b.w b.h)).bind fun b => .ret (b, true) else if kindOf n = 1 then (drefs P b (scan b.w b.h)).bind fun b => .ret (b, true) else dclean P b sy := by
      unfold dRun; rw [hP]
    rw [hrs] at hres
    rw [← hPr, ← hPs, ← hPo, ← hPc]
    generalize hH : h ++ [some (⟨false, [.bool byp, .bool res, .bool rst, .bool P.cz, .bool sy]⟩ : Blk),
      some ⟨false, [ptr p, .int .i64 P.s, .int .i64 P.o, .bool byp, .bool res, .bool rst, .bool P.cz, .bool sy, .bool P.rw, ptr sb]⟩] = H
    have hlow : ∀ id, id < h.length → blk? H id = blk? h id := fun id hid => by rw [← hH]; exact app_lt hid
    have hHl : H.length = h.length + 2 := by rw [← hH]; simp
    have hlt := fun id (ho : A.own t id) => A.lt hrel id ho
    have he : PQ A H (h.length + 1) p P ⟨byp, res, rst, P.cz, sy⟩ t b s := by
      refine ⟨⟨by rw [← hH, app_add]; rfl, ⟨by rw [hlow _ hlp]; exact hb.blkp, by rw [hlow _ hlc]; exact hb.blkc, hb.ok⟩, by omega, ⟨by rw [hPs]; omega, by rw [hPo]; omega⟩, hr⟩, A.stable hrel (by omega) (fun id h1 _ => hlow id h1), ?_, ?_⟩
      · have := hb.ne; omega
      · exact ⟨fun e => by have := hlt _ e; omega, hp⟩
    obtain ⟨sl, H1, es, he1, st1, f1⟩ := he.scan
    -- what is left
    have fin : ∀ (b' : BS) (s' : A.S) (t' : A.T) (H' : Heap), PQ A H' (h.length + 1) p P ⟨byp, res, rst, P.cz, sy⟩ t' b' s' → Stq H H' c (A.own t) (A.own t') → ∃ t', DRes A h H' p t t' b' s' := by
      intro b' s' t' H' pe st
      exact ⟨t', pe.qr.cb, pe.good, pe.rel, (Stq.low hlow (by omega) _ _).trans st⟩
    rw [← hT2]
    simp only [tlC, B26]
    have hk : kindOf n = 0 ∨ kindOf n = 1 ∨ kindOf n = 2 := by unfold kindOf; split <;> omega
    rcases hk with hk | hk | hk
    · obtain ⟨t', H', e, pe, st⟩ := significance_q he1 hl f1
      rw [if_pos hk] at hres
      simp only [Tr.run_bind, Tr.run_ret] at hres
      subst hres
      simp [hk, es, e, fin26]
      exact fin _ _ _ _ pe (st1.trans st)
    · obtain ⟨t', H', e, pe, st⟩ := refinement_q he1 hl f1
      rw [if_neg (by omega), if_pos hk] at hres
      simp only [Tr.run_bind, Tr.run_ret] at hres
      subst hres
      simp [hk, es, e, fin26]
      exact fin _ _ _ _ pe (st1.trans st)
    · obtain ⟨t', H', e, pe, st⟩ := cleanup_q he1 hl f1
      rw [if_neg (by omega), if_neg (by omega)] at hres
      subst hres
      simp only at e pe st
      cases hok : ((dclean P b sy).run A.ask s).1.2
      · rw [hok] at e
        simp [hk, es, e, fin26]
        exact fin _ _ _ _ pe (st1.trans st)
      · rw [hok] at e
        simp [hk, es, e, fin26]
        exact fin _ _ _ _ pe (st1.trans st)
  obtain ⟨v, h', e, rfl, t', rs⟩ := ret_ex key
  exact ⟨t', h', e, rs⟩
end
theorem bit_get (bits : List Int) (n : Nat) : (n < bits.length → bits.getD n 0 = bits.getD n 0 ∧ bits[n]? = some (bits.getD n 0)) ∧ (¬ n < bits.length → bits.getD n 0 = 0) := by
  refine ⟨fun h => ⟨rfl, by simp [List.getD_eq_getElem?_getD, List.getElem?_eq_getElem h]⟩, fun h => by simp [List.getD_eq_getElem?_getD, List.getElem?_eq_none (show bits.length ≤ n by omega)]⟩
theorem bits_cell {h : Heap} {bv : Value} {bits : List Int} (hs : Sl h 1 bv bits.length (i64s bits)) {n : Nat} (hn : n < bits.length) :
    ∃ id off b, bv = .slice (some ⟨id, off, none⟩) bits.length 1 ∧ blk? h id = some b ∧ b.cells[off + n]? = some (.int .i64 (bits.getD n 0)) := by
  obtain ⟨id, off, b, e, hb, hc⟩ := hs.get hn
  have := hc 0 (by omega)
  refine ⟨id, off, b, e, hb, ?_⟩
  rw [Nat.mul_one, Nat.add_zero, Nat.add_zero] at this
  rw [this]; simp [i64s, List.getD_eq_getElem?_getD, List.getElem?_eq_getElem hn]

def ownA (ga : Nat) (gv : Value) (id : Nat) : Prop := id = ga ∨ sid gv = some id
/-- The reference's: a source at sb. -/
structure RelR (c sb : Nat) (bv : Value) (bits : List Int) (h : Heap) (av : Value) (s : List (Int × Int)) : Prop where
  blk : blk? h sb = some ⟨false, [.pointer none, .pointer none, bv, av]⟩
  own : OwnS h 2 av s.length (encP s)
  sl : Sl h 1 bv bits.length (i64s bits)
  bvf : ∀ id, sid bv = some id → id < h.length ∧ id ≠ c ∧ id ≠ sb ∧ sid av ≠ some id
  avf : ∀ id, sid av = some id → id ≠ c ∧ id ≠ sb
  ne : sb ≠ c
  cl : c < h.length
theorem RelR.keep {c sb : Nat} {bv : Value} {bits : List Int} {h h' : Heap} {av : Value} {s : List (Int × Int)} (r : RelR c sb bv bits h av s) (hl : h.length ≤ h'.length) (hk : ∀ id, id = sb ∨ sid av = some id ∨ sid bv = some id → blk? h' id = blk? h id) : RelR c sb bv bits h' av s :=
  ⟨by rw [hk _ (.inl rfl)]; exact r.blk, r.own.of_blk fun id hid hb => by rw [hk _ (.inr (.inl hid))]; exact hb, r.sl.of_sid fun id b hid hb => by rw [hk _ (.inr (.inr hid))]; exact hb, fun id hid => by obtain ⟨a, b⟩ := r.bvf id hid; exact ⟨by omega, b⟩, r.avf, r.ne, by have := r.cl; omega⟩
theorem eq_ptr00 : eqV .ptr (.pointer none) (.pointer none) = some true := by simp [eqV]

theorem next_r {c sb : Nat} {bv : Value} {bits : List Int} {h : Heap} {av : Value} {s : List (Int × Int)} (hr : RelR c sb bv bits h av s) (hs : s.length < 1000000) (hbl : bits.length < 1000000) (x : Int) :
    ∃ av' h', (∀ R, Ret tab 164 [ptr sb, .int .i64 x] h R = R (.int .i64 (bits.getD s.length 0)) h') ∧ RelR c sb bv bits h' av' (s ++ [(x, bits.getD s.length 0)]) ∧ Stu h h' (ownA sb av) (ownA sb av') := by
  obtain ⟨hb, ho, hsl, hbf, hgf, n1, hcl0⟩ := hr
  have hla := blk?_lt hb
  generalize hbit : bits.getD s.length 0 = bit
  have hslA : Sl (h ++ [some ⟨false, [.int .i64 x, .int .i64 bit]⟩]) 2 (.slice (some ⟨h.length, 0, none⟩) 1 2) 1 [.int .i64 x, .int .i64 bit] := ⟨by simp, .inr ⟨h.length, 0, rfl, .inr ⟨_, blk?_push_eq, by simp, by simp⟩⟩⟩
  have hoA : OwnS (h ++ [some ⟨false, [.int .i64 x, .int .i64 bit]⟩]) 2 av s.length (encP s) := ho.of_blk fun id _ hb => blk?_push hb
  obtain ⟨H, ha, hK, hHl, hHs⟩ := own_append (bytes := 16) hoA hslA (by unfold roomCells; omega) (by omega) (by omega)
  simp only [List.length_append, List.length_singleton] at ha hK hHl hHs
  have hk : ∀ id, id < h.length → sid av ≠ some id → blk? H id = blk? h id := fun id hid hne => by rw [hHs id (by omega) hne, blk?_push_lt hid]
  have hga : sid av ≠ some sb := fun e => (hgf _ e).2 rfl
  have hH1 := hk sb hla hga
  rw [hb] at hH1
  obtain ⟨a, cc, hsh⟩ := ho.sl.shape
  obtain ⟨ba, bc, hbsh⟩ := hsl.shape
  have hE : ∀ x : Blk, blk? (H.set sb (some x)) sb = some x := fun x => blk?_set_eq (by omega)
  refine ⟨.slice (some ⟨h.length + 1, 0, none⟩) (s.length + 1) 2, H.set sb (some ⟨false, [.pointer none, .pointer none, bv, .slice (some ⟨h.length + 1, 0, none⟩) (s.length + 1) 2]⟩), fun R => ?_, ⟨hE _, ⟨encP_len _, .inr ⟨h.length + 1, by simp, ?_⟩⟩, hsl.of_sid fun id b hid hb' => ?_, fun id hid => ?_, fun id hid => ?_, n1, by simp; omega⟩, ⟨by simp; omega, fun id h1 h2 => ?_, fun id hid => ?_⟩⟩
  · obtain ⟨g1, g2⟩ := bit_get bits s.length
    rw [enter164, B164]
    by_cases hlt : s.length < bits.length
    · obtain ⟨id, off, b, hbv, hbk, hcl⟩ := bits_cell hsl hlt
      have hltI : (s.length : Int) < bits.length := by omega
      rw [hbit] at hcl
      rw [hsh] at hb ha hH1
      rw [hbv] at hb hH1 ⊢
      by_cases hx : 0 ≤ x
      · have hx' : ¬ x < 0 := by omega
        simp (maxSteps := 1000000) [k_guard, k_guardU, hx, hx', hb, eq_ptr00, hltI, hlt, hbk, hcl, repL, ha, hH1, fin164]
      · have hx' : x < 0 := by omega
        simp (maxSteps := 1000000) [k_guard, k_guardU, hx, hx', hb, eq_ptr00, hltI, hlt, hbk, hcl, repL, ha, hH1, fin164]
    · have hltI : ¬ (s.length : Int) < bits.length := by omega
      rw [g2 hlt] at hbit
      subst hbit
      rw [hsh] at hb ha hH1
      rw [hbsh] at hb hH1 ⊢
      by_cases hx : 0 ≤ x
      · have hx' : ¬ x < 0 := by omega
        simp (maxSteps := 1000000) [k_guard, k_guardU, hx, hx', hb, eq_ptr00, hltI, hlt, repL, ha, hH1, fin164]
      · have hx' : x < 0 := by omega
        simp (maxSteps := 1000000) [k_guard, k_guardU, hx, hx', hb, eq_ptr00, hltI, hlt, repL, ha, hH1, fin164]
  · rw [blk?_set_ne (by omega), hK, encP_append]; rfl
  · obtain ⟨f1, f2, f3, f4⟩ := hbf id hid
    rw [blk?_set_ne (fun e => f3 e.symm), hk id f1 f4]; exact hb'
  · obtain ⟨f1, f2, f3, f4⟩ := hbf id hid
    exact ⟨by simp; omega, f2, f3, by simp [sid]; omega⟩
  · simp [sid] at hid; subst hid
    omega
  · rw [blk?_set_ne (fun e => h2 (.inl e.symm)), hk id h1 (fun e => h2 (.inr e))]
  · rcases hid with rfl | hid
    · exact .inl (.inl rfl)
    · simp [sid] at hid; right; omega

/-- The reference's source. -/
def srcR (c sb : Nat) (bv : Value) (bits : List Int) (hbl : bits.length < 1000000) : Src c (callN sb) where
  S := List (Int × Int)
  T := Value
  ask := askB bits
  rel := RelR c sb bv bits
  own := ownA sb
  size := List.length
  lt := fun h id e => by
    rcases e with rfl | e
    · exact blk?_lt h.blk
    · exact h.own.lt e
  stable := fun {h h' t s} hr hl hk => hr.keep hl fun id hid => by
    rcases hid with rfl | hid | hid
    · exact hk _ (blk?_lt hr.blk) hr.ne
    · exact hk _ (hr.own.lt hid) (hr.avf _ hid).1
    · exact hk _ (hr.bvf _ hid).1 (hr.bvf _ hid).2.1
  size_ask := fun _ _ => by simp [askB]
  step := fun {h t s} hr hs x => by
    obtain ⟨av', h', e, hr', st⟩ := next_r hr hs hbl x
    exact ⟨av', h', _, e, rfl, hr', st⟩
  c_own := fun {h t s} hr e => by
    rcases e with e | e
    · exact hr.ne e.symm
    · exact (hr.avf _ e).1 rfl
theorem RelR.lt {c sb : Nat} {bv : Value} {bits : List Int} {h : Heap} {av : Value} {s : List (Int × Int)} (r : RelR c sb bv bits h av s) : ∀ id, ownA sb av id → id < h.length := by
  rintro id (rfl | e)
  · exact blk?_lt r.blk
  · exact r.own.lt e
theorem encP_bel (n : Nat) : ∀ l : List (Int × Int), belowL n (encP l) = true
  | [] => by simp [encP]
  | p :: l => by simp [encP, encP_bel n l]
theorem own_frz {h : Heap} {esz n : Nat} {s : Value} {cs : List Value} (ho : OwnS h esz s n cs) (hc : ∀ n, belowL n cs = true) : Sl (frz h) esz s n cs :=
  Sl_of_cells ho.sl fun id b hid hb => by
    rcases ho.2 with ⟨rfl, _⟩ | ⟨id', rfl, hb'⟩
    · simp [sid] at hid
    · simp [sid] at hid; subst hid
      rw [hb'] at hb; injection hb with hb; subst hb
      exact ⟨_, blk_frz hb' (hc _), rfl⟩
theorem encP_at {h : Heap} {av : Value} {s : List (Int × Int)} (hs : Sl h 2 av s.length (encP s)) {i : Nat} (hi : i < s.length) :
    ∃ id off b, av = .slice (some ⟨id, off, none⟩) s.length 2 ∧ blk? h id = some b ∧ (b.cells.drop (off + i * 2)).take 2 = [.int .i64 s[i].1, .int .i64 s[i].2] ∧ off + i * 2 + 2 ≤ b.cells.length := by
  obtain ⟨id, off, b, rfl, hb, hc⟩ := hs.get hi
  obtain ⟨g0, g1⟩ := encP_get s i hi
  have c0 := hc 0 (by omega)
  have c1 := hc 1 (by omega)
  rw [Nat.add_zero, Nat.add_zero, g0] at c0
  rw [g1] at c1
  obtain ⟨ht, hle⟩ := two c0 c1
  exact ⟨id, off, b, rfl, hb, ht, hle⟩
theorem dOut_le {bits : List Int} {m : MD} {b : BS} (hg : b.Good) {n planes o : Int} {s : List (Int × Int)} : b.Le (dOut (askB bits) m b n planes o s).1.1 ∧ (dOut (askB bits) m b n planes o s).2.length ≤ s.length + 20000 := by
  unfold dOut
  split
  · rename_i he
    have hr : 1 ≤ planes ∧ planes ≤ 60 ∧ 0 ≤ n ∧ n ≤ 3 * planes - 3 ∧ 0 ≤ o ∧ o ≤ 3 := by
      unfold runErr at he
      split at he
      · cases he
      · split at he
        · cases he
        · omega
    have := Tr.Lv.out (A := askB bits) (size := List.length) (fun _ _ => by simp [askB]) s (lv_dRun (m := m) hg (n := n.toNat) (planes := planes.toNat) (o := o.toNat) (runPP_ok (by omega) (by omega) (by omega)))
    exact this
  · exact ⟨BS.Le.refl hg, by simp⟩

end Go.Proofs.Ytjpjohchdfoeaaa
