/-
  A source of bits, and a pass of the decoder in progress.
  The decoder's passes: questions, signs, what they read.
  The decoder's passes: the significance and the refinement pass.
  The decoder's passes: the cleanup pass.
  Run of the decoder's passes.
-/
import Derived.Test.YtjpjohchdfoeaaaDst
import Derived.Test.YtjpjohchdfoeaaaEnc8
namespace Go.Proofs.Ytjpjohchdfoeaaa
open Go Go.Sim
set_option linter.unusedSimpArgs false
set_option linter.unusedVariables false
/-- What a part of a pass leaves of the memory: what the source owned before and owns now may be changed, and the coefficients at c. -/
structure Stq (h h' : Heap) (c : Nat) (O O' : Nat → Prop) : Prop where
  len : h.length ≤ h'.length
  same : ∀ id, id < h.length → id ≠ c → ¬ O id → blk? h' id = blk? h id
  fresh : ∀ id, O' id → O id ∨ h.length ≤ id
theorem Stq.refl (h : Heap) (c : Nat) (O : Nat → Prop) : Stq h h c O O := ⟨Nat.le_refl _, fun _ _ _ _ => rfl, fun _ h => .inl h⟩
theorem Stq.trans {h h1 h2 : Heap} {c : Nat} {O O1 O2 : Nat → Prop} (a : Stq h h1 c O O1) (b : Stq h1 h2 c O1 O2) : Stq h h2 c O O2 := by
  refine ⟨Nat.le_trans a.len b.len, fun id h1 h2 h3 => ?_, fun id hid => ?_⟩
  · rw [b.same id (Nat.lt_of_lt_of_le h1 a.len) h2 (fun e => ?_), a.same id h1 h2 h3]
    rcases a.fresh id e with h | h
    · exact h3 h
    · omega
  · rcases b.fresh id hid with h | h
    · exact a.fresh id h
    · exact .inr (Nat.le_trans a.len h)
theorem Stq.push (h : Heap) (x : Option Blk) (c : Nat) (O : Nat → Prop) : Stq h (h ++ [x]) c O O := ⟨by simp, fun id h1 _ _ => blk?_push_lt h1, fun _ h => .inl h⟩
theorem Stq.low {h h' : Heap} (hk : ∀ id, id < h.length → blk? h' id = blk? h id) (hl : h.length ≤ h'.length) (c : Nat) (O : Nat → Prop) : Stq h h' c O O := ⟨hl, fun id h1 _ _ => hk id h1, fun _ h => .inl h⟩
theorem Stq.setc (h : Heap) (c : Nat) (O : Nat → Prop) (x : Option Blk) : Stq h (h.set c x) c O O := ⟨by simp, fun id _ hc _ => blk?_set_ne (Ne.symm hc), fun _ h => .inl h⟩

/-- What the source itself leaves. -/
structure Stu (h h' : Heap) (O O' : Nat → Prop) : Prop where
  len : h.length ≤ h'.length
  same : ∀ id, id < h.length → ¬ O id → blk? h' id = blk? h id
  fresh : ∀ id, O' id → O id ∨ h.length ≤ id
theorem Stu.q {h h' : Heap} {O O' : Nat → Prop} (s : Stu h h' O O') (c : Nat) : Stq h h' c O O' := ⟨s.len, fun id h1 _ h3 => s.same id h1 h3, s.fresh⟩

/-- A source of bits: its states, where they lie, what it answers; it leaves the coefficients at c alone, and does not look at them. -/
structure Src (c : Nat) (call : Heap → Int → (Value → Heap → Prop) → Prop) where
  S : Type
  T : Type
  ask : S → Int → Bool × S
  rel : Heap → T → S → Prop
  own : T → Nat → Prop
  size : S → Nat
  lt : ∀ {h t s}, rel h t s → ∀ id, own t id → id < h.length
  stable : ∀ {h h' t s}, rel h t s → h.length ≤ h'.length → (∀ id, id < h.length → id ≠ c → blk? h' id = blk? h id) → rel h' t s
  size_ask : ∀ s x, size (ask s x).2 ≤ size s + 1
  step : ∀ {h t s}, rel h t s → size s < 1000000 → ∀ x, ∃ t' h' v, (∀ R, call h x R = R (.int .i64 v) h') ∧ (v != 0) = (ask s x).1 ∧ rel h' t' (ask s x).2 ∧ Stu h h' (own t) (own t')
  c_own : ∀ {h t s}, rel h t s → ¬ own t c

/-- The call of a function value with a context. -/
def callF (fv : Value) : Heap → Int → (Value → Heap → Prop) → Prop := fun h x R => callK fv [.int .i64 x] tab h R

/-- A pass of the decoder at q over the block at p (coefficients at c). -/
structure DR (h : Heap) (f : Bool) (q p c : Nat) (P : PP) (fv : Value) (b : BS) : Prop where
  blk : blk? h q = some ⟨f, [ptr p, .int .i64 b.w, .int .i64 b.h, .int .i64 P.s, .int .i64 P.o, .bool P.cz, .bool P.rw, fv]⟩
  cb : CB h f p c b
  fv : below h.length fv = true
  pok : P.Ok
  rng : b.Rng
theorem DR.frz {h : Heap} {f : Bool} {q p c : Nat} {P : PP} {fv : Value} {b : BS} (hr : DR h f q p c P fv b) : DR (frz h) true q p c P fv b :=
  ⟨blk_frz hr.blk (by simp [hr.fv, blk?_lt hr.cb.blkp]), hr.cb.frz, by rw [len_frz]; exact hr.fv, hr.pok, hr.rng⟩
theorem DR.keep {h h' : Heap} {q p c : Nat} {P : PP} {fv : Value} {b : BS} (hr : DR h false q p c P fv b) (hk : ∀ id, id = q ∨ id = p ∨ id = c → blk? h' id = blk? h id) (hf : below h'.length fv = true) : DR h' false q p c P fv b :=
  ⟨by rw [hk q (.inl rfl)]; exact hr.blk, ⟨by rw [hk p (.inr (.inl rfl))]; exact hr.cb.blkp, by rw [hk c (.inr (.inr rfl))]; exact hr.cb.blkc, hr.cb.ok⟩, hf, hr.pok, hr.rng⟩
/-- A pass in progress. -/
structure PD {c : Nat} {nv : Value} (A : Src c (callF nv)) (h : Heap) (q p pb nb : Nat) (P : PP) (t : A.T) (b : BS) (s : A.S) : Prop where
  dr : DR h false q p c P (.func (.func 76) #[] #[ptr pb, ptr nb]) b
  pbk : blk? h pb = some ⟨false, [ptr q]⟩
  nbk : blk? h nb = some ⟨false, [nv]⟩
  rel : A.rel h t s
  n1 : c ≠ q ∧ c ≠ pb ∧ c ≠ nb ∧ c ≠ p
  n3 : ¬ A.own t q ∧ ¬ A.own t p ∧ ¬ A.own t pb ∧ ¬ A.own t nb

section
variable {c : Nat} {nv : Value} {A : Src c (callF nv)} {h : Heap} {q p pb nb : Nat} {P : PP} {t : A.T} {b : BS} {s : A.S}

theorem PD.lts (he : PD A h q p pb nb P t b s) : q < h.length ∧ p < h.length ∧ c < h.length ∧ pb < h.length ∧ nb < h.length :=
  ⟨blk?_lt he.dr.blk, blk?_lt he.dr.cb.blkp, blk?_lt he.dr.cb.blkc, blk?_lt he.pbk, blk?_lt he.nbk⟩
theorem PD.good (he : PD A h q p pb nb P t b s) : b.Good := ⟨he.dr.cb.ok, he.dr.rng⟩
theorem PD.low (he : PD A h q p pb nb P t b s) {h' : Heap} (hk : ∀ id, id < h.length → blk? h' id = blk? h id) (hl : h.length ≤ h'.length) : PD A h' q p pb nb P t b s := by
  obtain ⟨l1, l2, l3, l4, l5⟩ := he.lts
  refine ⟨he.dr.keep (fun id hid => hk id ?_) (by simp; omega), by rw [hk _ l4]; exact he.pbk, by rw [hk _ l5]; exact he.nbk, A.stable he.rel hl (fun id h1 _ => hk id h1), he.n1, he.n3⟩
  rcases hid with rfl | rfl | rfl <;> assumption
theorem PD.push (he : PD A h q p pb nb P t b s) (x : Option Blk) : PD A (h ++ [x]) q p pb nb P t b s := he.low (fun id hid => blk?_push_lt hid) (by simp)
/-- The block is changed. -/
theorem PD.to (he : PD A h q p pb nb P t b s) {b' : BS} (hb : b.Le b') : PD A (h.set c (some ⟨false, encC b'.cs⟩)) q p pb nb P t b' s ∧ Stq h (h.set c (some ⟨false, encC b'.cs⟩)) c (A.own t) (A.own t) := by
  obtain ⟨l1, l2, l3, l4, l5⟩ := he.lts
  obtain ⟨m1, m2, m3, m4⟩ := he.n1
  refine ⟨⟨⟨?_, ?_, by have := he.dr.fv; simpa using this, he.dr.pok, hb.good.rng⟩, ?_, ?_, A.stable he.rel (by simp) (fun id _ hc => blk?_set_ne (Ne.symm hc)), he.n1, he.n3⟩, Stq.setc _ _ _ _⟩
  · rw [blk?_set_ne m1, hb.w, hb.h]; exact he.dr.blk
  · exact he.dr.cb.set hb.w hb.h hb.good.ok
  · rw [blk?_set_ne m2]; exact he.pbk
  · rw [blk?_set_ne m3]; exact he.nbk

/-- A question. -/
theorem ask_d (he : PD A h q p pb nb P t b s) (hn : A.size s < 1000000) (ctx : Int) :
    ∃ t' h', (∀ R, Ret tab 76 [.int .i64 ctx, ptr pb, ptr nb] h R = R (.int .i64 ((A.ask s (P.cx ctx)).1.toNat : Nat)) h') ∧ PD A h' q p pb nb P t' b (A.ask s (P.cx ctx)).2 ∧ Stq h h' c (A.own t) (A.own t') := by
  obtain ⟨l1, l2, l3, l4, l5⟩ := he.lts
  obtain ⟨n1, n2, n3, n4⟩ := he.n3
  obtain ⟨t', h', v, e, hv, hr, st⟩ := A.step he.rel hn (P.cx ctx)
  have hfr : ∀ id, id < h.length → ¬ A.own t id → ¬ A.own t' id := fun id hid hno ho => by
    rcases st.fresh id ho with k | k
    · exact hno k
    · omega
  refine ⟨t', h', fun R => ?_, ⟨he.dr.keep (fun id hid => ?_) (by have := st.len; simp; omega), by rw [st.same _ l4 n3]; exact he.pbk, by rw [st.same _ l5 n4]; exact he.nbk, hr, he.n1, hfr _ l1 n1, hfr _ l2 n2, hfr _ l4 n3, hfr _ l5 n4⟩, st.q c⟩
  · have hpb := he.pbk
    have hpq := he.dr.blk
    have hnb := he.nbk
    unfold callF at e
    rw [enter76, B76]
    generalize (A.ask s (P.cx ctx)).1 = bit at hv
    unfold PP.cx at e
    cases hrw : P.rw
    · rw [hrw] at e hpq
      simp only [Bool.false_eq_true, if_false] at e
      cases bit <;> simp [hpb, hpq, hnb, e, hv, fin76]
    · rw [hrw] at e hpq
      simp only [if_true] at e
      cases bit <;> simp [hpb, hpq, hnb, e, hv, fin76]
  · rcases hid with rfl | rfl | rfl
    · exact st.same _ l1 n1
    · exact st.same _ l2 n2
    · exact st.same _ l3 (A.c_own he.rel)

theorem shl1 {s : Nat} (hs : s ≤ 59) : shlI .i64 1 (s : Int) = pw s := by
  have h1 := pw_le hs
  have h2 := pw_pos s
  unfold shlI
  rw [Int.toNat_natCast, Nat.min_eq_left (by have : IntKind.i64.bits = 64 := rfl; omega), Int.one_mul]
  have e : ((2 : Int) ^ s) = pw s := by unfold pw; simp
  rw [e]
  exact wrapI (by omega) (by omega)
theorem xor00 : xorI .i64 0 0 = 0 := by decide
theorem xor01' : xorI .i64 0 1 = 1 := by decide
theorem xor10 : xorI .i64 1 0 = 1 := by decide
theorem xor11 : xorI .i64 1 1 = 0 := by decide

/-- The sign of a coefficient. -/
theorem sign_d (he : PD A h q p pb nb P t b s) (hn : A.size s < 1000000) {x y : Int} (hi : b.inb x y) :
    ∃ t' h', (∀ R, Ret tab 125 [ptr q, .int .i64 x, .int .i64 y] h R = R (.tuple #[]) h') ∧ PD A h' q p pb nb P t' ((dsign P b x y).run A.ask s).1 ((dsign P b x y).run A.ask s).2 ∧ Stq h h' c (A.own t) (A.own t') := by
  obtain ⟨t1, h1, e1, p1, s1⟩ := ask_d he hn (signCtx (sgH b x y) (sgV b x y P.cz))
  rw [dsign, Tr.run_ask, Tr.run_ret]
  generalize hbit : (A.ask s (P.cx (signCtx (sgH b x y) (sgV b x y P.cz)))).1 = bit at *
  generalize (A.ask s (P.cx (signCtx (sgH b x y) (sgV b x y P.cz)))).2 = s' at *
  have hg := he.good
  have hdv := dval_rng he.dr.pok b x y bit
  have g1 := good_putV hg hi hdv
  obtain ⟨p2, s2⟩ := p1.to g1
  have g2 := good_map g1.good (g1.inb hi) kv_mark
  obtain ⟨p3, s3⟩ := p2.to g2
  refine ⟨t1, _, fun R => ?_, p3, (s1.trans s2).trans s3⟩
  have hq := he.dr.blk
  have hq1 := p1.dr.blk
  have hq2 := p2.dr.blk
  have hsc := fun R => set_c (R := R) p1.dr.cb (x := x) (y := y) hi hdv
  have hm := fun R => mark_c (R := R) p2.dr.cb (x := x) (y := y) (g1.inb hi)
  have hc := fun R => ctxSign_c (h := h) (R := R) (joint_range (sgn b (x - 1) y) (sgn b (x + 1) y)) (joint_range (sgn b x (y - 1)) (if (!P.cz || y % 4 != 3) = true then sgn b x (y + 1) else 0))
  change ∀ R, Ret tab _ [.int .i64 (sgH b x y), .int .i64 (sgV b x y P.cz)] h R = R (.tuple #[.int .i64 (signCtx (sgH b x y) (sgV b x y P.cz)), .int .i64 (signFlip (sgH b x y) (sgV b x y P.cz))]) h at hc
  have hs := fun R => signs_c (R := R) he.dr.cb hi P.cz
  have hmm : (fun z : Cell => ({ z with s := true } : Cell)) = mark := rfl
  have hvv : (fun z : Cell => ({ z with v := dval P b x y bit } : Cell)) = putV (dval P b x y bit) := rfl
  rw [hmm] at hm
  rw [hvv] at hsc
  have hsh := shl1 he.dr.pok.s1
  have hwu : IntKind.u64.wrap (P.s : Int) = (P.s : Int) := wrapU (by have := he.dr.pok.s1; omega)
  have hs0 : ¬ (P.s : Int) < 0 := by omega
  have hpw := pw_le he.dr.pok.s1
  have hpp := pw_pos P.s
  have hneg : IntKind.i64.wrap (0 - pw P.s) = -pw P.s := by rw [wrapI (by omega) (by omega)]; omega
  have hneg2 : IntKind.i64.wrap (-pw P.s) = -pw P.s := wrapI (by omega) (by omega)
  have hfl := signFlip_le (sgH b x y) (sgV b x y P.cz)
  have hdd : dval P b x y bit = if (bit != (!P.rw && signFlip (sgH b x y) (sgV b x y P.cz) == 1)) = true then -pw P.s else pw P.s := rfl
  rw [enter125, B125]
  generalize dval P b x y bit = dv at *
  generalize sgH b x y = H at *
  generalize sgV b x y P.cz = V at *
  generalize pw P.s = pp at *
  have hf' : signFlip H V = 0 ∨ signFlip H V = 1 := by omega
  cases hrw : P.rw
  · rw [hrw] at hq hdd
    rcases hf' with hf | hf
    · rw [hf] at hc hdd
      cases bit
      · simp at hdd e1 hc
        subst hdd
        simp [hq, hq1, hq2, hs, hc, hwu, hs0, hsh, e1, xor00, xor01', xor10, xor11, hsc, hm, fin125]
      · simp at hdd e1 hc
        subst hdd
        simp [hq, hq1, hq2, hs, hc, hwu, hs0, hsh, e1, xor00, xor01', xor10, xor11, hneg, hneg2, hsc, hm, fin125]
    · rw [hf] at hc hdd
      cases bit
      · simp at hdd e1 hc
        subst hdd
        simp [hq, hq1, hq2, hs, hc, hwu, hs0, hsh, e1, xor00, xor01', xor10, xor11, hneg, hneg2, hsc, hm, fin125]
      · simp at hdd e1 hc
        subst hdd
        simp [hq, hq1, hq2, hs, hc, hwu, hs0, hsh, e1, xor00, xor01', xor10, xor11, hneg, hneg2, hsc, hm, fin125]
  · rw [hrw] at hq hdd
    cases bit
    · simp at hdd e1 hc
      subst hdd
      simp [hq, hq1, hq2, hs, hc, hwu, hs0, hsh, e1, xor00, xor01', xor10, xor11, hneg, hneg2, hsc, hm, fin125]
    · simp at hdd e1 hc
      subst hdd
      simp [hq, hq1, hq2, hs, hc, hwu, hs0, hsh, e1, xor00, xor01', xor10, xor11, hneg, hneg2, hsc, hm, fin125]

/-- The bit of a coefficient, and its sign. -/
theorem code_d (he : PD A h q p pb nb P t b s) (hn : A.size s + 2 < 1000000) {x y : Int} (hi : b.inb x y) :
    ∃ t' h', (∀ R, Ret tab 121 [ptr q, .int .i64 x, .int .i64 y] h R = R (.tuple #[]) h') ∧ PD A h' q p pb nb P t' ((dcode P b x y).run A.ask s).1 ((dcode P b x y).run A.ask s).2 ∧ Stq h h' c (A.own t) (A.own t') := by
  obtain ⟨t1, h1, e1, p1, s1⟩ := ask_d he (by omega) (ctxOf P b x y)
  have hsz := A.size_ask s (P.cx (ctxOf P b x y))
  rw [dcode, Tr.run_ask]
  generalize (A.ask s (P.cx (ctxOf P b x y))).1 = bit at *
  generalize (A.ask s (P.cx (ctxOf P b x y))).2 = s' at *
  have hq := he.dr.blk
  have hq1 := p1.dr.blk
  obtain ⟨n1, n2, n3⟩ := nb_le b x y P.cz
  have hnb := fun R => neighbors_c (R := R) he.dr.cb hi P.cz
  have hsg := fun R => significance_c (h := h) (R := R) he.dr.pok.o1 n1 n2 n3
  change ∀ R, Ret tab _ _ h R = R (.int .i64 (ctxOf P b x y)) h at hsg
  cases bit
  · refine ⟨t1, h1, fun R => ?_, p1, s1⟩
    simp at e1
    rw [enter121, B121]
    simp [hq, hq1, hnb, hsg, e1, fin121, book, logOf, addLog, chk1, lookL, reload]
  · obtain ⟨t2, h2, e2, p2, s2⟩ := sign_d p1 (by omega) hi
    refine ⟨t2, h2, fun R => ?_, p2, s1.trans s2⟩
    simp at e1
    rw [enter121, B121]
    simp [hq, hq1, hnb, hsg, e1, e2, fin121, book, logOf, addLog, chk1, lookL, reload]
end

section
variable {h : Heap} {f : Bool} {q p c : Nat} {P : PP} {fv : Value} {b : BS} {x y : Int} {R : Value → Heap → Prop}
theorem neighbors_d (hr : DR h f q p c P fv b) (hi : b.inb x y) : Ret tab 120 [ptr q, .int .i64 x, .int .i64 y] h R = R (.bool (near b x y P.cz)) h := by
  have hq := hr.frz.blk
  have hlq := blk?_lt hr.blk
  obtain ⟨n1, n2, n3⟩ := nb_le b x y P.cz
  have s1 : IntKind.i64.wrap ((nbH b x y : Int) + (nbV b x y P.cz : Int)) = ((nbH b x y + nbV b x y P.cz : Nat) : Int) := wrapNN (by omega)
  have s2 : IntKind.i64.wrap (((nbH b x y + nbV b x y P.cz : Nat) : Int) + (nbD b x y P.cz : Int)) = ((nbH b x y + nbV b x y P.cz + nbD b x y P.cz : Nat) : Int) := wrapNN (by omega)
  have s3 : decide ((0 : Int) < ((nbH b x y + nbV b x y P.cz + nbD b x y P.cz : Nat) : Int)) = near b x y P.cz := by
    rw [near_eq]; congr 1; exact propext Int.natCast_pos
  rw [enter120, B120]
  generalize hn : near b x y P.cz = nn at *
  simp [-Int.natCast_add, -Int.natCast_pos, hq, hlq, neighbors_c hr.frz.cb hi, s1, s2, s3, fin120]

theorem dquiet_loop (hr : DR h true q p c P fv b) {x : Int} (hx : 0 ≤ x ∧ x < b.w) {top : Int} (ht : 0 ≤ top ∧ top + 4 ≤ b.h) {k : List RItem} {R : Value → Heap → Prop} {v6 : Value}
    (hk : ∀ K3 K4 K5 K7 K8 K9 Ka Kb Kc Kd Ke Kf Kg Kh Ki Kj Kk Kl Km Kn Ko Kp Kq Kr Ks Kt Ku Kv Kw Kx Ky Kz J0 J1 J2 J3 J4 J5 J6 J7 : Value, Ok tab R124 k #[ptr q,.int .i64 x,.int .i64 top,K3,K4,K5,v6,K7,K8,K9,Ka,Kb,Kc,Kd,Ke,Kf,Kg,Kh,Ki,Kj,Kk,Kl,Km,Kn,Ko,Kp,Kq,Kr,Ks,Kt,Ku,Kv,Kw,Kx,Ky,Kz,J0,J1,J2,J3,J4,J5,J6,J7] h R = R (.bool true) h) :
    ∀ (n : Nat) (y : Int) (K3 K4 K5 K8 K9 Ka Kb Kc Kd Ke Kf Kg Kh Ki Kj Kk Kl Km Kn Ko Kp Kq Kr Ks Kt Ku Kv Kw Kx Ky Kz J0 J1 J2 J3 J4 J5 J6 J7 : Value), y + n = top + 4 → top ≤ y →
      Ok tab R124 (.inLoop L124_0 :: .inBlock 0 :: k) #[ptr q,.int .i64 x,.int .i64 top,K3,K4,K5,v6,.int .i64 y,K8,K9,Ka,Kb,Kc,Kd,Ke,Kf,Kg,Kh,Ki,Kj,Kk,Kl,Km,Kn,Ko,Kp,Kq,Kr,Ks,Kt,Ku,Kv,Kw,Kx,Ky,Kz,J0,J1,J2,J3,J4,J5,J6,J7] h R = R (.bool (quietFrom b x y P.cz n)) h := by
  intro n
  induction n with
  | zero =>
    intro y K3 K4 K5 K8 K9 Ka Kb Kc Kd Ke Kf Kg Kh Ki Kj Kk Kl Km Kn Ko Kp Kq Kr Ks Kt Ku Kv Kw Kx Ky Kz J0 J1 J2 J3 J4 J5 J6 J7 hy hty
    have hw : IntKind.i64.wrap (top + 4) = top + 4 := wrapI (by have := hr.cb.ok.h2; omega) (by have := hr.cb.ok.h2; omega)
    have hlt : ¬ y < top + 4 := by omega
    rw [ok_round, l124_0, L124_0a, L124_0b]
    simp [hw, hlt, hk, quietFrom]
  | succ n ih =>
    intro y K3 K4 K5 K8 K9 Ka Kb Kc Kd Ke Kf Kg Kh Ki Kj Kk Kl Km Kn Ko Kp Kq Kr Ks Kt Ku Kv Kw Kx Ky Kz J0 J1 J2 J3 J4 J5 J6 J7 hy hty
    have hb2 := hr.cb.ok.h2
    have hw : IntKind.i64.wrap (top + 4) = top + 4 := wrapI (by omega) (by omega)
    have hw1 : IntKind.i64.wrap (y + 1) = y + 1 := wrapI (by omega) (by omega)
    have hlt : y < top + 4 := by omega
    have hi : b.inb x y := ⟨hx.1, hx.2, by omega, by omega⟩
    have hq := hr.blk
    have ih' := fun K3 K4 K5 K8 K9 Ka Kb Kc Kd Ke Kf Kg Kh Ki Kj Kk Kl Km Kn Ko Kp Kq Kr Ks Kt Ku Kv Kw Kx Ky Kz J0 J1 J2 J3 J4 J5 J6 J7 => ih (y + 1) K3 K4 K5 K8 K9 Ka Kb Kc Kd Ke Kf Kg Kh Ki Kj Kk Kl Km Kn Ko Kp Kq Kr Ks Kt Ku Kv Kw Kx Ky Kz J0 J1 J2 J3 J4 J5 J6 J7 (by omega) (by omega)
    rw [ok_round, l124_0, L124_0a, L124_0b]
    cases hs : (b.get x y).s
    · cases ht : (b.get x y).t
      · cases hn : near b x y P.cz
        · simp [k_guard, hw, hw1, hlt, hq, significant_c hr.cb, touched_c hr.cb, neighbors_d hr hi, hs, ht, hn, ih', quietFrom, still]
        · simp [k_guard, hw, hw1, hlt, hq, significant_c hr.cb, touched_c hr.cb, neighbors_d hr hi, hs, ht, hn, quietFrom, still, fin124]
      · simp [k_guard, k_guardU, hw, hw1, hlt, hq, significant_c hr.cb, touched_c hr.cb, hs, ht, quietFrom, still, fin124]
    · simp [k_guard, k_guardU, hw, hw1, hlt, hq, significant_c hr.cb, hs, quietFrom, still, fin124]

theorem quiet_d (hr : DR h f q p c P fv b) {x top : Int} (hx : 0 ≤ x ∧ x < b.w) (ht : 0 ≤ top ∧ top < b.h) : Ret tab 124 [ptr q, .int .i64 x, .int .i64 top] h R = R (.bool (quiet b x top P.cz)) h := by
  have hq := hr.frz.blk
  have hlq := blk?_lt hr.blk
  have hb2 := hr.cb.ok.h2
  have hw : IntKind.i64.wrap (top + 4) = top + 4 := wrapI (by omega) (by omega)
  rw [enter124, B124]
  by_cases h4 : top + 4 ≤ b.h
  · have h4' : ¬ (b.h : Int) < top + 4 := by omega
    have := fun K3 K4 K5 K8 K9 Ka Kb Kc Kd Ke Kf Kg Kh Ki Kj Kk Kl Km Kn Ko Kp Kq Kr Ks Kt Ku Kv Kw Kx Ky Kz J0 J1 J2 J3 J4 J5 J6 J7 v6 R hk => dquiet_loop (R := R) (v6 := v6) hr.frz hx ⟨ht.1, h4⟩ (k := [.code ((RCode.region [⟨some 6, .mov (.const (.bool true)), none⟩] []).seq .ret)]) hk 4 top K3 K4 K5 K8 K9 Ka Kb Kc Kd Ke Kf Kg Kh Ki Kj Kk Kl Km Kn Ko Kp Kq Kr Ks Kt Ku Kv Kw Kx Ky Kz J0 J1 J2 J3 J4 J5 J6 J7 (by omega) (by omega)
    simp [hq, hlq, hw, h4']
    rw [this]
    · simp [quiet, h4]
    · intro K3 K4 K5 K7 K8 K9 Ka Kb Kc Kd Ke Kf Kg Kh Ki Kj Kk Kl Km Kn Ko Kp Kq Kr Ks Kt Ku Kv Kw Kx Ky Kz J0 J1 J2 J3 J4 J5 J6 J7
      simp [fin124]
  · have h4' : (b.h : Int) < top + 4 := by omega
    simp [hq, hlq, hw, h4', quiet, h4, fin124]
end

section
variable {c : Nat} {nv : Value} {A : Src c (callF nv)} {h : Heap} {q p pb nb : Nat} {P : PP} {t : A.T} {b : BS} {s : A.S}
/-- The value of a coefficient grows. -/
theorem grow_d (he : PD A h q p pb nb P t b s) {x y : Int} (hi : b.inb x y) :
    ∃ h', (∀ R, Ret tab 123 [ptr q, .int .i64 x, .int .i64 y] h R = R (.tuple #[]) h') ∧ PD A h' q p pb nb P t (grow P.s b x y) s ∧ Stq h h' c (A.own t) (A.own t) ∧ ∀ id, id < h.length → id ≠ c → blk? h' id = blk? h id := by
  have hg := he.good
  obtain ⟨r1, r2⟩ := he.dr.rng x y
  have hq := he.dr.blk
  have hsh := shl1 he.dr.pok.s1
  have hwu : IntKind.u64.wrap (P.s : Int) = (P.s : Int) := wrapU (by have := he.dr.pok.s1; omega)
  have hs0 : ¬ (P.s : Int) < 0 := by omega
  have hpw := pw_le he.dr.pok.s1
  have hpp := pw_pos P.s
  have hneg : IntKind.i64.wrap (0 - pw P.s) = -pw P.s := by rw [wrapI (by omega) (by omega)]; omega
  have hneg2 : IntKind.i64.wrap (-pw P.s) = -pw P.s := wrapI (by omega) (by omega)
  have hv := fun R => value_c (R := R) (x := x) (y := y) he.dr.cb
  have hgv : growV P.s (b.get x y).v = (b.get x y).v + if (b.get x y).v < 0 then -pw P.s else pw P.s := rfl
  have hvv : ∀ v, (fun z : Cell => ({ z with v := v } : Cell)) = putV v := fun v => rfl
  unfold grow
  by_cases hin : -1152921504606846976 < growV P.s (b.get x y).v ∧ growV P.s (b.get x y).v < 1152921504606846976
  · rw [if_pos hin]
    have g1 := good_putV hg hi hin
    obtain ⟨p2, s2⟩ := he.to g1
    refine ⟨_, fun R => ?_, p2, s2, fun id _ hc => blk?_set_ne (Ne.symm hc)⟩
    have hsc := fun R => set_c (R := R) he.dr.cb (x := x) (y := y) hi hin
    rw [hvv] at hsc
    generalize hG : growV P.s (b.get x y).v = G at *
    rw [enter123, B123]
    by_cases hlt : (b.get x y).v < 0
    · rw [if_pos hlt] at hgv
      have hw : IntKind.i64.wrap ((b.get x y).v + -pw P.s) = G := by rw [wrapI (by omega) (by omega)]; omega
      generalize (b.get x y).v = v at *
      generalize pw P.s = pp at *
      simp [k_guard, hq, hv, hwu, hs0, hsh, hlt, hneg, hneg2, hw, hin.1, hin.2, hsc, fin123, book, logOf, addLog, chk1, lookL, reload]
    · rw [if_neg hlt] at hgv
      have hw : IntKind.i64.wrap ((b.get x y).v + pw P.s) = G := by rw [wrapI (by omega) (by omega)]; omega
      generalize (b.get x y).v = v at *
      generalize pw P.s = pp at *
      simp [k_guard, hq, hv, hwu, hs0, hsh, hlt, hneg, hneg2, hw, hin.1, hin.2, hsc, fin123, book, logOf, addLog, chk1, lookL, reload]
  · rw [if_neg hin]
    refine ⟨h, fun R => ?_, he, Stq.refl _ _ _, fun _ _ _ => rfl⟩
    generalize hG : growV P.s (b.get x y).v = G at *
    rw [enter123, B123]
    by_cases hlt : (b.get x y).v < 0
    · rw [if_pos hlt] at hgv
      have hw : IntKind.i64.wrap ((b.get x y).v + -pw P.s) = G := by rw [wrapI (by omega) (by omega)]; omega
      generalize (b.get x y).v = v at *
      generalize pw P.s = pp at *
      by_cases h1 : -1152921504606846976 < G
      · have h2 : ¬ G < 1152921504606846976 := fun e => hin ⟨h1, e⟩
        simp [k_guard, hq, hv, hwu, hs0, hsh, hlt, hneg, hneg2, hw, h1, h2, fin123, book, logOf, addLog, chk1, lookL, reload]
      · simp [k_guard, k_guardU, hq, hv, hwu, hs0, hsh, hlt, hneg, hneg2, hw, h1, fin123, book, logOf, addLog, chk1, lookL, reload]
    · rw [if_neg hlt] at hgv
      have hw : IntKind.i64.wrap ((b.get x y).v + pw P.s) = G := by rw [wrapI (by omega) (by omega)]; omega
      generalize (b.get x y).v = v at *
      generalize pw P.s = pp at *
      by_cases h1 : -1152921504606846976 < G
      · have h2 : ¬ G < 1152921504606846976 := fun e => hin ⟨h1, e⟩
        simp [k_guard, hq, hv, hwu, hs0, hsh, hlt, hneg, hneg2, hw, h1, h2, fin123, book, logOf, addLog, chk1, lookL, reload]
      · simp [k_guard, k_guardU, hq, hv, hwu, hs0, hsh, hlt, hneg, hneg2, hw, h1, fin123, book, logOf, addLog, chk1, lookL, reload]
end
/-- A row of points beside a pass. -/
structure Fad (h : Heap) (s : Value) (l : List (Int × Int)) (c : Nat) (O : Nat → Prop) : Prop where
  sl : Sl h 2 s l.length (encP l)
  far : ∀ id, sid s = some id → id < h.length ∧ id ≠ c ∧ ¬ O id
theorem Fad.stq {h h' : Heap} {s : Value} {l : List (Int × Int)} {c : Nat} {O O' : Nat → Prop} (hf : Fad h s l c O) (hs : Stq h h' c O O') : Fad h' s l c O' := by
  refine ⟨hf.sl.of_sid fun id b hid hb => ?_, fun id hid => ?_⟩
  · obtain ⟨a1, a2, a3⟩ := hf.far id hid
    rw [hs.same id a1 a2 a3]; exact hb
  · obtain ⟨a1, a2, a3⟩ := hf.far id hid
    refine ⟨Nat.lt_of_lt_of_le a1 hs.len, a2, fun e => ?_⟩
    rcases hs.fresh id e with h | h
    · exact a3 h
    · omega
theorem Fad.get {h : Heap} {s : Value} {l : List (Int × Int)} {c : Nat} {O : Nat → Prop} (hf : Fad h s l c O) {i : Nat} (hi : i < l.length) :
    ∃ id off b, s = .slice (some ⟨id, off, none⟩) l.length 2 ∧ blk? h id = some b ∧ (b.cells.drop (off + i * 2)).take 2 = [.int .i64 l[i].1, .int .i64 l[i].2] ∧ off + i * 2 + 2 ≤ b.cells.length := by
  obtain ⟨id, off, b, rfl, hb, hc⟩ := hf.sl.get hi
  obtain ⟨g0, g1⟩ := encP_get l i hi
  have c0 := hc 0 (by omega)
  have c1 := hc 1 (by omega)
  rw [Nat.add_zero, Nat.add_zero, g0] at c0
  rw [g1] at c1
  obtain ⟨ht, hle⟩ := two c0 c1
  exact ⟨id, off, b, rfl, hb, ht, hle⟩

section
variable {c : Nat} {nv : Value} {A : Src c (callF nv)} {h : Heap} {q p pb nb : Nat} {P : PP} {t : A.T} {b : BS} {s : A.S}

/-- The points of a block, made. -/
theorem PD.scan (he : PD A h q p pb nb P t b s) : ∃ sl h', (∀ R, Ret tab 119 [.int .i64 b.w, .int .i64 b.h] h R = R sl h') ∧ PD A h' q p pb nb P t b s ∧ Stq h h' c (A.own t) (A.own t) ∧ Fad h' sl (scan b.w b.h) c (A.own t) := by
  have ho := he.dr.cb.ok
  obtain ⟨l1, l2, l3, l4, l5⟩ := he.lts
  obtain ⟨s1, h', e, m⟩ := scan_c ho.w1 ho.w2 ho.h1 ho.h2 h
  refine ⟨s1, h', e, he.low m.low m.len, Stq.low m.low m.len c _, ⟨m.own.sl, fun id hid => ?_⟩⟩
  have h1 := m.far id hid
  refine ⟨?_, by omega, fun e => by have := A.lt he.rel id e; omega⟩
  rcases m.own.2 with ⟨rfl, _⟩ | ⟨id', rfl, hb⟩
  · simp [sid] at hid
  · simp [sid] at hid; subst hid; exact blk?_lt hb

theorem dsig_loop {sl : Value} {pts : List (Int × Int)} {k : List RItem} {R : Value → Heap → Prop} :
    ∀ (m i : Nat) (h : Heap) (t : A.T) (b : BS) (s : A.S) (K1 K2 K3 K4 K5 K6 K7 K8 K9 Ka Kb Kf Kg Kh Ki Kj Kk Kl Km Kn Ko Kp Kq Kr Ks Kt Ku Kv Kw Kx Ky Kz J0 J1 J2 J3 J4 J5 J6 J7 J8 J9 Ja Jb Jc Jd Je Jf : Value), m = pts.length - i → i ≤ pts.length → PD A h q p pb nb P t b s → Fad h sl pts c (A.own t) → AllIn b pts → A.size s + 2 * m + 3 < 1000000 → pts.length < 1000000 →
      (∀ (h' : Heap) (t' : A.T) (K1 K2 K3 K4 K5 K6 K7 K8 K9 Ka Kb Kc Kd Ke Kf Kg Kh Ki Kj Kk Kl Km Kn Ko Kp Kq Kr Ks Kt Ku Kv Kw Kx Ky Kz J0 J1 J2 J3 J4 J5 J6 J7 J8 J9 Ja Jb Jc Jd Je Jf : Value), PD A h' q p pb nb P t' ((dsigs P b (pts.drop i)).run A.ask s).1 ((dsigs P b (pts.drop i)).run A.ask s).2 → Stq h h' c (A.own t) (A.own t') → Ok tab R77 k #[ptr q,K1,K2,K3,K4,K5,K6,K7,K8,K9,Ka,Kb,Kc,Kd,Ke,Kf,Kg,Kh,Ki,Kj,Kk,Kl,Km,Kn,Ko,Kp,Kq,Kr,Ks,Kt,Ku,Kv,Kw,Kx,Ky,Kz,J0,J1,J2,J3,J4,J5,J6,J7,J8,J9,Ja,Jb,Jc,Jd,Je,Jf] h' R) →
      Ok tab R77 (.inLoop L77_0 :: .inBlock 0 :: k) #[ptr q,K1,K2,K3,K4,K5,K6,K7,K8,K9,Ka,Kb,sl,.int .i64 pts.length,.int .i64 i,Kf,Kg,Kh,Ki,Kj,Kk,Kl,Km,Kn,Ko,Kp,Kq,Kr,Ks,Kt,Ku,Kv,Kw,Kx,Ky,Kz,J0,J1,J2,J3,J4,J5,J6,J7,J8,J9,Ja,Jb,Jc,Jd,Je,Jf] h R := by
  intro m
  induction m with
  | zero =>
    intro i h t b s K1 K2 K3 K4 K5 K6 K7 K8 K9 Ka Kb Kf Kg Kh Ki Kj Kk Kl Km Kn Ko Kp Kq Kr Ks Kt Ku Kv Kw Kx Ky Kz J0 J1 J2 J3 J4 J5 J6 J7 J8 J9 Ja Jb Jc Jd Je Jf hm hi he hf ha hl hpl hk
    have hlt : ¬ ((i : Int) < pts.length) := by omega
    rw [ok_round, l77_0, L77_0a, L77_0b]
    simp [hlt]
    refine hk h t _ _ _ _ _ _ _ _ _ _ _ _ _ _ _ _ _ _ _ _ _ _ _ _ _ _ _ _ _ _ _ _ _ _ _ _ _ _ _ _ _ _ _ _ _ _ _ _ _ _ _ ?_ (Stq.refl _ _ _)
    rw [List.drop_of_length_le (by omega)]; exact he
  | succ m ih =>
    intro i h t b s K1 K2 K3 K4 K5 K6 K7 K8 K9 Ka Kb Kf Kg Kh Ki Kj Kk Kl Km Kn Ko Kp Kq Kr Ks Kt Ku Kv Kw Kx Ky Kz J0 J1 J2 J3 J4 J5 J6 J7 J8 J9 Ja Jb Jc Jd Je Jf hm hi he hf ha hl hpl hk
    have hlt : ((i : Int) < pts.length) := by omega
    have hw : IntKind.i64.wrap ((i : Int) + 1) = (i : Int) + 1 := wrapN (n := i + 1) (by omega)
    have hil : i < pts.length := by omega
    obtain ⟨id, off, blk, hs, hb, ht, hle⟩ := hf.get hil
    have hin := ha _ (List.getElem_mem hil)
    have hsp : dsigs P b (pts.drop i) = (dsig1 P b pts[i].1 pts[i].2).bind fun b => dsigs P b (pts.drop (i + 1)) := by
      rw [List.drop_eq_getElem_cons hil]; rfl
    have hlv := lv_dsig1 he.dr.pok he.good hin
    obtain ⟨hle1, hsz1⟩ := Tr.Lv.out (A := A.ask) (size := A.size) A.size_ask s hlv
    generalize hx : pts[i].1 = x at *
    generalize hy : pts[i].2 = y at *
    rw [hsp] at hk
    simp only [Tr.run_bind] at hk
    have he2 := he.push (some ⟨false, [.int .i64 x, .int .i64 y]⟩)
    have hs2 := Stq.push h (some ⟨false, [.int .i64 x, .int .i64 y]⟩) c (A.own t)
    have hf2 := hf.stq hs2
    have hK : ∀ y : Blk, blk? (h ++ [some y]) h.length = some y := fun y => blk?_push_eq
    obtain ⟨l1, l2, l3, l4, l5⟩ := he.lts
    have hq2 := he2.dr.blk
    have hcb2 := he2.dr.cb
    have hsig := fun R => significant_c (R := R) (x := x) (y := y) hcb2
    have hnb := fun R => neighbors_d (R := R) (x := x) (y := y) he2.dr hin
    -- nothing is asked
    have hskip : dsig1 P b x y = .ret b → ∀ K1 K2 K3 K4 K5 K6 K7 K8 K9 Ka Kb Kf Kg Kh Ki Kj Kk Kl Km Kn Ko Kp Kq Kr Ks Kt Ku Kv Kw Kx Ky Kz J0 J1 J2 J3 J4 J5 J6 J7 J8 J9 Ja Jb Jc Jd Je Jf : Value, Ok tab R77 (.inLoop L77_0 :: .inBlock 0 :: k) #[ptr q,K1,K2,K3,K4,K5,K6,K7,K8,K9,Ka,Kb,sl,.int .i64 pts.length,.int .i64 ((i : Int) + 1),Kf,Kg,Kh,Ki,Kj,Kk,Kl,Km,Kn,Ko,Kp,Kq,Kr,Ks,Kt,Ku,Kv,Kw,Kx,Ky,Kz,J0,J1,J2,J3,J4,J5,J6,J7,J8,J9,Ja,Jb,Jc,Jd,Je,Jf] (h ++ [some ⟨false, [.int .i64 x, .int .i64 y]⟩]) R := by
      intro h1 K1 K2 K3 K4 K5 K6 K7 K8 K9 Ka Kb Kf Kg Kh Ki Kj Kk Kl Km Kn Ko Kp Kq Kr Ks Kt Ku Kv Kw Kx Ky Kz J0 J1 J2 J3 J4 J5 J6 J7 J8 J9 Ja Jb Jc Jd Je Jf
      rw [h1] at hk
      refine ih (i + 1) _ t b s _ _ _ _ _ _ _ _ _ _ _ _ _ _ _ _ _ _ _ _ _ _ _ _ _ _ _ _ _ _ _ _ _ _ _ _ _ _ _ _ _ _ _ _ _ _ _ _ (by omega) (by omega) he2 hf2 ha (by omega) hpl ?_
      intro h' t' K1 K2 K3 K4 K5 K6 K7 K8 K9 Ka Kb Kc Kd Ke Kf Kg Kh Ki Kj Kk Kl Km Kn Ko Kp Kq Kr Ks Kt Ku Kv Kw Kx Ky Kz J0 J1 J2 J3 J4 J5 J6 J7 J8 J9 Ja Jb Jc Jd Je Jf pe st
      exact hk h' t' _ _ _ _ _ _ _ _ _ _ _ _ _ _ _ _ _ _ _ _ _ _ _ _ _ _ _ _ _ _ _ _ _ _ _ _ _ _ _ _ _ _ _ _ _ _ _ _ _ _ _ pe (hs2.trans st)
    rw [ok_round, l77_0, L77_0a, L77_0b]
    cases hsg : (b.get x y).s
    · cases hnr : near b x y P.cz
      · have h1 : dsig1 P b x y = .ret b := by unfold dsig1; rw [if_neg (by simp [hnr])]
        rw [hsg] at hsig; rw [hnr] at hnb
        simp [-List.cons_append, -List.append_assoc, k_guard, hlt, hw, hs, hb, ht, hle, hK, hq2, hsig, hnb]
        rw [← hs]
        exact hskip h1 _ _ _ _ _ _ _ _ _ _ _ _ _ _ _ _ _ _ _ _ _ _ _ _ _ _ _ _ _ _ _ _ _ _ _ _ _ _ _ _ _ _ _ _ _ _ _ _
      · obtain ⟨t3, h3, e3, p3, s3⟩ := code_d he2 (by omega) hin
        obtain ⟨hc1, hc2⟩ := Tr.Lv.out (A := A.ask) (size := A.size) A.size_ask s (lv_dcode he.dr.pok he.good hin)
        have h1 : dsig1 P b x y = (dcode P b x y).bind fun b => .ret (b.upd x y (touch true)) := by unfold dsig1; rw [if_pos ⟨hsg, hnr⟩]
        rw [h1] at hk hle1 hsz1
        simp only [Tr.run_bind, Tr.run_ret] at hk hle1 hsz1
        generalize ((dcode P b x y).run A.ask s).1 = b3 at *
        generalize ((dcode P b x y).run A.ask s).2 = s3' at *
        have hq3 := p3.dr.blk
        have hv3 : blk? h3 h.length = some ⟨false, [.int .i64 x, .int .i64 y]⟩ := by
          rw [s3.same h.length (by simp) (by omega) (fun e => by have := A.lt he.rel _ e; omega)]; exact blk?_push_eq
        have htc := fun R => touch_c (R := R) (v := true) p3.dr.cb (x := x) (y := y) (hc1.inb hin)
        obtain ⟨p4, s4⟩ := p3.to (good_map hc1.good (hc1.inb hin) (kv_touch true))
        have hmm : (fun z : Cell => ({ z with t := true } : Cell)) = touch true := rfl
        rw [hmm] at htc
        rw [hsg] at hsig; rw [hnr] at hnb
        simp [-List.cons_append, -List.append_assoc, k_guard, hlt, hw, hs, hb, ht, hle, hK, hq2, hsig, hnb, e3, hq3, hv3, htc]
        rw [← hs]
        have st4 := (hs2.trans s3).trans s4
        refine ih (i + 1) _ t3 _ _ _ _ _ _ _ _ _ _ _ _ _ _ _ _ _ _ _ _ _ _ _ _ _ _ _ _ _ _ _ _ _ _ _ _ _ _ _ _ _ _ _ _ _ _ _ _ _ _ (by omega) (by omega) p4 (hf.stq st4) (hle1.all ha) (by omega) hpl ?_
        intro h' t' K1 K2 K3 K4 K5 K6 K7 K8 K9 Ka Kb Kc Kd Ke Kf Kg Kh Ki Kj Kk Kl Km Kn Ko Kp Kq Kr Ks Kt Ku Kv Kw Kx Ky Kz J0 J1 J2 J3 J4 J5 J6 J7 J8 J9 Ja Jb Jc Jd Je Jf pe st
        exact hk h' t' _ _ _ _ _ _ _ _ _ _ _ _ _ _ _ _ _ _ _ _ _ _ _ _ _ _ _ _ _ _ _ _ _ _ _ _ _ _ _ _ _ _ _ _ _ _ _ _ _ _ _ pe (st4.trans st)
    · have h1 : dsig1 P b x y = .ret b := by unfold dsig1; rw [if_neg (by simp [hsg])]
      rw [hsg] at hsig
      simp [-List.cons_append, -List.append_assoc, k_guard, hlt, hw, hs, hb, ht, hle, hK, hq2, hsig]
      rw [← hs]
      exact hskip h1 _ _ _ _ _ _ _ _ _ _ _ _ _ _ _ _ _ _ _ _ _ _ _ _ _ _ _ _ _ _ _ _ _ _ _ _ _ _ _ _ _ _ _ _ _ _ _ _

theorem significance_d (he : PD A h q p pb nb P t b s) (hl : A.size s + 100000 < 1000000) :
    ∃ t' h', (∀ R, Ret tab 77 [ptr q] h R = R (.tuple #[]) h') ∧ PD A h' q p pb nb P t' ((dsigs P b (scan b.w b.h)).run A.ask s).1 ((dsigs P b (scan b.w b.h)).run A.ask s).2 ∧ Stq h h' c (A.own t) (A.own t') := by
  have key : Ret tab 77 [ptr q] h fun v h' => v = .tuple #[] ∧ ∃ t', PD A h' q p pb nb P t' ((dsigs P b (scan b.w b.h)).run A.ask s).1 ((dsigs P b (scan b.w b.h)).run A.ask s).2 ∧ Stq h h' c (A.own t) (A.own t') := by
    obtain ⟨sl, h1, e1, p1, s1, f1⟩ := he.scan
    obtain ⟨a, cc, hs⟩ := f1.sl.shape
    have hsl := scan_len he.dr.cb.ok.w2 he.dr.cb.ok.h2
    have hq := he.dr.blk
    rw [enter77, B77]
    simp [hq, e1, hs]
    rw [← hs]
    refine dsig_loop _ 0 h1 t b s _ _ _ _ _ _ _ _ _ _ _ _ _ _ _ _ _ _ _ _ _ _ _ _ _ _ _ _ _ _ _ _ _ _ _ _ _ _ _ _ _ _ _ _ _ _ _ _ rfl (by omega) p1 f1 (scanIn b) (by omega) (by omega) ?_
    intro h' t' K1 K2 K3 K4 K5 K6 K7 K8 K9 Ka Kb Kc Kd Ke Kf Kg Kh Ki Kj Kk Kl Km Kn Ko Kp Kq Kr Ks Kt Ku Kv Kw Kx Ky Kz J0 J1 J2 J3 J4 J5 J6 J7 J8 J9 Ja Jb Jc Jd Je Jf pe st
    simp [fin77]
    exact ⟨t', by simpa using pe, s1.trans st⟩
  obtain ⟨v, h', e, rfl, t', pe, st⟩ := ret_ex key
  exact ⟨t', h', e, pe, st⟩

theorem dref_loop {sl : Value} {pts : List (Int × Int)} {k : List RItem} {R : Value → Heap → Prop} :
    ∀ (m i : Nat) (h : Heap) (t : A.T) (b : BS) (s : A.S) (K1 K2 K3 K4 K5 K6 K7 K8 K9 Ka Kb Kf Kg Kh Ki Kj Kk Kl Km Kn Ko Kp Kq Kr Ks Kt Ku Kv Kw Kx Ky Kz J0 J1 J2 J3 J4 J5 J6 J7 J8 J9 Ja Jb Jc Jd Je Jf Jg Jh Ji Jj Jk Jl Jm Jn Jo Jp Jq Jr Js Jt Ju Jv Jw Jx Jy Jz Y0 Y1 Y2 Y3 Y4 Y5 Y6 Y7 Y8 Y9 Ya Yb Yc Yd Ye : Value), m = pts.length - i → i ≤ pts.length → PD A h q p pb nb P t b s → Fad h sl pts c (A.own t) → AllIn b pts → A.size s + 2 * m + 3 < 1000000 → pts.length < 1000000 →
      (∀ (h' : Heap) (t' : A.T) (K1 K2 K3 K4 K5 K6 K7 K8 K9 Ka Kb Kc Kd Ke Kf Kg Kh Ki Kj Kk Kl Km Kn Ko Kp Kq Kr Ks Kt Ku Kv Kw Kx Ky Kz J0 J1 J2 J3 J4 J5 J6 J7 J8 J9 Ja Jb Jc Jd Je Jf Jg Jh Ji Jj Jk Jl Jm Jn Jo Jp Jq Jr Js Jt Ju Jv Jw Jx Jy Jz Y0 Y1 Y2 Y3 Y4 Y5 Y6 Y7 Y8 Y9 Ya Yb Yc Yd Ye : Value), PD A h' q p pb nb P t' ((drefs P b (pts.drop i)).run A.ask s).1 ((drefs P b (pts.drop i)).run A.ask s).2 → Stq h h' c (A.own t) (A.own t') → Ok tab R78 k #[ptr q,K1,K2,K3,K4,K5,K6,K7,K8,K9,Ka,Kb,Kc,Kd,Ke,Kf,Kg,Kh,Ki,Kj,Kk,Kl,Km,Kn,Ko,Kp,Kq,Kr,Ks,Kt,Ku,Kv,Kw,Kx,Ky,Kz,J0,J1,J2,J3,J4,J5,J6,J7,J8,J9,Ja,Jb,Jc,Jd,Je,Jf,Jg,Jh,Ji,Jj,Jk,Jl,Jm,Jn,Jo,Jp,Jq,Jr,Js,Jt,Ju,Jv,Jw,Jx,Jy,Jz,Y0,Y1,Y2,Y3,Y4,Y5,Y6,Y7,Y8,Y9,Ya,Yb,Yc,Yd,Ye] h' R) →
      Ok tab R78 (.inLoop L78_0 :: .inBlock 0 :: k) #[ptr q,K1,K2,K3,K4,K5,K6,K7,K8,K9,Ka,Kb,sl,.int .i64 pts.length,.int .i64 i,Kf,Kg,Kh,Ki,Kj,Kk,Kl,Km,Kn,Ko,Kp,Kq,Kr,Ks,Kt,Ku,Kv,Kw,Kx,Ky,Kz,J0,J1,J2,J3,J4,J5,J6,J7,J8,J9,Ja,Jb,Jc,Jd,Je,Jf,Jg,Jh,Ji,Jj,Jk,Jl,Jm,Jn,Jo,Jp,Jq,Jr,Js,Jt,Ju,Jv,Jw,Jx,Jy,Jz,Y0,Y1,Y2,Y3,Y4,Y5,Y6,Y7,Y8,Y9,Ya,Yb,Yc,Yd,Ye] h R := by
  intro m
  induction m with
  | zero =>
    intro i h t b s K1 K2 K3 K4 K5 K6 K7 K8 K9 Ka Kb Kf Kg Kh Ki Kj Kk Kl Km Kn Ko Kp Kq Kr Ks Kt Ku Kv Kw Kx Ky Kz J0 J1 J2 J3 J4 J5 J6 J7 J8 J9 Ja Jb Jc Jd Je Jf Jg Jh Ji Jj Jk Jl Jm Jn Jo Jp Jq Jr Js Jt Ju Jv Jw Jx Jy Jz Y0 Y1 Y2 Y3 Y4 Y5 Y6 Y7 Y8 Y9 Ya Yb Yc Yd Ye hm hi he hf ha hl hpl hk
    have hlt : ¬ ((i : Int) < pts.length) := by omega
    rw [ok_round, l78_0, L78_0a, L78_0b]
    simp [hlt]
    refine hk h t _ _ _ _ _ _ _ _ _ _ _ _ _ _ _ _ _ _ _ _ _ _ _ _ _ _ _ _ _ _ _ _ _ _ _ _ _ _ _ _ _ _ _ _ _ _ _ _ _ _ _ _ _ _ _ _ _ _ _ _ _ _ _ _ _ _ _ _ _ _ _ _ _ _ _ _ _ _ _ _ _ _ _ _ _ _ ?_ (Stq.refl _ _ _)
    rw [List.drop_of_length_le (by omega)]; exact he
  | succ m ih =>
    intro i h t b s K1 K2 K3 K4 K5 K6 K7 K8 K9 Ka Kb Kf Kg Kh Ki Kj Kk Kl Km Kn Ko Kp Kq Kr Ks Kt Ku Kv Kw Kx Ky Kz J0 J1 J2 J3 J4 J5 J6 J7 J8 J9 Ja Jb Jc Jd Je Jf Jg Jh Ji Jj Jk Jl Jm Jn Jo Jp Jq Jr Js Jt Ju Jv Jw Jx Jy Jz Y0 Y1 Y2 Y3 Y4 Y5 Y6 Y7 Y8 Y9 Ya Yb Yc Yd Ye hm hi he hf ha hl hpl hk
    have hlt : ((i : Int) < pts.length) := by omega
    have hw : IntKind.i64.wrap ((i : Int) + 1) = (i : Int) + 1 := wrapN (n := i + 1) (by omega)
    have hil : i < pts.length := by omega
    obtain ⟨id, off, blk, hs, hb, ht, hle⟩ := hf.get hil
    have hin := ha _ (List.getElem_mem hil)
    have hsp : drefs P b (pts.drop i) = (dref1 P b pts[i].1 pts[i].2).bind fun b => drefs P b (pts.drop (i + 1)) := by
      rw [List.drop_eq_getElem_cons hil]; rfl
    obtain ⟨hle1, hsz1⟩ := Tr.Lv.out (A := A.ask) (size := A.size) A.size_ask s (lv_dref1 (P := P) he.good hin)
    generalize hx : pts[i].1 = x at *
    generalize hy : pts[i].2 = y at *
    rw [hsp] at hk
    simp only [Tr.run_bind] at hk
    have he2 := he.push (some ⟨false, [.int .i64 x, .int .i64 y]⟩)
    have hs2 := Stq.push h (some ⟨false, [.int .i64 x, .int .i64 y]⟩) c (A.own t)
    have hf2 := hf.stq hs2
    have hK : ∀ y : Blk, blk? (h ++ [some y]) h.length = some y := fun y => blk?_push_eq
    obtain ⟨l1, l2, l3, l4, l5⟩ := he.lts
    have hq2 := he2.dr.blk
    have hcb2 := he2.dr.cb
    have hsig := fun R => significant_c (R := R) (x := x) (y := y) hcb2
    have htch := fun R => touched_c (R := R) (x := x) (y := y) hcb2
    have hrfd := fun R => refined_c (R := R) (x := x) (y := y) hcb2
    have hnb := fun R => neighbors_d (R := R) (x := x) (y := y) he2.dr hin
    have hcx := fun a b R => ctxRefine_c (h := h ++ [some (⟨false, [.int .i64 x, .int .i64 y]⟩ : Blk)]) (R := R) (a := a) (b := b)
    -- nothing is asked
    have hskip : dref1 P b x y = .ret b → ∀ K1 K2 K3 K4 K5 K6 K7 K8 K9 Ka Kb Kf Kg Kh Ki Kj Kk Kl Km Kn Ko Kp Kq Kr Ks Kt Ku Kv Kw Kx Ky Kz J0 J1 J2 J3 J4 J5 J6 J7 J8 J9 Ja Jb Jc Jd Je Jf Jg Jh Ji Jj Jk Jl Jm Jn Jo Jp Jq Jr Js Jt Ju Jv Jw Jx Jy Jz Y0 Y1 Y2 Y3 Y4 Y5 Y6 Y7 Y8 Y9 Ya Yb Yc Yd Ye : Value, Ok tab R78 (.inLoop L78_0 :: .inBlock 0 :: k) #[ptr q,K1,K2,K3,K4,K5,K6,K7,K8,K9,Ka,Kb,sl,.int .i64 pts.length,.int .i64 ((i : Int) + 1),Kf,Kg,Kh,Ki,Kj,Kk,Kl,Km,Kn,Ko,Kp,Kq,Kr,Ks,Kt,Ku,Kv,Kw,Kx,Ky,Kz,J0,J1,J2,J3,J4,J5,J6,J7,J8,J9,Ja,Jb,Jc,Jd,Je,Jf,Jg,Jh,Ji,Jj,Jk,Jl,Jm,Jn,Jo,Jp,Jq,Jr,Js,Jt,Ju,Jv,Jw,Jx,Jy,Jz,Y0,Y1,Y2,Y3,Y4,Y5,Y6,Y7,Y8,Y9,Ya,Yb,Yc,Yd,Ye] (h ++ [some ⟨false, [.int .i64 x, .int .i64 y]⟩]) R := by
      intro h1 K1 K2 K3 K4 K5 K6 K7 K8 K9 Ka Kb Kf Kg Kh Ki Kj Kk Kl Km Kn Ko Kp Kq Kr Ks Kt Ku Kv Kw Kx Ky Kz J0 J1 J2 J3 J4 J5 J6 J7 J8 J9 Ja Jb Jc Jd Je Jf Jg Jh Ji Jj Jk Jl Jm Jn Jo Jp Jq Jr Js Jt Ju Jv Jw Jx Jy Jz Y0 Y1 Y2 Y3 Y4 Y5 Y6 Y7 Y8 Y9 Ya Yb Yc Yd Ye
      rw [h1] at hk
      refine ih (i + 1) _ t b s _ _ _ _ _ _ _ _ _ _ _ _ _ _ _ _ _ _ _ _ _ _ _ _ _ _ _ _ _ _ _ _ _ _ _ _ _ _ _ _ _ _ _ _ _ _ _ _ _ _ _ _ _ _ _ _ _ _ _ _ _ _ _ _ _ _ _ _ _ _ _ _ _ _ _ _ _ _ _ _ _ _ _ (by omega) (by omega) he2 hf2 ha (by omega) hpl ?_
      intro h' t' K1 K2 K3 K4 K5 K6 K7 K8 K9 Ka Kb Kc Kd Ke Kf Kg Kh Ki Kj Kk Kl Km Kn Ko Kp Kq Kr Ks Kt Ku Kv Kw Kx Ky Kz J0 J1 J2 J3 J4 J5 J6 J7 J8 J9 Ja Jb Jc Jd Je Jf Jg Jh Ji Jj Jk Jl Jm Jn Jo Jp Jq Jr Js Jt Ju Jv Jw Jx Jy Jz Y0 Y1 Y2 Y3 Y4 Y5 Y6 Y7 Y8 Y9 Ya Yb Yc Yd Ye pe st
      exact hk h' t' _ _ _ _ _ _ _ _ _ _ _ _ _ _ _ _ _ _ _ _ _ _ _ _ _ _ _ _ _ _ _ _ _ _ _ _ _ _ _ _ _ _ _ _ _ _ _ _ _ _ _ _ _ _ _ _ _ _ _ _ _ _ _ _ _ _ _ _ _ _ _ _ _ _ _ _ _ _ _ _ _ _ _ _ _ _ pe (hs2.trans st)
    rw [ok_round, l78_0, L78_0a, L78_0b]
    cases hsg : (b.get x y).s
    · have h1 : dref1 P b x y = .ret b := by unfold dref1; rw [if_pos (.inl hsg)]
      rw [hsg] at hsig
      simp [-List.cons_append, -List.append_assoc, k_guard, hlt, hw, hs, hb, ht, hle, hK, hq2, hsig]
      rw [← hs]
      exact hskip h1 _ _ _ _ _ _ _ _ _ _ _ _ _ _ _ _ _ _ _ _ _ _ _ _ _ _ _ _ _ _ _ _ _ _ _ _ _ _ _ _ _ _ _ _ _ _ _ _ _ _ _ _ _ _ _ _ _ _ _ _ _ _ _ _ _ _ _ _ _ _ _ _ _ _ _ _ _ _ _ _ _ _ _
    · cases htc0 : (b.get x y).t
      · -- refined
        have h1 : dref1 P b x y = .ask (P.cx (refCtx (!(b.get x y).r) (near b x y P.cz))) fun bit => .ret (((growB P.s b x y bit).upd x y refine').upd x y (touch true)) := by unfold dref1; rw [if_neg (by simp [hsg, htc0])]
        obtain ⟨u3, h3, e3, p3, s3⟩ := ask_d he2 (by omega) (refCtx (!(b.get x y).r) (near b x y P.cz))
        rw [h1] at hk hle1 hsz1
        simp only [Tr.run_ask, Tr.run_ret] at hk hle1 hsz1
        generalize (A.ask s (P.cx (refCtx (!(b.get x y).r) (near b x y P.cz)))).1 = bit at *
        generalize (A.ask s (P.cx (refCtx (!(b.get x y).r) (near b x y P.cz)))).2 = s3' at *
        have hq3 := p3.dr.blk
        have hv3 : blk? h3 h.length = some ⟨false, [.int .i64 x, .int .i64 y]⟩ := by
          rw [s3.same h.length (by simp) (by omega) (fun e => by have := A.lt he.rel _ e; omega)]; exact blk?_push_eq
        have hnown : ¬ A.own u3 h.length := fun e => by
          rcases s3.fresh _ e with k | k
          · have := A.lt he.rel _ k; omega
          · simp at k; omega
        have hlen3 := s3.len
        simp only [List.length_append, List.length_singleton] at hlen3
        -- the value
        have hgr : ∃ h4, (∀ R, (if bit = true then Ret tab 123 [ptr q, .int .i64 x, .int .i64 y] h3 R else R (.tuple #[]) h3) = R (.tuple #[]) h4) ∧ PD A h4 q p pb nb P u3 (growB P.s b x y bit) s3' ∧ Stq h3 h4 c (A.own u3) (A.own u3) ∧ ∀ id, id < h3.length → id ≠ c → blk? h4 id = blk? h3 id := by
          cases bit
          · exact ⟨h3, fun R => by simp, p3, Stq.refl _ _ _, fun _ _ _ => rfl⟩
          · obtain ⟨h4, e4, p4, s4, k4⟩ := grow_d p3 hin
            exact ⟨h4, fun R => by simp [e4], p4, s4, k4⟩
        obtain ⟨h4, e4, p4, s4, k4⟩ := hgr
        have hl4 := le_growB (s := P.s) he.good hin bit
        have hq4 := p4.dr.blk
        have hv4 : blk? h4 h.length = some ⟨false, [.int .i64 x, .int .i64 y]⟩ := by rw [k4 _ (by omega) (by omega)]; exact hv3
        generalize growB P.s b x y bit = b4 at *
        have hrf := fun R => refine_c (R := R) p4.dr.cb (x := x) (y := y) (hl4.inb hin)
        have hl5 := good_map hl4.good (hl4.inb hin) kv_refine
        obtain ⟨p5, s5⟩ := p4.to hl5
        have hq5 := p5.dr.blk
        have hv5 : blk? (h4.set c (some ⟨false, encC (b4.upd x y refine').cs⟩)) h.length = some ⟨false, [.int .i64 x, .int .i64 y]⟩ := by
          rw [blk?_set_ne (by omega)]; exact hv4
        have htc := fun R => touch_c (R := R) (v := true) p5.dr.cb (x := x) (y := y) (hl5.inb (hl4.inb hin))
        obtain ⟨p6, s6⟩ := p5.to (good_map hl5.good (hl5.inb (hl4.inb hin)) (kv_touch true))
        have hmm : (fun z : Cell => ({ z with t := true } : Cell)) = touch true := rfl
        have hmr : (fun z : Cell => ({ z with r := true } : Cell)) = refine' := rfl
        rw [hmm] at htc
        rw [hmr] at hrf
        have st6 := (((hs2.trans s3).trans s4).trans s5).trans s6
        have hgo : ∀ K1 K2 K3 K4 K5 K6 K7 K8 K9 Ka Kb Kf Kg Kh Ki Kj Kk Kl Km Kn Ko Kp Kq Kr Ks Kt Ku Kv Kw Kx Ky Kz J0 J1 J2 J3 J4 J5 J6 J7 J8 J9 Ja Jb Jc Jd Je Jf Jg Jh Ji Jj Jk Jl Jm Jn Jo Jp Jq Jr Js Jt Ju Jv Jw Jx Jy Jz Y0 Y1 Y2 Y3 Y4 Y5 Y6 Y7 Y8 Y9 Ya Yb Yc Yd Ye : Value, Ok tab R78 (.inLoop L78_0 :: .inBlock 0 :: k) #[ptr q,K1,K2,K3,K4,K5,K6,K7,K8,K9,Ka,Kb,sl,.int .i64 pts.length,.int .i64 ((i : Int) + 1),Kf,Kg,Kh,Ki,Kj,Kk,Kl,Km,Kn,Ko,Kp,Kq,Kr,Ks,Kt,Ku,Kv,Kw,Kx,Ky,Kz,J0,J1,J2,J3,J4,J5,J6,J7,J8,J9,Ja,Jb,Jc,Jd,Je,Jf,Jg,Jh,Ji,Jj,Jk,Jl,Jm,Jn,Jo,Jp,Jq,Jr,Js,Jt,Ju,Jv,Jw,Jx,Jy,Jz,Y0,Y1,Y2,Y3,Y4,Y5,Y6,Y7,Y8,Y9,Ya,Yb,Yc,Yd,Ye] ((h4.set c (some ⟨false, encC (b4.upd x y refine').cs⟩)).set c (some ⟨false, encC ((b4.upd x y refine').upd x y (touch true)).cs⟩)) R := by
          intro K1 K2 K3 K4 K5 K6 K7 K8 K9 Ka Kb Kf Kg Kh Ki Kj Kk Kl Km Kn Ko Kp Kq Kr Ks Kt Ku Kv Kw Kx Ky Kz J0 J1 J2 J3 J4 J5 J6 J7 J8 J9 Ja Jb Jc Jd Je Jf Jg Jh Ji Jj Jk Jl Jm Jn Jo Jp Jq Jr Js Jt Ju Jv Jw Jx Jy Jz Y0 Y1 Y2 Y3 Y4 Y5 Y6 Y7 Y8 Y9 Ya Yb Yc Yd Ye
          refine ih (i + 1) _ u3 _ _ _ _ _ _ _ _ _ _ _ _ _ _ _ _ _ _ _ _ _ _ _ _ _ _ _ _ _ _ _ _ _ _ _ _ _ _ _ _ _ _ _ _ _ _ _ _ _ _ _ _ _ _ _ _ _ _ _ _ _ _ _ _ _ _ _ _ _ _ _ _ _ _ _ _ _ _ _ _ _ _ _ _ _ (by omega) (by omega) p6 (hf.stq st6) (hle1.all ha) (by omega) hpl ?_
          intro h' t' K1 K2 K3 K4 K5 K6 K7 K8 K9 Ka Kb Kc Kd Ke Kf Kg Kh Ki Kj Kk Kl Km Kn Ko Kp Kq Kr Ks Kt Ku Kv Kw Kx Ky Kz J0 J1 J2 J3 J4 J5 J6 J7 J8 J9 Ja Jb Jc Jd Je Jf Jg Jh Ji Jj Jk Jl Jm Jn Jo Jp Jq Jr Js Jt Ju Jv Jw Jx Jy Jz Y0 Y1 Y2 Y3 Y4 Y5 Y6 Y7 Y8 Y9 Ya Yb Yc Yd Ye pe st
          exact hk h' t' _ _ _ _ _ _ _ _ _ _ _ _ _ _ _ _ _ _ _ _ _ _ _ _ _ _ _ _ _ _ _ _ _ _ _ _ _ _ _ _ _ _ _ _ _ _ _ _ _ _ _ _ _ _ _ _ _ _ _ _ _ _ _ _ _ _ _ _ _ _ _ _ _ _ _ _ _ _ _ _ _ _ _ _ _ _ pe (st6.trans st)
        rw [List.set_set] at hgo
        rw [hsg] at hsig; rw [htc0] at htch
        cases bit
        · simp only [Bool.false_eq_true, if_false] at e4
          obtain rfl : h3 = h4 := by
            have := e4 fun _ h' => h3 = h'
            exact this.mp rfl
          simp at e3
          simp [-List.cons_append, -List.append_assoc, k_guard, hlt, hw, hs, hb, ht, hle, hK, hq2, hsig, htch, hrfd, hnb, hcx, e3, hq3, hv3, hrf, hq5, hv5, htc, book, logOf, addLog, chk1, lookL, reload]
          rw [← hs]
          exact hgo _ _ _ _ _ _ _ _ _ _ _ _ _ _ _ _ _ _ _ _ _ _ _ _ _ _ _ _ _ _ _ _ _ _ _ _ _ _ _ _ _ _ _ _ _ _ _ _ _ _ _ _ _ _ _ _ _ _ _ _ _ _ _ _ _ _ _ _ _ _ _ _ _ _ _ _ _ _ _ _ _ _ _
        · simp only [if_true] at e4
          simp at e3
          simp [-List.cons_append, -List.append_assoc, k_guard, hlt, hw, hs, hb, ht, hle, hK, hq2, hsig, htch, hrfd, hnb, hcx, e3, hq3, hv3, e4, hq4, hv4, hrf, hq5, hv5, htc, book, logOf, addLog, chk1, lookL, reload]
          rw [← hs]
          exact hgo _ _ _ _ _ _ _ _ _ _ _ _ _ _ _ _ _ _ _ _ _ _ _ _ _ _ _ _ _ _ _ _ _ _ _ _ _ _ _ _ _ _ _ _ _ _ _ _ _ _ _ _ _ _ _ _ _ _ _ _ _ _ _ _ _ _ _ _ _ _ _ _ _ _ _ _ _ _ _ _ _ _ _
      · have h1 : dref1 P b x y = .ret b := by unfold dref1; rw [if_pos (.inr htc0)]
        rw [hsg] at hsig; rw [htc0] at htch
        simp [-List.cons_append, -List.append_assoc, k_guard, hlt, hw, hs, hb, ht, hle, hK, hq2, hsig, htch]
        rw [← hs]
        exact hskip h1 _ _ _ _ _ _ _ _ _ _ _ _ _ _ _ _ _ _ _ _ _ _ _ _ _ _ _ _ _ _ _ _ _ _ _ _ _ _ _ _ _ _ _ _ _ _ _ _ _ _ _ _ _ _ _ _ _ _ _ _ _ _ _ _ _ _ _ _ _ _ _ _ _ _ _ _ _ _ _ _ _ _ _

theorem refinement_d (he : PD A h q p pb nb P t b s) (hl : A.size s + 100000 < 1000000) :
    ∃ t' h', (∀ R, Ret tab 78 [ptr q] h R = R (.tuple #[]) h') ∧ PD A h' q p pb nb P t' ((drefs P b (scan b.w b.h)).run A.ask s).1 ((drefs P b (scan b.w b.h)).run A.ask s).2 ∧ Stq h h' c (A.own t) (A.own t') := by
  have key : Ret tab 78 [ptr q] h fun v h' => v = .tuple #[] ∧ ∃ t', PD A h' q p pb nb P t' ((drefs P b (scan b.w b.h)).run A.ask s).1 ((drefs P b (scan b.w b.h)).run A.ask s).2 ∧ Stq h h' c (A.own t) (A.own t') := by
    obtain ⟨sl, h1, e1, p1, s1, f1⟩ := he.scan
    obtain ⟨a, cc, hs⟩ := f1.sl.shape
    have hsl := scan_len he.dr.cb.ok.w2 he.dr.cb.ok.h2
    have hq := he.dr.blk
    rw [enter78, B78]
    simp [hq, e1, hs]
    rw [← hs]
    refine dref_loop _ 0 h1 t b s _ _ _ _ _ _ _ _ _ _ _ _ _ _ _ _ _ _ _ _ _ _ _ _ _ _ _ _ _ _ _ _ _ _ _ _ _ _ _ _ _ _ _ _ _ _ _ _ _ _ _ _ _ _ _ _ _ _ _ _ _ _ _ _ _ _ _ _ _ _ _ _ _ _ _ _ _ _ _ _ _ _ _ rfl (by omega) p1 f1 (scanIn b) (by omega) (by omega) ?_
    intro h' t' K1 K2 K3 K4 K5 K6 K7 K8 K9 Ka Kb Kc Kd Ke Kf Kg Kh Ki Kj Kk Kl Km Kn Ko Kp Kq Kr Ks Kt Ku Kv Kw Kx Ky Kz J0 J1 J2 J3 J4 J5 J6 J7 J8 J9 Ja Jb Jc Jd Je Jf Jg Jh Ji Jj Jk Jl Jm Jn Jo Jp Jq Jr Js Jt Ju Jv Jw Jx Jy Jz Y0 Y1 Y2 Y3 Y4 Y5 Y6 Y7 Y8 Y9 Ya Yb Yc Yd Ye pe st
    simp [fin78]
    exact ⟨t', by simpa using pe, s1.trans st⟩
  obtain ⟨v, h', e, rfl, t', pe, st⟩ := ret_ex key
  exact ⟨t', h', e, pe, st⟩
end
section
variable {c : Nat} {nv : Value} {A : Src c (callF nv)} {h : Heap} {q p pb nb : Nat} {P : PP} {t : A.T} {b : BS} {s : A.S} {k : List RItem} {R : Value → Heap → Prop} {v1 : Value}

set_option maxRecDepth 10000 in
set_option maxHeartbeats 4000000 in
theorem drows_loop {w hh : Nat} (hw2 : w ≤ 64) (hh2 : hh ≤ 64) {x top : Int} {v25 v26 : Value} (hx : 0 ≤ x ∧ x < w) (ht : 0 ≤ top ∧ top < hh) :
    ∀ (n : Nat) (y : Int) (h : Heap) (t : A.T) (b : BS) (s : A.S) (K2 K3 K4 K8 K9 Ka Kb Kc Kd Ke Kf Kg Kh Ki Kj Kk Kl Km Kn Ko Kr Ks Kt Ku Kv Kw Kx Ky Kz J0 J1 J2 J3 J4 J5 J6 J7 J8 J9 Ja Jb Jc Jd Je Jf Jg Jh Ji Jj Jk Jl Jm Jn Jo Jp Jq Jr Js Jt Ju Jv Jw Jx Jy Jz Y0 Y1 Y2 Y3 Y4 Y5 Y6 Y7 Y8 Y9 Ya Yb Yc Yd Ye Yf Yg Yh Yi Yj Yk Yl Ym Yn Yo Yp Yq Yr Ys Yt Yu Yv Yw Yx Yy Yz Z0 Z1 Z2 Z3 Z4 Z5 Z6 Z7 Z8 Z9 Za Zb Zc Zd Ze Zf Zg Zh Zi Zj Zk Zl Zm Zn Zo Zp Zq Zr Zs Zt Zu : Value), y + n = min (top + 4) hh → 0 ≤ y → b.w = w → b.h = hh → PD A h q p pb nb P t b s → A.size s + 2 * n + 3 < 1000000 →
      (∀ (h' : Heap) (t' : A.T) (y' : Int) (K2 K3 K4 K8 K9 Ka Kb Kc Kd Ke Kf Kg Kh Ki Kj Kk Kl Km Kn Ko Kr Ks Kt Ku Kv Kw Kx Ky Kz J0 J1 J2 J3 J4 J5 J6 J7 J8 J9 Ja Jb Jc Jd Je Jf Jg Jh Ji Jj Jk Jl Jm Jn Jo Jp Jq Jr Js Jt Ju Jv Jw Jx Jy Jz Y0 Y1 Y2 Y3 Y4 Y5 Y6 Y7 Y8 Y9 Ya Yb Yc Yd Ye Yf Yg Yh Yi Yj Yk Yl Ym Yn Yo Yp Yq Yr Ys Yt Yu Yv Yw Yx Yy Yz Z0 Z1 Z2 Z3 Z4 Z5 Z6 Z7 Z8 Z9 Za Zb Zc Zd Ze Zf Zg Zh Zi Zj Zk Zl Zm Zn Zo Zp Zq Zr Zs Zt Zu : Value), PD A h' q p pb nb P t' ((drows P b x y n).run A.ask s).1 ((drows P b x y n).run A.ask s).2 → Stq h h' c (A.own t) (A.own t') →
        Ok tab R79 k #[ptr q,v1,K2,K3,K4,.int .i64 top,.int .i64 x,.int .i64 y',K8,K9,Ka,Kb,Kc,Kd,Ke,Kf,Kg,Kh,Ki,Kj,Kk,Kl,Km,Kn,Ko,v25,v26,Kr,Ks,Kt,Ku,Kv,Kw,Kx,Ky,Kz,J0,J1,J2,J3,J4,J5,J6,J7,J8,J9,Ja,Jb,Jc,Jd,Je,Jf,Jg,Jh,Ji,Jj,Jk,Jl,Jm,Jn,Jo,Jp,Jq,Jr,Js,Jt,Ju,Jv,Jw,Jx,Jy,Jz,Y0,Y1,Y2,Y3,Y4,Y5,Y6,Y7,Y8,Y9,Ya,Yb,Yc,Yd,Ye,Yf,Yg,Yh,Yi,Yj,Yk,Yl,Ym,Yn,Yo,Yp,Yq,Yr,Ys,Yt,Yu,Yv,Yw,Yx,Yy,Yz,Z0,Z1,Z2,Z3,Z4,Z5,Z6,Z7,Z8,Z9,Za,Zb,Zc,Zd,Ze,Zf,Zg,Zh,Zi,Zj,Zk,Zl,Zm,Zn,Zo,Zp,Zq,Zr,Zs,Zt,Zu] h' R) →
      Ok tab R79 (.inLoop L79_0 :: .inBlock 4 :: k) #[ptr q,v1,K2,K3,K4,.int .i64 top,.int .i64 x,.int .i64 y,K8,K9,Ka,Kb,Kc,Kd,Ke,Kf,Kg,Kh,Ki,Kj,Kk,Kl,Km,Kn,Ko,v25,v26,Kr,Ks,Kt,Ku,Kv,Kw,Kx,Ky,Kz,J0,J1,J2,J3,J4,J5,J6,J7,J8,J9,Ja,Jb,Jc,Jd,Je,Jf,Jg,Jh,Ji,Jj,Jk,Jl,Jm,Jn,Jo,Jp,Jq,Jr,Js,Jt,Ju,Jv,Jw,Jx,Jy,Jz,Y0,Y1,Y2,Y3,Y4,Y5,Y6,Y7,Y8,Y9,Ya,Yb,Yc,Yd,Ye,Yf,Yg,Yh,Yi,Yj,Yk,Yl,Ym,Yn,Yo,Yp,Yq,Yr,Ys,Yt,Yu,Yv,Yw,Yx,Yy,Yz,Z0,Z1,Z2,Z3,Z4,Z5,Z6,Z7,Z8,Z9,Za,Zb,Zc,Zd,Ze,Zf,Zg,Zh,Zi,Zj,Zk,Zl,Zm,Zn,Zo,Zp,Zq,Zr,Zs,Zt,Zu] h R := by
  intro n
  induction n with
  | zero =>
    intro y h t b s K2 K3 K4 K8 K9 Ka Kb Kc Kd Ke Kf Kg Kh Ki Kj Kk Kl Km Kn Ko Kr Ks Kt Ku Kv Kw Kx Ky Kz J0 J1 J2 J3 J4 J5 J6 J7 J8 J9 Ja Jb Jc Jd Je Jf Jg Jh Ji Jj Jk Jl Jm Jn Jo Jp Jq Jr Js Jt Ju Jv Jw Jx Jy Jz Y0 Y1 Y2 Y3 Y4 Y5 Y6 Y7 Y8 Y9 Ya Yb Yc Yd Ye Yf Yg Yh Yi Yj Yk Yl Ym Yn Yo Yp Yq Yr Ys Yt Yu Yv Yw Yx Yy Yz Z0 Z1 Z2 Z3 Z4 Z5 Z6 Z7 Z8 Z9 Za Zb Zc Zd Ze Zf Zg Zh Zi Zj Zk Zl Zm Zn Zo Zp Zq Zr Zs Zt Zu hy h0 hw hh' he hl hk
    have hq := he.dr.blk
    rw [hw, hh'] at hq
    have hw4 : IntKind.i64.wrap (top + 4) = top + 4 := wrapI (by omega) (by omega)
    have hlt : ¬ y < min (top + 4) (hh : Int) := by omega
    rw [ok_round, l79_0, L79_0a, L79_0b]
    simp [hq, hw4, fold1, foldO, min2V, min4 (hh := hh) ht.1]
    simp [hlt]
    exact hk h t y _ _ _ _ _ _ _ _ _ _ _ _ _ _ _ _ _ _ _ _ _ _ _ _ _ _ _ _ _ _ _ _ _ _ _ _ _ _ _ _ _ _ _ _ _ _ _ _ _ _ _ _ _ _ _ _ _ _ _ _ _ _ _ _ _ _ _ _ _ _ _ _ _ _ _ _ _ _ _ _ _ _ _ _ _ _ _ _ _ _ _ _ _ _ _ _ _ _ _ _ _ _ _ _ _ _ _ _ _ _ _ _ _ _ _ _ _ _ _ _ _ _ _ _ _ _ _ _ _ _ _ _ he (Stq.refl _ _ _)
  | succ n ih =>
    intro y h t b s K2 K3 K4 K8 K9 Ka Kb Kc Kd Ke Kf Kg Kh Ki Kj Kk Kl Km Kn Ko Kr Ks Kt Ku Kv Kw Kx Ky Kz J0 J1 J2 J3 J4 J5 J6 J7 J8 J9 Ja Jb Jc Jd Je Jf Jg Jh Ji Jj Jk Jl Jm Jn Jo Jp Jq Jr Js Jt Ju Jv Jw Jx Jy Jz Y0 Y1 Y2 Y3 Y4 Y5 Y6 Y7 Y8 Y9 Ya Yb Yc Yd Ye Yf Yg Yh Yi Yj Yk Yl Ym Yn Yo Yp Yq Yr Ys Yt Yu Yv Yw Yx Yy Yz Z0 Z1 Z2 Z3 Z4 Z5 Z6 Z7 Z8 Z9 Za Zb Zc Zd Ze Zf Zg Zh Zi Zj Zk Zl Zm Zn Zo Zp Zq Zr Zs Zt Zu hy h0 hw hh' he hl hk
    have hq := he.dr.blk
    rw [hw, hh'] at hq
    have hw4 : IntKind.i64.wrap (top + 4) = top + 4 := wrapI (by omega) (by omega)
    have hw1 : IntKind.i64.wrap (y + 1) = y + 1 := wrapI (by omega) (by omega)
    have hlt : y < min (top + 4) (hh : Int) := by omega
    have hin : b.inb x y := ⟨hx.1, by rw [hw]; exact hx.2, h0, by rw [hh']; omega⟩
    have hsig := fun R => significant_c (R := R) (x := x) (y := y) he.dr.cb
    have htch := fun R => touched_c (R := R) (x := x) (y := y) he.dr.cb
    obtain ⟨hle, hsz⟩ := Tr.Lv.out (A := A.ask) (size := A.size) A.size_ask s (lv_dcln1 he.dr.pok he.good hin)
    rw [drows] at hk
    simp only [Tr.run_bind] at hk
    have hskip : dcln1 P b x y = .ret b → ∀ K2 K3 K4 K8 K9 Ka Kb Kc Kd Ke Kf Kg Kh Ki Kj Kk Kl Km Kn Ko Kr Ks Kt Ku Kv Kw Kx Ky Kz J0 J1 J2 J3 J4 J5 J6 J7 J8 J9 Ja Jb Jc Jd Je Jf Jg Jh Ji Jj Jk Jl Jm Jn Jo Jp Jq Jr Js Jt Ju Jv Jw Jx Jy Jz Y0 Y1 Y2 Y3 Y4 Y5 Y6 Y7 Y8 Y9 Ya Yb Yc Yd Ye Yf Yg Yh Yi Yj Yk Yl Ym Yn Yo Yp Yq Yr Ys Yt Yu Yv Yw Yx Yy Yz Z0 Z1 Z2 Z3 Z4 Z5 Z6 Z7 Z8 Z9 Za Zb Zc Zd Ze Zf Zg Zh Zi Zj Zk Zl Zm Zn Zo Zp Zq Zr Zs Zt Zu : Value, Ok tab R79 (.inLoop L79_0 :: .inBlock 4 :: k) #[ptr q,v1,K2,K3,K4,.int .i64 top,.int .i64 x,.int .i64 (y + 1),K8,K9,Ka,Kb,Kc,Kd,Ke,Kf,Kg,Kh,Ki,Kj,Kk,Kl,Km,Kn,Ko,v25,v26,Kr,Ks,Kt,Ku,Kv,Kw,Kx,Ky,Kz,J0,J1,J2,J3,J4,J5,J6,J7,J8,J9,Ja,Jb,Jc,Jd,Je,Jf,Jg,Jh,Ji,Jj,Jk,Jl,Jm,Jn,Jo,Jp,Jq,Jr,Js,Jt,Ju,Jv,Jw,Jx,Jy,Jz,Y0,Y1,Y2,Y3,Y4,Y5,Y6,Y7,Y8,Y9,Ya,Yb,Yc,Yd,Ye,Yf,Yg,Yh,Yi,Yj,Yk,Yl,Ym,Yn,Yo,Yp,Yq,Yr,Ys,Yt,Yu,Yv,Yw,Yx,Yy,Yz,Z0,Z1,Z2,Z3,Z4,Z5,Z6,Z7,Z8,Z9,Za,Zb,Zc,Zd,Ze,Zf,Zg,Zh,Zi,Zj,Zk,Zl,Zm,Zn,Zo,Zp,Zq,Zr,Zs,Zt,Zu] h R := by
      intro h1 K2 K3 K4 K8 K9 Ka Kb Kc Kd Ke Kf Kg Kh Ki Kj Kk Kl Km Kn Ko Kr Ks Kt Ku Kv Kw Kx Ky Kz J0 J1 J2 J3 J4 J5 J6 J7 J8 J9 Ja Jb Jc Jd Je Jf Jg Jh Ji Jj Jk Jl Jm Jn Jo Jp Jq Jr Js Jt Ju Jv Jw Jx Jy Jz Y0 Y1 Y2 Y3 Y4 Y5 Y6 Y7 Y8 Y9 Ya Yb Yc Yd Ye Yf Yg Yh Yi Yj Yk Yl Ym Yn Yo Yp Yq Yr Ys Yt Yu Yv Yw Yx Yy Yz Z0 Z1 Z2 Z3 Z4 Z5 Z6 Z7 Z8 Z9 Za Zb Zc Zd Ze Zf Zg Zh Zi Zj Zk Zl Zm Zn Zo Zp Zq Zr Zs Zt Zu
      rw [h1] at hk
      refine ih (y + 1) h t b s _ _ _ _ _ _ _ _ _ _ _ _ _ _ _ _ _ _ _ _ _ _ _ _ _ _ _ _ _ _ _ _ _ _ _ _ _ _ _ _ _ _ _ _ _ _ _ _ _ _ _ _ _ _ _ _ _ _ _ _ _ _ _ _ _ _ _ _ _ _ _ _ _ _ _ _ _ _ _ _ _ _ _ _ _ _ _ _ _ _ _ _ _ _ _ _ _ _ _ _ _ _ _ _ _ _ _ _ _ _ _ _ _ _ _ _ _ _ _ _ _ _ _ _ _ _ _ _ _ _ _ _ (by omega) (by omega) hw hh' he (by omega) ?_
      intro h' t' y' K2 K3 K4 K8 K9 Ka Kb Kc Kd Ke Kf Kg Kh Ki Kj Kk Kl Km Kn Ko Kr Ks Kt Ku Kv Kw Kx Ky Kz J0 J1 J2 J3 J4 J5 J6 J7 J8 J9 Ja Jb Jc Jd Je Jf Jg Jh Ji Jj Jk Jl Jm Jn Jo Jp Jq Jr Js Jt Ju Jv Jw Jx Jy Jz Y0 Y1 Y2 Y3 Y4 Y5 Y6 Y7 Y8 Y9 Ya Yb Yc Yd Ye Yf Yg Yh Yi Yj Yk Yl Ym Yn Yo Yp Yq Yr Ys Yt Yu Yv Yw Yx Yy Yz Z0 Z1 Z2 Z3 Z4 Z5 Z6 Z7 Z8 Z9 Za Zb Zc Zd Ze Zf Zg Zh Zi Zj Zk Zl Zm Zn Zo Zp Zq Zr Zs Zt Zu pe st
      exact hk h' t' y' _ _ _ _ _ _ _ _ _ _ _ _ _ _ _ _ _ _ _ _ _ _ _ _ _ _ _ _ _ _ _ _ _ _ _ _ _ _ _ _ _ _ _ _ _ _ _ _ _ _ _ _ _ _ _ _ _ _ _ _ _ _ _ _ _ _ _ _ _ _ _ _ _ _ _ _ _ _ _ _ _ _ _ _ _ _ _ _ _ _ _ _ _ _ _ _ _ _ _ _ _ _ _ _ _ _ _ _ _ _ _ _ _ _ _ _ _ _ _ _ _ _ _ _ _ _ _ _ _ _ _ _ pe st
    rw [ok_round, l79_0, L79_0a, L79_0b]
    simp [hq, hw4, fold1, foldO, min2V, min4 (hh := hh) ht.1]
    cases hsg : (b.get x y).s
    · cases htc : (b.get x y).t
      · have h1 : dcln1 P b x y = dcode P b x y := by unfold dcln1; rw [if_pos ⟨hsg, htc⟩]
        obtain ⟨u1, h2, e1, p1, s1⟩ := code_d he (by omega) hin
        rw [h1] at hk hle hsz
        rw [hsg] at hsig; rw [htc] at htch
        simp [k_guard, hlt, hw1, hq, hsig, htch, e1]
        refine ih (y + 1) h2 u1 _ _ _ _ _ _ _ _ _ _ _ _ _ _ _ _ _ _ _ _ _ _ _ _ _ _ _ _ _ _ _ _ _ _ _ _ _ _ _ _ _ _ _ _ _ _ _ _ _ _ _ _ _ _ _ _ _ _ _ _ _ _ _ _ _ _ _ _ _ _ _ _ _ _ _ _ _ _ _ _ _ _ _ _ _ _ _ _ _ _ _ _ _ _ _ _ _ _ _ _ _ _ _ _ _ _ _ _ _ _ _ _ _ _ _ _ _ _ _ _ _ _ _ _ _ _ _ _ _ _ _ _ _ _ (by omega) (by omega) (by rw [hle.w]; exact hw) (by rw [hle.h]; exact hh') p1 (by omega) ?_
        intro h' t' y' K2 K3 K4 K8 K9 Ka Kb Kc Kd Ke Kf Kg Kh Ki Kj Kk Kl Km Kn Ko Kr Ks Kt Ku Kv Kw Kx Ky Kz J0 J1 J2 J3 J4 J5 J6 J7 J8 J9 Ja Jb Jc Jd Je Jf Jg Jh Ji Jj Jk Jl Jm Jn Jo Jp Jq Jr Js Jt Ju Jv Jw Jx Jy Jz Y0 Y1 Y2 Y3 Y4 Y5 Y6 Y7 Y8 Y9 Ya Yb Yc Yd Ye Yf Yg Yh Yi Yj Yk Yl Ym Yn Yo Yp Yq Yr Ys Yt Yu Yv Yw Yx Yy Yz Z0 Z1 Z2 Z3 Z4 Z5 Z6 Z7 Z8 Z9 Za Zb Zc Zd Ze Zf Zg Zh Zi Zj Zk Zl Zm Zn Zo Zp Zq Zr Zs Zt Zu pe st
        exact hk h' t' y' _ _ _ _ _ _ _ _ _ _ _ _ _ _ _ _ _ _ _ _ _ _ _ _ _ _ _ _ _ _ _ _ _ _ _ _ _ _ _ _ _ _ _ _ _ _ _ _ _ _ _ _ _ _ _ _ _ _ _ _ _ _ _ _ _ _ _ _ _ _ _ _ _ _ _ _ _ _ _ _ _ _ _ _ _ _ _ _ _ _ _ _ _ _ _ _ _ _ _ _ _ _ _ _ _ _ _ _ _ _ _ _ _ _ _ _ _ _ _ _ _ _ _ _ _ _ _ _ _ _ _ _ pe (s1.trans st)
      · have h1 : dcln1 P b x y = .ret b := by unfold dcln1; rw [if_neg (by simp [htc])]
        rw [hsg] at hsig; rw [htc] at htch
        simp [k_guard, hlt, hw1, hq, hsig, htch]
        exact hskip h1 _ _ _ _ _ _ _ _ _ _ _ _ _ _ _ _ _ _ _ _ _ _ _ _ _ _ _ _ _ _ _ _ _ _ _ _ _ _ _ _ _ _ _ _ _ _ _ _ _ _ _ _ _ _ _ _ _ _ _ _ _ _ _ _ _ _ _ _ _ _ _ _ _ _ _ _ _ _ _ _ _ _ _ _ _ _ _ _ _ _ _ _ _ _ _ _ _ _ _ _ _ _ _ _ _ _ _ _ _ _ _ _ _ _ _ _ _ _ _ _ _ _ _ _ _ _ _ _ _ _ _ _
    · have h1 : dcln1 P b x y = .ret b := by unfold dcln1; rw [if_neg (by simp [hsg])]
      rw [hsg] at hsig
      simp [k_guard, k_guardU, hlt, hw1, hq, hsig]
      exact hskip h1 _ _ _ _ _ _ _ _ _ _ _ _ _ _ _ _ _ _ _ _ _ _ _ _ _ _ _ _ _ _ _ _ _ _ _ _ _ _ _ _ _ _ _ _ _ _ _ _ _ _ _ _ _ _ _ _ _ _ _ _ _ _ _ _ _ _ _ _ _ _ _ _ _ _ _ _ _ _ _ _ _ _ _ _ _ _ _ _ _ _ _ _ _ _ _ _ _ _ _ _ _ _ _ _ _ _ _ _ _ _ _ _ _ _ _ _ _ _ _ _ _ _ _ _ _ _ _ _ _ _ _ _

set_option maxRecDepth 10000 in
set_option maxHeartbeats 4000000 in
theorem dcols_loop {w hh : Nat} (hw2 : w ≤ 64) (hh2 : hh ≤ 64) {top : Int} (ht : 0 ≤ top ∧ top < hh) :
    ∀ (n : Nat) (x : Int) (h : Heap) (t : A.T) (b : BS) (s : A.S) (K2 K3 K4 K6 K7 K8 K9 Ka Kb Kc Kd Ke Kf Kg Kh Ki Kj Kk Kl Km Kn Ko Kr Ks Kt Ku Kv Kw Kx Ky Kz J0 J1 J2 J3 J4 J5 J6 J7 J8 J9 Ja Jb Jc Jd Je Jf Jg Jh Ji Jj Jk Jl Jm Jn Jo Jp Jq Jr Js Jt Ju Jv Jw Jx Jy Jz Y0 Y1 Y2 Y3 Y4 Y5 Y6 Y7 Y8 Y9 Ya Yb Yc Yd Ye Yf Yg Yh Yi Yj Yk Yl Ym Yn Yo Yp Yq Yr Ys Yt Yu Yv Yw Yx Yy Yz Z0 Z1 Z2 Z3 Z4 Z5 Z6 Z7 Z8 Z9 Za Zb Zc Zd Ze Zf Zg Zh Zi Zj Zk Zl Zm Zn Zo Zp Zq Zr Zs Zt Zu : Value), x + n = w → 0 ≤ x → b.w = w → b.h = hh → PD A h q p pb nb P t b s → A.size s + 12 * n + 20 < 1000000 →
      (∀ (h' : Heap) (t' : A.T) (K2 K3 K4 K6 K7 K8 K9 Ka Kb Kc Kd Ke Kf Kg Kh Ki Kj Kk Kl Km Kn Ko Kp Kq Kr Ks Kt Ku Kv Kw Kx Ky Kz J0 J1 J2 J3 J4 J5 J6 J7 J8 J9 Ja Jb Jc Jd Je Jf Jg Jh Ji Jj Jk Jl Jm Jn Jo Jp Jq Jr Js Jt Ju Jv Jw Jx Jy Jz Y0 Y1 Y2 Y3 Y4 Y5 Y6 Y7 Y8 Y9 Ya Yb Yc Yd Ye Yf Yg Yh Yi Yj Yk Yl Ym Yn Yo Yp Yq Yr Ys Yt Yu Yv Yw Yx Yy Yz Z0 Z1 Z2 Z3 Z4 Z5 Z6 Z7 Z8 Z9 Za Zb Zc Zd Ze Zf Zg Zh Zi Zj Zk Zl Zm Zn Zo Zp Zq Zr Zs Zt Zu : Value), PD A h' q p pb nb P t' ((dcols P b x top n).run A.ask s).1 ((dcols P b x top n).run A.ask s).2 → Stq h h' c (A.own t) (A.own t') →
        Ok tab R79 k #[ptr q,v1,K2,K3,K4,.int .i64 top,K6,K7,K8,K9,Ka,Kb,Kc,Kd,Ke,Kf,Kg,Kh,Ki,Kj,Kk,Kl,Km,Kn,Ko,Kp,Kq,Kr,Ks,Kt,Ku,Kv,Kw,Kx,Ky,Kz,J0,J1,J2,J3,J4,J5,J6,J7,J8,J9,Ja,Jb,Jc,Jd,Je,Jf,Jg,Jh,Ji,Jj,Jk,Jl,Jm,Jn,Jo,Jp,Jq,Jr,Js,Jt,Ju,Jv,Jw,Jx,Jy,Jz,Y0,Y1,Y2,Y3,Y4,Y5,Y6,Y7,Y8,Y9,Ya,Yb,Yc,Yd,Ye,Yf,Yg,Yh,Yi,Yj,Yk,Yl,Ym,Yn,Yo,Yp,Yq,Yr,Ys,Yt,Yu,Yv,Yw,Yx,Yy,Yz,Z0,Z1,Z2,Z3,Z4,Z5,Z6,Z7,Z8,Z9,Za,Zb,Zc,Zd,Ze,Zf,Zg,Zh,Zi,Zj,Zk,Zl,Zm,Zn,Zo,Zp,Zq,Zr,Zs,Zt,Zu] h' R) →
      Ok tab R79 (.inLoop L79_1 :: .inBlock 2 :: k) #[ptr q,v1,K2,K3,K4,.int .i64 top,K6,K7,K8,K9,Ka,Kb,Kc,Kd,Ke,Kf,Kg,Kh,Ki,Kj,Kk,Kl,Km,Kn,Ko,.int .i64 w,.int .i64 x,Kr,Ks,Kt,Ku,Kv,Kw,Kx,Ky,Kz,J0,J1,J2,J3,J4,J5,J6,J7,J8,J9,Ja,Jb,Jc,Jd,Je,Jf,Jg,Jh,Ji,Jj,Jk,Jl,Jm,Jn,Jo,Jp,Jq,Jr,Js,Jt,Ju,Jv,Jw,Jx,Jy,Jz,Y0,Y1,Y2,Y3,Y4,Y5,Y6,Y7,Y8,Y9,Ya,Yb,Yc,Yd,Ye,Yf,Yg,Yh,Yi,Yj,Yk,Yl,Ym,Yn,Yo,Yp,Yq,Yr,Ys,Yt,Yu,Yv,Yw,Yx,Yy,Yz,Z0,Z1,Z2,Z3,Z4,Z5,Z6,Z7,Z8,Z9,Za,Zb,Zc,Zd,Ze,Zf,Zg,Zh,Zi,Zj,Zk,Zl,Zm,Zn,Zo,Zp,Zq,Zr,Zs,Zt,Zu] h R := by
  intro n
  induction n with
  | zero =>
    intro x h t b s K2 K3 K4 K6 K7 K8 K9 Ka Kb Kc Kd Ke Kf Kg Kh Ki Kj Kk Kl Km Kn Ko Kr Ks Kt Ku Kv Kw Kx Ky Kz J0 J1 J2 J3 J4 J5 J6 J7 J8 J9 Ja Jb Jc Jd Je Jf Jg Jh Ji Jj Jk Jl Jm Jn Jo Jp Jq Jr Js Jt Ju Jv Jw Jx Jy Jz Y0 Y1 Y2 Y3 Y4 Y5 Y6 Y7 Y8 Y9 Ya Yb Yc Yd Ye Yf Yg Yh Yi Yj Yk Yl Ym Yn Yo Yp Yq Yr Ys Yt Yu Yv Yw Yx Yy Yz Z0 Z1 Z2 Z3 Z4 Z5 Z6 Z7 Z8 Z9 Za Zb Zc Zd Ze Zf Zg Zh Zi Zj Zk Zl Zm Zn Zo Zp Zq Zr Zs Zt Zu hx h0 hw hh' he hl hk
    have hlt : ¬ x < (w : Int) := by omega
    rw [ok_round, l79_1, L79_1a, L79_1b]
    simp [hlt]
    exact hk h t _ _ _ _ _ _ _ _ _ _ _ _ _ _ _ _ _ _ _ _ _ _ _ _ _ _ _ _ _ _ _ _ _ _ _ _ _ _ _ _ _ _ _ _ _ _ _ _ _ _ _ _ _ _ _ _ _ _ _ _ _ _ _ _ _ _ _ _ _ _ _ _ _ _ _ _ _ _ _ _ _ _ _ _ _ _ _ _ _ _ _ _ _ _ _ _ _ _ _ _ _ _ _ _ _ _ _ _ _ _ _ _ _ _ _ _ _ _ _ _ _ _ _ _ _ _ _ _ _ _ _ _ _ _ _ _ he (Stq.refl _ _ _)
  | succ n ih =>
    intro x h t b s K2 K3 K4 K6 K7 K8 K9 Ka Kb Kc Kd Ke Kf Kg Kh Ki Kj Kk Kl Km Kn Ko Kr Ks Kt Ku Kv Kw Kx Ky Kz J0 J1 J2 J3 J4 J5 J6 J7 J8 J9 Ja Jb Jc Jd Je Jf Jg Jh Ji Jj Jk Jl Jm Jn Jo Jp Jq Jr Js Jt Ju Jv Jw Jx Jy Jz Y0 Y1 Y2 Y3 Y4 Y5 Y6 Y7 Y8 Y9 Ya Yb Yc Yd Ye Yf Yg Yh Yi Yj Yk Yl Ym Yn Yo Yp Yq Yr Ys Yt Yu Yv Yw Yx Yy Yz Z0 Z1 Z2 Z3 Z4 Z5 Z6 Z7 Z8 Z9 Za Zb Zc Zd Ze Zf Zg Zh Zi Zj Zk Zl Zm Zn Zo Zp Zq Zr Zs Zt Zu hx h0 hw hh' he hl hk
    have hlt : x < (w : Int) := by omega
    have hw1 : IntKind.i64.wrap (x + 1) = x + 1 := wrapI (by omega) (by omega)
    have hw4 : IntKind.i64.wrap (top + 4) = top + 4 := wrapI (by omega) (by omega)
    have hq := he.dr.blk
    have hin : b.inb x top := ⟨h0, by rw [hw]; exact hlt, ht.1, by rw [hh']; exact ht.2⟩
    have hqt := fun R => quiet_d (R := R) (x := x) (top := top) he.dr ⟨h0, by rw [hw]; exact hlt⟩ ⟨ht.1, by rw [hh']; exact ht.2⟩
    obtain ⟨hle, hsz⟩ := Tr.Lv.out (A := A.ask) (size := A.size) A.size_ask s (lv_dcol he.dr.pok he.good hin)
    rw [dcols] at hk
    simp only [Tr.run_bind] at hk
    -- the next column
    have hnext : ∀ (h' : Heap) (t' : A.T) (K2 K3 K4 K6 K7 K8 K9 Ka Kb Kc Kd Ke Kf Kg Kh Ki Kj Kk Kl Km Kn Ko Kr Ks Kt Ku Kv Kw Kx Ky Kz J0 J1 J2 J3 J4 J5 J6 J7 J8 J9 Ja Jb Jc Jd Je Jf Jg Jh Ji Jj Jk Jl Jm Jn Jo Jp Jq Jr Js Jt Ju Jv Jw Jx Jy Jz Y0 Y1 Y2 Y3 Y4 Y5 Y6 Y7 Y8 Y9 Ya Yb Yc Yd Ye Yf Yg Yh Yi Yj Yk Yl Ym Yn Yo Yp Yq Yr Ys Yt Yu Yv Yw Yx Yy Yz Z0 Z1 Z2 Z3 Z4 Z5 Z6 Z7 Z8 Z9 Za Zb Zc Zd Ze Zf Zg Zh Zi Zj Zk Zl Zm Zn Zo Zp Zq Zr Zs Zt Zu : Value), PD A h' q p pb nb P t' ((dcol P b x top).run A.ask s).1 ((dcol P b x top).run A.ask s).2 → Stq h h' c (A.own t) (A.own t') →
        Ok tab R79 (.inLoop L79_1 :: .inBlock 2 :: k) #[ptr q,v1,K2,K3,K4,.int .i64 top,K6,K7,K8,K9,Ka,Kb,Kc,Kd,Ke,Kf,Kg,Kh,Ki,Kj,Kk,Kl,Km,Kn,Ko,.int .i64 w,.int .i64 (x + 1),Kr,Ks,Kt,Ku,Kv,Kw,Kx,Ky,Kz,J0,J1,J2,J3,J4,J5,J6,J7,J8,J9,Ja,Jb,Jc,Jd,Je,Jf,Jg,Jh,Ji,Jj,Jk,Jl,Jm,Jn,Jo,Jp,Jq,Jr,Js,Jt,Ju,Jv,Jw,Jx,Jy,Jz,Y0,Y1,Y2,Y3,Y4,Y5,Y6,Y7,Y8,Y9,Ya,Yb,Yc,Yd,Ye,Yf,Yg,Yh,Yi,Yj,Yk,Yl,Ym,Yn,Yo,Yp,Yq,Yr,Ys,Yt,Yu,Yv,Yw,Yx,Yy,Yz,Z0,Z1,Z2,Z3,Z4,Z5,Z6,Z7,Z8,Z9,Za,Zb,Zc,Zd,Ze,Zf,Zg,Zh,Zi,Zj,Zk,Zl,Zm,Zn,Zo,Zp,Zq,Zr,Zs,Zt,Zu] h' R := by
      intro h' t' K2 K3 K4 K6 K7 K8 K9 Ka Kb Kc Kd Ke Kf Kg Kh Ki Kj Kk Kl Km Kn Ko Kr Ks Kt Ku Kv Kw Kx Ky Kz J0 J1 J2 J3 J4 J5 J6 J7 J8 J9 Ja Jb Jc Jd Je Jf Jg Jh Ji Jj Jk Jl Jm Jn Jo Jp Jq Jr Js Jt Ju Jv Jw Jx Jy Jz Y0 Y1 Y2 Y3 Y4 Y5 Y6 Y7 Y8 Y9 Ya Yb Yc Yd Ye Yf Yg Yh Yi Yj Yk Yl Ym Yn Yo Yp Yq Yr Ys Yt Yu Yv Yw Yx Yy Yz Z0 Z1 Z2 Z3 Z4 Z5 Z6 Z7 Z8 Z9 Za Zb Zc Zd Ze Zf Zg Zh Zi Zj Zk Zl Zm Zn Zo Zp Zq Zr Zs Zt Zu pe st
      refine ih (x + 1) h' t' _ _ _ _ _ _ _ _ _ _ _ _ _ _ _ _ _ _ _ _ _ _ _ _ _ _ _ _ _ _ _ _ _ _ _ _ _ _ _ _ _ _ _ _ _ _ _ _ _ _ _ _ _ _ _ _ _ _ _ _ _ _ _ _ _ _ _ _ _ _ _ _ _ _ _ _ _ _ _ _ _ _ _ _ _ _ _ _ _ _ _ _ _ _ _ _ _ _ _ _ _ _ _ _ _ _ _ _ _ _ _ _ _ _ _ _ _ _ _ _ _ _ _ _ _ _ _ _ _ _ _ _ _ _ _ _ (by omega) (by omega) (by rw [hle.w]; exact hw) (by rw [hle.h]; exact hh') pe (by omega) ?_
      intro h'' t'' K2 K3 K4 K6 K7 K8 K9 Ka Kb Kc Kd Ke Kf Kg Kh Ki Kj Kk Kl Km Kn Ko Kp Kq Kr Ks Kt Ku Kv Kw Kx Ky Kz J0 J1 J2 J3 J4 J5 J6 J7 J8 J9 Ja Jb Jc Jd Je Jf Jg Jh Ji Jj Jk Jl Jm Jn Jo Jp Jq Jr Js Jt Ju Jv Jw Jx Jy Jz Y0 Y1 Y2 Y3 Y4 Y5 Y6 Y7 Y8 Y9 Ya Yb Yc Yd Ye Yf Yg Yh Yi Yj Yk Yl Ym Yn Yo Yp Yq Yr Ys Yt Yu Yv Yw Yx Yy Yz Z0 Z1 Z2 Z3 Z4 Z5 Z6 Z7 Z8 Z9 Za Zb Zc Zd Ze Zf Zg Zh Zi Zj Zk Zl Zm Zn Zo Zp Zq Zr Zs Zt Zu pe2 st2
      exact hk h'' t'' _ _ _ _ _ _ _ _ _ _ _ _ _ _ _ _ _ _ _ _ _ _ _ _ _ _ _ _ _ _ _ _ _ _ _ _ _ _ _ _ _ _ _ _ _ _ _ _ _ _ _ _ _ _ _ _ _ _ _ _ _ _ _ _ _ _ _ _ _ _ _ _ _ _ _ _ _ _ _ _ _ _ _ _ _ _ _ _ _ _ _ _ _ _ _ _ _ _ _ _ _ _ _ _ _ _ _ _ _ _ _ _ _ _ _ _ _ _ _ _ _ _ _ _ _ _ _ _ _ _ _ _ _ _ _ _ pe2 (st.trans st2)
    rw [ok_round, l79_1, L79_1a, L79_1b]
    cases hqq : quiet b x top P.cz
    · -- no run length
      have hcol : dcol P b x top = drows P b x top (min (top + 4) b.h - top).toNat := by unfold dcol; rw [if_neg (by simp [hqq])]
      rw [hqq] at hqt
      rw [hcol, hh'] at hnext
      simp [hlt, hqt]
      refine drows_loop hw2 hh2 ⟨h0, hlt⟩ ht (min (top + 4) (hh : Int) - top).toNat top h t b s _ _ _ _ _ _ _ _ _ _ _ _ _ _ _ _ _ _ _ _ _ _ _ _ _ _ _ _ _ _ _ _ _ _ _ _ _ _ _ _ _ _ _ _ _ _ _ _ _ _ _ _ _ _ _ _ _ _ _ _ _ _ _ _ _ _ _ _ _ _ _ _ _ _ _ _ _ _ _ _ _ _ _ _ _ _ _ _ _ _ _ _ _ _ _ _ _ _ _ _ _ _ _ _ _ _ _ _ _ _ _ _ _ _ _ _ _ _ _ _ _ _ _ _ _ _ _ _ _ _ _ _ (by omega) ht.1 hw hh' he (by omega) ?_
      intro h' t' y' K2 K3 K4 K8 K9 Ka Kb Kc Kd Ke Kf Kg Kh Ki Kj Kk Kl Km Kn Ko Kr Ks Kt Ku Kv Kw Kx Ky Kz J0 J1 J2 J3 J4 J5 J6 J7 J8 J9 Ja Jb Jc Jd Je Jf Jg Jh Ji Jj Jk Jl Jm Jn Jo Jp Jq Jr Js Jt Ju Jv Jw Jx Jy Jz Y0 Y1 Y2 Y3 Y4 Y5 Y6 Y7 Y8 Y9 Ya Yb Yc Yd Ye Yf Yg Yh Yi Yj Yk Yl Ym Yn Yo Yp Yq Yr Ys Yt Yu Yv Yw Yx Yy Yz Z0 Z1 Z2 Z3 Z4 Z5 Z6 Z7 Z8 Z9 Za Zb Zc Zd Ze Zf Zg Zh Zi Zj Zk Zl Zm Zn Zo Zp Zq Zr Zs Zt Zu pe st
      simp [hw1]
      exact hnext h' t' _ _ _ _ _ _ _ _ _ _ _ _ _ _ _ _ _ _ _ _ _ _ _ _ _ _ _ _ _ _ _ _ _ _ _ _ _ _ _ _ _ _ _ _ _ _ _ _ _ _ _ _ _ _ _ _ _ _ _ _ _ _ _ _ _ _ _ _ _ _ _ _ _ _ _ _ _ _ _ _ _ _ _ _ _ _ _ _ _ _ _ _ _ _ _ _ _ _ _ _ _ _ _ _ _ _ _ _ _ _ _ _ _ _ _ _ _ _ _ _ _ _ _ _ _ _ _ _ _ _ _ _ _ _ pe st
    · -- a run length
      have htop : top + 4 ≤ b.h := by
        simp only [quiet, Bool.and_eq_true, decide_eq_true_eq] at hqq; exact hqq.1
      have hcol : dcol P b x top = (drun P b x top).bind fun r => drows P r.1 x r.2 (min (top + 4) r.1.h - r.2).toNat := by unfold dcol; rw [if_pos hqq]
      obtain ⟨⟨r1, r2, r3⟩, rsz⟩ := Tr.Lv.out (A := A.ask) (size := A.size) A.size_ask s (lv_drun he.dr.pok he.good hin htop)
      rw [hqq] at hqt
      rw [hcol] at hnext
      simp only [Tr.run_bind] at hnext
      obtain ⟨u1, h1, e1, p1, s1⟩ := ask_d he (by omega) 17
      have z1 := A.size_ask s (P.cx 17)
      have hrun : (drun P b x top).run A.ask s = (if (A.ask s (P.cx 17)).1 = true then Tr.ask (P.cx 18) fun k1 => .ask (P.cx 18) fun k0 => (dsign P b x (top + two2 k1 k0)).bind fun b => .ret (b, top + two2 k1 k0 + 1) else .ret (b, top + 4)).run A.ask (A.ask s (P.cx 17)).2 := rfl
      rw [hrun] at hnext r1 r2 r3 rsz
      generalize (A.ask s (P.cx 17)).1 = bit at *
      generalize (A.ask s (P.cx 17)).2 = sa at *
      cases bit
      · simp only [Bool.false_eq_true, if_false, Tr.run_ret] at hnext
        rw [show (min (top + 4) (b.h : Int) - (top + 4)).toNat = 0 by omega, drows, Tr.run_ret] at hnext
        simp at e1
        simp [hlt, hqt, hq, e1, hw1]
        exact hnext h1 u1 _ _ _ _ _ _ _ _ _ _ _ _ _ _ _ _ _ _ _ _ _ _ _ _ _ _ _ _ _ _ _ _ _ _ _ _ _ _ _ _ _ _ _ _ _ _ _ _ _ _ _ _ _ _ _ _ _ _ _ _ _ _ _ _ _ _ _ _ _ _ _ _ _ _ _ _ _ _ _ _ _ _ _ _ _ _ _ _ _ _ _ _ _ _ _ _ _ _ _ _ _ _ _ _ _ _ _ _ _ _ _ _ _ _ _ _ _ _ _ _ _ _ _ _ _ _ _ _ _ _ _ _ _ _ p1 s1
      · simp only [if_true, Tr.run_ask, Tr.run_bind, Tr.run_ret] at hnext r1 r2 r3 rsz
        obtain ⟨u2, h2, e2, p2, s2⟩ := ask_d p1 (by omega) 18
        have z2 := A.size_ask sa (P.cx 18)
        generalize (A.ask sa (P.cx 18)).1 = k1 at *
        generalize (A.ask sa (P.cx 18)).2 = sb at *
        obtain ⟨u3, h3, e3, p3, s3⟩ := ask_d p2 (by omega) 18
        have z3 := A.size_ask sb (P.cx 18)
        generalize (A.ask sb (P.cx 18)).1 = k0 at *
        generalize (A.ask sb (P.cx 18)).2 = sc at *
        have h22 := two2_le k1 k0
        have hi4 : b.inb x (top + two2 k1 k0) := ⟨h0, by rw [hw]; exact hlt, by omega, by omega⟩
        obtain ⟨u4, h4, e4, p4, s4⟩ := sign_d p3 (by omega) hi4
        have hq1 := p1.dr.blk
        have hq2 := p2.dr.blk
        have hq3 := p3.dr.blk
        simp at e1
        have hwa : IntKind.i64.wrap (2 * ((k1.toNat : Nat) : Int)) = 2 * ((k1.toNat : Nat) : Int) := by cases k1 <;> simp [wrapI]
        have hwb : IntKind.i64.wrap (top + 2 * ((k1.toNat : Nat) : Int)) = top + 2 * ((k1.toNat : Nat) : Int) := by cases k1 <;> exact wrapI (by simp; omega) (by simp; omega)
        have hwc : IntKind.i64.wrap (top + 2 * ((k1.toNat : Nat) : Int) + ((k0.toNat : Nat) : Int)) = top + (two2 k1 k0 : Nat) := by
          have : top + 2 * ((k1.toNat : Nat) : Int) + ((k0.toNat : Nat) : Int) = top + (two2 k1 k0 : Nat) := by unfold two2; simp; omega
          rw [this]; exact wrapI (by omega) (by omega)
        have hwd : IntKind.i64.wrap (top + ((two2 k1 k0 : Nat) : Int) + 1) = top + (two2 k1 k0 : Nat) + 1 := wrapI (by omega) (by omega)
        generalize two2 k1 k0 = kk at *
        generalize ((k1.toNat : Nat) : Int) = k1i at *
        generalize ((k0.toNat : Nat) : Int) = k0i at *
        simp [hlt, hqt, hq, e1, hq1, e2, hwa, hwb, hq2, e3, hwc, hq3, e4, hwd]
        generalize ((dsign P b x (top + (kk : Int))).run A.ask sc).1 = bd at *
        generalize ((dsign P b x (top + (kk : Int))).run A.ask sc).2 = sd at *
        have hbh : (bd.h : Int) = hh := by rw [r1.h, hh']
        rw [hbh] at hnext
        refine drows_loop hw2 hh2 ⟨h0, hlt⟩ ht (min (top + 4) (hh : Int) - (top + kk + 1)).toNat (top + kk + 1) h4 u4 bd sd _ _ _ _ _ _ _ _ _ _ _ _ _ _ _ _ _ _ _ _ _ _ _ _ _ _ _ _ _ _ _ _ _ _ _ _ _ _ _ _ _ _ _ _ _ _ _ _ _ _ _ _ _ _ _ _ _ _ _ _ _ _ _ _ _ _ _ _ _ _ _ _ _ _ _ _ _ _ _ _ _ _ _ _ _ _ _ _ _ _ _ _ _ _ _ _ _ _ _ _ _ _ _ _ _ _ _ _ _ _ _ _ _ _ _ _ _ _ _ _ _ _ _ _ _ _ _ _ _ _ _ _ (by omega) (by omega) (by rw [r1.w]; exact hw) (by rw [r1.h]; exact hh') p4 (by omega) ?_
        intro h' t' y' K2 K3 K4 K8 K9 Ka Kb Kc Kd Ke Kf Kg Kh Ki Kj Kk Kl Km Kn Ko Kr Ks Kt Ku Kv Kw Kx Ky Kz J0 J1 J2 J3 J4 J5 J6 J7 J8 J9 Ja Jb Jc Jd Je Jf Jg Jh Ji Jj Jk Jl Jm Jn Jo Jp Jq Jr Js Jt Ju Jv Jw Jx Jy Jz Y0 Y1 Y2 Y3 Y4 Y5 Y6 Y7 Y8 Y9 Ya Yb Yc Yd Ye Yf Yg Yh Yi Yj Yk Yl Ym Yn Yo Yp Yq Yr Ys Yt Yu Yv Yw Yx Yy Yz Z0 Z1 Z2 Z3 Z4 Z5 Z6 Z7 Z8 Z9 Za Zb Zc Zd Ze Zf Zg Zh Zi Zj Zk Zl Zm Zn Zo Zp Zq Zr Zs Zt Zu pe st
        simp [hw1]
        exact hnext h' t' _ _ _ _ _ _ _ _ _ _ _ _ _ _ _ _ _ _ _ _ _ _ _ _ _ _ _ _ _ _ _ _ _ _ _ _ _ _ _ _ _ _ _ _ _ _ _ _ _ _ _ _ _ _ _ _ _ _ _ _ _ _ _ _ _ _ _ _ _ _ _ _ _ _ _ _ _ _ _ _ _ _ _ _ _ _ _ _ _ _ _ _ _ _ _ _ _ _ _ _ _ _ _ _ _ _ _ _ _ _ _ _ _ _ _ _ _ _ _ _ _ _ _ _ _ _ _ _ _ _ _ _ _ _ pe ((((s1.trans s2).trans s3).trans s4).trans st)

set_option maxRecDepth 10000 in
set_option maxHeartbeats 4000000 in
theorem dstripes_loop {w hh : Nat} (hw2 : w ≤ 64) (hh2 : hh ≤ 64) :
    ∀ (n : Nat) (top : Int) (h : Heap) (t : A.T) (b : BS) (s : A.S) (K2 K3 K4 K6 K7 K8 K9 Ka Kb Kc Kd Ke Kf Kg Kh Ki Kj Kk Kl Km Kn Ko Kp Kq Kr Ks Kt Ku Kv Kw Kx Ky Kz J0 J1 J2 J3 J4 J5 J6 J7 J8 J9 Ja Jb Jc Jd Je Jf Jg Jh Ji Jj Jk Jl Jm Jn Jo Jp Jq Jr Js Jt Ju Jv Jw Jx Jy Jz Y0 Y1 Y2 Y3 Y4 Y5 Y6 Y7 Y8 Y9 Ya Yb Yc Yd Ye Yf Yg Yh Yi Yj Yk Yl Ym Yn Yo Yp Yq Yr Ys Yt Yu Yv Yw Yx Yy Yz Z0 Z1 Z2 Z3 Z4 Z5 Z6 Z7 Z8 Z9 Za Zb Zc Zd Ze Zf Zg Zh Zi Zj Zk Zl Zm Zn Zo Zp Zq Zr Zs Zt Zu : Value), (hh : Int) ≤ top + 4 * n → top + 4 * n ≤ hh + 3 → 0 ≤ top → b.w = w → b.h = hh → PD A h q p pb nb P t b s → A.size s + 12 * w * n + 20 < 1000000 →
      (∀ (h' : Heap) (t' : A.T) (K2 K3 K4 K5 K6 K7 K8 K9 Ka Kb Kc Kd Ke Kf Kg Kh Ki Kj Kk Kl Km Kn Ko Kp Kq Kr Ks Kt Ku Kv Kw Kx Ky Kz J0 J1 J2 J3 J4 J5 J6 J7 J8 J9 Ja Jb Jc Jd Je Jf Jg Jh Ji Jj Jk Jl Jm Jn Jo Jp Jq Jr Js Jt Ju Jv Jw Jx Jy Jz Y0 Y1 Y2 Y3 Y4 Y5 Y6 Y7 Y8 Y9 Ya Yb Yc Yd Ye Yf Yg Yh Yi Yj Yk Yl Ym Yn Yo Yp Yq Yr Ys Yt Yu Yv Yw Yx Yy Yz Z0 Z1 Z2 Z3 Z4 Z5 Z6 Z7 Z8 Z9 Za Zb Zc Zd Ze Zf Zg Zh Zi Zj Zk Zl Zm Zn Zo Zp Zq Zr Zs Zt Zu : Value), PD A h' q p pb nb P t' ((dstripes P b top n).run A.ask s).1 ((dstripes P b top n).run A.ask s).2 → Stq h h' c (A.own t) (A.own t') →
        Ok tab R79 k #[ptr q,v1,K2,K3,K4,K5,K6,K7,K8,K9,Ka,Kb,Kc,Kd,Ke,Kf,Kg,Kh,Ki,Kj,Kk,Kl,Km,Kn,Ko,Kp,Kq,Kr,Ks,Kt,Ku,Kv,Kw,Kx,Ky,Kz,J0,J1,J2,J3,J4,J5,J6,J7,J8,J9,Ja,Jb,Jc,Jd,Je,Jf,Jg,Jh,Ji,Jj,Jk,Jl,Jm,Jn,Jo,Jp,Jq,Jr,Js,Jt,Ju,Jv,Jw,Jx,Jy,Jz,Y0,Y1,Y2,Y3,Y4,Y5,Y6,Y7,Y8,Y9,Ya,Yb,Yc,Yd,Ye,Yf,Yg,Yh,Yi,Yj,Yk,Yl,Ym,Yn,Yo,Yp,Yq,Yr,Ys,Yt,Yu,Yv,Yw,Yx,Yy,Yz,Z0,Z1,Z2,Z3,Z4,Z5,Z6,Z7,Z8,Z9,Za,Zb,Zc,Zd,Ze,Zf,Zg,Zh,Zi,Zj,Zk,Zl,Zm,Zn,Zo,Zp,Zq,Zr,Zs,Zt,Zu] h' R) →
      Ok tab R79 (.inLoop L79_2 :: .inBlock 0 :: k) #[ptr q,v1,K2,K3,K4,.int .i64 top,K6,K7,K8,K9,Ka,Kb,Kc,Kd,Ke,Kf,Kg,Kh,Ki,Kj,Kk,Kl,Km,Kn,Ko,Kp,Kq,Kr,Ks,Kt,Ku,Kv,Kw,Kx,Ky,Kz,J0,J1,J2,J3,J4,J5,J6,J7,J8,J9,Ja,Jb,Jc,Jd,Je,Jf,Jg,Jh,Ji,Jj,Jk,Jl,Jm,Jn,Jo,Jp,Jq,Jr,Js,Jt,Ju,Jv,Jw,Jx,Jy,Jz,Y0,Y1,Y2,Y3,Y4,Y5,Y6,Y7,Y8,Y9,Ya,Yb,Yc,Yd,Ye,Yf,Yg,Yh,Yi,Yj,Yk,Yl,Ym,Yn,Yo,Yp,Yq,Yr,Ys,Yt,Yu,Yv,Yw,Yx,Yy,Yz,Z0,Z1,Z2,Z3,Z4,Z5,Z6,Z7,Z8,Z9,Za,Zb,Zc,Zd,Ze,Zf,Zg,Zh,Zi,Zj,Zk,Zl,Zm,Zn,Zo,Zp,Zq,Zr,Zs,Zt,Zu] h R := by
  intro n
  induction n with
  | zero =>
    intro top h t b s K2 K3 K4 K6 K7 K8 K9 Ka Kb Kc Kd Ke Kf Kg Kh Ki Kj Kk Kl Km Kn Ko Kp Kq Kr Ks Kt Ku Kv Kw Kx Ky Kz J0 J1 J2 J3 J4 J5 J6 J7 J8 J9 Ja Jb Jc Jd Je Jf Jg Jh Ji Jj Jk Jl Jm Jn Jo Jp Jq Jr Js Jt Ju Jv Jw Jx Jy Jz Y0 Y1 Y2 Y3 Y4 Y5 Y6 Y7 Y8 Y9 Ya Yb Yc Yd Ye Yf Yg Yh Yi Yj Yk Yl Ym Yn Yo Yp Yq Yr Ys Yt Yu Yv Yw Yx Yy Yz Z0 Z1 Z2 Z3 Z4 Z5 Z6 Z7 Z8 Z9 Za Zb Zc Zd Ze Zf Zg Zh Zi Zj Zk Zl Zm Zn Zo Zp Zq Zr Zs Zt Zu ha hb h0 hw hh' he hl hk
    have hq := he.dr.blk
    rw [hw, hh'] at hq
    have hlt : ¬ top < (hh : Int) := by omega
    rw [ok_round, l79_2, L79_2a, L79_2b]
    simp [hq, hlt]
    exact hk h t _ _ _ _ _ _ _ _ _ _ _ _ _ _ _ _ _ _ _ _ _ _ _ _ _ _ _ _ _ _ _ _ _ _ _ _ _ _ _ _ _ _ _ _ _ _ _ _ _ _ _ _ _ _ _ _ _ _ _ _ _ _ _ _ _ _ _ _ _ _ _ _ _ _ _ _ _ _ _ _ _ _ _ _ _ _ _ _ _ _ _ _ _ _ _ _ _ _ _ _ _ _ _ _ _ _ _ _ _ _ _ _ _ _ _ _ _ _ _ _ _ _ _ _ _ _ _ _ _ _ _ _ _ _ _ _ _ he (Stq.refl _ _ _)
  | succ n ih =>
    intro top h t b s K2 K3 K4 K6 K7 K8 K9 Ka Kb Kc Kd Ke Kf Kg Kh Ki Kj Kk Kl Km Kn Ko Kp Kq Kr Ks Kt Ku Kv Kw Kx Ky Kz J0 J1 J2 J3 J4 J5 J6 J7 J8 J9 Ja Jb Jc Jd Je Jf Jg Jh Ji Jj Jk Jl Jm Jn Jo Jp Jq Jr Js Jt Ju Jv Jw Jx Jy Jz Y0 Y1 Y2 Y3 Y4 Y5 Y6 Y7 Y8 Y9 Ya Yb Yc Yd Ye Yf Yg Yh Yi Yj Yk Yl Ym Yn Yo Yp Yq Yr Ys Yt Yu Yv Yw Yx Yy Yz Z0 Z1 Z2 Z3 Z4 Z5 Z6 Z7 Z8 Z9 Za Zb Zc Zd Ze Zf Zg Zh Zi Zj Zk Zl Zm Zn Zo Zp Zq Zr Zs Zt Zu ha hb h0 hw hh' he hl hk
    have hq := he.dr.blk
    rw [hw, hh'] at hq
    have hlt : top < (hh : Int) := by omega
    have hw4 : IntKind.i64.wrap (top + 4) = top + 4 := wrapI (by omega) (by omega)
    obtain ⟨hle, hsz⟩ := Tr.Lv.out (A := A.ask) (size := A.size) A.size_ask s (lv_dcols he.dr.pok (n := w) he.good (x := 0) (top := top) (by omega) (by rw [hw]; omega) h0 (by rw [hh']; exact hlt))
    have hmul : 12 * w * (n + 1) = 12 * w * n + 12 * w := by rw [Nat.mul_add]; omega
    rw [dstripes, hw] at hk
    simp only [Tr.run_bind] at hk
    rw [ok_round, l79_2, L79_2a, L79_2b]
    simp [hq, hlt]
    refine dcols_loop hw2 hh2 ⟨h0, hlt⟩ w 0 h t b s _ _ _ _ _ _ _ _ _ _ _ _ _ _ _ _ _ _ _ _ _ _ _ _ _ _ _ _ _ _ _ _ _ _ _ _ _ _ _ _ _ _ _ _ _ _ _ _ _ _ _ _ _ _ _ _ _ _ _ _ _ _ _ _ _ _ _ _ _ _ _ _ _ _ _ _ _ _ _ _ _ _ _ _ _ _ _ _ _ _ _ _ _ _ _ _ _ _ _ _ _ _ _ _ _ _ _ _ _ _ _ _ _ _ _ _ _ _ _ _ _ _ _ _ _ _ _ _ _ _ _ _ _ _ (by omega) (by omega) hw hh' he (by omega) ?_
    intro h' t' K2 K3 K4 K6 K7 K8 K9 Ka Kb Kc Kd Ke Kf Kg Kh Ki Kj Kk Kl Km Kn Ko Kp Kq Kr Ks Kt Ku Kv Kw Kx Ky Kz J0 J1 J2 J3 J4 J5 J6 J7 J8 J9 Ja Jb Jc Jd Je Jf Jg Jh Ji Jj Jk Jl Jm Jn Jo Jp Jq Jr Js Jt Ju Jv Jw Jx Jy Jz Y0 Y1 Y2 Y3 Y4 Y5 Y6 Y7 Y8 Y9 Ya Yb Yc Yd Ye Yf Yg Yh Yi Yj Yk Yl Ym Yn Yo Yp Yq Yr Ys Yt Yu Yv Yw Yx Yy Yz Z0 Z1 Z2 Z3 Z4 Z5 Z6 Z7 Z8 Z9 Za Zb Zc Zd Ze Zf Zg Zh Zi Zj Zk Zl Zm Zn Zo Zp Zq Zr Zs Zt Zu pe st
    simp [hw4]
    refine ih (top + 4) h' t' _ _ _ _ _ _ _ _ _ _ _ _ _ _ _ _ _ _ _ _ _ _ _ _ _ _ _ _ _ _ _ _ _ _ _ _ _ _ _ _ _ _ _ _ _ _ _ _ _ _ _ _ _ _ _ _ _ _ _ _ _ _ _ _ _ _ _ _ _ _ _ _ _ _ _ _ _ _ _ _ _ _ _ _ _ _ _ _ _ _ _ _ _ _ _ _ _ _ _ _ _ _ _ _ _ _ _ _ _ _ _ _ _ _ _ _ _ _ _ _ _ _ _ _ _ _ _ _ _ _ _ _ _ _ _ _ _ _ (by omega) (by omega) (by omega) (by rw [hle.w]; exact hw) (by rw [hle.h]; exact hh') pe (by omega) ?_
    intro h'' t'' K2 K3 K4 K5 K6 K7 K8 K9 Ka Kb Kc Kd Ke Kf Kg Kh Ki Kj Kk Kl Km Kn Ko Kp Kq Kr Ks Kt Ku Kv Kw Kx Ky Kz J0 J1 J2 J3 J4 J5 J6 J7 J8 J9 Ja Jb Jc Jd Je Jf Jg Jh Ji Jj Jk Jl Jm Jn Jo Jp Jq Jr Js Jt Ju Jv Jw Jx Jy Jz Y0 Y1 Y2 Y3 Y4 Y5 Y6 Y7 Y8 Y9 Ya Yb Yc Yd Ye Yf Yg Yh Yi Yj Yk Yl Ym Yn Yo Yp Yq Yr Ys Yt Yu Yv Yw Yx Yy Yz Z0 Z1 Z2 Z3 Z4 Z5 Z6 Z7 Z8 Z9 Za Zb Zc Zd Ze Zf Zg Zh Zi Zj Zk Zl Zm Zn Zo Zp Zq Zr Zs Zt Zu pe2 st2
    exact hk h'' t'' _ _ _ _ _ _ _ _ _ _ _ _ _ _ _ _ _ _ _ _ _ _ _ _ _ _ _ _ _ _ _ _ _ _ _ _ _ _ _ _ _ _ _ _ _ _ _ _ _ _ _ _ _ _ _ _ _ _ _ _ _ _ _ _ _ _ _ _ _ _ _ _ _ _ _ _ _ _ _ _ _ _ _ _ _ _ _ _ _ _ _ _ _ _ _ _ _ _ _ _ _ _ _ _ _ _ _ _ _ _ _ _ _ _ _ _ _ _ _ _ _ _ _ _ _ _ _ _ _ _ _ _ _ _ _ _ _ pe2 (st.trans st2)

set_option maxRecDepth 10000 in
set_option maxHeartbeats 4000000 in
theorem dclear_loop {sl : Value} {pts : List (Int × Int)} :
    ∀ (m i : Nat) (h : Heap) (t : A.T) (b : BS) (s : A.S) (K2 K3 K4 K5 K6 K7 K8 K9 Ka Kb Kc Kd Ke Kf Kg Kh Ki Kj Kk Kl Km Kn Ko Kp Kq Kr Ks Kt Ku Kv Kw Kx Ky Kz J0 J1 J2 J3 J4 J5 J6 J7 J8 J9 Ja Jb Jc Jd Je Jf Jg Jh Ji Jj Jk Jl Jm Jn Jo Jp Jq Jr Js Jt Ju Jv Jw Jx Jy Jz Y0 Y1 Y2 Y3 Y4 Y5 Y6 Y7 Y8 Y9 Ya Yb Yc Yd Ye Yf Yg Yh Yi Yj Yk Yl Ym Yn Yo Yp Yq Yr Ys Yt Yu Yy Yz Z0 Z1 Z2 Z3 Z4 Z5 Z6 Z7 Z8 Z9 Za Zb Zc Zd Ze Zf Zg Zh Zi Zj Zk Zl Zm Zn Zo Zp Zq Zr Zs Zt Zu : Value), m = pts.length - i → i ≤ pts.length → PD A h q p pb nb P t b s → Fad h sl pts c (A.own t) → AllIn b pts → pts.length < 1000000 →
      (∀ (h' : Heap) (K2 K3 K4 K5 K6 K7 K8 K9 Ka Kb Kc Kd Ke Kf Kg Kh Ki Kj Kk Kl Km Kn Ko Kp Kq Kr Ks Kt Ku Kv Kw Kx Ky Kz J0 J1 J2 J3 J4 J5 J6 J7 J8 J9 Ja Jb Jc Jd Je Jf Jg Jh Ji Jj Jk Jl Jm Jn Jo Jp Jq Jr Js Jt Ju Jv Jw Jx Jy Jz Y0 Y1 Y2 Y3 Y4 Y5 Y6 Y7 Y8 Y9 Ya Yb Yc Yd Ye Yf Yg Yh Yi Yj Yk Yl Ym Yn Yo Yp Yq Yr Ys Yt Yu Yv Yw Yx Yy Yz Z0 Z1 Z2 Z3 Z4 Z5 Z6 Z7 Z8 Z9 Za Zb Zc Zd Ze Zf Zg Zh Zi Zj Zk Zl Zm Zn Zo Zp Zq Zr Zs Zt Zu : Value), PD A h' q p pb nb P t (b.clr (pts.drop i)) s → Stq h h' c (A.own t) (A.own t) → Ok tab R79 k #[ptr q,v1,K2,K3,K4,K5,K6,K7,K8,K9,Ka,Kb,Kc,Kd,Ke,Kf,Kg,Kh,Ki,Kj,Kk,Kl,Km,Kn,Ko,Kp,Kq,Kr,Ks,Kt,Ku,Kv,Kw,Kx,Ky,Kz,J0,J1,J2,J3,J4,J5,J6,J7,J8,J9,Ja,Jb,Jc,Jd,Je,Jf,Jg,Jh,Ji,Jj,Jk,Jl,Jm,Jn,Jo,Jp,Jq,Jr,Js,Jt,Ju,Jv,Jw,Jx,Jy,Jz,Y0,Y1,Y2,Y3,Y4,Y5,Y6,Y7,Y8,Y9,Ya,Yb,Yc,Yd,Ye,Yf,Yg,Yh,Yi,Yj,Yk,Yl,Ym,Yn,Yo,Yp,Yq,Yr,Ys,Yt,Yu,Yv,Yw,Yx,Yy,Yz,Z0,Z1,Z2,Z3,Z4,Z5,Z6,Z7,Z8,Z9,Za,Zb,Zc,Zd,Ze,Zf,Zg,Zh,Zi,Zj,Zk,Zl,Zm,Zn,Zo,Zp,Zq,Zr,Zs,Zt,Zu] h' R) →
      Ok tab R79 (.inLoop L79_3 :: .inBlock 6 :: k) #[ptr q,v1,K2,K3,K4,K5,K6,K7,K8,K9,Ka,Kb,Kc,Kd,Ke,Kf,Kg,Kh,Ki,Kj,Kk,Kl,Km,Kn,Ko,Kp,Kq,Kr,Ks,Kt,Ku,Kv,Kw,Kx,Ky,Kz,J0,J1,J2,J3,J4,J5,J6,J7,J8,J9,Ja,Jb,Jc,Jd,Je,Jf,Jg,Jh,Ji,Jj,Jk,Jl,Jm,Jn,Jo,Jp,Jq,Jr,Js,Jt,Ju,Jv,Jw,Jx,Jy,Jz,Y0,Y1,Y2,Y3,Y4,Y5,Y6,Y7,Y8,Y9,Ya,Yb,Yc,Yd,Ye,Yf,Yg,Yh,Yi,Yj,Yk,Yl,Ym,Yn,Yo,Yp,Yq,Yr,Ys,Yt,Yu,sl,.int .i64 pts.length,.int .i64 i,Yy,Yz,Z0,Z1,Z2,Z3,Z4,Z5,Z6,Z7,Z8,Z9,Za,Zb,Zc,Zd,Ze,Zf,Zg,Zh,Zi,Zj,Zk,Zl,Zm,Zn,Zo,Zp,Zq,Zr,Zs,Zt,Zu] h R := by
  intro m
  induction m with
  | zero =>
    intro i h t b s K2 K3 K4 K5 K6 K7 K8 K9 Ka Kb Kc Kd Ke Kf Kg Kh Ki Kj Kk Kl Km Kn Ko Kp Kq Kr Ks Kt Ku Kv Kw Kx Ky Kz J0 J1 J2 J3 J4 J5 J6 J7 J8 J9 Ja Jb Jc Jd Je Jf Jg Jh Ji Jj Jk Jl Jm Jn Jo Jp Jq Jr Js Jt Ju Jv Jw Jx Jy Jz Y0 Y1 Y2 Y3 Y4 Y5 Y6 Y7 Y8 Y9 Ya Yb Yc Yd Ye Yf Yg Yh Yi Yj Yk Yl Ym Yn Yo Yp Yq Yr Ys Yt Yu Yy Yz Z0 Z1 Z2 Z3 Z4 Z5 Z6 Z7 Z8 Z9 Za Zb Zc Zd Ze Zf Zg Zh Zi Zj Zk Zl Zm Zn Zo Zp Zq Zr Zs Zt Zu hm hi he hf ha hpl hk
    have hlt : ¬ ((i : Int) < pts.length) := by omega
    rw [ok_round, l79_3, L79_3a, L79_3b]
    simp [hlt]
    refine hk h _ _ _ _ _ _ _ _ _ _ _ _ _ _ _ _ _ _ _ _ _ _ _ _ _ _ _ _ _ _ _ _ _ _ _ _ _ _ _ _ _ _ _ _ _ _ _ _ _ _ _ _ _ _ _ _ _ _ _ _ _ _ _ _ _ _ _ _ _ _ _ _ _ _ _ _ _ _ _ _ _ _ _ _ _ _ _ _ _ _ _ _ _ _ _ _ _ _ _ _ _ _ _ _ _ _ _ _ _ _ _ _ _ _ _ _ _ _ _ _ _ _ _ _ _ _ _ _ _ _ _ _ _ _ _ _ _ ?_ (Stq.refl _ _ _)
    rw [List.drop_of_length_le (by omega)]; exact he
  | succ m ih =>
    intro i h t b s K2 K3 K4 K5 K6 K7 K8 K9 Ka Kb Kc Kd Ke Kf Kg Kh Ki Kj Kk Kl Km Kn Ko Kp Kq Kr Ks Kt Ku Kv Kw Kx Ky Kz J0 J1 J2 J3 J4 J5 J6 J7 J8 J9 Ja Jb Jc Jd Je Jf Jg Jh Ji Jj Jk Jl Jm Jn Jo Jp Jq Jr Js Jt Ju Jv Jw Jx Jy Jz Y0 Y1 Y2 Y3 Y4 Y5 Y6 Y7 Y8 Y9 Ya Yb Yc Yd Ye Yf Yg Yh Yi Yj Yk Yl Ym Yn Yo Yp Yq Yr Ys Yt Yu Yy Yz Z0 Z1 Z2 Z3 Z4 Z5 Z6 Z7 Z8 Z9 Za Zb Zc Zd Ze Zf Zg Zh Zi Zj Zk Zl Zm Zn Zo Zp Zq Zr Zs Zt Zu hm hi he hf ha hpl hk
    have hlt : ((i : Int) < pts.length) := by omega
    have hw : IntKind.i64.wrap ((i : Int) + 1) = (i : Int) + 1 := wrapN (n := i + 1) (by omega)
    have hil : i < pts.length := by omega
    obtain ⟨id, off, blk, hs, hb, ht, hle⟩ := hf.get hil
    have hin := ha _ (List.getElem_mem hil)
    have hsp : b.clr (pts.drop i) = (b.upd pts[i].1 pts[i].2 (touch false)).clr (pts.drop (i + 1)) := by
      rw [List.drop_eq_getElem_cons hil]; rfl
    generalize hx : pts[i].1 = x at *
    generalize hy : pts[i].2 = y at *
    rw [hsp] at hk
    have he2 := he.push (some ⟨false, [.int .i64 x, .int .i64 y]⟩)
    have hs2 := Stq.push h (some ⟨false, [.int .i64 x, .int .i64 y]⟩) c (A.own t)
    have hf2 := hf.stq hs2
    have hK : ∀ y : Blk, blk? (h ++ [some y]) h.length = some y := fun y => blk?_push_eq
    have hq2 := he2.dr.blk
    have htc := fun R => touch_c (R := R) (v := false) he2.dr.cb (x := x) (y := y) hin
    have hl1 := good_map he.good hin (kv_touch false)
    obtain ⟨p4, s4⟩ := he2.to hl1
    have hmm : (fun z : Cell => ({ z with t := false } : Cell)) = touch false := rfl
    rw [hmm] at htc
    have hls : (h ++ [some (⟨false, [.int .i64 x, .int .i64 y]⟩ : Blk)]).set c (some ⟨false, encC (b.upd x y (touch false)).cs⟩) = h.set c (some ⟨false, encC (b.upd x y (touch false)).cs⟩) ++ [some ⟨false, [.int .i64 x, .int .i64 y]⟩] :=
      List.set_append_left _ _ he.lts.2.2.1
    rw [ok_round, l79_3, L79_3a, L79_3b]
    rw [hls] at htc p4 s4
    simp [-List.cons_append, -List.append_assoc, hlt, hw, hs, hb, ht, hle, hK, hq2, htc]
    rw [← hs]
    have st4 := hs2.trans s4
    refine ih (i + 1) _ t _ s _ _ _ _ _ _ _ _ _ _ _ _ _ _ _ _ _ _ _ _ _ _ _ _ _ _ _ _ _ _ _ _ _ _ _ _ _ _ _ _ _ _ _ _ _ _ _ _ _ _ _ _ _ _ _ _ _ _ _ _ _ _ _ _ _ _ _ _ _ _ _ _ _ _ _ _ _ _ _ _ _ _ _ _ _ _ _ _ _ _ _ _ _ _ _ _ _ _ _ _ _ _ _ _ _ _ _ _ _ _ _ _ _ _ _ _ _ _ _ _ _ _ _ _ _ _ _ _ _ _ _ _ _ _ (by omega) (by omega) p4 (hf.stq st4) (hl1.all ha) hpl ?_
    intro h' K2 K3 K4 K5 K6 K7 K8 K9 Ka Kb Kc Kd Ke Kf Kg Kh Ki Kj Kk Kl Km Kn Ko Kp Kq Kr Ks Kt Ku Kv Kw Kx Ky Kz J0 J1 J2 J3 J4 J5 J6 J7 J8 J9 Ja Jb Jc Jd Je Jf Jg Jh Ji Jj Jk Jl Jm Jn Jo Jp Jq Jr Js Jt Ju Jv Jw Jx Jy Jz Y0 Y1 Y2 Y3 Y4 Y5 Y6 Y7 Y8 Y9 Ya Yb Yc Yd Ye Yf Yg Yh Yi Yj Yk Yl Ym Yn Yo Yp Yq Yr Ys Yt Yu Yv Yw Yx Yy Yz Z0 Z1 Z2 Z3 Z4 Z5 Z6 Z7 Z8 Z9 Za Zb Zc Zd Ze Zf Zg Zh Zi Zj Zk Zl Zm Zn Zo Zp Zq Zr Zs Zt Zu pe st
    exact hk h' _ _ _ _ _ _ _ _ _ _ _ _ _ _ _ _ _ _ _ _ _ _ _ _ _ _ _ _ _ _ _ _ _ _ _ _ _ _ _ _ _ _ _ _ _ _ _ _ _ _ _ _ _ _ _ _ _ _ _ _ _ _ _ _ _ _ _ _ _ _ _ _ _ _ _ _ _ _ _ _ _ _ _ _ _ _ _ _ _ _ _ _ _ _ _ _ _ _ _ _ _ _ _ _ _ _ _ _ _ _ _ _ _ _ _ _ _ _ _ _ _ _ _ _ _ _ _ _ _ _ _ _ _ _ _ _ _ pe (st4.trans st)

theorem dchk_run (r : Bool) (x : Bool) (l : List Bool) (s : A.S) : (dchk P r (x :: l)).run A.ask s = (dchk P (r && (A.ask s (P.cx 18)).1 == x) l).run A.ask (A.ask s (P.cx 18)).2 := rfl
def b2i (x : Bool) : Value := .int .i64 (x.toNat : Nat)
set_option maxRecDepth 10000 in
set_option maxHeartbeats 4000000 in
theorem dcheck_loop {z : Nat} {bits : List Bool} (hbl : bits.length ≤ 4) :
    ∀ (m i : Nat) (h : Heap) (t : A.T) (s : A.S) (r : Bool) (K1 K2 K3 K4 K5 K6 K7 K8 K9 Kb Kc Kd Ke Kf Kg Kh Ki Kj Kk Kl Km Kn Ko Kp Kq Kr Ks Kt Ku Kv Kw Kx Ky Kz J0 J1 J2 J3 J4 J5 J6 J7 J8 J9 Ja Jb Jc Jd Je Jf Jg Jh Ji Jj Jk Jl Jm Jn Jo Jp Jq Jr Js Jt Ju Jv Jw Jx Jy Jz Y0 Y1 Y2 Y3 Y4 Y5 Y6 Y7 Y8 Y9 Ya Yb Yc Yd Ye Yf Yg Yh Yi Yj Yk Yl Ym Yn Yo Yp Yq Yr Ys Yt Yu Yv Yw Yx Yy Yz Z0 Z1 Z2 Z3 Z4 Z5 Z6 Z7 Z8 Z9 Za Zb Zf Zg Zh Zi Zj Zk Zl Zm Zn Zo Zp Zq Zr Zs Zt Zu : Value), m = bits.length - i → i ≤ bits.length → PD A h q p pb nb P t b s →
      blk? h z = some ⟨false, bits.map b2i⟩ → (z ≠ c ∧ ¬ A.own t z) → A.size s + 10 < 1000000 + i →
      (∀ (h' : Heap) (t' : A.T) (K1 K2 K3 K4 K5 K6 K7 K8 K9 Kb Kc Kd Ke Kf Kg Kh Ki Kj Kk Kl Km Kn Ko Kp Kq Kr Ks Kt Ku Kv Kw Kx Ky Kz J0 J1 J2 J3 J4 J5 J6 J7 J8 J9 Ja Jb Jc Jd Je Jf Jg Jh Ji Jj Jk Jl Jm Jn Jo Jp Jq Jr Js Jt Ju Jv Jw Jx Jy Jz Y0 Y1 Y2 Y3 Y4 Y5 Y6 Y7 Y8 Y9 Ya Yb Yc Yd Ye Yf Yg Yh Yi Yj Yk Yl Ym Yn Yo Yp Yq Yr Ys Yt Yu Yv Yw Yx Yy Yz Z0 Z1 Z2 Z3 Z4 Z5 Z6 Z7 Z8 Z9 Za Zb Zc Zd Ze Zf Zg Zh Zi Zj Zk Zl Zm Zn Zo Zp Zq Zr Zs Zt Zu : Value), PD A h' q p pb nb P t' b ((dchk P r (bits.drop i)).run A.ask s).2 → Stq h h' c (A.own t) (A.own t') → Ok tab R79 k #[ptr q,K1,K2,K3,K4,K5,K6,K7,K8,K9,.bool ((dchk P r (bits.drop i)).run A.ask s).1,Kb,Kc,Kd,Ke,Kf,Kg,Kh,Ki,Kj,Kk,Kl,Km,Kn,Ko,Kp,Kq,Kr,Ks,Kt,Ku,Kv,Kw,Kx,Ky,Kz,J0,J1,J2,J3,J4,J5,J6,J7,J8,J9,Ja,Jb,Jc,Jd,Je,Jf,Jg,Jh,Ji,Jj,Jk,Jl,Jm,Jn,Jo,Jp,Jq,Jr,Js,Jt,Ju,Jv,Jw,Jx,Jy,Jz,Y0,Y1,Y2,Y3,Y4,Y5,Y6,Y7,Y8,Y9,Ya,Yb,Yc,Yd,Ye,Yf,Yg,Yh,Yi,Yj,Yk,Yl,Ym,Yn,Yo,Yp,Yq,Yr,Ys,Yt,Yu,Yv,Yw,Yx,Yy,Yz,Z0,Z1,Z2,Z3,Z4,Z5,Z6,Z7,Z8,Z9,Za,Zb,Zc,Zd,Ze,Zf,Zg,Zh,Zi,Zj,Zk,Zl,Zm,Zn,Zo,Zp,Zq,Zr,Zs,Zt,Zu] h' R) →
      Ok tab R79 (.inLoop L79_4 :: .inBlock 8 :: k) #[ptr q,K1,K2,K3,K4,K5,K6,K7,K8,K9,.bool r,Kb,Kc,Kd,Ke,Kf,Kg,Kh,Ki,Kj,Kk,Kl,Km,Kn,Ko,Kp,Kq,Kr,Ks,Kt,Ku,Kv,Kw,Kx,Ky,Kz,J0,J1,J2,J3,J4,J5,J6,J7,J8,J9,Ja,Jb,Jc,Jd,Je,Jf,Jg,Jh,Ji,Jj,Jk,Jl,Jm,Jn,Jo,Jp,Jq,Jr,Js,Jt,Ju,Jv,Jw,Jx,Jy,Jz,Y0,Y1,Y2,Y3,Y4,Y5,Y6,Y7,Y8,Y9,Ya,Yb,Yc,Yd,Ye,Yf,Yg,Yh,Yi,Yj,Yk,Yl,Ym,Yn,Yo,Yp,Yq,Yr,Ys,Yt,Yu,Yv,Yw,Yx,Yy,Yz,Z0,Z1,Z2,Z3,Z4,Z5,Z6,Z7,Z8,Z9,Za,Zb,.slice (some ⟨z, 0, none⟩) bits.length 1,.int .i64 bits.length,.int .i64 i,Zf,Zg,Zh,Zi,Zj,Zk,Zl,Zm,Zn,Zo,Zp,Zq,Zr,Zs,Zt,Zu] h R := by
  intro m
  induction m with
  | zero =>
    intro i h t s r K1 K2 K3 K4 K5 K6 K7 K8 K9 Kb Kc Kd Ke Kf Kg Kh Ki Kj Kk Kl Km Kn Ko Kp Kq Kr Ks Kt Ku Kv Kw Kx Ky Kz J0 J1 J2 J3 J4 J5 J6 J7 J8 J9 Ja Jb Jc Jd Je Jf Jg Jh Ji Jj Jk Jl Jm Jn Jo Jp Jq Jr Js Jt Ju Jv Jw Jx Jy Jz Y0 Y1 Y2 Y3 Y4 Y5 Y6 Y7 Y8 Y9 Ya Yb Yc Yd Ye Yf Yg Yh Yi Yj Yk Yl Ym Yn Yo Yp Yq Yr Ys Yt Yu Yv Yw Yx Yy Yz Z0 Z1 Z2 Z3 Z4 Z5 Z6 Z7 Z8 Z9 Za Zb Zf Zg Zh Zi Zj Zk Zl Zm Zn Zo Zp Zq Zr Zs Zt Zu hm hi he hz hn hl hk
    have hlt : ¬ ((i : Int) < bits.length) := by omega
    rw [List.drop_of_length_le (by omega)] at hk
    rw [ok_round, l79_4, L79_4a, L79_4b]
    simp [hlt]
    exact hk h t _ _ _ _ _ _ _ _ _ _ _ _ _ _ _ _ _ _ _ _ _ _ _ _ _ _ _ _ _ _ _ _ _ _ _ _ _ _ _ _ _ _ _ _ _ _ _ _ _ _ _ _ _ _ _ _ _ _ _ _ _ _ _ _ _ _ _ _ _ _ _ _ _ _ _ _ _ _ _ _ _ _ _ _ _ _ _ _ _ _ _ _ _ _ _ _ _ _ _ _ _ _ _ _ _ _ _ _ _ _ _ _ _ _ _ _ _ _ _ _ _ _ _ _ _ _ _ _ _ _ _ _ _ _ _ _ _ he (Stq.refl _ _ _)
  | succ m ih =>
    intro i h t s r K1 K2 K3 K4 K5 K6 K7 K8 K9 Kb Kc Kd Ke Kf Kg Kh Ki Kj Kk Kl Km Kn Ko Kp Kq Kr Ks Kt Ku Kv Kw Kx Ky Kz J0 J1 J2 J3 J4 J5 J6 J7 J8 J9 Ja Jb Jc Jd Je Jf Jg Jh Ji Jj Jk Jl Jm Jn Jo Jp Jq Jr Js Jt Ju Jv Jw Jx Jy Jz Y0 Y1 Y2 Y3 Y4 Y5 Y6 Y7 Y8 Y9 Ya Yb Yc Yd Ye Yf Yg Yh Yi Yj Yk Yl Ym Yn Yo Yp Yq Yr Ys Yt Yu Yv Yw Yx Yy Yz Z0 Z1 Z2 Z3 Z4 Z5 Z6 Z7 Z8 Z9 Za Zb Zf Zg Zh Zi Zj Zk Zl Zm Zn Zo Zp Zq Zr Zs Zt Zu hm hi he hz hn hl hk
    have hlt : ((i : Int) < bits.length) := by omega
    have hw : IntKind.i64.wrap ((i : Int) + 1) = (i : Int) + 1 := wrapN (n := i + 1) (by omega)
    have hil : i < bits.length := by omega
    have hq := he.dr.blk
    rw [List.drop_eq_getElem_cons hil, dchk_run] at hk
    obtain ⟨u1, h1, e1, p1, s1⟩ := ask_d he (by omega) 18
    have z1 := A.size_ask s (P.cx 18)
    generalize (A.ask s (P.cx 18)).1 = bit at *
    generalize (A.ask s (P.cx 18)).2 = sa at *
    have hz1 : blk? h1 z = some ⟨false, bits.map b2i⟩ := by rw [s1.same z (blk?_lt hz) hn.1 hn.2]; exact hz
    have hn1 : z ≠ c ∧ ¬ A.own u1 z := ⟨hn.1, fun e => by
      rcases s1.fresh z e with h | h
      · exact hn.2 h
      · have := blk?_lt hz; omega⟩
    have hget : bits[i]? = some bits[i] := List.getElem?_eq_getElem hil
    have hcmp : (((bit.toNat : Nat) : Int) == ((bits[i].toNat : Nat) : Int)) = (bit == bits[i]) := by cases bit <;> cases bits[i] <;> rfl
    rw [ok_round, l79_4, L79_4a, L79_4b]
    have hgo : ∀ K1 K2 K3 K4 K5 K6 K7 K8 K9 Kb Kc Kd Ke Kf Kg Kh Ki Kj Kk Kl Km Kn Ko Kp Kq Kr Ks Kt Ku Kv Kw Kx Ky Kz J0 J1 J2 J3 J4 J5 J6 J7 J8 J9 Ja Jb Jc Jd Je Jf Jg Jh Ji Jj Jk Jl Jm Jn Jo Jp Jq Jr Js Jt Ju Jv Jw Jx Jy Jz Y0 Y1 Y2 Y3 Y4 Y5 Y6 Y7 Y8 Y9 Ya Yb Yc Yd Ye Yf Yg Yh Yi Yj Yk Yl Ym Yn Yo Yp Yq Yr Ys Yt Yu Yv Yw Yx Yy Yz Z0 Z1 Z2 Z3 Z4 Z5 Z6 Z7 Z8 Z9 Za Zb Zf Zg Zh Zi Zj Zk Zl Zm Zn Zo Zp Zq Zr Zs Zt Zu : Value, Ok tab R79 (.inLoop L79_4 :: .inBlock 8 :: k) #[ptr q,K1,K2,K3,K4,K5,K6,K7,K8,K9,.bool (r && bit == bits[i]),Kb,Kc,Kd,Ke,Kf,Kg,Kh,Ki,Kj,Kk,Kl,Km,Kn,Ko,Kp,Kq,Kr,Ks,Kt,Ku,Kv,Kw,Kx,Ky,Kz,J0,J1,J2,J3,J4,J5,J6,J7,J8,J9,Ja,Jb,Jc,Jd,Je,Jf,Jg,Jh,Ji,Jj,Jk,Jl,Jm,Jn,Jo,Jp,Jq,Jr,Js,Jt,Ju,Jv,Jw,Jx,Jy,Jz,Y0,Y1,Y2,Y3,Y4,Y5,Y6,Y7,Y8,Y9,Ya,Yb,Yc,Yd,Ye,Yf,Yg,Yh,Yi,Yj,Yk,Yl,Ym,Yn,Yo,Yp,Yq,Yr,Ys,Yt,Yu,Yv,Yw,Yx,Yy,Yz,Z0,Z1,Z2,Z3,Z4,Z5,Z6,Z7,Z8,Z9,Za,Zb,.slice (some ⟨z, 0, none⟩) bits.length 1,.int .i64 bits.length,.int .i64 ((i : Int) + 1),Zf,Zg,Zh,Zi,Zj,Zk,Zl,Zm,Zn,Zo,Zp,Zq,Zr,Zs,Zt,Zu] h1 R := by
      intro K1 K2 K3 K4 K5 K6 K7 K8 K9 Kb Kc Kd Ke Kf Kg Kh Ki Kj Kk Kl Km Kn Ko Kp Kq Kr Ks Kt Ku Kv Kw Kx Ky Kz J0 J1 J2 J3 J4 J5 J6 J7 J8 J9 Ja Jb Jc Jd Je Jf Jg Jh Ji Jj Jk Jl Jm Jn Jo Jp Jq Jr Js Jt Ju Jv Jw Jx Jy Jz Y0 Y1 Y2 Y3 Y4 Y5 Y6 Y7 Y8 Y9 Ya Yb Yc Yd Ye Yf Yg Yh Yi Yj Yk Yl Ym Yn Yo Yp Yq Yr Ys Yt Yu Yv Yw Yx Yy Yz Z0 Z1 Z2 Z3 Z4 Z5 Z6 Z7 Z8 Z9 Za Zb Zf Zg Zh Zi Zj Zk Zl Zm Zn Zo Zp Zq Zr Zs Zt Zu
      refine ih (i + 1) h1 u1 sa _ _ _ _ _ _ _ _ _ _ _ _ _ _ _ _ _ _ _ _ _ _ _ _ _ _ _ _ _ _ _ _ _ _ _ _ _ _ _ _ _ _ _ _ _ _ _ _ _ _ _ _ _ _ _ _ _ _ _ _ _ _ _ _ _ _ _ _ _ _ _ _ _ _ _ _ _ _ _ _ _ _ _ _ _ _ _ _ _ _ _ _ _ _ _ _ _ _ _ _ _ _ _ _ _ _ _ _ _ _ _ _ _ _ _ _ _ _ _ _ _ _ _ _ _ _ _ _ _ _ _ _ _ _ _ (by omega) (by omega) p1 hz1 hn1 (by omega) ?_
      intro h' t' K1 K2 K3 K4 K5 K6 K7 K8 K9 Kb Kc Kd Ke Kf Kg Kh Ki Kj Kk Kl Km Kn Ko Kp Kq Kr Ks Kt Ku Kv Kw Kx Ky Kz J0 J1 J2 J3 J4 J5 J6 J7 J8 J9 Ja Jb Jc Jd Je Jf Jg Jh Ji Jj Jk Jl Jm Jn Jo Jp Jq Jr Js Jt Ju Jv Jw Jx Jy Jz Y0 Y1 Y2 Y3 Y4 Y5 Y6 Y7 Y8 Y9 Ya Yb Yc Yd Ye Yf Yg Yh Yi Yj Yk Yl Ym Yn Yo Yp Yq Yr Ys Yt Yu Yv Yw Yx Yy Yz Z0 Z1 Z2 Z3 Z4 Z5 Z6 Z7 Z8 Z9 Za Zb Zc Zd Ze Zf Zg Zh Zi Zj Zk Zl Zm Zn Zo Zp Zq Zr Zs Zt Zu pe st
      exact hk h' t' _ _ _ _ _ _ _ _ _ _ _ _ _ _ _ _ _ _ _ _ _ _ _ _ _ _ _ _ _ _ _ _ _ _ _ _ _ _ _ _ _ _ _ _ _ _ _ _ _ _ _ _ _ _ _ _ _ _ _ _ _ _ _ _ _ _ _ _ _ _ _ _ _ _ _ _ _ _ _ _ _ _ _ _ _ _ _ _ _ _ _ _ _ _ _ _ _ _ _ _ _ _ _ _ _ _ _ _ _ _ _ _ _ _ _ _ _ _ _ _ _ _ _ _ _ _ _ _ _ _ _ _ _ _ _ _ _ pe (s1.trans st)
    have hbi : b2i bits[i] = .int .i64 ((bits[i].toNat : Nat) : Int) := rfl
    generalize bits[i] = bi at *
    generalize ((bit.toNat : Nat) : Int) = bn at *
    generalize ((bi.toNat : Nat) : Int) = bm at *
    cases r
    · simp at hgo
      simp [k_guard, hlt, hw, hz, hget, hbi, hq, e1]
      exact hgo _ _ _ _ _ _ _ _ _ _ _ _ _ _ _ _ _ _ _ _ _ _ _ _ _ _ _ _ _ _ _ _ _ _ _ _ _ _ _ _ _ _ _ _ _ _ _ _ _ _ _ _ _ _ _ _ _ _ _ _ _ _ _ _ _ _ _ _ _ _ _ _ _ _ _ _ _ _ _ _ _ _ _ _ _ _ _ _ _ _ _ _ _ _ _ _ _ _ _ _ _ _ _ _ _ _ _ _ _ _ _ _ _ _ _ _ _ _ _ _ _ _ _ _ _ _ _ _ _ _ _ _ _ _
    · rw [Bool.true_and] at hgo
      simp [k_guard, hlt, hw, hz, hget, hbi, hq, e1, hcmp]
      exact hgo _ _ _ _ _ _ _ _ _ _ _ _ _ _ _ _ _ _ _ _ _ _ _ _ _ _ _ _ _ _ _ _ _ _ _ _ _ _ _ _ _ _ _ _ _ _ _ _ _ _ _ _ _ _ _ _ _ _ _ _ _ _ _ _ _ _ _ _ _ _ _ _ _ _ _ _ _ _ _ _ _ _ _ _ _ _ _ _ _ _ _ _ _ _ _ _ _ _ _ _ _ _ _ _ _ _ _ _ _ _ _ _ _ _ _ _ _ _ _ _ _ _ _ _ _ _ _ _ _ _ _ _ _ _

set_option maxRecDepth 10000 in
set_option maxHeartbeats 4000000 in
theorem cleanup_d (he : PD A h q p pb nb P t b s) (hl : A.size s + 100000 < 1000000) (on : Bool) :
    ∃ t' h', (∀ R, Ret tab 79 [ptr q, .bool on] h R = R (.bool ((dclean P b on).run A.ask s).1.2) h') ∧ PD A h' q p pb nb P t' ((dclean P b on).run A.ask s).1.1 ((dclean P b on).run A.ask s).2 ∧ Stq h h' c (A.own t) (A.own t') := by
  have key : Ret tab 79 [ptr q, .bool on] h fun v h' => v = .bool ((dclean P b on).run A.ask s).1.2 ∧ ∃ t', PD A h' q p pb nb P t' ((dclean P b on).run A.ask s).1.1 ((dclean P b on).run A.ask s).2 ∧ Stq h h' c (A.own t) (A.own t') := by
    have hw2 := he.dr.cb.ok.w2
    have hh2 := he.dr.cb.ok.h2
    have hsl := scan_len he.dr.cb.ok.w2 he.dr.cb.ok.h2
    have hst : 12 * b.w * stripesOf b.h ≤ 12 * 64 * 16 := Nat.mul_le_mul (by omega) (by unfold stripesOf; omega)
    have g1 : (b.h : Int) ≤ 0 + 4 * ((stripesOf b.h : Nat) : Int) := by unfold stripesOf; omega
    have g2 : 0 + 4 * ((stripesOf b.h : Nat) : Int) ≤ b.h + 3 := by unfold stripesOf; omega
    obtain ⟨hls, hsz⟩ := Tr.Lv.out (A := A.ask) (size := A.size) A.size_ask s (lv_dstripes he.dr.pok (n := stripesOf b.h) he.good (top := 0) (by omega) g2)
    have hcl : (dclean P b on).run A.ask s = ((((dstripes P b 0 (stripesOf b.h)).run A.ask s).1.clr (scan b.w b.h), ((dcheck P on).run A.ask ((dstripes P b 0 (stripesOf b.h)).run A.ask s).2).1), ((dcheck P on).run A.ask ((dstripes P b 0 (stripesOf b.h)).run A.ask s).2).2) := by
      unfold dclean
      simp only [Tr.run_bind, Tr.run_ret]
      rw [hls.w, hls.h]
    rw [hcl]
    rw [enter79, show B79 = .seq (nthC 0 B79) (.seq (nthC 1 B79) (.seq (nthC 2 B79) (tlC 3 B79))) from rfl]
    generalize hT : tlC 3 B79 = tl
    simp only [nthC, tlC, fstC, B79]
    simp
    refine dstripes_loop hw2 hh2 (stripesOf b.h) 0 h t b s _ _ _ _ _ _ _ _ _ _ _ _ _ _ _ _ _ _ _ _ _ _ _ _ _ _ _ _ _ _ _ _ _ _ _ _ _ _ _ _ _ _ _ _ _ _ _ _ _ _ _ _ _ _ _ _ _ _ _ _ _ _ _ _ _ _ _ _ _ _ _ _ _ _ _ _ _ _ _ _ _ _ _ _ _ _ _ _ _ _ _ _ _ _ _ _ _ _ _ _ _ _ _ _ _ _ _ _ _ _ _ _ _ _ _ _ _ _ _ _ _ _ _ _ _ _ _ _ _ _ _ _ _ _ _ _ g1 g2 (by omega) rfl rfl he (by omega) ?_
    intro h1 u1 K2 K3 K4 K5 K6 K7 K8 K9 Ka Kb Kc Kd Ke Kf Kg Kh Ki Kj Kk Kl Km Kn Ko Kp Kq Kr Ks Kt Ku Kv Kw Kx Ky Kz J0 J1 J2 J3 J4 J5 J6 J7 J8 J9 Ja Jb Jc Jd Je Jf Jg Jh Ji Jj Jk Jl Jm Jn Jo Jp Jq Jr Js Jt Ju Jv Jw Jx Jy Jz Y0 Y1 Y2 Y3 Y4 Y5 Y6 Y7 Y8 Y9 Ya Yb Yc Yd Ye Yf Yg Yh Yi Yj Yk Yl Ym Yn Yo Yp Yq Yr Ys Yt Yu Yv Yw Yx Yy Yz Z0 Z1 Z2 Z3 Z4 Z5 Z6 Z7 Z8 Z9 Za Zb Zc Zd Ze Zf Zg Zh Zi Zj Zk Zl Zm Zn Zo Zp Zq Zr Zs Zt Zu p1 s1
    generalize ((dstripes P b 0 (stripesOf b.h)).run A.ask s).1 = b1 at *
    generalize ((dstripes P b 0 (stripesOf b.h)).run A.ask s).2 = sa at *
    obtain ⟨sl, h2, e2, p2, s2, f2⟩ := p1.scan
    obtain ⟨a, cc, hs⟩ := f2.sl.shape
    have hq1 := p1.dr.blk
    rw [hls.w, hls.h] at e2 f2 hs hq1
    simp [hq1, e2, hs]
    rw [← hs]
    have hall : AllIn b1 (scan b.w b.h) := by have := scanIn b1; rwa [hls.w, hls.h] at this
    refine dclear_loop _ 0 h2 u1 b1 sa _ _ _ _ _ _ _ _ _ _ _ _ _ _ _ _ _ _ _ _ _ _ _ _ _ _ _ _ _ _ _ _ _ _ _ _ _ _ _ _ _ _ _ _ _ _ _ _ _ _ _ _ _ _ _ _ _ _ _ _ _ _ _ _ _ _ _ _ _ _ _ _ _ _ _ _ _ _ _ _ _ _ _ _ _ _ _ _ _ _ _ _ _ _ _ _ _ _ _ _ _ _ _ _ _ _ _ _ _ _ _ _ _ _ _ _ _ _ _ _ _ _ _ _ _ _ _ _ _ _ _ _ _ _ rfl (by omega) p2 f2 hall (by omega) ?_
    intro h3 K2 K3 K4 K5 K6 K7 K8 K9 Ka Kb Kc Kd Ke Kf Kg Kh Ki Kj Kk Kl Km Kn Ko Kp Kq Kr Ks Kt Ku Kv Kw Kx Ky Kz J0 J1 J2 J3 J4 J5 J6 J7 J8 J9 Ja Jb Jc Jd Je Jf Jg Jh Ji Jj Jk Jl Jm Jn Jo Jp Jq Jr Js Jt Ju Jv Jw Jx Jy Jz Y0 Y1 Y2 Y3 Y4 Y5 Y6 Y7 Y8 Y9 Ya Yb Yc Yd Ye Yf Yg Yh Yi Yj Yk Yl Ym Yn Yo Yp Yq Yr Ys Yt Yu Yv Yw Yx Yy Yz Z0 Z1 Z2 Z3 Z4 Z5 Z6 Z7 Z8 Z9 Za Zb Zc Zd Ze Zf Zg Zh Zi Zj Zk Zl Zm Zn Zo Zp Zq Zr Zs Zt Zu p3 s3
    rw [List.drop_zero] at p3
    rw [← hT]
    simp only [tlC, B79]
    cases on
    · simp [fin79]
      exact ⟨by simp [dcheck, Tr.run_ret], u1, p3, (s1.trans s2).trans s3⟩
    · have p4 := p3.push (some ⟨false, [.int .i64 1, .int .i64 0, .int .i64 1, .int .i64 0]⟩)
      have s4 := Stq.push h3 (some ⟨false, [.int .i64 1, .int .i64 0, .int .i64 1, .int .i64 0]⟩) c (A.own u1)
      obtain ⟨l1, l2, l3, l4, l5⟩ := p3.lts
      have hdc : dcheck P true = dchk P true [true, false, true, false] := rfl
      rw [hdc]
      simp [repL]
      refine dcheck_loop (z := h3.length) (bits := [true, false, true, false]) (by simp) 4 0 _ u1 sa true _ _ _ _ _ _ _ _ _ _ _ _ _ _ _ _ _ _ _ _ _ _ _ _ _ _ _ _ _ _ _ _ _ _ _ _ _ _ _ _ _ _ _ _ _ _ _ _ _ _ _ _ _ _ _ _ _ _ _ _ _ _ _ _ _ _ _ _ _ _ _ _ _ _ _ _ _ _ _ _ _ _ _ _ _ _ _ _ _ _ _ _ _ _ _ _ _ _ _ _ _ _ _ _ _ _ _ _ _ _ _ _ _ _ _ _ _ _ _ _ _ _ _ _ _ _ _ _ _ _ _ _ _ _ (by simp) (by simp) p4 ?_ ⟨by omega, fun e => by have := A.lt p3.rel _ e; omega⟩ (by omega) ?_
      · simpa [b2i] using blk?_push_eq (h := h3) (x := some (⟨false, [.int .i64 1, .int .i64 0, .int .i64 1, .int .i64 0]⟩ : Blk))
      · intro h5 u5 K1 K2 K3 K4 K5 K6 K7 K8 K9 Kb Kc Kd Ke Kf Kg Kh Ki Kj Kk Kl Km Kn Ko Kp Kq Kr Ks Kt Ku Kv Kw Kx Ky Kz J0 J1 J2 J3 J4 J5 J6 J7 J8 J9 Ja Jb Jc Jd Je Jf Jg Jh Ji Jj Jk Jl Jm Jn Jo Jp Jq Jr Js Jt Ju Jv Jw Jx Jy Jz Y0 Y1 Y2 Y3 Y4 Y5 Y6 Y7 Y8 Y9 Ya Yb Yc Yd Ye Yf Yg Yh Yi Yj Yk Yl Ym Yn Yo Yp Yq Yr Ys Yt Yu Yv Yw Yx Yy Yz Z0 Z1 Z2 Z3 Z4 Z5 Z6 Z7 Z8 Z9 Za Zb Zc Zd Ze Zf Zg Zh Zi Zj Zk Zl Zm Zn Zo Zp Zq Zr Zs Zt Zu p5 s5
        simp [fin79]
        exact ⟨u5, by simpa using p5, (((s1.trans s2).trans s3).trans s4).trans s5⟩
  obtain ⟨v, h', e, rfl, t', pe, st⟩ := ret_ex key
  exact ⟨t', h', e, pe, st⟩
end
/-- What Run of the decoder comes to: the block, whether the check symbols are right, the source. -/
def dOut {S : Type} (A : S → Int → Bool × S) (m : MD) (b : BS) (n planes o : Int) (s : S) : (BS × Bool) × S := if runErr n planes o = 0 then (dRun m b n.toNat planes.toNat o.toNat).run A s else ((b, true), s)
def dErr (n planes o : Int) (ok : Bool) : Int := if runErr n planes o ≠ 0 then runErr n planes o else cond ok 0 16

/-- What Run of the decoder leaves. -/
structure DRes {c : Nat} {call : Heap → Int → (Value → Heap → Prop) → Prop} (A : Src c call) (h h' : Heap) (p : Nat) (t t' : A.T) (b : BS) (s : A.S) : Prop where
  cb : CB h' false p c b
  good : b.Good
  rel : A.rel h' t' s
  st : Stq h h' c (A.own t) (A.own t')

theorem eq_func {f : Fn} {a b : Array Value} : eqV .func (.func f a b) .nilFunc = some false := by simp [eqV]

section
variable {c : Nat} {g : FuncId} {fa fb : Array Value} {A : Src c (callF (.func (.func g) fa fb))} {h : Heap} {p : Nat} {t : A.T} {b : BS} {s : A.S}

theorem DRes.nothing {h h' : Heap} (hb : CB h false p c b) (hr : b.Rng) (hrel : A.rel h t s) (hk : ∀ id, id < h.length → blk? h' id = blk? h id) (hl : h.length ≤ h'.length) : DRes A h h' p t t b s :=
  ⟨⟨by rw [hk _ (blk?_lt hb.blkp)]; exact hb.blkp, by rw [hk _ (blk?_lt hb.blkc)]; exact hb.blkc, hb.ok⟩, ⟨hb.ok, hr⟩, A.stable hrel hl (fun id h1 _ => hk id h1), Stq.low hk hl _ _⟩

set_option maxHeartbeats 1000000 in
theorem run_d (hb : CB h false p c b) (hr : b.Rng) (hrel : A.rel h t s) (hp : ¬ A.own t p) (hnv : below h.length (.func (.func g) fa fb) = true) (hl : A.size s + 100000 < 1000000) (n planes o : Int) (m : MD) :
    ∃ t' h', (∀ R, Ret tab 23 [ptr p, .int .i64 n, .int .i64 planes, .int .i64 o, m.val, .func (.func g) fa fb] h R = R (.int .i64 (dErr n planes o (dOut A.ask m b n planes o s).1.2)) h') ∧
      DRes A h h' p t t' (dOut A.ask m b n planes o s).1.1 (dOut A.ask m b n planes o s).2 := by
  have key : Ret tab 23 [ptr p, .int .i64 n, .int .i64 planes, .int .i64 o, m.val, .func (.func g) fa fb] h fun v h' => v = .int .i64 (dErr n planes o (dOut A.ask m b n planes o s).1.2) ∧ ∃ t', DRes A h h' p t t' (dOut A.ask m b n planes o s).1.1 (dOut A.ask m b n planes o s).2 := by
    have hb1 : CB (h ++ [some ⟨false, [.bool m.byp, .bool m.res, .bool m.rst, .bool m.cz, .bool m.sy]⟩, some ⟨false, [.func (.func g) fa fb]⟩]) false p c b := ⟨by rw [app_lt (blk?_lt hb.blkp)]; exact hb.blkp, by rw [app_lt (blk?_lt hb.blkc)]; exact hb.blkc, hb.ok⟩
    have hsz := fun R => size_c (R := R) hb1
    have hw0 := hb.ok.w1
    have hw0' : ((b.w : Int) == 0) = false := by simp; omega
    have hnone : runErr n planes o ≠ 0 → ∀ h', (∀ id, id < h.length → blk? h' id = blk? h id) → h.length ≤ h'.length → ∃ t', DRes A h h' p t t' (dOut A.ask m b n planes o s).1.1 (dOut A.ask m b n planes o s).2 := by
      intro he h' hk hl
      unfold dOut
      rw [if_neg he]
      exact ⟨t, DRes.nothing hb hr hrel hk hl⟩
    have hkp : ∀ l : Heap, ∀ id, id < h.length → blk? (h ++ l) id = blk? h id := fun l id hid => app_lt hid
    rw [enter23, show B23 = .seq (nthC 0 B23) (.seq (nthC 1 B23) (.seq (nthC 2 B23) (.seq (nthC 3 B23) (.seq (nthC 4 B23) (.seq (nthC 5 B23) (tlC 6 B23)))))) from rfl]
    generalize hT : tlC 6 B23 = tl
    simp only [nthC, tlC, fstC, B23]
    obtain ⟨byp, res, rst, cz, sy⟩ := m
    simp only [MD.val] at *
    have herr : ∀ e, runErr n planes o = e → e ≠ 0 → dErr n planes o (dOut A.ask ⟨byp, res, rst, cz, sy⟩ b n planes o s).1.2 = e := by
      intro e he h0
      unfold dErr; rw [he, if_pos h0]
    by_cases h1 : planes < 1
    · have he := runErr_lo (n := n) (o := o) (.inl h1 : planes < 1 ∨ 60 < planes ∨ n < 0 ∨ 3 * planes - 3 < n)
      simp [k_guard, k_guardU, hsz, hw0', app_len, app_add, app_zero, app_succ, eq_func, h1, fin23]
      exact ⟨(herr 2 he (by decide)).symm, hnone (by rw [he]; decide) _ (hkp _) (by simp)⟩
    by_cases h2 : 60 < planes
    · have he := runErr_lo (n := n) (o := o) (.inr (.inl h2) : planes < 1 ∨ 60 < planes ∨ n < 0 ∨ 3 * planes - 3 < n)
      simp [k_guard, k_guardU, hsz, hw0', app_len, app_add, app_zero, app_succ, eq_func, h1, h2, fin23]
      exact ⟨(herr 2 he (by decide)).symm, hnone (by rw [he]; decide) _ (hkp _) (by simp)⟩
    by_cases h3 : n < 0
    · have he := runErr_lo (n := n) (o := o) (.inr (.inr (.inl h3)) : planes < 1 ∨ 60 < planes ∨ n < 0 ∨ 3 * planes - 3 < n)
      simp [k_guard, k_guardU, hsz, hw0', app_len, app_add, app_zero, app_succ, eq_func, h1, h2, h3, fin23]
      exact ⟨(herr 2 he (by decide)).symm, hnone (by rw [he]; decide) _ (hkp _) (by simp)⟩
    have hm1 : IntKind.i64.wrap (3 * planes) = 3 * planes := wrapI (by omega) (by omega)
    have hm2 : IntKind.i64.wrap (3 * planes - 3) = 3 * planes - 3 := wrapI (by omega) (by omega)
    by_cases h4 : 3 * planes - 3 < n
    · have he := runErr_lo (n := n) (o := o) (.inr (.inr (.inr h4)) : planes < 1 ∨ 60 < planes ∨ n < 0 ∨ 3 * planes - 3 < n)
      simp [k_guard, k_guardU, hsz, hw0', app_len, app_add, app_zero, app_succ, eq_func, h1, h2, h3, hm1, hm2, h4, fin23]
      exact ⟨(herr 2 he (by decide)).symm, hnone (by rw [he]; decide) _ (hkp _) (by simp)⟩
    by_cases h5 : o < 0
    · have he : runErr n planes o = 3 := by unfold runErr; rw [if_neg (by omega), if_pos (.inl h5)]
      simp [k_guard, k_guardU, hsz, hw0', app_len, app_add, app_zero, app_succ, eq_func, h1, h2, h3, hm1, hm2, h4, h5, fin23]
      exact ⟨(herr 3 he (by decide)).symm, hnone (by rw [he]; decide) _ (hkp _) (by simp)⟩
    by_cases h6 : 3 < o
    · have he : runErr n planes o = 3 := by unfold runErr; rw [if_neg (by omega), if_pos (.inr h6)]
      simp [k_guard, k_guardU, hsz, hw0', app_len, app_add, app_zero, app_succ, eq_func, h1, h2, h3, hm1, hm2, h4, h5, h6, fin23]
      exact ⟨(herr 3 he (by decide)).symm, hnone (by rw [he]; decide) _ (hkp _) (by simp)⟩
    simp [k_guard, k_guardU, hsz, hw0', app_len, app_add, app_zero, app_succ, eq_func, h1, h2, h3, hm1, hm2, h4, h5, h6, fin23]
    have he : runErr n planes o = 0 := by unfold runErr; rw [if_neg (by omega), if_neg (by omega)]
    unfold dErr dOut
    rw [he]
    simp only [ne_eq, not_true_eq_false, if_false, if_true]
    obtain ⟨n, rfl⟩ := Int.eq_ofNat_of_zero_le (show 0 ≤ n by omega)
    obtain ⟨planes, rfl⟩ := Int.eq_ofNat_of_zero_le (show 0 ≤ planes by omega)
    obtain ⟨o, rfl⟩ := Int.eq_ofNat_of_zero_le (show 0 ≤ o by omega)
    simp only [Int.toNat_natCast]
    generalize hres : (dRun ⟨byp, res, rst, cz, sy⟩ b n planes o).run A.ask s = dr
    have hp' := fun h R => pass_c (h := h) (R := R) (n := n) (by omega)
    have hrw := fun h R => raw_c (h := h) (R := R) (n := n) (by omega) ⟨byp, res, rst, cz, sy⟩
    have hpl := planeOf_le (n := n) (planes := planes) (by omega) (by omega)
    have e1 : IntKind.i64.wrap ((planes : Int) - 1) = ((planes - 1 : Nat) : Int) := by rw [wrapI (by omega) (by omega)]; omega
    have e2 : IntKind.i64.wrap (((planes - 1 : Nat) : Int) - (planeOf n : Int)) = ((planes - 1 - planeOf n : Nat) : Int) := by rw [wrapI (by omega) (by omega)]; omega
    rw [← hT, show tlC 6 B23 = .seq (nthC 6 B23) (.seq (nthC 7 B23) (.seq (nthC 8 B23) (tlC 9 B23))) from rfl]
    generalize hT2 : tlC 9 B23 = tl2
    simp only [nthC, tlC, fstC, B23]
    simp only [MD.val] at hrw
    have hlp := blk?_lt hb.blkp
    have hlc := blk?_lt hb.blkc
    have hblk := hb.blkp
    simp [hp', hrw, e1, e2, app_len, app_add, app_zero, app_succ, app_set, app_setk, book, logOf, addLog, chk1, lookL, reload]
    generalize hP : runPP ⟨byp, res, rst, cz, sy⟩ n planes o = P
    have hPs : P.s = planes - 1 - planeOf n := by rw [← hP]; rfl
    have hPo : P.o = o := by rw [← hP]; rfl
    have hPc : P.cz = cz := by rw [← hP]; rfl
    have hPr : P.rw = rawOf ⟨byp, res, rst, cz, sy⟩ n := by rw [← hP]; rfl
    have hrs : dRun ⟨byp, res, rst, cz, sy⟩ b n planes o = if kindOf n = 0 then (dsigs P b (scan b.w b.h)).bind fun b => .ret (b, true) else if kindOf n = 1 then (drefs P b (scan b.w b.h)).bind fun b => .ret (b, true) else dclean P b sy := by
      unfold dRun; rw [hP]
    rw [hrs] at hres
    rw [← hPr, ← hPs, ← hPo, ← hPc]
    generalize hH : h ++ [some (⟨false, [.bool byp, .bool res, .bool rst, .bool P.cz, .bool sy]⟩ : Blk), some ⟨false, [.func (.func g) fa fb]⟩,
      some ⟨false, [ptr p, .int .i64 b.w, .int .i64 b.h, .int .i64 P.s, .int .i64 P.o, .bool P.cz, .bool P.rw, .func (.func 76) #[] #[ptr (h.length + 3), ptr (h.length + 1)]]⟩, some ⟨false, [ptr (h.length + 2)]⟩] = H
    have hlow : ∀ id, id < h.length → blk? H id = blk? h id := fun id hid => by rw [← hH]; exact app_lt hid
    have hHl : H.length = h.length + 4 := by rw [← hH]; simp
    have hm0 : blk? H h.length = some ⟨false, [.bool byp, .bool res, .bool rst, .bool P.cz, .bool sy]⟩ := by rw [← hH, app_len]; rfl
    have hlt := fun id (ho : A.own t id) => A.lt hrel id ho
    have he : PD A H (h.length + 2) p (h.length + 3) (h.length + 1) P t b s := by
      refine ⟨⟨by rw [← hH, app_add]; rfl, ⟨by rw [hlow _ hlp]; exact hb.blkp, by rw [hlow _ hlc]; exact hb.blkc, hb.ok⟩, by simp; omega, ⟨by rw [hPs]; omega, by rw [hPo]; omega⟩, hr⟩, by rw [← hH, app_add]; rfl, by rw [← hH, app_add]; rfl, A.stable hrel (by omega) (fun id h1 _ => hlow id h1), ?_, ?_⟩
      · have := hb.ne; omega
      · exact ⟨fun e => by have := hlt _ e; omega, hp, fun e => by have := hlt _ e; omega, fun e => by have := hlt _ e; omega⟩
    have hpb := he.pbk
    -- what is left
    have fin : ∀ (b' : BS) (s' : A.S) (t' : A.T) (H' : Heap), PD A H' (h.length + 2) p (h.length + 3) (h.length + 1) P t' b' s' → Stq H H' c (A.own t) (A.own t') → ∃ t', DRes A h H' p t t' b' s' := by
      intro b' s' t' H' pe st
      exact ⟨t', pe.dr.cb, pe.good, pe.rel, (Stq.low hlow (by omega) _ _).trans st⟩
    rw [← hT2]
    simp only [tlC, B23]
    have hk : kindOf n = 0 ∨ kindOf n = 1 ∨ kindOf n = 2 := by unfold kindOf; split <;> omega
    rcases hk with hk | hk | hk
    · obtain ⟨t', H', e, pe, st⟩ := significance_d he hl
      rw [if_pos hk] at hres
      simp only [Tr.run_bind, Tr.run_ret] at hres
      subst hres
      simp [hk, hpb, e, fin23]
      exact fin _ _ _ _ pe st
    · obtain ⟨t', H', e, pe, st⟩ := refinement_d he hl
      rw [if_neg (by omega), if_pos hk] at hres
      simp only [Tr.run_bind, Tr.run_ret] at hres
      subst hres
      simp [hk, hpb, e, fin23]
      exact fin _ _ _ _ pe st
    · obtain ⟨t', H', e, pe, st⟩ := cleanup_d he hl sy
      rw [if_neg (by omega), if_neg (by omega)] at hres
      subst hres
      cases hok : ((dclean P b sy).run A.ask s).1.2
      · rw [hok] at e
        simp [hk, hpb, hm0, e, fin23]
        exact fin _ _ _ _ pe st
      · rw [hok] at e
        simp [hk, hpb, hm0, e, fin23]
        exact fin _ _ _ _ pe st
  obtain ⟨v, h', e, rfl, t', rs⟩ := ret_ex key
  exact ⟨t', h', e, rs⟩
end
end Go.Proofs.Ytjpjohchdfoeaaa
