/-
  A source of bits, and a pass of the decoder in progress.
  The decoder's passes: questions, signs, what they read.
  The decoder's passes: the significance and the refinement pass.
  The decoder's passes: the cleanup pass.
  Run of the decoder's passes.
  The source that gives out symbols.
  Values: the passes.
  Values: what it returns.
-/
import Derived.Test.YtjpjohchdfoeaaaRtn2
import Derived.Test.YtjpjohchdfoeaaaEnc8
import Derived.Test.YtjpjohchdfoeaaaSym5
namespace Go.Proofs.Ytjpjohchdfoeaaa
open Go Go.Sim
set_option linter.unusedSimpArgs false
set_option linter.unusedVariables false

/-- What a part of a pass leaves of the memory: what the source owned before and owns now may be changed, and the coefficients at c. -/
structure Stq (h h' : Heap) (c : Nat) (O O' : Nat → Prop) : Prop where
  len : h.length ≤ h'.length
  same : ∀ id, id < h.length → id ≠ c → ¬ O id → blk? h' id = blk? h id
  fresh : ∀ id, O' id → O id ∨ h.length ≤ id
theorem Stq.refl (h : Heap) (c : Nat) (O : Nat → Prop) : Stq h h c O O := ⟨Nat.le_refl _, fun _ _ _ _ => rfl, fun _ h => .inl h⟩
theorem Stq.trans {h h1 h2 : Heap} {c : Nat} {O O1 O2 : Nat → Prop} (a : Stq h h1 c O O1) (b : Stq h1 h2 c O1 O2) : Stq h h2 c O O2 := by
  refine ⟨Nat.le_trans a.len b.len, fun id h1 h2 h3 => ?_, fun id hid => ?_⟩
  · rw [b.same id (Nat.lt_of_lt_of_le h1 a.len) h2 (fun e => ?_), a.same id h1 h2 h3]
    rcases a.fresh id e with h | h
    · exact h3 h
    · omega
  · rcases b.fresh id hid with h | h
    · exact a.fresh id h
    · exact .inr (Nat.le_trans a.len h)
theorem Stq.push (h : Heap) (x : Option Blk) (c : Nat) (O : Nat → Prop) : Stq h (h ++ [x]) c O O := ⟨by simp, fun id h1 _ _ => blk?_push_lt h1, fun _ h => .inl h⟩
theorem Stq.low {h h' : Heap} (hk : ∀ id, id < h.length → blk? h' id = blk? h id) (hl : h.length ≤ h'.length) (c : Nat) (O : Nat → Prop) : Stq h h' c O O := ⟨hl, fun id h1 _ _ => hk id h1, fun _ h => .inl h⟩
theorem Stq.setc (h : Heap) (c : Nat) (O : Nat → Prop) (x : Option Blk) : Stq h (h.set c x) c O O := ⟨by simp, fun id _ hc _ => blk?_set_ne (Ne.symm hc), fun _ h => .inl h⟩

/-- What the source itself leaves. -/
structure Stu (h h' : Heap) (O O' : Nat → Prop) : Prop where
  len : h.length ≤ h'.length
  same : ∀ id, id < h.length → ¬ O id → blk? h' id = blk? h id
  fresh : ∀ id, O' id → O id ∨ h.length ≤ id
theorem Stu.q {h h' : Heap} {O O' : Nat → Prop} (s : Stu h h' O O') (c : Nat) : Stq h h' c O O' := ⟨s.len, fun id h1 _ h3 => s.same id h1 h3, s.fresh⟩

/-- A source of bits: its states, where they lie, what it answers; it leaves the coefficients at c alone, and does not look at them. -/
structure Src (c : Nat) (call : Heap → Int → (Value → Heap → Prop) → Prop) where
  S : Type
  T : Type
  ask : S → Int → Bool × S
  rel : Heap → T → S → Prop
  own : T → Nat → Prop
  size : S → Nat
  lt : ∀ {h t s}, rel h t s → ∀ id, own t id → id < h.length
  stable : ∀ {h h' t s}, rel h t s → h.length ≤ h'.length → (∀ id, id < h.length → id ≠ c → blk? h' id = blk? h id) → rel h' t s
  size_ask : ∀ s x, size (ask s x).2 ≤ size s + 1
  step : ∀ {h t s}, rel h t s → size s < 1000000 → ∀ x, ∃ t' h' v, (∀ R, call h x R = R (.int .i64 v) h') ∧ (v != 0) = (ask s x).1 ∧ rel h' t' (ask s x).2 ∧ Stu h h' (own t) (own t')
  c_own : ∀ {h t s}, rel h t s → ¬ own t c

/-- The call of a function value with a context. -/
def callF (fv : Value) : Heap → Int → (Value → Heap → Prop) → Prop := fun h x R => callK fv [.int .i64 x] tab h R

/-- A pass of the decoder at q over the block at p (coefficients at c). -/
structure DR (h : Heap) (f : Bool) (q p c : Nat) (P : PP) (fv : Value) (b : BS) : Prop where
  blk : blk? h q = some ⟨f, [ptr p, .int .i64 b.w, .int .i64 b.h, .int .i64 P.s, .int .i64 P.o, .bool P.cz, .bool P.rw, fv]⟩
  cb : CB h f p c b
  fv : below h.length fv = true
  pok : P.Ok
  rng : b.Rng
theorem DR.frz {h : Heap} {f : Bool} {q p c : Nat} {P : PP} {fv : Value} {b : BS} (hr : DR h f q p c P fv b) : DR (frz h) true q p c P fv b :=
  ⟨blk_frz hr.blk (by simp [hr.fv, blk?_lt hr.cb.blkp]), hr.cb.frz, by rw [len_frz]; exact hr.fv, hr.pok, hr.rng⟩
theorem DR.keep {h h' : Heap} {q p c : Nat} {P : PP} {fv : Value} {b : BS} (hr : DR h false q p c P fv b) (hk : ∀ id, id = q ∨ id = p ∨ id = c → blk? h' id = blk? h id) (hf : below h'.length fv = true) : DR h' false q p c P fv b :=
  ⟨by rw [hk q (.inl rfl)]; exact hr.blk, ⟨by rw [hk p (.inr (.inl rfl))]; exact hr.cb.blkp, by rw [hk c (.inr (.inr rfl))]; exact hr.cb.blkc, hr.cb.ok⟩, hf, hr.pok, hr.rng⟩
end Go.Proofs.Ytjpjohchdfoeaaa
namespace Go.Proofs.Ytjpjohchdfoeaaa
open Go Go.Sim
set_option linter.unusedSimpArgs false
set_option linter.unusedVariables false

/-- A pass in progress. -/
structure PD {c : Nat} {nv : Value} (A : Src c (callF nv)) (h : Heap) (q p pb nb : Nat) (P : PP) (t : A.T) (b : BS) (s : A.S) : Prop where
  dr : DR h false q p c P (.func (.func 76) #[] #[ptr pb, ptr nb]) b
  pbk : blk? h pb = some ⟨false, [ptr q]⟩
  nbk : blk? h nb = some ⟨false, [nv]⟩
  rel : A.rel h t s
  n1 : c ≠ q ∧ c ≠ pb ∧ c ≠ nb ∧ c ≠ p
  n3 : ¬ A.own t q ∧ ¬ A.own t p ∧ ¬ A.own t pb ∧ ¬ A.own t nb

section
variable {c : Nat} {nv : Value} {A : Src c (callF nv)} {h : Heap} {q p pb nb : Nat} {P : PP} {t : A.T} {b : BS} {s : A.S}

theorem PD.lts (he : PD A h q p pb nb P t b s) : q < h.length ∧ p < h.length ∧ c < h.length ∧ pb < h.length ∧ nb < h.length :=
  ⟨blk?_lt he.dr.blk, blk?_lt he.dr.cb.blkp, blk?_lt he.dr.cb.blkc, blk?_lt he.pbk, blk?_lt he.nbk⟩
theorem PD.good (he : PD A h q p pb nb P t b s) : b.Good := ⟨he.dr.cb.ok, he.dr.rng⟩
theorem PD.low (he : PD A h q p pb nb P t b s) {h' : Heap} (hk : ∀ id, id < h.length → blk? h' id = blk? h id) (hl : h.length ≤ h'.length) : PD A h' q p pb nb P t b s := by
  obtain ⟨l1, l2, l3, l4, l5⟩ := he.lts
  refine ⟨he.dr.keep (fun id hid => hk id ?_) (by simp; omega), by rw [hk _ l4]; exact he.pbk, by rw [hk _ l5]; exact he.nbk, A.stable he.rel hl (fun id h1 _ => hk id h1), he.n1, he.n3⟩
  rcases hid with rfl | rfl | rfl <;> assumption
theorem PD.push (he : PD A h q p pb nb P t b s) (x : Option Blk) : PD A (h ++ [x]) q p pb nb P t b s := he.low (fun id hid => blk?_push_lt hid) (by simp)
/-- The block is changed. -/
theorem PD.to (he : PD A h q p pb nb P t b s) {b' : BS} (hb : b.Le b') : PD A (h.set c (some ⟨false, encC b'.cs⟩)) q p pb nb P t b' s ∧ Stq h (h.set c (some ⟨false, encC b'.cs⟩)) c (A.own t) (A.own t) := by
  obtain ⟨l1, l2, l3, l4, l5⟩ := he.lts
  obtain ⟨m1, m2, m3, m4⟩ := he.n1
  refine ⟨⟨⟨?_, ?_, by have := he.dr.fv; simpa using this, he.dr.pok, hb.good.rng⟩, ?_, ?_, A.stable he.rel (by simp) (fun id _ hc => blk?_set_ne (Ne.symm hc)), he.n1, he.n3⟩, Stq.setc _ _ _ _⟩
  · rw [blk?_set_ne m1, hb.w, hb.h]; exact he.dr.blk
  · exact he.dr.cb.set hb.w hb.h hb.good.ok
  · rw [blk?_set_ne m2]; exact he.pbk
  · rw [blk?_set_ne m3]; exact he.nbk

/-- A question. -/
theorem ask_d (he : PD A h q p pb nb P t b s) (hn : A.size s < 1000000) (ctx : Int) :
    ∃ t' h', (∀ R, Ret tab 76 [.int .i64 ctx, ptr pb, ptr nb] h R = R (.int .i64 ((A.ask s (P.cx ctx)).1.toNat : Nat)) h') ∧ PD A h' q p pb nb P t' b (A.ask s (P.cx ctx)).2 ∧ Stq h h' c (A.own t) (A.own t') := by
  obtain ⟨l1, l2, l3, l4, l5⟩ := he.lts
  obtain ⟨n1, n2, n3, n4⟩ := he.n3
  obtain ⟨t', h', v, e, hv, hr, st⟩ := A.step he.rel hn (P.cx ctx)
  have hfr : ∀ id, id < h.length → ¬ A.own t id → ¬ A.own t' id := fun id hid hno ho => by
    rcases st.fresh id ho with k | k
    · exact hno k
    · omega
  refine ⟨t', h', fun R => ?_, ⟨he.dr.keep (fun id hid => ?_) (by have := st.len; simp; omega), by rw [st.same _ l4 n3]; exact he.pbk, by rw [st.same _ l5 n4]; exact he.nbk, hr, he.n1, hfr _ l1 n1, hfr _ l2 n2, hfr _ l4 n3, hfr _ l5 n4⟩, st.q c⟩
  · have hpb := he.pbk
    have hpq := he.dr.blk
    have hnb := he.nbk
    unfold callF at e
    rw [enter76, B76]
    generalize (A.ask s (P.cx ctx)).1 = bit at hv
    unfold PP.cx at e
    cases hrw : P.rw
    · rw [hrw] at e hpq
      simp only [Bool.false_eq_true, if_false] at e
      cases bit <;> simp [hpb, hpq, hnb, e, hv, fin76]
    · rw [hrw] at e hpq
      simp only [if_true] at e
      cases bit <;> simp [hpb, hpq, hnb, e, hv, fin76]
  · rcases hid with rfl | rfl | rfl
    · exact st.same _ l1 n1
    · exact st.same _ l2 n2
    · exact st.same _ l3 (A.c_own he.rel)

theorem shl1 {s : Nat} (hs : s ≤ 59) : shlI .i64 1 (s : Int) = pw s := by
  have h1 := pw_le hs
  have h2 := pw_pos s
  unfold shlI
  rw [Int.toNat_natCast, Nat.min_eq_left (by have : IntKind.i64.bits = 64 := rfl; omega), Int.one_mul]
  have e : ((2 : Int) ^ s) = pw s := by unfold pw; simp
  rw [e]
  exact wrapI (by omega) (by omega)
theorem xor00 : xorI .i64 0 0 = 0 := by decide
theorem xor01' : xorI .i64 0 1 = 1 := by decide
theorem xor10 : xorI .i64 1 0 = 1 := by decide
theorem xor11 : xorI .i64 1 1 = 0 := by decide

/-- The sign of a coefficient. -/
theorem sign_d (he : PD A h q p pb nb P t b s) (hn : A.size s < 1000000) {x y : Int} (hi : b.inb x y) :
    ∃ t' h', (∀ R, Ret tab 125 [ptr q, .int .i64 x, .int .i64 y] h R = R (.tuple #[]) h') ∧ PD A h' q p pb nb P t' ((dsign P b x y).run A.ask s).1 ((dsign P b x y).run A.ask s).2 ∧ Stq h h' c (A.own t) (A.own t') := by
  obtain ⟨t1, h1, e1, p1, s1⟩ := ask_d he hn (signCtx (sgH b x y) (sgV b x y P.cz))
  rw [dsign, Tr.run_ask, Tr.run_ret]
  generalize hbit : (A.ask s (P.cx (signCtx (sgH b x y) (sgV b x y P.cz)))).1 = bit at *
  generalize (A.ask s (P.cx (signCtx (sgH b x y) (sgV b x y P.cz)))).2 = s' at *
  have hg := he.good
  have hdv := dval_rng he.dr.pok b x y bit
  have g1 := good_putV hg hi hdv
  obtain ⟨p2, s2⟩ := p1.to g1
  have g2 := good_map g1.good (g1.inb hi) kv_mark
  obtain ⟨p3, s3⟩ := p2.to g2
  refine ⟨t1, _, fun R => ?_, p3, (s1.trans s2).trans s3⟩
  have hq := he.dr.blk
  have hq1 := p1.dr.blk
  have hq2 := p2.dr.blk
  have hsc := fun R => set_c (R := R) p1.dr.cb (x := x) (y := y) hi hdv
  have hm := fun R => mark_c (R := R) p2.dr.cb (x := x) (y := y) (g1.inb hi)
  have hc := fun R => ctxSign_c (h := h) (R := R) (joint_range (sgn b (x - 1) y) (sgn b (x + 1) y)) (joint_range (sgn b x (y - 1)) (if (!P.cz || y % 4 != 3) = true then sgn b x (y + 1) else 0))
  change ∀ R, Ret tab _ [.int .i64 (sgH b x y), .int .i64 (sgV b x y P.cz)] h R = R (.tuple #[.int .i64 (signCtx (sgH b x y) (sgV b x y P.cz)), .int .i64 (signFlip (sgH b x y) (sgV b x y P.cz))]) h at hc
  have hs := fun R => signs_c (R := R) he.dr.cb hi P.cz
  have hmm : (fun z : Cell => ({ z with s := true } : Cell)) = mark := rfl
  have hvv : (fun z : Cell => ({ z with v := dval P b x y bit } : Cell)) = putV (dval P b x y bit) := rfl
  rw [hmm] at hm
  rw [hvv] at hsc
  have hsh := shl1 he.dr.pok.s1
  have hwu : IntKind.u64.wrap (P.s : Int) = (P.s : Int) := wrapU (by have := he.dr.pok.s1; omega)
  have hs0 : ¬ (P.s : Int) < 0 := by omega
  have hpw := pw_le he.dr.pok.s1
  have hpp := pw_pos P.s
  have hneg : IntKind.i64.wrap (0 - pw P.s) = -pw P.s := by rw [wrapI (by omega) (by omega)]; omega
  have hneg2 : IntKind.i64.wrap (-pw P.s) = -pw P.s := wrapI (by omega) (by omega)
  have hfl := signFlip_le (sgH b x y) (sgV b x y P.cz)
  have hdd : dval P b x y bit = if (bit != (!P.rw && signFlip (sgH b x y) (sgV b x y P.cz) == 1)) = true then -pw P.s else pw P.s := rfl
  rw [enter125, B125]
  generalize dval P b x y bit = dv at *
  generalize sgH b x y = H at *
  generalize sgV b x y P.cz = V at *
  generalize pw P.s = pp at *
  have hf' : signFlip H V = 0 ∨ signFlip H V = 1 := by omega
  cases hrw : P.rw
  · rw [hrw] at hq hdd
    rcases hf' with hf | hf
    · rw [hf] at hc hdd
      cases bit
      · simp at hdd e1 hc
        subst hdd
        simp [hq, hq1, hq2, hs, hc, hwu, hs0, hsh, e1, xor00, xor01', xor10, xor11, hsc, hm, fin125]
      · simp at hdd e1 hc
        subst hdd
        simp [hq, hq1, hq2, hs, hc, hwu, hs0, hsh, e1, xor00, xor01', xor10, xor11, hneg, hneg2, hsc, hm, fin125]
    · rw [hf] at hc hdd
      cases bit
      · simp at hdd e1 hc
        subst hdd
        simp [hq, hq1, hq2, hs, hc, hwu, hs0, hsh, e1, xor00, xor01', xor10, xor11, hneg, hneg2, hsc, hm, fin125]
      · simp at hdd e1 hc
        subst hdd
        simp [hq, hq1, hq2, hs, hc, hwu, hs0, hsh, e1, xor00, xor01', xor10, xor11, hneg, hneg2, hsc, hm, fin125]
  · rw [hrw] at hq hdd
    cases bit
    · simp at hdd e1 hc
      subst hdd
      simp [hq, hq1, hq2, hs, hc, hwu, hs0, hsh, e1, xor00, xor01', xor10, xor11, hneg, hneg2, hsc, hm, fin125]
    · simp at hdd e1 hc
      subst hdd
      simp [hq, hq1, hq2, hs, hc, hwu, hs0, hsh, e1, xor00, xor01', xor10, xor11, hneg, hneg2, hsc, hm, fin125]

/-- The bit of a coefficient, and its sign. -/
theorem code_d (he : PD A h q p pb nb P t b s) (hn : A.size s + 2 < 1000000) {x y : Int} (hi : b.inb x y) :
    ∃ t' h', (∀ R, Ret tab 121 [ptr q, .int .i64 x, .int .i64 y] h R = R (.tuple #[]) h') ∧ PD A h' q p pb nb P t' ((dcode P b x y).run A.ask s).1 ((dcode P b x y).run A.ask s).2 ∧ Stq h h' c (A.own t) (A.own t') := by
  obtain ⟨t1, h1, e1, p1, s1⟩ := ask_d he (by omega) (ctxOf P b x y)
  have hsz := A.size_ask s (P.cx (ctxOf P b x y))
  rw [dcode, Tr.run_ask]
  generalize (A.ask s (P.cx (ctxOf P b x y))).1 = bit at *
  generalize (A.ask s (P.cx (ctxOf P b x y))).2 = s' at *
  have hq := he.dr.blk
  have hq1 := p1.dr.blk
  obtain ⟨n1, n2, n3⟩ := nb_le b x y P.cz
  have hnb := fun R => neighbors_c (R := R) he.dr.cb hi P.cz
  have hsg := fun R => significance_c (h := h) (R := R) he.dr.pok.o1 n1 n2 n3
  change ∀ R, Ret tab _ _ h R = R (.int .i64 (ctxOf P b x y)) h at hsg
  cases bit
  · refine ⟨t1, h1, fun R => ?_, p1, s1⟩
    simp at e1
    rw [enter121, B121]
    simp [hq, hq1, hnb, hsg, e1, fin121, book, logOf, addLog, chk1, lookL, reload]
  · obtain ⟨t2, h2, e2, p2, s2⟩ := sign_d p1 (by omega) hi
    refine ⟨t2, h2, fun R => ?_, p2, s1.trans s2⟩
    simp at e1
    rw [enter121, B121]
    simp [hq, hq1, hnb, hsg, e1, e2, fin121, book, logOf, addLog, chk1, lookL, reload]
end

section
variable {h : Heap} {f : Bool} {q p c : Nat} {P : PP} {fv : Value} {b : BS} {x y : Int} {R : Value → Heap → Prop}
theorem neighbors_d (hr : DR h f q p c P fv b) (hi : b.inb x y) : Ret tab 120 [ptr q, .int .i64 x, .int .i64 y] h R = R (.bool (near b x y P.cz)) h := by
  have hq := hr.frz.blk
  have hlq := blk?_lt hr.blk
  obtain ⟨n1, n2, n3⟩ := nb_le b x y P.cz
  have s1 : IntKind.i64.wrap ((nbH b x y : Int) + (nbV b x y P.cz : Int)) = ((nbH b x y + nbV b x y P.cz : Nat) : Int) := wrapNN (by omega)
  have s2 : IntKind.i64.wrap (((nbH b x y + nbV b x y P.cz : Nat) : Int) + (nbD b x y P.cz : Int)) = ((nbH b x y + nbV b x y P.cz + nbD b x y P.cz : Nat) : Int) := wrapNN (by omega)
  have s3 : decide ((0 : Int) < ((nbH b x y + nbV b x y P.cz + nbD b x y P.cz : Nat) : Int)) = near b x y P.cz := by
    rw [near_eq]; congr 1; exact propext Int.natCast_pos
  rw [enter120, B120]
  generalize hn : near b x y P.cz = nn at *
  simp [-Int.natCast_add, -Int.natCast_pos, hq, hlq, neighbors_c hr.frz.cb hi, s1, s2, s3, fin120]

theorem dquiet_loop (hr : DR h true q p c P fv b) {x : Int} (hx : 0 ≤ x ∧ x < b.w) {top : Int} (ht : 0 ≤ top ∧ top + 4 ≤ b.h) {k : List RItem} {R : Value → Heap → Prop} {v6 : Value}
    (hk : ∀ t3 t4 t5 t7 t8 t9 t10 t11 t12 t13 t14 t15 t16 t17 t18 t19 t20 t21 t22 t23 t24 t25 t26 t27 t28 t29 t30 t31 t32 t33 t34 t35 t36 t37 t38 t39 t40 t41 t42 t43 : Value, Ok tab R124 k #[ptr q, .int .i64 x, .int .i64 top, t3, t4, t5, v6, t7, t8, t9, t10, t11, t12, t13, t14, t15, t16, t17, t18, t19, t20, t21, t22, t23, t24, t25, t26, t27, t28, t29, t30, t31, t32, t33, t34, t35, t36, t37, t38, t39, t40, t41, t42, t43] h R = R (.bool true) h) :
    ∀ (n : Nat) (y : Int) (t3 t4 t5 t8 t9 t10 t11 t12 t13 t14 t15 t16 t17 t18 t19 t20 t21 t22 t23 t24 t25 t26 t27 t28 t29 t30 t31 t32 t33 t34 t35 t36 t37 t38 t39 t40 t41 t42 t43 : Value), y + n = top + 4 → top ≤ y →
      Ok tab R124 (.inLoop L124_0 :: .inBlock 0 :: k) #[ptr q, .int .i64 x, .int .i64 top, t3, t4, t5, v6, .int .i64 y, t8, t9, t10, t11, t12, t13, t14, t15, t16, t17, t18, t19, t20, t21, t22, t23, t24, t25, t26, t27, t28, t29, t30, t31, t32, t33, t34, t35, t36, t37, t38, t39, t40, t41, t42, t43] h R = R (.bool (quietFrom b x y P.cz n)) h := by
  intro n
  induction n with
  | zero =>
    intro y t3 t4 t5 t8 t9 t10 t11 t12 t13 t14 t15 t16 t17 t18 t19 t20 t21 t22 t23 t24 t25 t26 t27 t28 t29 t30 t31 t32 t33 t34 t35 t36 t37 t38 t39 t40 t41 t42 t43 hy hty
    have hw : IntKind.i64.wrap (top + 4) = top + 4 := wrapI (by have := hr.cb.ok.h2; omega) (by have := hr.cb.ok.h2; omega)
    have hlt : ¬ y < top + 4 := by omega
    rw [ok_round, l124_0, L124_0a, L124_0b]
    simp [hw, hlt, hk, quietFrom]
  | succ n ih =>
    intro y t3 t4 t5 t8 t9 t10 t11 t12 t13 t14 t15 t16 t17 t18 t19 t20 t21 t22 t23 t24 t25 t26 t27 t28 t29 t30 t31 t32 t33 t34 t35 t36 t37 t38 t39 t40 t41 t42 t43 hy hty
    have hb2 := hr.cb.ok.h2
    have hw : IntKind.i64.wrap (top + 4) = top + 4 := wrapI (by omega) (by omega)
    have hw1 : IntKind.i64.wrap (y + 1) = y + 1 := wrapI (by omega) (by omega)
    have hlt : y < top + 4 := by omega
    have hi : b.inb x y := ⟨hx.1, hx.2, by omega, by omega⟩
    have hq := hr.blk
    have ih' := fun t3 t4 t5 t8 t9 t10 t11 t12 t13 t14 t15 t16 t17 t18 t19 t20 t21 t22 t23 t24 t25 t26 t27 t28 t29 t30 t31 t32 t33 t34 t35 t36 t37 t38 t39 t40 t41 t42 t43 => ih (y + 1) t3 t4 t5 t8 t9 t10 t11 t12 t13 t14 t15 t16 t17 t18 t19 t20 t21 t22 t23 t24 t25 t26 t27 t28 t29 t30 t31 t32 t33 t34 t35 t36 t37 t38 t39 t40 t41 t42 t43 (by omega) (by omega)
    rw [ok_round, l124_0, L124_0a, L124_0b]
    cases hs : (b.get x y).s
    · cases ht : (b.get x y).t
      · cases hn : near b x y P.cz
        · simp [k_guard, hw, hw1, hlt, hq, significant_c hr.cb, touched_c hr.cb, neighbors_d hr hi, hs, ht, hn, ih', quietFrom, still]
        · simp [k_guard, hw, hw1, hlt, hq, significant_c hr.cb, touched_c hr.cb, neighbors_d hr hi, hs, ht, hn, quietFrom, still, fin124]
      · simp [k_guard, k_guardU, hw, hw1, hlt, hq, significant_c hr.cb, touched_c hr.cb, hs, ht, quietFrom, still, fin124]
    · simp [k_guard, k_guardU, hw, hw1, hlt, hq, significant_c hr.cb, hs, quietFrom, still, fin124]

theorem quiet_d (hr : DR h f q p c P fv b) {x top : Int} (hx : 0 ≤ x ∧ x < b.w) (ht : 0 ≤ top ∧ top < b.h) : Ret tab 124 [ptr q, .int .i64 x, .int .i64 top] h R = R (.bool (quiet b x top P.cz)) h := by
  have hq := hr.frz.blk
  have hlq := blk?_lt hr.blk
  have hb2 := hr.cb.ok.h2
  have hw : IntKind.i64.wrap (top + 4) = top + 4 := wrapI (by omega) (by omega)
  rw [enter124, B124]
  by_cases h4 : top + 4 ≤ b.h
  · have h4' : ¬ (b.h : Int) < top + 4 := by omega
    have := fun t3 t4 t5 t8 t9 t10 t11 t12 t13 t14 t15 t16 t17 t18 t19 t20 t21 t22 t23 t24 t25 t26 t27 t28 t29 t30 t31 t32 t33 t34 t35 t36 t37 t38 t39 t40 t41 t42 t43 v6 R hk => dquiet_loop (R := R) (v6 := v6) hr.frz hx ⟨ht.1, h4⟩ (k := [.code ((RCode.region [⟨some 6, .mov (.const (.bool true)), none⟩] []).seq .ret)]) hk 4 top t3 t4 t5 t8 t9 t10 t11 t12 t13 t14 t15 t16 t17 t18 t19 t20 t21 t22 t23 t24 t25 t26 t27 t28 t29 t30 t31 t32 t33 t34 t35 t36 t37 t38 t39 t40 t41 t42 t43 (by omega) (by omega)
    simp [hq, hlq, hw, h4']
    rw [this]
    · simp [quiet, h4]
    · intro t3 t4 t5 t7 t8 t9 t10 t11 t12 t13 t14 t15 t16 t17 t18 t19 t20 t21 t22 t23 t24 t25 t26 t27 t28 t29 t30 t31 t32 t33 t34 t35 t36 t37 t38 t39 t40 t41 t42 t43
      simp [fin124]
  · have h4' : (b.h : Int) < top + 4 := by omega
    simp [hq, hlq, hw, h4', quiet, h4, fin124]
end

section
variable {c : Nat} {nv : Value} {A : Src c (callF nv)} {h : Heap} {q p pb nb : Nat} {P : PP} {t : A.T} {b : BS} {s : A.S}
/-- The value of a coefficient grows. -/
theorem grow_d (he : PD A h q p pb nb P t b s) {x y : Int} (hi : b.inb x y) :
    ∃ h', (∀ R, Ret tab 123 [ptr q, .int .i64 x, .int .i64 y] h R = R (.tuple #[]) h') ∧ PD A h' q p pb nb P t (grow P.s b x y) s ∧ Stq h h' c (A.own t) (A.own t) ∧ ∀ id, id < h.length → id ≠ c → blk? h' id = blk? h id := by
  have hg := he.good
  obtain ⟨r1, r2⟩ := he.dr.rng x y
  have hq := he.dr.blk
  have hsh := shl1 he.dr.pok.s1
  have hwu : IntKind.u64.wrap (P.s : Int) = (P.s : Int) := wrapU (by have := he.dr.pok.s1; omega)
  have hs0 : ¬ (P.s : Int) < 0 := by omega
  have hpw := pw_le he.dr.pok.s1
  have hpp := pw_pos P.s
  have hneg : IntKind.i64.wrap (0 - pw P.s) = -pw P.s := by rw [wrapI (by omega) (by omega)]; omega
  have hneg2 : IntKind.i64.wrap (-pw P.s) = -pw P.s := wrapI (by omega) (by omega)
  have hv := fun R => value_c (R := R) (x := x) (y := y) he.dr.cb
  have hgv : growV P.s (b.get x y).v = (b.get x y).v + if (b.get x y).v < 0 then -pw P.s else pw P.s := rfl
  have hvv : ∀ v, (fun z : Cell => ({ z with v := v } : Cell)) = putV v := fun v => rfl
  unfold grow
  by_cases hin : -1152921504606846976 < growV P.s (b.get x y).v ∧ growV P.s (b.get x y).v < 1152921504606846976
  · rw [if_pos hin]
    have g1 := good_putV hg hi hin
    obtain ⟨p2, s2⟩ := he.to g1
    refine ⟨_, fun R => ?_, p2, s2, fun id _ hc => blk?_set_ne (Ne.symm hc)⟩
    have hsc := fun R => set_c (R := R) he.dr.cb (x := x) (y := y) hi hin
    rw [hvv] at hsc
    generalize hG : growV P.s (b.get x y).v = G at *
    rw [enter123, B123]
    by_cases hlt : (b.get x y).v < 0
    · rw [if_pos hlt] at hgv
      have hw : IntKind.i64.wrap ((b.get x y).v + -pw P.s) = G := by rw [wrapI (by omega) (by omega)]; omega
      generalize (b.get x y).v = v at *
      generalize pw P.s = pp at *
      simp [k_guard, hq, hv, hwu, hs0, hsh, hlt, hneg, hneg2, hw, hin.1, hin.2, hsc, fin123, book, logOf, addLog, chk1, lookL, reload]
    · rw [if_neg hlt] at hgv
      have hw : IntKind.i64.wrap ((b.get x y).v + pw P.s) = G := by rw [wrapI (by omega) (by omega)]; omega
      generalize (b.get x y).v = v at *
      generalize pw P.s = pp at *
      simp [k_guard, hq, hv, hwu, hs0, hsh, hlt, hneg, hneg2, hw, hin.1, hin.2, hsc, fin123, book, logOf, addLog, chk1, lookL, reload]
  · rw [if_neg hin]
    refine ⟨h, fun R => ?_, he, Stq.refl _ _ _, fun _ _ _ => rfl⟩
    generalize hG : growV P.s (b.get x y).v = G at *
    rw [enter123, B123]
    by_cases hlt : (b.get x y).v < 0
    · rw [if_pos hlt] at hgv
      have hw : IntKind.i64.wrap ((b.get x y).v + -pw P.s) = G := by rw [wrapI (by omega) (by omega)]; omega
      generalize (b.get x y).v = v at *
      generalize pw P.s = pp at *
      by_cases h1 : -1152921504606846976 < G
      · have h2 : ¬ G < 1152921504606846976 := fun e => hin ⟨h1, e⟩
        simp [k_guard, hq, hv, hwu, hs0, hsh, hlt, hneg, hneg2, hw, h1, h2, fin123, book, logOf, addLog, chk1, lookL, reload]
      · simp [k_guard, k_guardU, hq, hv, hwu, hs0, hsh, hlt, hneg, hneg2, hw, h1, fin123, book, logOf, addLog, chk1, lookL, reload]
    · rw [if_neg hlt] at hgv
      have hw : IntKind.i64.wrap ((b.get x y).v + pw P.s) = G := by rw [wrapI (by omega) (by omega)]; omega
      generalize (b.get x y).v = v at *
      generalize pw P.s = pp at *
      by_cases h1 : -1152921504606846976 < G
      · have h2 : ¬ G < 1152921504606846976 := fun e => hin ⟨h1, e⟩
        simp [k_guard, hq, hv, hwu, hs0, hsh, hlt, hneg, hneg2, hw, h1, h2, fin123, book, logOf, addLog, chk1, lookL, reload]
      · simp [k_guard, k_guardU, hq, hv, hwu, hs0, hsh, hlt, hneg, hneg2, hw, h1, fin123, book, logOf, addLog, chk1, lookL, reload]
end
end Go.Proofs.Ytjpjohchdfoeaaa
namespace Go.Proofs.Ytjpjohchdfoeaaa
open Go Go.Sim
set_option linter.unusedSimpArgs false
set_option linter.unusedVariables false

/-- A row of points beside a pass. -/
structure Fad (h : Heap) (s : Value) (l : List (Int × Int)) (c : Nat) (O : Nat → Prop) : Prop where
  sl : Sl h 2 s l.length (encP l)
  far : ∀ id, sid s = some id → id < h.length ∧ id ≠ c ∧ ¬ O id
theorem Fad.stq {h h' : Heap} {s : Value} {l : List (Int × Int)} {c : Nat} {O O' : Nat → Prop} (hf : Fad h s l c O) (hs : Stq h h' c O O') : Fad h' s l c O' := by
  refine ⟨hf.sl.of_sid fun id b hid hb => ?_, fun id hid => ?_⟩
  · obtain ⟨a1, a2, a3⟩ := hf.far id hid
    rw [hs.same id a1 a2 a3]; exact hb
  · obtain ⟨a1, a2, a3⟩ := hf.far id hid
    refine ⟨Nat.lt_of_lt_of_le a1 hs.len, a2, fun e => ?_⟩
    rcases hs.fresh id e with h | h
    · exact a3 h
    · omega
theorem Fad.get {h : Heap} {s : Value} {l : List (Int × Int)} {c : Nat} {O : Nat → Prop} (hf : Fad h s l c O) {i : Nat} (hi : i < l.length) :
    ∃ id off b, s = .slice (some ⟨id, off, none⟩) l.length 2 ∧ blk? h id = some b ∧ (b.cells.drop (off + i * 2)).take 2 = [.int .i64 l[i].1, .int .i64 l[i].2] ∧ off + i * 2 + 2 ≤ b.cells.length := by
  obtain ⟨id, off, b, rfl, hb, hc⟩ := hf.sl.get hi
  obtain ⟨g0, g1⟩ := encP_get l i hi
  have c0 := hc 0 (by omega)
  have c1 := hc 1 (by omega)
  rw [Nat.add_zero, Nat.add_zero, g0] at c0
  rw [g1] at c1
  obtain ⟨ht, hle⟩ := two c0 c1
  exact ⟨id, off, b, rfl, hb, ht, hle⟩

section
variable {c : Nat} {nv : Value} {A : Src c (callF nv)} {h : Heap} {q p pb nb : Nat} {P : PP} {t : A.T} {b : BS} {s : A.S}

/-- The points of a block, made. -/
theorem PD.scan (he : PD A h q p pb nb P t b s) : ∃ sl h', (∀ R, Ret tab 119 [.int .i64 b.w, .int .i64 b.h] h R = R sl h') ∧ PD A h' q p pb nb P t b s ∧ Stq h h' c (A.own t) (A.own t) ∧ Fad h' sl (scan b.w b.h) c (A.own t) := by
  have ho := he.dr.cb.ok
  obtain ⟨l1, l2, l3, l4, l5⟩ := he.lts
  obtain ⟨s1, h', e, m⟩ := scan_c ho.w1 ho.w2 ho.h1 ho.h2 h
  refine ⟨s1, h', e, he.low m.low m.len, Stq.low m.low m.len c _, ⟨m.own.sl, fun id hid => ?_⟩⟩
  have h1 := m.far id hid
  refine ⟨?_, by omega, fun e => by have := A.lt he.rel id e; omega⟩
  rcases m.own.2 with ⟨rfl, _⟩ | ⟨id', rfl, hb⟩
  · simp [sid] at hid
  · simp [sid] at hid; subst hid; exact blk?_lt hb

theorem dsig_loop {sl : Value} {pts : List (Int × Int)} {k : List RItem} {R : Value → Heap → Prop} :
    ∀ (m i : Nat) (h : Heap) (t : A.T) (b : BS) (s : A.S) (t1 t2 t3 t4 t5 t6 t7 t8 t9 t10 t11 t15 t16 t17 t18 t19 t20 t21 t22 t23 t24 t25 t26 t27 t28 t29 t30 t31 t32 t33 t34 t35 t36 t37 t38 t39 t40 t41 t42 t43 t44 t45 t46 t47 t48 t49 t50 t51 : Value), m = pts.length - i → i ≤ pts.length → PD A h q p pb nb P t b s → Fad h sl pts c (A.own t) → AllIn b pts → A.size s + 2 * m + 3 < 1000000 → pts.length < 1000000 →
      (∀ (h' : Heap) (t' : A.T) (t1 t2 t3 t4 t5 t6 t7 t8 t9 t10 t11 t12 t13 t14 t15 t16 t17 t18 t19 t20 t21 t22 t23 t24 t25 t26 t27 t28 t29 t30 t31 t32 t33 t34 t35 t36 t37 t38 t39 t40 t41 t42 t43 t44 t45 t46 t47 t48 t49 t50 t51 : Value), PD A h' q p pb nb P t' ((dsigs P b (pts.drop i)).run A.ask s).1 ((dsigs P b (pts.drop i)).run A.ask s).2 → Stq h h' c (A.own t) (A.own t') → Ok tab R77 k #[ptr q, t1, t2, t3, t4, t5, t6, t7, t8, t9, t10, t11, t12, t13, t14, t15, t16, t17, t18, t19, t20, t21, t22, t23, t24, t25, t26, t27, t28, t29, t30, t31, t32, t33, t34, t35, t36, t37, t38, t39, t40, t41, t42, t43, t44, t45, t46, t47, t48, t49, t50, t51] h' R) →
      Ok tab R77 (.inLoop L77_0 :: .inBlock 0 :: k) #[ptr q, t1, t2, t3, t4, t5, t6, t7, t8, t9, t10, t11, sl, .int .i64 pts.length, .int .i64 i, t15, t16, t17, t18, t19, t20, t21, t22, t23, t24, t25, t26, t27, t28, t29, t30, t31, t32, t33, t34, t35, t36, t37, t38, t39, t40, t41, t42, t43, t44, t45, t46, t47, t48, t49, t50, t51] h R := by
  intro m
  induction m with
  | zero =>
    intro i h t b s t1 t2 t3 t4 t5 t6 t7 t8 t9 t10 t11 t15 t16 t17 t18 t19 t20 t21 t22 t23 t24 t25 t26 t27 t28 t29 t30 t31 t32 t33 t34 t35 t36 t37 t38 t39 t40 t41 t42 t43 t44 t45 t46 t47 t48 t49 t50 t51 hm hi he hf ha hl hpl hk
    have hlt : ¬ ((i : Int) < pts.length) := by omega
    rw [ok_round, l77_0, L77_0a, L77_0b]
    simp [hlt]
    refine hk h t _ _ _ _ _ _ _ _ _ _ _ _ _ _ _ _ _ _ _ _ _ _ _ _ _ _ _ _ _ _ _ _ _ _ _ _ _ _ _ _ _ _ _ _ _ _ _ _ _ _ _ ?_ (Stq.refl _ _ _)
    rw [List.drop_of_length_le (by omega)]; exact he
  | succ m ih =>
    intro i h t b s t1 t2 t3 t4 t5 t6 t7 t8 t9 t10 t11 t15 t16 t17 t18 t19 t20 t21 t22 t23 t24 t25 t26 t27 t28 t29 t30 t31 t32 t33 t34 t35 t36 t37 t38 t39 t40 t41 t42 t43 t44 t45 t46 t47 t48 t49 t50 t51 hm hi he hf ha hl hpl hk
    have hlt : ((i : Int) < pts.length) := by omega
    have hw : IntKind.i64.wrap ((i : Int) + 1) = (i : Int) + 1 := wrapN (n := i + 1) (by omega)
    have hil : i < pts.length := by omega
    obtain ⟨id, off, blk, hs, hb, ht, hle⟩ := hf.get hil
    have hin := ha _ (List.getElem_mem hil)
    have hsp : dsigs P b (pts.drop i) = (dsig1 P b pts[i].1 pts[i].2).bind fun b => dsigs P b (pts.drop (i + 1)) := by
      rw [List.drop_eq_getElem_cons hil]; rfl
    have hlv := lv_dsig1 he.dr.pok he.good hin
    obtain ⟨hle1, hsz1⟩ := Tr.Lv.out (A := A.ask) (size := A.size) A.size_ask s hlv
    generalize hx : pts[i].1 = x at *
    generalize hy : pts[i].2 = y at *
    rw [hsp] at hk
    simp only [Tr.run_bind] at hk
    have he2 := he.push (some ⟨false, [.int .i64 x, .int .i64 y]⟩)
    have hs2 := Stq.push h (some ⟨false, [.int .i64 x, .int .i64 y]⟩) c (A.own t)
    have hf2 := hf.stq hs2
    have hK : ∀ y : Blk, blk? (h ++ [some y]) h.length = some y := fun y => blk?_push_eq
    obtain ⟨l1, l2, l3, l4, l5⟩ := he.lts
    have hq2 := he2.dr.blk
    have hcb2 := he2.dr.cb
    have hsig := fun R => significant_c (R := R) (x := x) (y := y) hcb2
    have hnb := fun R => neighbors_d (R := R) (x := x) (y := y) he2.dr hin
    -- nothing is asked
    have hskip : dsig1 P b x y = .ret b → ∀ t1 t2 t3 t4 t5 t6 t7 t8 t9 t10 t11 t15 t16 t17 t18 t19 t20 t21 t22 t23 t24 t25 t26 t27 t28 t29 t30 t31 t32 t33 t34 t35 t36 t37 t38 t39 t40 t41 t42 t43 t44 t45 t46 t47 t48 t49 t50 t51 : Value, Ok tab R77 (.inLoop L77_0 :: .inBlock 0 :: k) #[ptr q, t1, t2, t3, t4, t5, t6, t7, t8, t9, t10, t11, sl, .int .i64 pts.length, .int .i64 ((i : Int) + 1), t15, t16, t17, t18, t19, t20, t21, t22, t23, t24, t25, t26, t27, t28, t29, t30, t31, t32, t33, t34, t35, t36, t37, t38, t39, t40, t41, t42, t43, t44, t45, t46, t47, t48, t49, t50, t51] (h ++ [some ⟨false, [.int .i64 x, .int .i64 y]⟩]) R := by
      intro h1 t1 t2 t3 t4 t5 t6 t7 t8 t9 t10 t11 t15 t16 t17 t18 t19 t20 t21 t22 t23 t24 t25 t26 t27 t28 t29 t30 t31 t32 t33 t34 t35 t36 t37 t38 t39 t40 t41 t42 t43 t44 t45 t46 t47 t48 t49 t50 t51
      rw [h1] at hk
      refine ih (i + 1) _ t b s _ _ _ _ _ _ _ _ _ _ _ _ _ _ _ _ _ _ _ _ _ _ _ _ _ _ _ _ _ _ _ _ _ _ _ _ _ _ _ _ _ _ _ _ _ _ _ _ (by omega) (by omega) he2 hf2 ha (by omega) hpl ?_
      intro h' t' t1 t2 t3 t4 t5 t6 t7 t8 t9 t10 t11 t12 t13 t14 t15 t16 t17 t18 t19 t20 t21 t22 t23 t24 t25 t26 t27 t28 t29 t30 t31 t32 t33 t34 t35 t36 t37 t38 t39 t40 t41 t42 t43 t44 t45 t46 t47 t48 t49 t50 t51 pe st
      exact hk h' t' _ _ _ _ _ _ _ _ _ _ _ _ _ _ _ _ _ _ _ _ _ _ _ _ _ _ _ _ _ _ _ _ _ _ _ _ _ _ _ _ _ _ _ _ _ _ _ _ _ _ _ pe (hs2.trans st)
    rw [ok_round, l77_0, L77_0a, L77_0b]
    cases hsg : (b.get x y).s
    · cases hnr : near b x y P.cz
      · have h1 : dsig1 P b x y = .ret b := by unfold dsig1; rw [if_neg (by simp [hnr])]
        rw [hsg] at hsig; rw [hnr] at hnb
        simp [-List.cons_append, -List.append_assoc, k_guard, hlt, hw, hs, hb, ht, hle, hK, hq2, hsig, hnb]
        rw [← hs]
        exact hskip h1 _ _ _ _ _ _ _ _ _ _ _ _ _ _ _ _ _ _ _ _ _ _ _ _ _ _ _ _ _ _ _ _ _ _ _ _ _ _ _ _ _ _ _ _ _ _ _ _
      · obtain ⟨t3, h3, e3, p3, s3⟩ := code_d he2 (by omega) hin
        obtain ⟨hc1, hc2⟩ := Tr.Lv.out (A := A.ask) (size := A.size) A.size_ask s (lv_dcode he.dr.pok he.good hin)
        have h1 : dsig1 P b x y = (dcode P b x y).bind fun b => .ret (b.upd x y (touch true)) := by unfold dsig1; rw [if_pos ⟨hsg, hnr⟩]
        rw [h1] at hk hle1 hsz1
        simp only [Tr.run_bind, Tr.run_ret] at hk hle1 hsz1
        generalize ((dcode P b x y).run A.ask s).1 = b3 at *
        generalize ((dcode P b x y).run A.ask s).2 = s3' at *
        have hq3 := p3.dr.blk
        have hv3 : blk? h3 h.length = some ⟨false, [.int .i64 x, .int .i64 y]⟩ := by
          rw [s3.same h.length (by simp) (by omega) (fun e => by have := A.lt he.rel _ e; omega)]; exact blk?_push_eq
        have htc := fun R => touch_c (R := R) (v := true) p3.dr.cb (x := x) (y := y) (hc1.inb hin)
        obtain ⟨p4, s4⟩ := p3.to (good_map hc1.good (hc1.inb hin) (kv_touch true))
        have hmm : (fun z : Cell => ({ z with t := true } : Cell)) = touch true := rfl
        rw [hmm] at htc
        rw [hsg] at hsig; rw [hnr] at hnb
        simp [-List.cons_append, -List.append_assoc, k_guard, hlt, hw, hs, hb, ht, hle, hK, hq2, hsig, hnb, e3, hq3, hv3, htc]
        rw [← hs]
        have st4 := (hs2.trans s3).trans s4
        refine ih (i + 1) _ t3 _ _ _ _ _ _ _ _ _ _ _ _ _ _ _ _ _ _ _ _ _ _ _ _ _ _ _ _ _ _ _ _ _ _ _ _ _ _ _ _ _ _ _ _ _ _ _ _ _ _ (by omega) (by omega) p4 (hf.stq st4) (hle1.all ha) (by omega) hpl ?_
        intro h' t' t1 t2 t3 t4 t5 t6 t7 t8 t9 t10 t11 t12 t13 t14 t15 t16 t17 t18 t19 t20 t21 t22 t23 t24 t25 t26 t27 t28 t29 t30 t31 t32 t33 t34 t35 t36 t37 t38 t39 t40 t41 t42 t43 t44 t45 t46 t47 t48 t49 t50 t51 pe st
        exact hk h' t' _ _ _ _ _ _ _ _ _ _ _ _ _ _ _ _ _ _ _ _ _ _ _ _ _ _ _ _ _ _ _ _ _ _ _ _ _ _ _ _ _ _ _ _ _ _ _ _ _ _ _ pe (st4.trans st)
    · have h1 : dsig1 P b x y = .ret b := by unfold dsig1; rw [if_neg (by simp [hsg])]
      rw [hsg] at hsig
      simp [-List.cons_append, -List.append_assoc, k_guard, hlt, hw, hs, hb, ht, hle, hK, hq2, hsig]
      rw [← hs]
      exact hskip h1 _ _ _ _ _ _ _ _ _ _ _ _ _ _ _ _ _ _ _ _ _ _ _ _ _ _ _ _ _ _ _ _ _ _ _ _ _ _ _ _ _ _ _ _ _ _ _ _

theorem significance_d (he : PD A h q p pb nb P t b s) (hl : A.size s + 100000 < 1000000) :
    ∃ t' h', (∀ R, Ret tab 77 [ptr q] h R = R (.tuple #[]) h') ∧ PD A h' q p pb nb P t' ((dsigs P b (scan b.w b.h)).run A.ask s).1 ((dsigs P b (scan b.w b.h)).run A.ask s).2 ∧ Stq h h' c (A.own t) (A.own t') := by
  have key : Ret tab 77 [ptr q] h fun v h' => v = .tuple #[] ∧ ∃ t', PD A h' q p pb nb P t' ((dsigs P b (scan b.w b.h)).run A.ask s).1 ((dsigs P b (scan b.w b.h)).run A.ask s).2 ∧ Stq h h' c (A.own t) (A.own t') := by
    obtain ⟨sl, h1, e1, p1, s1, f1⟩ := he.scan
    obtain ⟨a, cc, hs⟩ := f1.sl.shape
    have hsl := scan_len he.dr.cb.ok.w2 he.dr.cb.ok.h2
    have hq := he.dr.blk
    rw [enter77, B77]
    simp [hq, e1, hs]
    rw [← hs]
    refine dsig_loop _ 0 h1 t b s _ _ _ _ _ _ _ _ _ _ _ _ _ _ _ _ _ _ _ _ _ _ _ _ _ _ _ _ _ _ _ _ _ _ _ _ _ _ _ _ _ _ _ _ _ _ _ _ rfl (by omega) p1 f1 (scanIn b) (by omega) (by omega) ?_
    intro h' t' t1 t2 t3 t4 t5 t6 t7 t8 t9 t10 t11 t12 t13 t14 t15 t16 t17 t18 t19 t20 t21 t22 t23 t24 t25 t26 t27 t28 t29 t30 t31 t32 t33 t34 t35 t36 t37 t38 t39 t40 t41 t42 t43 t44 t45 t46 t47 t48 t49 t50 t51 pe st
    simp [fin77]
    exact ⟨t', by simpa using pe, s1.trans st⟩
  obtain ⟨v, h', e, rfl, t', pe, st⟩ := ret_ex key
  exact ⟨t', h', e, pe, st⟩

theorem dref_loop {sl : Value} {pts : List (Int × Int)} {k : List RItem} {R : Value → Heap → Prop} :
    ∀ (m i : Nat) (h : Heap) (t : A.T) (b : BS) (s : A.S) (t1 t2 t3 t4 t5 t6 t7 t8 t9 t10 t11 t15 t16 t17 t18 t19 t20 t21 t22 t23 t24 t25 t26 t27 t28 t29 t30 t31 t32 t33 t34 t35 t36 t37 t38 t39 t40 t41 t42 t43 t44 t45 t46 t47 t48 t49 t50 t51 t52 t53 t54 t55 t56 t57 t58 t59 t60 t61 t62 t63 t64 t65 t66 t67 t68 t69 t70 t71 t72 t73 t74 t75 t76 t77 t78 t79 t80 t81 t82 t83 t84 t85 t86 : Value), m = pts.length - i → i ≤ pts.length → PD A h q p pb nb P t b s → Fad h sl pts c (A.own t) → AllIn b pts → A.size s + 2 * m + 3 < 1000000 → pts.length < 1000000 →
      (∀ (h' : Heap) (t' : A.T) (t1 t2 t3 t4 t5 t6 t7 t8 t9 t10 t11 t12 t13 t14 t15 t16 t17 t18 t19 t20 t21 t22 t23 t24 t25 t26 t27 t28 t29 t30 t31 t32 t33 t34 t35 t36 t37 t38 t39 t40 t41 t42 t43 t44 t45 t46 t47 t48 t49 t50 t51 t52 t53 t54 t55 t56 t57 t58 t59 t60 t61 t62 t63 t64 t65 t66 t67 t68 t69 t70 t71 t72 t73 t74 t75 t76 t77 t78 t79 t80 t81 t82 t83 t84 t85 t86 : Value), PD A h' q p pb nb P t' ((drefs P b (pts.drop i)).run A.ask s).1 ((drefs P b (pts.drop i)).run A.ask s).2 → Stq h h' c (A.own t) (A.own t') → Ok tab R78 k #[ptr q, t1, t2, t3, t4, t5, t6, t7, t8, t9, t10, t11, t12, t13, t14, t15, t16, t17, t18, t19, t20, t21, t22, t23, t24, t25, t26, t27, t28, t29, t30, t31, t32, t33, t34, t35, t36, t37, t38, t39, t40, t41, t42, t43, t44, t45, t46, t47, t48, t49, t50, t51, t52, t53, t54, t55, t56, t57, t58, t59, t60, t61, t62, t63, t64, t65, t66, t67, t68, t69, t70, t71, t72, t73, t74, t75, t76, t77, t78, t79, t80, t81, t82, t83, t84, t85, t86] h' R) →
      Ok tab R78 (.inLoop L78_0 :: .inBlock 0 :: k) #[ptr q, t1, t2, t3, t4, t5, t6, t7, t8, t9, t10, t11, sl, .int .i64 pts.length, .int .i64 i, t15, t16, t17, t18, t19, t20, t21, t22, t23, t24, t25, t26, t27, t28, t29, t30, t31, t32, t33, t34, t35, t36, t37, t38, t39, t40, t41, t42, t43, t44, t45, t46, t47, t48, t49, t50, t51, t52, t53, t54, t55, t56, t57, t58, t59, t60, t61, t62, t63, t64, t65, t66, t67, t68, t69, t70, t71, t72, t73, t74, t75, t76, t77, t78, t79, t80, t81, t82, t83, t84, t85, t86] h R := by
  intro m
  induction m with
  | zero =>
    intro i h t b s t1 t2 t3 t4 t5 t6 t7 t8 t9 t10 t11 t15 t16 t17 t18 t19 t20 t21 t22 t23 t24 t25 t26 t27 t28 t29 t30 t31 t32 t33 t34 t35 t36 t37 t38 t39 t40 t41 t42 t43 t44 t45 t46 t47 t48 t49 t50 t51 t52 t53 t54 t55 t56 t57 t58 t59 t60 t61 t62 t63 t64 t65 t66 t67 t68 t69 t70 t71 t72 t73 t74 t75 t76 t77 t78 t79 t80 t81 t82 t83 t84 t85 t86 hm hi he hf ha hl hpl hk
    have hlt : ¬ ((i : Int) < pts.length) := by omega
    rw [ok_round, l78_0, L78_0a, L78_0b]
    simp [hlt]
    refine hk h t _ _ _ _ _ _ _ _ _ _ _ _ _ _ _ _ _ _ _ _ _ _ _ _ _ _ _ _ _ _ _ _ _ _ _ _ _ _ _ _ _ _ _ _ _ _ _ _ _ _ _ _ _ _ _ _ _ _ _ _ _ _ _ _ _ _ _ _ _ _ _ _ _ _ _ _ _ _ _ _ _ _ _ _ _ _ ?_ (Stq.refl _ _ _)
    rw [List.drop_of_length_le (by omega)]; exact he
  | succ m ih =>
    intro i h t b s t1 t2 t3 t4 t5 t6 t7 t8 t9 t10 t11 t15 t16 t17 t18 t19 t20 t21 t22 t23 t24 t25 t26 t27 t28 t29 t30 t31 t32 t33 t34 t35 t36 t37 t38 t39 t40 t41 t42 t43 t44 t45 t46 t47 t48 t49 t50 t51 t52 t53 t54 t55 t56 t57 t58 t59 t60 t61 t62 t63 t64 t65 t66 t67 t68 t69 t70 t71 t72 t73 t74 t75 t76 t77 t78 t79 t80 t81 t82 t83 t84 t85 t86 hm hi he hf ha hl hpl hk
    have hlt : ((i : Int) < pts.length) := by omega
    have hw : IntKind.i64.wrap ((i : Int) + 1) = (i : Int) + 1 := wrapN (n := i + 1) (by omega)
    have hil : i < pts.length := by omega
    obtain ⟨id, off, blk, hs, hb, ht, hle⟩ := hf.get hil
    have hin := ha _ (List.getElem_mem hil)
    have hsp : drefs P b (pts.drop i) = (dref1 P b pts[i].1 pts[i].2).bind fun b => drefs P b (pts.drop (i + 1)) := by
      rw [List.drop_eq_getElem_cons hil]; rfl
    obtain ⟨hle1, hsz1⟩ := Tr.Lv.out (A := A.ask) (size := A.size) A.size_ask s (lv_dref1 (P := P) he.good hin)
    generalize hx : pts[i].1 = x at *
    generalize hy : pts[i].2 = y at *
    rw [hsp] at hk
    simp only [Tr.run_bind] at hk
    have he2 := he.push (some ⟨false, [.int .i64 x, .int .i64 y]⟩)
    have hs2 := Stq.push h (some ⟨false, [.int .i64 x, .int .i64 y]⟩) c (A.own t)
    have hf2 := hf.stq hs2
    have hK : ∀ y : Blk, blk? (h ++ [some y]) h.length = some y := fun y => blk?_push_eq
    obtain ⟨l1, l2, l3, l4, l5⟩ := he.lts
    have hq2 := he2.dr.blk
    have hcb2 := he2.dr.cb
    have hsig := fun R => significant_c (R := R) (x := x) (y := y) hcb2
    have htch := fun R => touched_c (R := R) (x := x) (y := y) hcb2
    have hrfd := fun R => refined_c (R := R) (x := x) (y := y) hcb2
    have hnb := fun R => neighbors_d (R := R) (x := x) (y := y) he2.dr hin
    have hcx := fun a b R => ctxRefine_c (h := h ++ [some (⟨false, [.int .i64 x, .int .i64 y]⟩ : Blk)]) (R := R) (a := a) (b := b)
    -- nothing is asked
    have hskip : dref1 P b x y = .ret b → ∀ t1 t2 t3 t4 t5 t6 t7 t8 t9 t10 t11 t15 t16 t17 t18 t19 t20 t21 t22 t23 t24 t25 t26 t27 t28 t29 t30 t31 t32 t33 t34 t35 t36 t37 t38 t39 t40 t41 t42 t43 t44 t45 t46 t47 t48 t49 t50 t51 t52 t53 t54 t55 t56 t57 t58 t59 t60 t61 t62 t63 t64 t65 t66 t67 t68 t69 t70 t71 t72 t73 t74 t75 t76 t77 t78 t79 t80 t81 t82 t83 t84 t85 t86 : Value, Ok tab R78 (.inLoop L78_0 :: .inBlock 0 :: k) #[ptr q, t1, t2, t3, t4, t5, t6, t7, t8, t9, t10, t11, sl, .int .i64 pts.length, .int .i64 ((i : Int) + 1), t15, t16, t17, t18, t19, t20, t21, t22, t23, t24, t25, t26, t27, t28, t29, t30, t31, t32, t33, t34, t35, t36, t37, t38, t39, t40, t41, t42, t43, t44, t45, t46, t47, t48, t49, t50, t51, t52, t53, t54, t55, t56, t57, t58, t59, t60, t61, t62, t63, t64, t65, t66, t67, t68, t69, t70, t71, t72, t73, t74, t75, t76, t77, t78, t79, t80, t81, t82, t83, t84, t85, t86] (h ++ [some ⟨false, [.int .i64 x, .int .i64 y]⟩]) R := by
      intro h1 t1 t2 t3 t4 t5 t6 t7 t8 t9 t10 t11 t15 t16 t17 t18 t19 t20 t21 t22 t23 t24 t25 t26 t27 t28 t29 t30 t31 t32 t33 t34 t35 t36 t37 t38 t39 t40 t41 t42 t43 t44 t45 t46 t47 t48 t49 t50 t51 t52 t53 t54 t55 t56 t57 t58 t59 t60 t61 t62 t63 t64 t65 t66 t67 t68 t69 t70 t71 t72 t73 t74 t75 t76 t77 t78 t79 t80 t81 t82 t83 t84 t85 t86
      rw [h1] at hk
      refine ih (i + 1) _ t b s _ _ _ _ _ _ _ _ _ _ _ _ _ _ _ _ _ _ _ _ _ _ _ _ _ _ _ _ _ _ _ _ _ _ _ _ _ _ _ _ _ _ _ _ _ _ _ _ _ _ _ _ _ _ _ _ _ _ _ _ _ _ _ _ _ _ _ _ _ _ _ _ _ _ _ _ _ _ _ _ _ _ _ (by omega) (by omega) he2 hf2 ha (by omega) hpl ?_
      intro h' t' t1 t2 t3 t4 t5 t6 t7 t8 t9 t10 t11 t12 t13 t14 t15 t16 t17 t18 t19 t20 t21 t22 t23 t24 t25 t26 t27 t28 t29 t30 t31 t32 t33 t34 t35 t36 t37 t38 t39 t40 t41 t42 t43 t44 t45 t46 t47 t48 t49 t50 t51 t52 t53 t54 t55 t56 t57 t58 t59 t60 t61 t62 t63 t64 t65 t66 t67 t68 t69 t70 t71 t72 t73 t74 t75 t76 t77 t78 t79 t80 t81 t82 t83 t84 t85 t86 pe st
      exact hk h' t' _ _ _ _ _ _ _ _ _ _ _ _ _ _ _ _ _ _ _ _ _ _ _ _ _ _ _ _ _ _ _ _ _ _ _ _ _ _ _ _ _ _ _ _ _ _ _ _ _ _ _ _ _ _ _ _ _ _ _ _ _ _ _ _ _ _ _ _ _ _ _ _ _ _ _ _ _ _ _ _ _ _ _ _ _ _ pe (hs2.trans st)
    rw [ok_round, l78_0, L78_0a, L78_0b]
    cases hsg : (b.get x y).s
    · have h1 : dref1 P b x y = .ret b := by unfold dref1; rw [if_pos (.inl hsg)]
      rw [hsg] at hsig
      simp [-List.cons_append, -List.append_assoc, k_guard, hlt, hw, hs, hb, ht, hle, hK, hq2, hsig]
      rw [← hs]
      exact hskip h1 _ _ _ _ _ _ _ _ _ _ _ _ _ _ _ _ _ _ _ _ _ _ _ _ _ _ _ _ _ _ _ _ _ _ _ _ _ _ _ _ _ _ _ _ _ _ _ _ _ _ _ _ _ _ _ _ _ _ _ _ _ _ _ _ _ _ _ _ _ _ _ _ _ _ _ _ _ _ _ _ _ _ _
    · cases htc0 : (b.get x y).t
      · -- refined
        have h1 : dref1 P b x y = .ask (P.cx (refCtx (!(b.get x y).r) (near b x y P.cz))) fun bit => .ret (((growB P.s b x y bit).upd x y refine').upd x y (touch true)) := by unfold dref1; rw [if_neg (by simp [hsg, htc0])]
        obtain ⟨u3, h3, e3, p3, s3⟩ := ask_d he2 (by omega) (refCtx (!(b.get x y).r) (near b x y P.cz))
        rw [h1] at hk hle1 hsz1
        simp only [Tr.run_ask, Tr.run_ret] at hk hle1 hsz1
        generalize (A.ask s (P.cx (refCtx (!(b.get x y).r) (near b x y P.cz)))).1 = bit at *
        generalize (A.ask s (P.cx (refCtx (!(b.get x y).r) (near b x y P.cz)))).2 = s3' at *
        have hq3 := p3.dr.blk
        have hv3 : blk? h3 h.length = some ⟨false, [.int .i64 x, .int .i64 y]⟩ := by
          rw [s3.same h.length (by simp) (by omega) (fun e => by have := A.lt he.rel _ e; omega)]; exact blk?_push_eq
        have hnown : ¬ A.own u3 h.length := fun e => by
          rcases s3.fresh _ e with k | k
          · have := A.lt he.rel _ k; omega
          · simp at k; omega
        have hlen3 := s3.len
        simp only [List.length_append, List.length_singleton] at hlen3
        -- the value
        have hgr : ∃ h4, (∀ R, (if bit = true then Ret tab 123 [ptr q, .int .i64 x, .int .i64 y] h3 R else R (.tuple #[]) h3) = R (.tuple #[]) h4) ∧ PD A h4 q p pb nb P u3 (growB P.s b x y bit) s3' ∧ Stq h3 h4 c (A.own u3) (A.own u3) ∧ ∀ id, id < h3.length → id ≠ c → blk? h4 id = blk? h3 id := by
          cases bit
          · exact ⟨h3, fun R => by simp, p3, Stq.refl _ _ _, fun _ _ _ => rfl⟩
          · obtain ⟨h4, e4, p4, s4, k4⟩ := grow_d p3 hin
            exact ⟨h4, fun R => by simp [e4], p4, s4, k4⟩
        obtain ⟨h4, e4, p4, s4, k4⟩ := hgr
        have hl4 := le_growB (s := P.s) he.good hin bit
        have hq4 := p4.dr.blk
        have hv4 : blk? h4 h.length = some ⟨false, [.int .i64 x, .int .i64 y]⟩ := by rw [k4 _ (by omega) (by omega)]; exact hv3
        generalize growB P.s b x y bit = b4 at *
        have hrf := fun R => refine_c (R := R) p4.dr.cb (x := x) (y := y) (hl4.inb hin)
        have hl5 := good_map hl4.good (hl4.inb hin) kv_refine
        obtain ⟨p5, s5⟩ := p4.to hl5
        have hq5 := p5.dr.blk
        have hv5 : blk? (h4.set c (some ⟨false, encC (b4.upd x y refine').cs⟩)) h.length = some ⟨false, [.int .i64 x, .int .i64 y]⟩ := by
          rw [blk?_set_ne (by omega)]; exact hv4
        have htc := fun R => touch_c (R := R) (v := true) p5.dr.cb (x := x) (y := y) (hl5.inb (hl4.inb hin))
        obtain ⟨p6, s6⟩ := p5.to (good_map hl5.good (hl5.inb (hl4.inb hin)) (kv_touch true))
        have hmm : (fun z : Cell => ({ z with t := true } : Cell)) = touch true := rfl
        have hmr : (fun z : Cell => ({ z with r := true } : Cell)) = refine' := rfl
        rw [hmm] at htc
        rw [hmr] at hrf
        have st6 := (((hs2.trans s3).trans s4).trans s5).trans s6
        have hgo : ∀ t1 t2 t3 t4 t5 t6 t7 t8 t9 t10 t11 t15 t16 t17 t18 t19 t20 t21 t22 t23 t24 t25 t26 t27 t28 t29 t30 t31 t32 t33 t34 t35 t36 t37 t38 t39 t40 t41 t42 t43 t44 t45 t46 t47 t48 t49 t50 t51 t52 t53 t54 t55 t56 t57 t58 t59 t60 t61 t62 t63 t64 t65 t66 t67 t68 t69 t70 t71 t72 t73 t74 t75 t76 t77 t78 t79 t80 t81 t82 t83 t84 t85 t86 : Value, Ok tab R78 (.inLoop L78_0 :: .inBlock 0 :: k) #[ptr q, t1, t2, t3, t4, t5, t6, t7, t8, t9, t10, t11, sl, .int .i64 pts.length, .int .i64 ((i : Int) + 1), t15, t16, t17, t18, t19, t20, t21, t22, t23, t24, t25, t26, t27, t28, t29, t30, t31, t32, t33, t34, t35, t36, t37, t38, t39, t40, t41, t42, t43, t44, t45, t46, t47, t48, t49, t50, t51, t52, t53, t54, t55, t56, t57, t58, t59, t60, t61, t62, t63, t64, t65, t66, t67, t68, t69, t70, t71, t72, t73, t74, t75, t76, t77, t78, t79, t80, t81, t82, t83, t84, t85, t86] ((h4.set c (some ⟨false, encC (b4.upd x y refine').cs⟩)).set c (some ⟨false, encC ((b4.upd x y refine').upd x y (touch true)).cs⟩)) R := by
          intro t1 t2 t3 t4 t5 t6 t7 t8 t9 t10 t11 t15 t16 t17 t18 t19 t20 t21 t22 t23 t24 t25 t26 t27 t28 t29 t30 t31 t32 t33 t34 t35 t36 t37 t38 t39 t40 t41 t42 t43 t44 t45 t46 t47 t48 t49 t50 t51 t52 t53 t54 t55 t56 t57 t58 t59 t60 t61 t62 t63 t64 t65 t66 t67 t68 t69 t70 t71 t72 t73 t74 t75 t76 t77 t78 t79 t80 t81 t82 t83 t84 t85 t86
          refine ih (i + 1) _ u3 _ _ _ _ _ _ _ _ _ _ _ _ _ _ _ _ _ _ _ _ _ _ _ _ _ _ _ _ _ _ _ _ _ _ _ _ _ _ _ _ _ _ _ _ _ _ _ _ _ _ _ _ _ _ _ _ _ _ _ _ _ _ _ _ _ _ _ _ _ _ _ _ _ _ _ _ _ _ _ _ _ _ _ _ _ (by omega) (by omega) p6 (hf.stq st6) (hle1.all ha) (by omega) hpl ?_
          intro h' t' t1 t2 t3 t4 t5 t6 t7 t8 t9 t10 t11 t12 t13 t14 t15 t16 t17 t18 t19 t20 t21 t22 t23 t24 t25 t26 t27 t28 t29 t30 t31 t32 t33 t34 t35 t36 t37 t38 t39 t40 t41 t42 t43 t44 t45 t46 t47 t48 t49 t50 t51 t52 t53 t54 t55 t56 t57 t58 t59 t60 t61 t62 t63 t64 t65 t66 t67 t68 t69 t70 t71 t72 t73 t74 t75 t76 t77 t78 t79 t80 t81 t82 t83 t84 t85 t86 pe st
          exact hk h' t' _ _ _ _ _ _ _ _ _ _ _ _ _ _ _ _ _ _ _ _ _ _ _ _ _ _ _ _ _ _ _ _ _ _ _ _ _ _ _ _ _ _ _ _ _ _ _ _ _ _ _ _ _ _ _ _ _ _ _ _ _ _ _ _ _ _ _ _ _ _ _ _ _ _ _ _ _ _ _ _ _ _ _ _ _ _ pe (st6.trans st)
        rw [List.set_set] at hgo
        rw [hsg] at hsig; rw [htc0] at htch
        cases bit
        · simp only [Bool.false_eq_true, if_false] at e4
          obtain rfl : h3 = h4 := by
            have := e4 fun _ h' => h3 = h'
            exact this.mp rfl
          simp at e3
          simp [-List.cons_append, -List.append_assoc, k_guard, hlt, hw, hs, hb, ht, hle, hK, hq2, hsig, htch, hrfd, hnb, hcx, e3, hq3, hv3, hrf, hq5, hv5, htc, book, logOf, addLog, chk1, lookL, reload]
          rw [← hs]
          exact hgo _ _ _ _ _ _ _ _ _ _ _ _ _ _ _ _ _ _ _ _ _ _ _ _ _ _ _ _ _ _ _ _ _ _ _ _ _ _ _ _ _ _ _ _ _ _ _ _ _ _ _ _ _ _ _ _ _ _ _ _ _ _ _ _ _ _ _ _ _ _ _ _ _ _ _ _ _ _ _ _ _ _ _
        · simp only [if_true] at e4
          simp at e3
          simp [-List.cons_append, -List.append_assoc, k_guard, hlt, hw, hs, hb, ht, hle, hK, hq2, hsig, htch, hrfd, hnb, hcx, e3, hq3, hv3, e4, hq4, hv4, hrf, hq5, hv5, htc, book, logOf, addLog, chk1, lookL, reload]
          rw [← hs]
          exact hgo _ _ _ _ _ _ _ _ _ _ _ _ _ _ _ _ _ _ _ _ _ _ _ _ _ _ _ _ _ _ _ _ _ _ _ _ _ _ _ _ _ _ _ _ _ _ _ _ _ _ _ _ _ _ _ _ _ _ _ _ _ _ _ _ _ _ _ _ _ _ _ _ _ _ _ _ _ _ _ _ _ _ _
      · have h1 : dref1 P b x y = .ret b := by unfold dref1; rw [if_pos (.inr htc0)]
        rw [hsg] at hsig; rw [htc0] at htch
        simp [-List.cons_append, -List.append_assoc, k_guard, hlt, hw, hs, hb, ht, hle, hK, hq2, hsig, htch]
        rw [← hs]
        exact hskip h1 _ _ _ _ _ _ _ _ _ _ _ _ _ _ _ _ _ _ _ _ _ _ _ _ _ _ _ _ _ _ _ _ _ _ _ _ _ _ _ _ _ _ _ _ _ _ _ _ _ _ _ _ _ _ _ _ _ _ _ _ _ _ _ _ _ _ _ _ _ _ _ _ _ _ _ _ _ _ _ _ _ _ _

theorem refinement_d (he : PD A h q p pb nb P t b s) (hl : A.size s + 100000 < 1000000) :
    ∃ t' h', (∀ R, Ret tab 78 [ptr q] h R = R (.tuple #[]) h') ∧ PD A h' q p pb nb P t' ((drefs P b (scan b.w b.h)).run A.ask s).1 ((drefs P b (scan b.w b.h)).run A.ask s).2 ∧ Stq h h' c (A.own t) (A.own t') := by
  have key : Ret tab 78 [ptr q] h fun v h' => v = .tuple #[] ∧ ∃ t', PD A h' q p pb nb P t' ((drefs P b (scan b.w b.h)).run A.ask s).1 ((drefs P b (scan b.w b.h)).run A.ask s).2 ∧ Stq h h' c (A.own t) (A.own t') := by
    obtain ⟨sl, h1, e1, p1, s1, f1⟩ := he.scan
    obtain ⟨a, cc, hs⟩ := f1.sl.shape
    have hsl := scan_len he.dr.cb.ok.w2 he.dr.cb.ok.h2
    have hq := he.dr.blk
    rw [enter78, B78]
    simp [hq, e1, hs]
    rw [← hs]
    refine dref_loop _ 0 h1 t b s _ _ _ _ _ _ _ _ _ _ _ _ _ _ _ _ _ _ _ _ _ _ _ _ _ _ _ _ _ _ _ _ _ _ _ _ _ _ _ _ _ _ _ _ _ _ _ _ _ _ _ _ _ _ _ _ _ _ _ _ _ _ _ _ _ _ _ _ _ _ _ _ _ _ _ _ _ _ _ _ _ _ _ rfl (by omega) p1 f1 (scanIn b) (by omega) (by omega) ?_
    intro h' t' t1 t2 t3 t4 t5 t6 t7 t8 t9 t10 t11 t12 t13 t14 t15 t16 t17 t18 t19 t20 t21 t22 t23 t24 t25 t26 t27 t28 t29 t30 t31 t32 t33 t34 t35 t36 t37 t38 t39 t40 t41 t42 t43 t44 t45 t46 t47 t48 t49 t50 t51 t52 t53 t54 t55 t56 t57 t58 t59 t60 t61 t62 t63 t64 t65 t66 t67 t68 t69 t70 t71 t72 t73 t74 t75 t76 t77 t78 t79 t80 t81 t82 t83 t84 t85 t86 pe st
    simp [fin78]
    exact ⟨t', by simpa using pe, s1.trans st⟩
  obtain ⟨v, h', e, rfl, t', pe, st⟩ := ret_ex key
  exact ⟨t', h', e, pe, st⟩
end
end Go.Proofs.Ytjpjohchdfoeaaa
namespace Go.Proofs.Ytjpjohchdfoeaaa
open Go Go.Sim
set_option linter.unusedSimpArgs false
set_option linter.unusedVariables false

section
variable {c : Nat} {nv : Value} {A : Src c (callF nv)} {h : Heap} {q p pb nb : Nat} {P : PP} {t : A.T} {b : BS} {s : A.S} {k : List RItem} {R : Value → Heap → Prop} {v1 : Value}

set_option maxRecDepth 10000 in
set_option maxHeartbeats 4000000 in
theorem drows_loop {w hh : Nat} (hw2 : w ≤ 64) (hh2 : hh ≤ 64) {x top : Int} {v25 v26 : Value} (hx : 0 ≤ x ∧ x < w) (ht : 0 ≤ top ∧ top < hh) :
    ∀ (n : Nat) (y : Int) (h : Heap) (t : A.T) (b : BS) (s : A.S) (t2 t3 t4 t8 t9 t10 t11 t12 t13 t14 t15 t16 t17 t18 t19 t20 t21 t22 t23 t24 t27 t28 t29 t30 t31 t32 t33 t34 t35 t36 t37 t38 t39 t40 t41 t42 t43 t44 t45 t46 t47 t48 t49 t50 t51 t52 t53 t54 t55 t56 t57 t58 t59 t60 t61 t62 t63 t64 t65 t66 t67 t68 t69 t70 t71 t72 t73 t74 t75 t76 t77 t78 t79 t80 t81 t82 t83 t84 t85 t86 t87 t88 t89 t90 t91 t92 t93 t94 t95 t96 t97 t98 t99 t100 t101 t102 t103 t104 t105 t106 t107 t108 t109 t110 t111 t112 t113 t114 t115 t116 t117 t118 t119 t120 t121 t122 t123 t124 t125 t126 t127 t128 t129 t130 t131 t132 t133 t134 t135 t136 t137 t138 : Value), y + n = min (top + 4) hh → 0 ≤ y → b.w = w → b.h = hh → PD A h q p pb nb P t b s → A.size s + 2 * n + 3 < 1000000 →
      (∀ (h' : Heap) (t' : A.T) (y' : Int) (t2 t3 t4 t8 t9 t10 t11 t12 t13 t14 t15 t16 t17 t18 t19 t20 t21 t22 t23 t24 t27 t28 t29 t30 t31 t32 t33 t34 t35 t36 t37 t38 t39 t40 t41 t42 t43 t44 t45 t46 t47 t48 t49 t50 t51 t52 t53 t54 t55 t56 t57 t58 t59 t60 t61 t62 t63 t64 t65 t66 t67 t68 t69 t70 t71 t72 t73 t74 t75 t76 t77 t78 t79 t80 t81 t82 t83 t84 t85 t86 t87 t88 t89 t90 t91 t92 t93 t94 t95 t96 t97 t98 t99 t100 t101 t102 t103 t104 t105 t106 t107 t108 t109 t110 t111 t112 t113 t114 t115 t116 t117 t118 t119 t120 t121 t122 t123 t124 t125 t126 t127 t128 t129 t130 t131 t132 t133 t134 t135 t136 t137 t138 : Value), PD A h' q p pb nb P t' ((drows P b x y n).run A.ask s).1 ((drows P b x y n).run A.ask s).2 → Stq h h' c (A.own t) (A.own t') →
        Ok tab R79 k #[ptr q, v1, t2, t3, t4, .int .i64 top, .int .i64 x, .int .i64 y', t8, t9, t10, t11, t12, t13, t14, t15, t16, t17, t18, t19, t20, t21, t22, t23, t24, v25, v26, t27, t28, t29, t30, t31, t32, t33, t34, t35, t36, t37, t38, t39, t40, t41, t42, t43, t44, t45, t46, t47, t48, t49, t50, t51, t52, t53, t54, t55, t56, t57, t58, t59, t60, t61, t62, t63, t64, t65, t66, t67, t68, t69, t70, t71, t72, t73, t74, t75, t76, t77, t78, t79, t80, t81, t82, t83, t84, t85, t86, t87, t88, t89, t90, t91, t92, t93, t94, t95, t96, t97, t98, t99, t100, t101, t102, t103, t104, t105, t106, t107, t108, t109, t110, t111, t112, t113, t114, t115, t116, t117, t118, t119, t120, t121, t122, t123, t124, t125, t126, t127, t128, t129, t130, t131, t132, t133, t134, t135, t136, t137, t138] h' R) →
      Ok tab R79 (.inLoop L79_0 :: .inBlock 4 :: k) #[ptr q, v1, t2, t3, t4, .int .i64 top, .int .i64 x, .int .i64 y, t8, t9, t10, t11, t12, t13, t14, t15, t16, t17, t18, t19, t20, t21, t22, t23, t24, v25, v26, t27, t28, t29, t30, t31, t32, t33, t34, t35, t36, t37, t38, t39, t40, t41, t42, t43, t44, t45, t46, t47, t48, t49, t50, t51, t52, t53, t54, t55, t56, t57, t58, t59, t60, t61, t62, t63, t64, t65, t66, t67, t68, t69, t70, t71, t72, t73, t74, t75, t76, t77, t78, t79, t80, t81, t82, t83, t84, t85, t86, t87, t88, t89, t90, t91, t92, t93, t94, t95, t96, t97, t98, t99, t100, t101, t102, t103, t104, t105, t106, t107, t108, t109, t110, t111, t112, t113, t114, t115, t116, t117, t118, t119, t120, t121, t122, t123, t124, t125, t126, t127, t128, t129, t130, t131, t132, t133, t134, t135, t136, t137, t138] h R := by
  intro n
  induction n with
  | zero =>
    intro y h t b s t2 t3 t4 t8 t9 t10 t11 t12 t13 t14 t15 t16 t17 t18 t19 t20 t21 t22 t23 t24 t27 t28 t29 t30 t31 t32 t33 t34 t35 t36 t37 t38 t39 t40 t41 t42 t43 t44 t45 t46 t47 t48 t49 t50 t51 t52 t53 t54 t55 t56 t57 t58 t59 t60 t61 t62 t63 t64 t65 t66 t67 t68 t69 t70 t71 t72 t73 t74 t75 t76 t77 t78 t79 t80 t81 t82 t83 t84 t85 t86 t87 t88 t89 t90 t91 t92 t93 t94 t95 t96 t97 t98 t99 t100 t101 t102 t103 t104 t105 t106 t107 t108 t109 t110 t111 t112 t113 t114 t115 t116 t117 t118 t119 t120 t121 t122 t123 t124 t125 t126 t127 t128 t129 t130 t131 t132 t133 t134 t135 t136 t137 t138 hy h0 hw hh' he hl hk
    have hq := he.dr.blk
    rw [hw, hh'] at hq
    have hw4 : IntKind.i64.wrap (top + 4) = top + 4 := wrapI (by omega) (by omega)
    have hlt : ¬ y < min (top + 4) (hh : Int) := by omega
    rw [ok_round, l79_0, L79_0a, L79_0b]
    simp [hq, hw4, fold1, foldO, min2V, min4 (hh := hh) ht.1]
    simp [hlt]
    exact hk h t y _ _ _ _ _ _ _ _ _ _ _ _ _ _ _ _ _ _ _ _ _ _ _ _ _ _ _ _ _ _ _ _ _ _ _ _ _ _ _ _ _ _ _ _ _ _ _ _ _ _ _ _ _ _ _ _ _ _ _ _ _ _ _ _ _ _ _ _ _ _ _ _ _ _ _ _ _ _ _ _ _ _ _ _ _ _ _ _ _ _ _ _ _ _ _ _ _ _ _ _ _ _ _ _ _ _ _ _ _ _ _ _ _ _ _ _ _ _ _ _ _ _ _ _ _ _ _ _ _ _ _ _ he (Stq.refl _ _ _)
  | succ n ih =>
    intro y h t b s t2 t3 t4 t8 t9 t10 t11 t12 t13 t14 t15 t16 t17 t18 t19 t20 t21 t22 t23 t24 t27 t28 t29 t30 t31 t32 t33 t34 t35 t36 t37 t38 t39 t40 t41 t42 t43 t44 t45 t46 t47 t48 t49 t50 t51 t52 t53 t54 t55 t56 t57 t58 t59 t60 t61 t62 t63 t64 t65 t66 t67 t68 t69 t70 t71 t72 t73 t74 t75 t76 t77 t78 t79 t80 t81 t82 t83 t84 t85 t86 t87 t88 t89 t90 t91 t92 t93 t94 t95 t96 t97 t98 t99 t100 t101 t102 t103 t104 t105 t106 t107 t108 t109 t110 t111 t112 t113 t114 t115 t116 t117 t118 t119 t120 t121 t122 t123 t124 t125 t126 t127 t128 t129 t130 t131 t132 t133 t134 t135 t136 t137 t138 hy h0 hw hh' he hl hk
    have hq := he.dr.blk
    rw [hw, hh'] at hq
    have hw4 : IntKind.i64.wrap (top + 4) = top + 4 := wrapI (by omega) (by omega)
    have hw1 : IntKind.i64.wrap (y + 1) = y + 1 := wrapI (by omega) (by omega)
    have hlt : y < min (top + 4) (hh : Int) := by omega
    have hin : b.inb x y := ⟨hx.1, by rw [hw]; exact hx.2, h0, by rw [hh']; omega⟩
    have hsig := fun R => significant_c (R := R) (x := x) (y := y) he.dr.cb
    have htch := fun R => touched_c (R := R) (x := x) (y := y) he.dr.cb
    obtain ⟨hle, hsz⟩ := Tr.Lv.out (A := A.ask) (size := A.size) A.size_ask s (lv_dcln1 he.dr.pok he.good hin)
    rw [drows] at hk
    simp only [Tr.run_bind] at hk
    have hskip : dcln1 P b x y = .ret b → ∀ t2 t3 t4 t8 t9 t10 t11 t12 t13 t14 t15 t16 t17 t18 t19 t20 t21 t22 t23 t24 t27 t28 t29 t30 t31 t32 t33 t34 t35 t36 t37 t38 t39 t40 t41 t42 t43 t44 t45 t46 t47 t48 t49 t50 t51 t52 t53 t54 t55 t56 t57 t58 t59 t60 t61 t62 t63 t64 t65 t66 t67 t68 t69 t70 t71 t72 t73 t74 t75 t76 t77 t78 t79 t80 t81 t82 t83 t84 t85 t86 t87 t88 t89 t90 t91 t92 t93 t94 t95 t96 t97 t98 t99 t100 t101 t102 t103 t104 t105 t106 t107 t108 t109 t110 t111 t112 t113 t114 t115 t116 t117 t118 t119 t120 t121 t122 t123 t124 t125 t126 t127 t128 t129 t130 t131 t132 t133 t134 t135 t136 t137 t138 : Value, Ok tab R79 (.inLoop L79_0 :: .inBlock 4 :: k) #[ptr q, v1, t2, t3, t4, .int .i64 top, .int .i64 x, .int .i64 (y + 1), t8, t9, t10, t11, t12, t13, t14, t15, t16, t17, t18, t19, t20, t21, t22, t23, t24, v25, v26, t27, t28, t29, t30, t31, t32, t33, t34, t35, t36, t37, t38, t39, t40, t41, t42, t43, t44, t45, t46, t47, t48, t49, t50, t51, t52, t53, t54, t55, t56, t57, t58, t59, t60, t61, t62, t63, t64, t65, t66, t67, t68, t69, t70, t71, t72, t73, t74, t75, t76, t77, t78, t79, t80, t81, t82, t83, t84, t85, t86, t87, t88, t89, t90, t91, t92, t93, t94, t95, t96, t97, t98, t99, t100, t101, t102, t103, t104, t105, t106, t107, t108, t109, t110, t111, t112, t113, t114, t115, t116, t117, t118, t119, t120, t121, t122, t123, t124, t125, t126, t127, t128, t129, t130, t131, t132, t133, t134, t135, t136, t137, t138] h R := by
      intro h1 t2 t3 t4 t8 t9 t10 t11 t12 t13 t14 t15 t16 t17 t18 t19 t20 t21 t22 t23 t24 t27 t28 t29 t30 t31 t32 t33 t34 t35 t36 t37 t38 t39 t40 t41 t42 t43 t44 t45 t46 t47 t48 t49 t50 t51 t52 t53 t54 t55 t56 t57 t58 t59 t60 t61 t62 t63 t64 t65 t66 t67 t68 t69 t70 t71 t72 t73 t74 t75 t76 t77 t78 t79 t80 t81 t82 t83 t84 t85 t86 t87 t88 t89 t90 t91 t92 t93 t94 t95 t96 t97 t98 t99 t100 t101 t102 t103 t104 t105 t106 t107 t108 t109 t110 t111 t112 t113 t114 t115 t116 t117 t118 t119 t120 t121 t122 t123 t124 t125 t126 t127 t128 t129 t130 t131 t132 t133 t134 t135 t136 t137 t138
      rw [h1] at hk
      refine ih (y + 1) h t b s _ _ _ _ _ _ _ _ _ _ _ _ _ _ _ _ _ _ _ _ _ _ _ _ _ _ _ _ _ _ _ _ _ _ _ _ _ _ _ _ _ _ _ _ _ _ _ _ _ _ _ _ _ _ _ _ _ _ _ _ _ _ _ _ _ _ _ _ _ _ _ _ _ _ _ _ _ _ _ _ _ _ _ _ _ _ _ _ _ _ _ _ _ _ _ _ _ _ _ _ _ _ _ _ _ _ _ _ _ _ _ _ _ _ _ _ _ _ _ _ _ _ _ _ _ _ _ _ _ _ _ _ (by omega) (by omega) hw hh' he (by omega) ?_
      intro h' t' y' t2 t3 t4 t8 t9 t10 t11 t12 t13 t14 t15 t16 t17 t18 t19 t20 t21 t22 t23 t24 t27 t28 t29 t30 t31 t32 t33 t34 t35 t36 t37 t38 t39 t40 t41 t42 t43 t44 t45 t46 t47 t48 t49 t50 t51 t52 t53 t54 t55 t56 t57 t58 t59 t60 t61 t62 t63 t64 t65 t66 t67 t68 t69 t70 t71 t72 t73 t74 t75 t76 t77 t78 t79 t80 t81 t82 t83 t84 t85 t86 t87 t88 t89 t90 t91 t92 t93 t94 t95 t96 t97 t98 t99 t100 t101 t102 t103 t104 t105 t106 t107 t108 t109 t110 t111 t112 t113 t114 t115 t116 t117 t118 t119 t120 t121 t122 t123 t124 t125 t126 t127 t128 t129 t130 t131 t132 t133 t134 t135 t136 t137 t138 pe st
      exact hk h' t' y' _ _ _ _ _ _ _ _ _ _ _ _ _ _ _ _ _ _ _ _ _ _ _ _ _ _ _ _ _ _ _ _ _ _ _ _ _ _ _ _ _ _ _ _ _ _ _ _ _ _ _ _ _ _ _ _ _ _ _ _ _ _ _ _ _ _ _ _ _ _ _ _ _ _ _ _ _ _ _ _ _ _ _ _ _ _ _ _ _ _ _ _ _ _ _ _ _ _ _ _ _ _ _ _ _ _ _ _ _ _ _ _ _ _ _ _ _ _ _ _ _ _ _ _ _ _ _ _ _ _ _ _ pe st
    rw [ok_round, l79_0, L79_0a, L79_0b]
    simp [hq, hw4, fold1, foldO, min2V, min4 (hh := hh) ht.1]
    cases hsg : (b.get x y).s
    · cases htc : (b.get x y).t
      · have h1 : dcln1 P b x y = dcode P b x y := by unfold dcln1; rw [if_pos ⟨hsg, htc⟩]
        obtain ⟨u1, h2, e1, p1, s1⟩ := code_d he (by omega) hin
        rw [h1] at hk hle hsz
        rw [hsg] at hsig; rw [htc] at htch
        simp [k_guard, hlt, hw1, hq, hsig, htch, e1]
        refine ih (y + 1) h2 u1 _ _ _ _ _ _ _ _ _ _ _ _ _ _ _ _ _ _ _ _ _ _ _ _ _ _ _ _ _ _ _ _ _ _ _ _ _ _ _ _ _ _ _ _ _ _ _ _ _ _ _ _ _ _ _ _ _ _ _ _ _ _ _ _ _ _ _ _ _ _ _ _ _ _ _ _ _ _ _ _ _ _ _ _ _ _ _ _ _ _ _ _ _ _ _ _ _ _ _ _ _ _ _ _ _ _ _ _ _ _ _ _ _ _ _ _ _ _ _ _ _ _ _ _ _ _ _ _ _ _ _ _ _ _ (by omega) (by omega) (by rw [hle.w]; exact hw) (by rw [hle.h]; exact hh') p1 (by omega) ?_
        intro h' t' y' t2 t3 t4 t8 t9 t10 t11 t12 t13 t14 t15 t16 t17 t18 t19 t20 t21 t22 t23 t24 t27 t28 t29 t30 t31 t32 t33 t34 t35 t36 t37 t38 t39 t40 t41 t42 t43 t44 t45 t46 t47 t48 t49 t50 t51 t52 t53 t54 t55 t56 t57 t58 t59 t60 t61 t62 t63 t64 t65 t66 t67 t68 t69 t70 t71 t72 t73 t74 t75 t76 t77 t78 t79 t80 t81 t82 t83 t84 t85 t86 t87 t88 t89 t90 t91 t92 t93 t94 t95 t96 t97 t98 t99 t100 t101 t102 t103 t104 t105 t106 t107 t108 t109 t110 t111 t112 t113 t114 t115 t116 t117 t118 t119 t120 t121 t122 t123 t124 t125 t126 t127 t128 t129 t130 t131 t132 t133 t134 t135 t136 t137 t138 pe st
        exact hk h' t' y' _ _ _ _ _ _ _ _ _ _ _ _ _ _ _ _ _ _ _ _ _ _ _ _ _ _ _ _ _ _ _ _ _ _ _ _ _ _ _ _ _ _ _ _ _ _ _ _ _ _ _ _ _ _ _ _ _ _ _ _ _ _ _ _ _ _ _ _ _ _ _ _ _ _ _ _ _ _ _ _ _ _ _ _ _ _ _ _ _ _ _ _ _ _ _ _ _ _ _ _ _ _ _ _ _ _ _ _ _ _ _ _ _ _ _ _ _ _ _ _ _ _ _ _ _ _ _ _ _ _ _ _ pe (s1.trans st)
      · have h1 : dcln1 P b x y = .ret b := by unfold dcln1; rw [if_neg (by simp [htc])]
        rw [hsg] at hsig; rw [htc] at htch
        simp [k_guard, hlt, hw1, hq, hsig, htch]
        exact hskip h1 _ _ _ _ _ _ _ _ _ _ _ _ _ _ _ _ _ _ _ _ _ _ _ _ _ _ _ _ _ _ _ _ _ _ _ _ _ _ _ _ _ _ _ _ _ _ _ _ _ _ _ _ _ _ _ _ _ _ _ _ _ _ _ _ _ _ _ _ _ _ _ _ _ _ _ _ _ _ _ _ _ _ _ _ _ _ _ _ _ _ _ _ _ _ _ _ _ _ _ _ _ _ _ _ _ _ _ _ _ _ _ _ _ _ _ _ _ _ _ _ _ _ _ _ _ _ _ _ _ _ _ _
    · have h1 : dcln1 P b x y = .ret b := by unfold dcln1; rw [if_neg (by simp [hsg])]
      rw [hsg] at hsig
      simp [k_guard, k_guardU, hlt, hw1, hq, hsig]
      exact hskip h1 _ _ _ _ _ _ _ _ _ _ _ _ _ _ _ _ _ _ _ _ _ _ _ _ _ _ _ _ _ _ _ _ _ _ _ _ _ _ _ _ _ _ _ _ _ _ _ _ _ _ _ _ _ _ _ _ _ _ _ _ _ _ _ _ _ _ _ _ _ _ _ _ _ _ _ _ _ _ _ _ _ _ _ _ _ _ _ _ _ _ _ _ _ _ _ _ _ _ _ _ _ _ _ _ _ _ _ _ _ _ _ _ _ _ _ _ _ _ _ _ _ _ _ _ _ _ _ _ _ _ _ _

set_option maxRecDepth 10000 in
set_option maxHeartbeats 4000000 in
theorem dcols_loop {w hh : Nat} (hw2 : w ≤ 64) (hh2 : hh ≤ 64) {top : Int} (ht : 0 ≤ top ∧ top < hh) :
    ∀ (n : Nat) (x : Int) (h : Heap) (t : A.T) (b : BS) (s : A.S) (t2 t3 t4 t6 t7 t8 t9 t10 t11 t12 t13 t14 t15 t16 t17 t18 t19 t20 t21 t22 t23 t24 t27 t28 t29 t30 t31 t32 t33 t34 t35 t36 t37 t38 t39 t40 t41 t42 t43 t44 t45 t46 t47 t48 t49 t50 t51 t52 t53 t54 t55 t56 t57 t58 t59 t60 t61 t62 t63 t64 t65 t66 t67 t68 t69 t70 t71 t72 t73 t74 t75 t76 t77 t78 t79 t80 t81 t82 t83 t84 t85 t86 t87 t88 t89 t90 t91 t92 t93 t94 t95 t96 t97 t98 t99 t100 t101 t102 t103 t104 t105 t106 t107 t108 t109 t110 t111 t112 t113 t114 t115 t116 t117 t118 t119 t120 t121 t122 t123 t124 t125 t126 t127 t128 t129 t130 t131 t132 t133 t134 t135 t136 t137 t138 : Value), x + n = w → 0 ≤ x → b.w = w → b.h = hh → PD A h q p pb nb P t b s → A.size s + 12 * n + 20 < 1000000 →
      (∀ (h' : Heap) (t' : A.T) (t2 t3 t4 t6 t7 t8 t9 t10 t11 t12 t13 t14 t15 t16 t17 t18 t19 t20 t21 t22 t23 t24 t25 t26 t27 t28 t29 t30 t31 t32 t33 t34 t35 t36 t37 t38 t39 t40 t41 t42 t43 t44 t45 t46 t47 t48 t49 t50 t51 t52 t53 t54 t55 t56 t57 t58 t59 t60 t61 t62 t63 t64 t65 t66 t67 t68 t69 t70 t71 t72 t73 t74 t75 t76 t77 t78 t79 t80 t81 t82 t83 t84 t85 t86 t87 t88 t89 t90 t91 t92 t93 t94 t95 t96 t97 t98 t99 t100 t101 t102 t103 t104 t105 t106 t107 t108 t109 t110 t111 t112 t113 t114 t115 t116 t117 t118 t119 t120 t121 t122 t123 t124 t125 t126 t127 t128 t129 t130 t131 t132 t133 t134 t135 t136 t137 t138 : Value), PD A h' q p pb nb P t' ((dcols P b x top n).run A.ask s).1 ((dcols P b x top n).run A.ask s).2 → Stq h h' c (A.own t) (A.own t') →
        Ok tab R79 k #[ptr q, v1, t2, t3, t4, .int .i64 top, t6, t7, t8, t9, t10, t11, t12, t13, t14, t15, t16, t17, t18, t19, t20, t21, t22, t23, t24, t25, t26, t27, t28, t29, t30, t31, t32, t33, t34, t35, t36, t37, t38, t39, t40, t41, t42, t43, t44, t45, t46, t47, t48, t49, t50, t51, t52, t53, t54, t55, t56, t57, t58, t59, t60, t61, t62, t63, t64, t65, t66, t67, t68, t69, t70, t71, t72, t73, t74, t75, t76, t77, t78, t79, t80, t81, t82, t83, t84, t85, t86, t87, t88, t89, t90, t91, t92, t93, t94, t95, t96, t97, t98, t99, t100, t101, t102, t103, t104, t105, t106, t107, t108, t109, t110, t111, t112, t113, t114, t115, t116, t117, t118, t119, t120, t121, t122, t123, t124, t125, t126, t127, t128, t129, t130, t131, t132, t133, t134, t135, t136, t137, t138] h' R) →
      Ok tab R79 (.inLoop L79_1 :: .inBlock 2 :: k) #[ptr q, v1, t2, t3, t4, .int .i64 top, t6, t7, t8, t9, t10, t11, t12, t13, t14, t15, t16, t17, t18, t19, t20, t21, t22, t23, t24, .int .i64 w, .int .i64 x, t27, t28, t29, t30, t31, t32, t33, t34, t35, t36, t37, t38, t39, t40, t41, t42, t43, t44, t45, t46, t47, t48, t49, t50, t51, t52, t53, t54, t55, t56, t57, t58, t59, t60, t61, t62, t63, t64, t65, t66, t67, t68, t69, t70, t71, t72, t73, t74, t75, t76, t77, t78, t79, t80, t81, t82, t83, t84, t85, t86, t87, t88, t89, t90, t91, t92, t93, t94, t95, t96, t97, t98, t99, t100, t101, t102, t103, t104, t105, t106, t107, t108, t109, t110, t111, t112, t113, t114, t115, t116, t117, t118, t119, t120, t121, t122, t123, t124, t125, t126, t127, t128, t129, t130, t131, t132, t133, t134, t135, t136, t137, t138] h R := by
  intro n
  induction n with
  | zero =>
    intro x h t b s t2 t3 t4 t6 t7 t8 t9 t10 t11 t12 t13 t14 t15 t16 t17 t18 t19 t20 t21 t22 t23 t24 t27 t28 t29 t30 t31 t32 t33 t34 t35 t36 t37 t38 t39 t40 t41 t42 t43 t44 t45 t46 t47 t48 t49 t50 t51 t52 t53 t54 t55 t56 t57 t58 t59 t60 t61 t62 t63 t64 t65 t66 t67 t68 t69 t70 t71 t72 t73 t74 t75 t76 t77 t78 t79 t80 t81 t82 t83 t84 t85 t86 t87 t88 t89 t90 t91 t92 t93 t94 t95 t96 t97 t98 t99 t100 t101 t102 t103 t104 t105 t106 t107 t108 t109 t110 t111 t112 t113 t114 t115 t116 t117 t118 t119 t120 t121 t122 t123 t124 t125 t126 t127 t128 t129 t130 t131 t132 t133 t134 t135 t136 t137 t138 hx h0 hw hh' he hl hk
    have hlt : ¬ x < (w : Int) := by omega
    rw [ok_round, l79_1, L79_1a, L79_1b]
    simp [hlt]
    exact hk h t _ _ _ _ _ _ _ _ _ _ _ _ _ _ _ _ _ _ _ _ _ _ _ _ _ _ _ _ _ _ _ _ _ _ _ _ _ _ _ _ _ _ _ _ _ _ _ _ _ _ _ _ _ _ _ _ _ _ _ _ _ _ _ _ _ _ _ _ _ _ _ _ _ _ _ _ _ _ _ _ _ _ _ _ _ _ _ _ _ _ _ _ _ _ _ _ _ _ _ _ _ _ _ _ _ _ _ _ _ _ _ _ _ _ _ _ _ _ _ _ _ _ _ _ _ _ _ _ _ _ _ _ _ _ _ _ he (Stq.refl _ _ _)
  | succ n ih =>
    intro x h t b s t2 t3 t4 t6 t7 t8 t9 t10 t11 t12 t13 t14 t15 t16 t17 t18 t19 t20 t21 t22 t23 t24 t27 t28 t29 t30 t31 t32 t33 t34 t35 t36 t37 t38 t39 t40 t41 t42 t43 t44 t45 t46 t47 t48 t49 t50 t51 t52 t53 t54 t55 t56 t57 t58 t59 t60 t61 t62 t63 t64 t65 t66 t67 t68 t69 t70 t71 t72 t73 t74 t75 t76 t77 t78 t79 t80 t81 t82 t83 t84 t85 t86 t87 t88 t89 t90 t91 t92 t93 t94 t95 t96 t97 t98 t99 t100 t101 t102 t103 t104 t105 t106 t107 t108 t109 t110 t111 t112 t113 t114 t115 t116 t117 t118 t119 t120 t121 t122 t123 t124 t125 t126 t127 t128 t129 t130 t131 t132 t133 t134 t135 t136 t137 t138 hx h0 hw hh' he hl hk
    have hlt : x < (w : Int) := by omega
    have hw1 : IntKind.i64.wrap (x + 1) = x + 1 := wrapI (by omega) (by omega)
    have hw4 : IntKind.i64.wrap (top + 4) = top + 4 := wrapI (by omega) (by omega)
    have hq := he.dr.blk
    have hin : b.inb x top := ⟨h0, by rw [hw]; exact hlt, ht.1, by rw [hh']; exact ht.2⟩
    have hqt := fun R => quiet_d (R := R) (x := x) (top := top) he.dr ⟨h0, by rw [hw]; exact hlt⟩ ⟨ht.1, by rw [hh']; exact ht.2⟩
    obtain ⟨hle, hsz⟩ := Tr.Lv.out (A := A.ask) (size := A.size) A.size_ask s (lv_dcol he.dr.pok he.good hin)
    rw [dcols] at hk
    simp only [Tr.run_bind] at hk
    -- the next column
    have hnext : ∀ (h' : Heap) (t' : A.T) (t2 t3 t4 t6 t7 t8 t9 t10 t11 t12 t13 t14 t15 t16 t17 t18 t19 t20 t21 t22 t23 t24 t27 t28 t29 t30 t31 t32 t33 t34 t35 t36 t37 t38 t39 t40 t41 t42 t43 t44 t45 t46 t47 t48 t49 t50 t51 t52 t53 t54 t55 t56 t57 t58 t59 t60 t61 t62 t63 t64 t65 t66 t67 t68 t69 t70 t71 t72 t73 t74 t75 t76 t77 t78 t79 t80 t81 t82 t83 t84 t85 t86 t87 t88 t89 t90 t91 t92 t93 t94 t95 t96 t97 t98 t99 t100 t101 t102 t103 t104 t105 t106 t107 t108 t109 t110 t111 t112 t113 t114 t115 t116 t117 t118 t119 t120 t121 t122 t123 t124 t125 t126 t127 t128 t129 t130 t131 t132 t133 t134 t135 t136 t137 t138 : Value), PD A h' q p pb nb P t' ((dcol P b x top).run A.ask s).1 ((dcol P b x top).run A.ask s).2 → Stq h h' c (A.own t) (A.own t') →
        Ok tab R79 (.inLoop L79_1 :: .inBlock 2 :: k) #[ptr q, v1, t2, t3, t4, .int .i64 top, t6, t7, t8, t9, t10, t11, t12, t13, t14, t15, t16, t17, t18, t19, t20, t21, t22, t23, t24, .int .i64 w, .int .i64 (x + 1), t27, t28, t29, t30, t31, t32, t33, t34, t35, t36, t37, t38, t39, t40, t41, t42, t43, t44, t45, t46, t47, t48, t49, t50, t51, t52, t53, t54, t55, t56, t57, t58, t59, t60, t61, t62, t63, t64, t65, t66, t67, t68, t69, t70, t71, t72, t73, t74, t75, t76, t77, t78, t79, t80, t81, t82, t83, t84, t85, t86, t87, t88, t89, t90, t91, t92, t93, t94, t95, t96, t97, t98, t99, t100, t101, t102, t103, t104, t105, t106, t107, t108, t109, t110, t111, t112, t113, t114, t115, t116, t117, t118, t119, t120, t121, t122, t123, t124, t125, t126, t127, t128, t129, t130, t131, t132, t133, t134, t135, t136, t137, t138] h' R := by
      intro h' t' t2 t3 t4 t6 t7 t8 t9 t10 t11 t12 t13 t14 t15 t16 t17 t18 t19 t20 t21 t22 t23 t24 t27 t28 t29 t30 t31 t32 t33 t34 t35 t36 t37 t38 t39 t40 t41 t42 t43 t44 t45 t46 t47 t48 t49 t50 t51 t52 t53 t54 t55 t56 t57 t58 t59 t60 t61 t62 t63 t64 t65 t66 t67 t68 t69 t70 t71 t72 t73 t74 t75 t76 t77 t78 t79 t80 t81 t82 t83 t84 t85 t86 t87 t88 t89 t90 t91 t92 t93 t94 t95 t96 t97 t98 t99 t100 t101 t102 t103 t104 t105 t106 t107 t108 t109 t110 t111 t112 t113 t114 t115 t116 t117 t118 t119 t120 t121 t122 t123 t124 t125 t126 t127 t128 t129 t130 t131 t132 t133 t134 t135 t136 t137 t138 pe st
      refine ih (x + 1) h' t' _ _ _ _ _ _ _ _ _ _ _ _ _ _ _ _ _ _ _ _ _ _ _ _ _ _ _ _ _ _ _ _ _ _ _ _ _ _ _ _ _ _ _ _ _ _ _ _ _ _ _ _ _ _ _ _ _ _ _ _ _ _ _ _ _ _ _ _ _ _ _ _ _ _ _ _ _ _ _ _ _ _ _ _ _ _ _ _ _ _ _ _ _ _ _ _ _ _ _ _ _ _ _ _ _ _ _ _ _ _ _ _ _ _ _ _ _ _ _ _ _ _ _ _ _ _ _ _ _ _ _ _ _ _ _ _ (by omega) (by omega) (by rw [hle.w]; exact hw) (by rw [hle.h]; exact hh') pe (by omega) ?_
      intro h'' t'' t2 t3 t4 t6 t7 t8 t9 t10 t11 t12 t13 t14 t15 t16 t17 t18 t19 t20 t21 t22 t23 t24 t25 t26 t27 t28 t29 t30 t31 t32 t33 t34 t35 t36 t37 t38 t39 t40 t41 t42 t43 t44 t45 t46 t47 t48 t49 t50 t51 t52 t53 t54 t55 t56 t57 t58 t59 t60 t61 t62 t63 t64 t65 t66 t67 t68 t69 t70 t71 t72 t73 t74 t75 t76 t77 t78 t79 t80 t81 t82 t83 t84 t85 t86 t87 t88 t89 t90 t91 t92 t93 t94 t95 t96 t97 t98 t99 t100 t101 t102 t103 t104 t105 t106 t107 t108 t109 t110 t111 t112 t113 t114 t115 t116 t117 t118 t119 t120 t121 t122 t123 t124 t125 t126 t127 t128 t129 t130 t131 t132 t133 t134 t135 t136 t137 t138 pe2 st2
      exact hk h'' t'' _ _ _ _ _ _ _ _ _ _ _ _ _ _ _ _ _ _ _ _ _ _ _ _ _ _ _ _ _ _ _ _ _ _ _ _ _ _ _ _ _ _ _ _ _ _ _ _ _ _ _ _ _ _ _ _ _ _ _ _ _ _ _ _ _ _ _ _ _ _ _ _ _ _ _ _ _ _ _ _ _ _ _ _ _ _ _ _ _ _ _ _ _ _ _ _ _ _ _ _ _ _ _ _ _ _ _ _ _ _ _ _ _ _ _ _ _ _ _ _ _ _ _ _ _ _ _ _ _ _ _ _ _ _ _ _ pe2 (st.trans st2)
    rw [ok_round, l79_1, L79_1a, L79_1b]
    cases hqq : quiet b x top P.cz
    · -- no run length
      have hcol : dcol P b x top = drows P b x top (min (top + 4) b.h - top).toNat := by unfold dcol; rw [if_neg (by simp [hqq])]
      rw [hqq] at hqt
      rw [hcol, hh'] at hnext
      simp [hlt, hqt]
      refine drows_loop hw2 hh2 ⟨h0, hlt⟩ ht (min (top + 4) (hh : Int) - top).toNat top h t b s _ _ _ _ _ _ _ _ _ _ _ _ _ _ _ _ _ _ _ _ _ _ _ _ _ _ _ _ _ _ _ _ _ _ _ _ _ _ _ _ _ _ _ _ _ _ _ _ _ _ _ _ _ _ _ _ _ _ _ _ _ _ _ _ _ _ _ _ _ _ _ _ _ _ _ _ _ _ _ _ _ _ _ _ _ _ _ _ _ _ _ _ _ _ _ _ _ _ _ _ _ _ _ _ _ _ _ _ _ _ _ _ _ _ _ _ _ _ _ _ _ _ _ _ _ _ _ _ _ _ _ _ (by omega) ht.1 hw hh' he (by omega) ?_
      intro h' t' y' t2 t3 t4 t8 t9 t10 t11 t12 t13 t14 t15 t16 t17 t18 t19 t20 t21 t22 t23 t24 t27 t28 t29 t30 t31 t32 t33 t34 t35 t36 t37 t38 t39 t40 t41 t42 t43 t44 t45 t46 t47 t48 t49 t50 t51 t52 t53 t54 t55 t56 t57 t58 t59 t60 t61 t62 t63 t64 t65 t66 t67 t68 t69 t70 t71 t72 t73 t74 t75 t76 t77 t78 t79 t80 t81 t82 t83 t84 t85 t86 t87 t88 t89 t90 t91 t92 t93 t94 t95 t96 t97 t98 t99 t100 t101 t102 t103 t104 t105 t106 t107 t108 t109 t110 t111 t112 t113 t114 t115 t116 t117 t118 t119 t120 t121 t122 t123 t124 t125 t126 t127 t128 t129 t130 t131 t132 t133 t134 t135 t136 t137 t138 pe st
      simp [hw1]
      exact hnext h' t' _ _ _ _ _ _ _ _ _ _ _ _ _ _ _ _ _ _ _ _ _ _ _ _ _ _ _ _ _ _ _ _ _ _ _ _ _ _ _ _ _ _ _ _ _ _ _ _ _ _ _ _ _ _ _ _ _ _ _ _ _ _ _ _ _ _ _ _ _ _ _ _ _ _ _ _ _ _ _ _ _ _ _ _ _ _ _ _ _ _ _ _ _ _ _ _ _ _ _ _ _ _ _ _ _ _ _ _ _ _ _ _ _ _ _ _ _ _ _ _ _ _ _ _ _ _ _ _ _ _ _ _ _ _ pe st
    · -- a run length
      have htop : top + 4 ≤ b.h := by
        simp only [quiet, Bool.and_eq_true, decide_eq_true_eq] at hqq; exact hqq.1
      have hcol : dcol P b x top = (drun P b x top).bind fun r => drows P r.1 x r.2 (min (top + 4) r.1.h - r.2).toNat := by unfold dcol; rw [if_pos hqq]
      obtain ⟨⟨r1, r2, r3⟩, rsz⟩ := Tr.Lv.out (A := A.ask) (size := A.size) A.size_ask s (lv_drun he.dr.pok he.good hin htop)
      rw [hqq] at hqt
      rw [hcol] at hnext
      simp only [Tr.run_bind] at hnext
      obtain ⟨u1, h1, e1, p1, s1⟩ := ask_d he (by omega) 17
      have z1 := A.size_ask s (P.cx 17)
      have hrun : (drun P b x top).run A.ask s = (if (A.ask s (P.cx 17)).1 = true then Tr.ask (P.cx 18) fun k1 => .ask (P.cx 18) fun k0 => (dsign P b x (top + two2 k1 k0)).bind fun b => .ret (b, top + two2 k1 k0 + 1) else .ret (b, top + 4)).run A.ask (A.ask s (P.cx 17)).2 := rfl
      rw [hrun] at hnext r1 r2 r3 rsz
      generalize (A.ask s (P.cx 17)).1 = bit at *
      generalize (A.ask s (P.cx 17)).2 = sa at *
      cases bit
      · simp only [Bool.false_eq_true, if_false, Tr.run_ret] at hnext
        rw [show (min (top + 4) (b.h : Int) - (top + 4)).toNat = 0 by omega, drows, Tr.run_ret] at hnext
        simp at e1
        simp [hlt, hqt, hq, e1, hw1]
        exact hnext h1 u1 _ _ _ _ _ _ _ _ _ _ _ _ _ _ _ _ _ _ _ _ _ _ _ _ _ _ _ _ _ _ _ _ _ _ _ _ _ _ _ _ _ _ _ _ _ _ _ _ _ _ _ _ _ _ _ _ _ _ _ _ _ _ _ _ _ _ _ _ _ _ _ _ _ _ _ _ _ _ _ _ _ _ _ _ _ _ _ _ _ _ _ _ _ _ _ _ _ _ _ _ _ _ _ _ _ _ _ _ _ _ _ _ _ _ _ _ _ _ _ _ _ _ _ _ _ _ _ _ _ _ _ _ _ _ p1 s1
      · simp only [if_true, Tr.run_ask, Tr.run_bind, Tr.run_ret] at hnext r1 r2 r3 rsz
        obtain ⟨u2, h2, e2, p2, s2⟩ := ask_d p1 (by omega) 18
        have z2 := A.size_ask sa (P.cx 18)
        generalize (A.ask sa (P.cx 18)).1 = k1 at *
        generalize (A.ask sa (P.cx 18)).2 = sb at *
        obtain ⟨u3, h3, e3, p3, s3⟩ := ask_d p2 (by omega) 18
        have z3 := A.size_ask sb (P.cx 18)
        generalize (A.ask sb (P.cx 18)).1 = k0 at *
        generalize (A.ask sb (P.cx 18)).2 = sc at *
        have h22 := two2_le k1 k0
        have hi4 : b.inb x (top + two2 k1 k0) := ⟨h0, by rw [hw]; exact hlt, by omega, by omega⟩
        obtain ⟨u4, h4, e4, p4, s4⟩ := sign_d p3 (by omega) hi4
        have hq1 := p1.dr.blk
        have hq2 := p2.dr.blk
        have hq3 := p3.dr.blk
        simp at e1
        have hwa : IntKind.i64.wrap (2 * ((k1.toNat : Nat) : Int)) = 2 * ((k1.toNat : Nat) : Int) := by cases k1 <;> simp [wrapI]
        have hwb : IntKind.i64.wrap (top + 2 * ((k1.toNat : Nat) : Int)) = top + 2 * ((k1.toNat : Nat) : Int) := by cases k1 <;> exact wrapI (by simp; omega) (by simp; omega)
        have hwc : IntKind.i64.wrap (top + 2 * ((k1.toNat : Nat) : Int) + ((k0.toNat : Nat) : Int)) = top + (two2 k1 k0 : Nat) := by
          have : top + 2 * ((k1.toNat : Nat) : Int) + ((k0.toNat : Nat) : Int) = top + (two2 k1 k0 : Nat) := by unfold two2; simp; omega
          rw [this]; exact wrapI (by omega) (by omega)
        have hwd : IntKind.i64.wrap (top + ((two2 k1 k0 : Nat) : Int) + 1) = top + (two2 k1 k0 : Nat) + 1 := wrapI (by omega) (by omega)
        generalize two2 k1 k0 = kk at *
        generalize ((k1.toNat : Nat) : Int) = k1i at *
        generalize ((k0.toNat : Nat) : Int) = k0i at *
        simp [hlt, hqt, hq, e1, hq1, e2, hwa, hwb, hq2, e3, hwc, hq3, e4, hwd]
        generalize ((dsign P b x (top + (kk : Int))).run A.ask sc).1 = bd at *
        generalize ((dsign P b x (top + (kk : Int))).run A.ask sc).2 = sd at *
        have hbh : (bd.h : Int) = hh := by rw [r1.h, hh']
        rw [hbh] at hnext
        refine drows_loop hw2 hh2 ⟨h0, hlt⟩ ht (min (top + 4) (hh : Int) - (top + kk + 1)).toNat (top + kk + 1) h4 u4 bd sd _ _ _ _ _ _ _ _ _ _ _ _ _ _ _ _ _ _ _ _ _ _ _ _ _ _ _ _ _ _ _ _ _ _ _ _ _ _ _ _ _ _ _ _ _ _ _ _ _ _ _ _ _ _ _ _ _ _ _ _ _ _ _ _ _ _ _ _ _ _ _ _ _ _ _ _ _ _ _ _ _ _ _ _ _ _ _ _ _ _ _ _ _ _ _ _ _ _ _ _ _ _ _ _ _ _ _ _ _ _ _ _ _ _ _ _ _ _ _ _ _ _ _ _ _ _ _ _ _ _ _ _ (by omega) (by omega) (by rw [r1.w]; exact hw) (by rw [r1.h]; exact hh') p4 (by omega) ?_
        intro h' t' y' t2 t3 t4 t8 t9 t10 t11 t12 t13 t14 t15 t16 t17 t18 t19 t20 t21 t22 t23 t24 t27 t28 t29 t30 t31 t32 t33 t34 t35 t36 t37 t38 t39 t40 t41 t42 t43 t44 t45 t46 t47 t48 t49 t50 t51 t52 t53 t54 t55 t56 t57 t58 t59 t60 t61 t62 t63 t64 t65 t66 t67 t68 t69 t70 t71 t72 t73 t74 t75 t76 t77 t78 t79 t80 t81 t82 t83 t84 t85 t86 t87 t88 t89 t90 t91 t92 t93 t94 t95 t96 t97 t98 t99 t100 t101 t102 t103 t104 t105 t106 t107 t108 t109 t110 t111 t112 t113 t114 t115 t116 t117 t118 t119 t120 t121 t122 t123 t124 t125 t126 t127 t128 t129 t130 t131 t132 t133 t134 t135 t136 t137 t138 pe st
        simp [hw1]
        exact hnext h' t' _ _ _ _ _ _ _ _ _ _ _ _ _ _ _ _ _ _ _ _ _ _ _ _ _ _ _ _ _ _ _ _ _ _ _ _ _ _ _ _ _ _ _ _ _ _ _ _ _ _ _ _ _ _ _ _ _ _ _ _ _ _ _ _ _ _ _ _ _ _ _ _ _ _ _ _ _ _ _ _ _ _ _ _ _ _ _ _ _ _ _ _ _ _ _ _ _ _ _ _ _ _ _ _ _ _ _ _ _ _ _ _ _ _ _ _ _ _ _ _ _ _ _ _ _ _ _ _ _ _ _ _ _ _ pe ((((s1.trans s2).trans s3).trans s4).trans st)

set_option maxRecDepth 10000 in
set_option maxHeartbeats 4000000 in
theorem dstripes_loop {w hh : Nat} (hw2 : w ≤ 64) (hh2 : hh ≤ 64) :
    ∀ (n : Nat) (top : Int) (h : Heap) (t : A.T) (b : BS) (s : A.S) (t2 t3 t4 t6 t7 t8 t9 t10 t11 t12 t13 t14 t15 t16 t17 t18 t19 t20 t21 t22 t23 t24 t25 t26 t27 t28 t29 t30 t31 t32 t33 t34 t35 t36 t37 t38 t39 t40 t41 t42 t43 t44 t45 t46 t47 t48 t49 t50 t51 t52 t53 t54 t55 t56 t57 t58 t59 t60 t61 t62 t63 t64 t65 t66 t67 t68 t69 t70 t71 t72 t73 t74 t75 t76 t77 t78 t79 t80 t81 t82 t83 t84 t85 t86 t87 t88 t89 t90 t91 t92 t93 t94 t95 t96 t97 t98 t99 t100 t101 t102 t103 t104 t105 t106 t107 t108 t109 t110 t111 t112 t113 t114 t115 t116 t117 t118 t119 t120 t121 t122 t123 t124 t125 t126 t127 t128 t129 t130 t131 t132 t133 t134 t135 t136 t137 t138 : Value), (hh : Int) ≤ top + 4 * n → top + 4 * n ≤ hh + 3 → 0 ≤ top → b.w = w → b.h = hh → PD A h q p pb nb P t b s → A.size s + 12 * w * n + 20 < 1000000 →
      (∀ (h' : Heap) (t' : A.T) (t2 t3 t4 t5 t6 t7 t8 t9 t10 t11 t12 t13 t14 t15 t16 t17 t18 t19 t20 t21 t22 t23 t24 t25 t26 t27 t28 t29 t30 t31 t32 t33 t34 t35 t36 t37 t38 t39 t40 t41 t42 t43 t44 t45 t46 t47 t48 t49 t50 t51 t52 t53 t54 t55 t56 t57 t58 t59 t60 t61 t62 t63 t64 t65 t66 t67 t68 t69 t70 t71 t72 t73 t74 t75 t76 t77 t78 t79 t80 t81 t82 t83 t84 t85 t86 t87 t88 t89 t90 t91 t92 t93 t94 t95 t96 t97 t98 t99 t100 t101 t102 t103 t104 t105 t106 t107 t108 t109 t110 t111 t112 t113 t114 t115 t116 t117 t118 t119 t120 t121 t122 t123 t124 t125 t126 t127 t128 t129 t130 t131 t132 t133 t134 t135 t136 t137 t138 : Value), PD A h' q p pb nb P t' ((dstripes P b top n).run A.ask s).1 ((dstripes P b top n).run A.ask s).2 → Stq h h' c (A.own t) (A.own t') →
        Ok tab R79 k #[ptr q, v1, t2, t3, t4, t5, t6, t7, t8, t9, t10, t11, t12, t13, t14, t15, t16, t17, t18, t19, t20, t21, t22, t23, t24, t25, t26, t27, t28, t29, t30, t31, t32, t33, t34, t35, t36, t37, t38, t39, t40, t41, t42, t43, t44, t45, t46, t47, t48, t49, t50, t51, t52, t53, t54, t55, t56, t57, t58, t59, t60, t61, t62, t63, t64, t65, t66, t67, t68, t69, t70, t71, t72, t73, t74, t75, t76, t77, t78, t79, t80, t81, t82, t83, t84, t85, t86, t87, t88, t89, t90, t91, t92, t93, t94, t95, t96, t97, t98, t99, t100, t101, t102, t103, t104, t105, t106, t107, t108, t109, t110, t111, t112, t113, t114, t115, t116, t117, t118, t119, t120, t121, t122, t123, t124, t125, t126, t127, t128, t129, t130, t131, t132, t133, t134, t135, t136, t137, t138] h' R) →
      Ok tab R79 (.inLoop L79_2 :: .inBlock 0 :: k) #[ptr q, v1, t2, t3, t4, .int .i64 top, t6, t7, t8, t9, t10, t11, t12, t13, t14, t15, t16, t17, t18, t19, t20, t21, t22, t23, t24, t25, t26, t27, t28, t29, t30, t31, t32, t33, t34, t35, t36, t37, t38, t39, t40, t41, t42, t43, t44, t45, t46, t47, t48, t49, t50, t51, t52, t53, t54, t55, t56, t57, t58, t59, t60, t61, t62, t63, t64, t65, t66, t67, t68, t69, t70, t71, t72, t73, t74, t75, t76, t77, t78, t79, t80, t81, t82, t83, t84, t85, t86, t87, t88, t89, t90, t91, t92, t93, t94, t95, t96, t97, t98, t99, t100, t101, t102, t103, t104, t105, t106, t107, t108, t109, t110, t111, t112, t113, t114, t115, t116, t117, t118, t119, t120, t121, t122, t123, t124, t125, t126, t127, t128, t129, t130, t131, t132, t133, t134, t135, t136, t137, t138] h R := by
  intro n
  induction n with
  | zero =>
    intro top h t b s t2 t3 t4 t6 t7 t8 t9 t10 t11 t12 t13 t14 t15 t16 t17 t18 t19 t20 t21 t22 t23 t24 t25 t26 t27 t28 t29 t30 t31 t32 t33 t34 t35 t36 t37 t38 t39 t40 t41 t42 t43 t44 t45 t46 t47 t48 t49 t50 t51 t52 t53 t54 t55 t56 t57 t58 t59 t60 t61 t62 t63 t64 t65 t66 t67 t68 t69 t70 t71 t72 t73 t74 t75 t76 t77 t78 t79 t80 t81 t82 t83 t84 t85 t86 t87 t88 t89 t90 t91 t92 t93 t94 t95 t96 t97 t98 t99 t100 t101 t102 t103 t104 t105 t106 t107 t108 t109 t110 t111 t112 t113 t114 t115 t116 t117 t118 t119 t120 t121 t122 t123 t124 t125 t126 t127 t128 t129 t130 t131 t132 t133 t134 t135 t136 t137 t138 ha hb h0 hw hh' he hl hk
    have hq := he.dr.blk
    rw [hw, hh'] at hq
    have hlt : ¬ top < (hh : Int) := by omega
    rw [ok_round, l79_2, L79_2a, L79_2b]
    simp [hq, hlt]
    exact hk h t _ _ _ _ _ _ _ _ _ _ _ _ _ _ _ _ _ _ _ _ _ _ _ _ _ _ _ _ _ _ _ _ _ _ _ _ _ _ _ _ _ _ _ _ _ _ _ _ _ _ _ _ _ _ _ _ _ _ _ _ _ _ _ _ _ _ _ _ _ _ _ _ _ _ _ _ _ _ _ _ _ _ _ _ _ _ _ _ _ _ _ _ _ _ _ _ _ _ _ _ _ _ _ _ _ _ _ _ _ _ _ _ _ _ _ _ _ _ _ _ _ _ _ _ _ _ _ _ _ _ _ _ _ _ _ _ _ he (Stq.refl _ _ _)
  | succ n ih =>
    intro top h t b s t2 t3 t4 t6 t7 t8 t9 t10 t11 t12 t13 t14 t15 t16 t17 t18 t19 t20 t21 t22 t23 t24 t25 t26 t27 t28 t29 t30 t31 t32 t33 t34 t35 t36 t37 t38 t39 t40 t41 t42 t43 t44 t45 t46 t47 t48 t49 t50 t51 t52 t53 t54 t55 t56 t57 t58 t59 t60 t61 t62 t63 t64 t65 t66 t67 t68 t69 t70 t71 t72 t73 t74 t75 t76 t77 t78 t79 t80 t81 t82 t83 t84 t85 t86 t87 t88 t89 t90 t91 t92 t93 t94 t95 t96 t97 t98 t99 t100 t101 t102 t103 t104 t105 t106 t107 t108 t109 t110 t111 t112 t113 t114 t115 t116 t117 t118 t119 t120 t121 t122 t123 t124 t125 t126 t127 t128 t129 t130 t131 t132 t133 t134 t135 t136 t137 t138 ha hb h0 hw hh' he hl hk
    have hq := he.dr.blk
    rw [hw, hh'] at hq
    have hlt : top < (hh : Int) := by omega
    have hw4 : IntKind.i64.wrap (top + 4) = top + 4 := wrapI (by omega) (by omega)
    obtain ⟨hle, hsz⟩ := Tr.Lv.out (A := A.ask) (size := A.size) A.size_ask s (lv_dcols he.dr.pok (n := w) he.good (x := 0) (top := top) (by omega) (by rw [hw]; omega) h0 (by rw [hh']; exact hlt))
    have hmul : 12 * w * (n + 1) = 12 * w * n + 12 * w := by rw [Nat.mul_add]; omega
    rw [dstripes, hw] at hk
    simp only [Tr.run_bind] at hk
    rw [ok_round, l79_2, L79_2a, L79_2b]
    simp [hq, hlt]
    refine dcols_loop hw2 hh2 ⟨h0, hlt⟩ w 0 h t b s _ _ _ _ _ _ _ _ _ _ _ _ _ _ _ _ _ _ _ _ _ _ _ _ _ _ _ _ _ _ _ _ _ _ _ _ _ _ _ _ _ _ _ _ _ _ _ _ _ _ _ _ _ _ _ _ _ _ _ _ _ _ _ _ _ _ _ _ _ _ _ _ _ _ _ _ _ _ _ _ _ _ _ _ _ _ _ _ _ _ _ _ _ _ _ _ _ _ _ _ _ _ _ _ _ _ _ _ _ _ _ _ _ _ _ _ _ _ _ _ _ _ _ _ _ _ _ _ _ _ _ _ _ _ (by omega) (by omega) hw hh' he (by omega) ?_
    intro h' t' t2 t3 t4 t6 t7 t8 t9 t10 t11 t12 t13 t14 t15 t16 t17 t18 t19 t20 t21 t22 t23 t24 t25 t26 t27 t28 t29 t30 t31 t32 t33 t34 t35 t36 t37 t38 t39 t40 t41 t42 t43 t44 t45 t46 t47 t48 t49 t50 t51 t52 t53 t54 t55 t56 t57 t58 t59 t60 t61 t62 t63 t64 t65 t66 t67 t68 t69 t70 t71 t72 t73 t74 t75 t76 t77 t78 t79 t80 t81 t82 t83 t84 t85 t86 t87 t88 t89 t90 t91 t92 t93 t94 t95 t96 t97 t98 t99 t100 t101 t102 t103 t104 t105 t106 t107 t108 t109 t110 t111 t112 t113 t114 t115 t116 t117 t118 t119 t120 t121 t122 t123 t124 t125 t126 t127 t128 t129 t130 t131 t132 t133 t134 t135 t136 t137 t138 pe st
    simp [hw4]
    refine ih (top + 4) h' t' _ _ _ _ _ _ _ _ _ _ _ _ _ _ _ _ _ _ _ _ _ _ _ _ _ _ _ _ _ _ _ _ _ _ _ _ _ _ _ _ _ _ _ _ _ _ _ _ _ _ _ _ _ _ _ _ _ _ _ _ _ _ _ _ _ _ _ _ _ _ _ _ _ _ _ _ _ _ _ _ _ _ _ _ _ _ _ _ _ _ _ _ _ _ _ _ _ _ _ _ _ _ _ _ _ _ _ _ _ _ _ _ _ _ _ _ _ _ _ _ _ _ _ _ _ _ _ _ _ _ _ _ _ _ _ _ _ _ (by omega) (by omega) (by omega) (by rw [hle.w]; exact hw) (by rw [hle.h]; exact hh') pe (by omega) ?_
    intro h'' t'' t2 t3 t4 t5 t6 t7 t8 t9 t10 t11 t12 t13 t14 t15 t16 t17 t18 t19 t20 t21 t22 t23 t24 t25 t26 t27 t28 t29 t30 t31 t32 t33 t34 t35 t36 t37 t38 t39 t40 t41 t42 t43 t44 t45 t46 t47 t48 t49 t50 t51 t52 t53 t54 t55 t56 t57 t58 t59 t60 t61 t62 t63 t64 t65 t66 t67 t68 t69 t70 t71 t72 t73 t74 t75 t76 t77 t78 t79 t80 t81 t82 t83 t84 t85 t86 t87 t88 t89 t90 t91 t92 t93 t94 t95 t96 t97 t98 t99 t100 t101 t102 t103 t104 t105 t106 t107 t108 t109 t110 t111 t112 t113 t114 t115 t116 t117 t118 t119 t120 t121 t122 t123 t124 t125 t126 t127 t128 t129 t130 t131 t132 t133 t134 t135 t136 t137 t138 pe2 st2
    exact hk h'' t'' _ _ _ _ _ _ _ _ _ _ _ _ _ _ _ _ _ _ _ _ _ _ _ _ _ _ _ _ _ _ _ _ _ _ _ _ _ _ _ _ _ _ _ _ _ _ _ _ _ _ _ _ _ _ _ _ _ _ _ _ _ _ _ _ _ _ _ _ _ _ _ _ _ _ _ _ _ _ _ _ _ _ _ _ _ _ _ _ _ _ _ _ _ _ _ _ _ _ _ _ _ _ _ _ _ _ _ _ _ _ _ _ _ _ _ _ _ _ _ _ _ _ _ _ _ _ _ _ _ _ _ _ _ _ _ _ _ pe2 (st.trans st2)

set_option maxRecDepth 10000 in
set_option maxHeartbeats 4000000 in
theorem dclear_loop {sl : Value} {pts : List (Int × Int)} :
    ∀ (m i : Nat) (h : Heap) (t : A.T) (b : BS) (s : A.S) (t2 t3 t4 t5 t6 t7 t8 t9 t10 t11 t12 t13 t14 t15 t16 t17 t18 t19 t20 t21 t22 t23 t24 t25 t26 t27 t28 t29 t30 t31 t32 t33 t34 t35 t36 t37 t38 t39 t40 t41 t42 t43 t44 t45 t46 t47 t48 t49 t50 t51 t52 t53 t54 t55 t56 t57 t58 t59 t60 t61 t62 t63 t64 t65 t66 t67 t68 t69 t70 t71 t72 t73 t74 t75 t76 t77 t78 t79 t80 t81 t82 t83 t84 t85 t86 t87 t88 t89 t90 t91 t92 t93 t94 t95 t96 t97 t98 t99 t100 t101 t102 t106 t107 t108 t109 t110 t111 t112 t113 t114 t115 t116 t117 t118 t119 t120 t121 t122 t123 t124 t125 t126 t127 t128 t129 t130 t131 t132 t133 t134 t135 t136 t137 t138 : Value), m = pts.length - i → i ≤ pts.length → PD A h q p pb nb P t b s → Fad h sl pts c (A.own t) → AllIn b pts → pts.length < 1000000 →
      (∀ (h' : Heap) (t2 t3 t4 t5 t6 t7 t8 t9 t10 t11 t12 t13 t14 t15 t16 t17 t18 t19 t20 t21 t22 t23 t24 t25 t26 t27 t28 t29 t30 t31 t32 t33 t34 t35 t36 t37 t38 t39 t40 t41 t42 t43 t44 t45 t46 t47 t48 t49 t50 t51 t52 t53 t54 t55 t56 t57 t58 t59 t60 t61 t62 t63 t64 t65 t66 t67 t68 t69 t70 t71 t72 t73 t74 t75 t76 t77 t78 t79 t80 t81 t82 t83 t84 t85 t86 t87 t88 t89 t90 t91 t92 t93 t94 t95 t96 t97 t98 t99 t100 t101 t102 t103 t104 t105 t106 t107 t108 t109 t110 t111 t112 t113 t114 t115 t116 t117 t118 t119 t120 t121 t122 t123 t124 t125 t126 t127 t128 t129 t130 t131 t132 t133 t134 t135 t136 t137 t138 : Value), PD A h' q p pb nb P t (b.clr (pts.drop i)) s → Stq h h' c (A.own t) (A.own t) → Ok tab R79 k #[ptr q, v1, t2, t3, t4, t5, t6, t7, t8, t9, t10, t11, t12, t13, t14, t15, t16, t17, t18, t19, t20, t21, t22, t23, t24, t25, t26, t27, t28, t29, t30, t31, t32, t33, t34, t35, t36, t37, t38, t39, t40, t41, t42, t43, t44, t45, t46, t47, t48, t49, t50, t51, t52, t53, t54, t55, t56, t57, t58, t59, t60, t61, t62, t63, t64, t65, t66, t67, t68, t69, t70, t71, t72, t73, t74, t75, t76, t77, t78, t79, t80, t81, t82, t83, t84, t85, t86, t87, t88, t89, t90, t91, t92, t93, t94, t95, t96, t97, t98, t99, t100, t101, t102, t103, t104, t105, t106, t107, t108, t109, t110, t111, t112, t113, t114, t115, t116, t117, t118, t119, t120, t121, t122, t123, t124, t125, t126, t127, t128, t129, t130, t131, t132, t133, t134, t135, t136, t137, t138] h' R) →
      Ok tab R79 (.inLoop L79_3 :: .inBlock 6 :: k) #[ptr q, v1, t2, t3, t4, t5, t6, t7, t8, t9, t10, t11, t12, t13, t14, t15, t16, t17, t18, t19, t20, t21, t22, t23, t24, t25, t26, t27, t28, t29, t30, t31, t32, t33, t34, t35, t36, t37, t38, t39, t40, t41, t42, t43, t44, t45, t46, t47, t48, t49, t50, t51, t52, t53, t54, t55, t56, t57, t58, t59, t60, t61, t62, t63, t64, t65, t66, t67, t68, t69, t70, t71, t72, t73, t74, t75, t76, t77, t78, t79, t80, t81, t82, t83, t84, t85, t86, t87, t88, t89, t90, t91, t92, t93, t94, t95, t96, t97, t98, t99, t100, t101, t102, sl, .int .i64 pts.length, .int .i64 i, t106, t107, t108, t109, t110, t111, t112, t113, t114, t115, t116, t117, t118, t119, t120, t121, t122, t123, t124, t125, t126, t127, t128, t129, t130, t131, t132, t133, t134, t135, t136, t137, t138] h R := by
  intro m
  induction m with
  | zero =>
    intro i h t b s t2 t3 t4 t5 t6 t7 t8 t9 t10 t11 t12 t13 t14 t15 t16 t17 t18 t19 t20 t21 t22 t23 t24 t25 t26 t27 t28 t29 t30 t31 t32 t33 t34 t35 t36 t37 t38 t39 t40 t41 t42 t43 t44 t45 t46 t47 t48 t49 t50 t51 t52 t53 t54 t55 t56 t57 t58 t59 t60 t61 t62 t63 t64 t65 t66 t67 t68 t69 t70 t71 t72 t73 t74 t75 t76 t77 t78 t79 t80 t81 t82 t83 t84 t85 t86 t87 t88 t89 t90 t91 t92 t93 t94 t95 t96 t97 t98 t99 t100 t101 t102 t106 t107 t108 t109 t110 t111 t112 t113 t114 t115 t116 t117 t118 t119 t120 t121 t122 t123 t124 t125 t126 t127 t128 t129 t130 t131 t132 t133 t134 t135 t136 t137 t138 hm hi he hf ha hpl hk
    have hlt : ¬ ((i : Int) < pts.length) := by omega
    rw [ok_round, l79_3, L79_3a, L79_3b]
    simp [hlt]
    refine hk h _ _ _ _ _ _ _ _ _ _ _ _ _ _ _ _ _ _ _ _ _ _ _ _ _ _ _ _ _ _ _ _ _ _ _ _ _ _ _ _ _ _ _ _ _ _ _ _ _ _ _ _ _ _ _ _ _ _ _ _ _ _ _ _ _ _ _ _ _ _ _ _ _ _ _ _ _ _ _ _ _ _ _ _ _ _ _ _ _ _ _ _ _ _ _ _ _ _ _ _ _ _ _ _ _ _ _ _ _ _ _ _ _ _ _ _ _ _ _ _ _ _ _ _ _ _ _ _ _ _ _ _ _ _ _ _ _ ?_ (Stq.refl _ _ _)
    rw [List.drop_of_length_le (by omega)]; exact he
  | succ m ih =>
    intro i h t b s t2 t3 t4 t5 t6 t7 t8 t9 t10 t11 t12 t13 t14 t15 t16 t17 t18 t19 t20 t21 t22 t23 t24 t25 t26 t27 t28 t29 t30 t31 t32 t33 t34 t35 t36 t37 t38 t39 t40 t41 t42 t43 t44 t45 t46 t47 t48 t49 t50 t51 t52 t53 t54 t55 t56 t57 t58 t59 t60 t61 t62 t63 t64 t65 t66 t67 t68 t69 t70 t71 t72 t73 t74 t75 t76 t77 t78 t79 t80 t81 t82 t83 t84 t85 t86 t87 t88 t89 t90 t91 t92 t93 t94 t95 t96 t97 t98 t99 t100 t101 t102 t106 t107 t108 t109 t110 t111 t112 t113 t114 t115 t116 t117 t118 t119 t120 t121 t122 t123 t124 t125 t126 t127 t128 t129 t130 t131 t132 t133 t134 t135 t136 t137 t138 hm hi he hf ha hpl hk
    have hlt : ((i : Int) < pts.length) := by omega
    have hw : IntKind.i64.wrap ((i : Int) + 1) = (i : Int) + 1 := wrapN (n := i + 1) (by omega)
    have hil : i < pts.length := by omega
    obtain ⟨id, off, blk, hs, hb, ht, hle⟩ := hf.get hil
    have hin := ha _ (List.getElem_mem hil)
    have hsp : b.clr (pts.drop i) = (b.upd pts[i].1 pts[i].2 (touch false)).clr (pts.drop (i + 1)) := by
      rw [List.drop_eq_getElem_cons hil]; rfl
    generalize hx : pts[i].1 = x at *
    generalize hy : pts[i].2 = y at *
    rw [hsp] at hk
    have he2 := he.push (some ⟨false, [.int .i64 x, .int .i64 y]⟩)
    have hs2 := Stq.push h (some ⟨false, [.int .i64 x, .int .i64 y]⟩) c (A.own t)
    have hf2 := hf.stq hs2
    have hK : ∀ y : Blk, blk? (h ++ [some y]) h.length = some y := fun y => blk?_push_eq
    have hq2 := he2.dr.blk
    have htc := fun R => touch_c (R := R) (v := false) he2.dr.cb (x := x) (y := y) hin
    have hl1 := good_map he.good hin (kv_touch false)
    obtain ⟨p4, s4⟩ := he2.to hl1
    have hmm : (fun z : Cell => ({ z with t := false } : Cell)) = touch false := rfl
    rw [hmm] at htc
    have hls : (h ++ [some (⟨false, [.int .i64 x, .int .i64 y]⟩ : Blk)]).set c (some ⟨false, encC (b.upd x y (touch false)).cs⟩) = h.set c (some ⟨false, encC (b.upd x y (touch false)).cs⟩) ++ [some ⟨false, [.int .i64 x, .int .i64 y]⟩] :=
      List.set_append_left _ _ he.lts.2.2.1
    rw [ok_round, l79_3, L79_3a, L79_3b]
    rw [hls] at htc p4 s4
    simp [-List.cons_append, -List.append_assoc, hlt, hw, hs, hb, ht, hle, hK, hq2, htc]
    rw [← hs]
    have st4 := hs2.trans s4
    refine ih (i + 1) _ t _ s _ _ _ _ _ _ _ _ _ _ _ _ _ _ _ _ _ _ _ _ _ _ _ _ _ _ _ _ _ _ _ _ _ _ _ _ _ _ _ _ _ _ _ _ _ _ _ _ _ _ _ _ _ _ _ _ _ _ _ _ _ _ _ _ _ _ _ _ _ _ _ _ _ _ _ _ _ _ _ _ _ _ _ _ _ _ _ _ _ _ _ _ _ _ _ _ _ _ _ _ _ _ _ _ _ _ _ _ _ _ _ _ _ _ _ _ _ _ _ _ _ _ _ _ _ _ _ _ _ _ _ _ _ _ (by omega) (by omega) p4 (hf.stq st4) (hl1.all ha) hpl ?_
    intro h' t2 t3 t4 t5 t6 t7 t8 t9 t10 t11 t12 t13 t14 t15 t16 t17 t18 t19 t20 t21 t22 t23 t24 t25 t26 t27 t28 t29 t30 t31 t32 t33 t34 t35 t36 t37 t38 t39 t40 t41 t42 t43 t44 t45 t46 t47 t48 t49 t50 t51 t52 t53 t54 t55 t56 t57 t58 t59 t60 t61 t62 t63 t64 t65 t66 t67 t68 t69 t70 t71 t72 t73 t74 t75 t76 t77 t78 t79 t80 t81 t82 t83 t84 t85 t86 t87 t88 t89 t90 t91 t92 t93 t94 t95 t96 t97 t98 t99 t100 t101 t102 t103 t104 t105 t106 t107 t108 t109 t110 t111 t112 t113 t114 t115 t116 t117 t118 t119 t120 t121 t122 t123 t124 t125 t126 t127 t128 t129 t130 t131 t132 t133 t134 t135 t136 t137 t138 pe st
    exact hk h' _ _ _ _ _ _ _ _ _ _ _ _ _ _ _ _ _ _ _ _ _ _ _ _ _ _ _ _ _ _ _ _ _ _ _ _ _ _ _ _ _ _ _ _ _ _ _ _ _ _ _ _ _ _ _ _ _ _ _ _ _ _ _ _ _ _ _ _ _ _ _ _ _ _ _ _ _ _ _ _ _ _ _ _ _ _ _ _ _ _ _ _ _ _ _ _ _ _ _ _ _ _ _ _ _ _ _ _ _ _ _ _ _ _ _ _ _ _ _ _ _ _ _ _ _ _ _ _ _ _ _ _ _ _ _ _ _ pe (st4.trans st)

theorem dchk_run (r : Bool) (x : Bool) (l : List Bool) (s : A.S) : (dchk P r (x :: l)).run A.ask s = (dchk P (r && (A.ask s (P.cx 18)).1 == x) l).run A.ask (A.ask s (P.cx 18)).2 := rfl
def b2i (x : Bool) : Value := .int .i64 (x.toNat : Nat)
set_option maxRecDepth 10000 in
set_option maxHeartbeats 4000000 in
theorem dcheck_loop {z : Nat} {bits : List Bool} (hbl : bits.length ≤ 4) :
    ∀ (m i : Nat) (h : Heap) (t : A.T) (s : A.S) (r : Bool) (t1 t2 t3 t4 t5 t6 t7 t8 t9 t11 t12 t13 t14 t15 t16 t17 t18 t19 t20 t21 t22 t23 t24 t25 t26 t27 t28 t29 t30 t31 t32 t33 t34 t35 t36 t37 t38 t39 t40 t41 t42 t43 t44 t45 t46 t47 t48 t49 t50 t51 t52 t53 t54 t55 t56 t57 t58 t59 t60 t61 t62 t63 t64 t65 t66 t67 t68 t69 t70 t71 t72 t73 t74 t75 t76 t77 t78 t79 t80 t81 t82 t83 t84 t85 t86 t87 t88 t89 t90 t91 t92 t93 t94 t95 t96 t97 t98 t99 t100 t101 t102 t103 t104 t105 t106 t107 t108 t109 t110 t111 t112 t113 t114 t115 t116 t117 t118 t119 t123 t124 t125 t126 t127 t128 t129 t130 t131 t132 t133 t134 t135 t136 t137 t138 : Value), m = bits.length - i → i ≤ bits.length → PD A h q p pb nb P t b s →
      blk? h z = some ⟨false, bits.map b2i⟩ → (z ≠ c ∧ ¬ A.own t z) → A.size s + 10 < 1000000 + i →
      (∀ (h' : Heap) (t' : A.T) (t1 t2 t3 t4 t5 t6 t7 t8 t9 t11 t12 t13 t14 t15 t16 t17 t18 t19 t20 t21 t22 t23 t24 t25 t26 t27 t28 t29 t30 t31 t32 t33 t34 t35 t36 t37 t38 t39 t40 t41 t42 t43 t44 t45 t46 t47 t48 t49 t50 t51 t52 t53 t54 t55 t56 t57 t58 t59 t60 t61 t62 t63 t64 t65 t66 t67 t68 t69 t70 t71 t72 t73 t74 t75 t76 t77 t78 t79 t80 t81 t82 t83 t84 t85 t86 t87 t88 t89 t90 t91 t92 t93 t94 t95 t96 t97 t98 t99 t100 t101 t102 t103 t104 t105 t106 t107 t108 t109 t110 t111 t112 t113 t114 t115 t116 t117 t118 t119 t120 t121 t122 t123 t124 t125 t126 t127 t128 t129 t130 t131 t132 t133 t134 t135 t136 t137 t138 : Value), PD A h' q p pb nb P t' b ((dchk P r (bits.drop i)).run A.ask s).2 → Stq h h' c (A.own t) (A.own t') → Ok tab R79 k #[ptr q, t1, t2, t3, t4, t5, t6, t7, t8, t9, .bool ((dchk P r (bits.drop i)).run A.ask s).1, t11, t12, t13, t14, t15, t16, t17, t18, t19, t20, t21, t22, t23, t24, t25, t26, t27, t28, t29, t30, t31, t32, t33, t34, t35, t36, t37, t38, t39, t40, t41, t42, t43, t44, t45, t46, t47, t48, t49, t50, t51, t52, t53, t54, t55, t56, t57, t58, t59, t60, t61, t62, t63, t64, t65, t66, t67, t68, t69, t70, t71, t72, t73, t74, t75, t76, t77, t78, t79, t80, t81, t82, t83, t84, t85, t86, t87, t88, t89, t90, t91, t92, t93, t94, t95, t96, t97, t98, t99, t100, t101, t102, t103, t104, t105, t106, t107, t108, t109, t110, t111, t112, t113, t114, t115, t116, t117, t118, t119, t120, t121, t122, t123, t124, t125, t126, t127, t128, t129, t130, t131, t132, t133, t134, t135, t136, t137, t138] h' R) →
      Ok tab R79 (.inLoop L79_4 :: .inBlock 8 :: k) #[ptr q, t1, t2, t3, t4, t5, t6, t7, t8, t9, .bool r, t11, t12, t13, t14, t15, t16, t17, t18, t19, t20, t21, t22, t23, t24, t25, t26, t27, t28, t29, t30, t31, t32, t33, t34, t35, t36, t37, t38, t39, t40, t41, t42, t43, t44, t45, t46, t47, t48, t49, t50, t51, t52, t53, t54, t55, t56, t57, t58, t59, t60, t61, t62, t63, t64, t65, t66, t67, t68, t69, t70, t71, t72, t73, t74, t75, t76, t77, t78, t79, t80, t81, t82, t83, t84, t85, t86, t87, t88, t89, t90, t91, t92, t93, t94, t95, t96, t97, t98, t99, t100, t101, t102, t103, t104, t105, t106, t107, t108, t109, t110, t111, t112, t113, t114, t115, t116, t117, t118, t119, .slice (some ⟨z, 0, none⟩) bits.length 1, .int .i64 bits.length, .int .i64 i, t123, t124, t125, t126, t127, t128, t129, t130, t131, t132, t133, t134, t135, t136, t137, t138] h R := by
  intro m
  induction m with
  | zero =>
    intro i h t s r t1 t2 t3 t4 t5 t6 t7 t8 t9 t11 t12 t13 t14 t15 t16 t17 t18 t19 t20 t21 t22 t23 t24 t25 t26 t27 t28 t29 t30 t31 t32 t33 t34 t35 t36 t37 t38 t39 t40 t41 t42 t43 t44 t45 t46 t47 t48 t49 t50 t51 t52 t53 t54 t55 t56 t57 t58 t59 t60 t61 t62 t63 t64 t65 t66 t67 t68 t69 t70 t71 t72 t73 t74 t75 t76 t77 t78 t79 t80 t81 t82 t83 t84 t85 t86 t87 t88 t89 t90 t91 t92 t93 t94 t95 t96 t97 t98 t99 t100 t101 t102 t103 t104 t105 t106 t107 t108 t109 t110 t111 t112 t113 t114 t115 t116 t117 t118 t119 t123 t124 t125 t126 t127 t128 t129 t130 t131 t132 t133 t134 t135 t136 t137 t138 hm hi he hz hn hl hk
    have hlt : ¬ ((i : Int) < bits.length) := by omega
    rw [List.drop_of_length_le (by omega)] at hk
    rw [ok_round, l79_4, L79_4a, L79_4b]
    simp [hlt]
    exact hk h t _ _ _ _ _ _ _ _ _ _ _ _ _ _ _ _ _ _ _ _ _ _ _ _ _ _ _ _ _ _ _ _ _ _ _ _ _ _ _ _ _ _ _ _ _ _ _ _ _ _ _ _ _ _ _ _ _ _ _ _ _ _ _ _ _ _ _ _ _ _ _ _ _ _ _ _ _ _ _ _ _ _ _ _ _ _ _ _ _ _ _ _ _ _ _ _ _ _ _ _ _ _ _ _ _ _ _ _ _ _ _ _ _ _ _ _ _ _ _ _ _ _ _ _ _ _ _ _ _ _ _ _ _ _ _ _ _ he (Stq.refl _ _ _)
  | succ m ih =>
    intro i h t s r t1 t2 t3 t4 t5 t6 t7 t8 t9 t11 t12 t13 t14 t15 t16 t17 t18 t19 t20 t21 t22 t23 t24 t25 t26 t27 t28 t29 t30 t31 t32 t33 t34 t35 t36 t37 t38 t39 t40 t41 t42 t43 t44 t45 t46 t47 t48 t49 t50 t51 t52 t53 t54 t55 t56 t57 t58 t59 t60 t61 t62 t63 t64 t65 t66 t67 t68 t69 t70 t71 t72 t73 t74 t75 t76 t77 t78 t79 t80 t81 t82 t83 t84 t85 t86 t87 t88 t89 t90 t91 t92 t93 t94 t95 t96 t97 t98 t99 t100 t101 t102 t103 t104 t105 t106 t107 t108 t109 t110 t111 t112 t113 t114 t115 t116 t117 t118 t119 t123 t124 t125 t126 t127 t128 t129 t130 t131 t132 t133 t134 t135 t136 t137 t138 hm hi he hz hn hl hk
    have hlt : ((i : Int) < bits.length) := by omega
    have hw : IntKind.i64.wrap ((i : Int) + 1) = (i : Int) + 1 := wrapN (n := i + 1) (by omega)
    have hil : i < bits.length := by omega
    have hq := he.dr.blk
    rw [List.drop_eq_getElem_cons hil, dchk_run] at hk
    obtain ⟨u1, h1, e1, p1, s1⟩ := ask_d he (by omega) 18
    have z1 := A.size_ask s (P.cx 18)
    generalize (A.ask s (P.cx 18)).1 = bit at *
    generalize (A.ask s (P.cx 18)).2 = sa at *
    have hz1 : blk? h1 z = some ⟨false, bits.map b2i⟩ := by rw [s1.same z (blk?_lt hz) hn.1 hn.2]; exact hz
    have hn1 : z ≠ c ∧ ¬ A.own u1 z := ⟨hn.1, fun e => by
      rcases s1.fresh z e with h | h
      · exact hn.2 h
      · have := blk?_lt hz; omega⟩
    have hget : bits[i]? = some bits[i] := List.getElem?_eq_getElem hil
    have hcmp : (((bit.toNat : Nat) : Int) == ((bits[i].toNat : Nat) : Int)) = (bit == bits[i]) := by cases bit <;> cases bits[i] <;> rfl
    rw [ok_round, l79_4, L79_4a, L79_4b]
    have hgo : ∀ t1 t2 t3 t4 t5 t6 t7 t8 t9 t11 t12 t13 t14 t15 t16 t17 t18 t19 t20 t21 t22 t23 t24 t25 t26 t27 t28 t29 t30 t31 t32 t33 t34 t35 t36 t37 t38 t39 t40 t41 t42 t43 t44 t45 t46 t47 t48 t49 t50 t51 t52 t53 t54 t55 t56 t57 t58 t59 t60 t61 t62 t63 t64 t65 t66 t67 t68 t69 t70 t71 t72 t73 t74 t75 t76 t77 t78 t79 t80 t81 t82 t83 t84 t85 t86 t87 t88 t89 t90 t91 t92 t93 t94 t95 t96 t97 t98 t99 t100 t101 t102 t103 t104 t105 t106 t107 t108 t109 t110 t111 t112 t113 t114 t115 t116 t117 t118 t119 t123 t124 t125 t126 t127 t128 t129 t130 t131 t132 t133 t134 t135 t136 t137 t138 : Value, Ok tab R79 (.inLoop L79_4 :: .inBlock 8 :: k) #[ptr q, t1, t2, t3, t4, t5, t6, t7, t8, t9, .bool (r && bit == bits[i]), t11, t12, t13, t14, t15, t16, t17, t18, t19, t20, t21, t22, t23, t24, t25, t26, t27, t28, t29, t30, t31, t32, t33, t34, t35, t36, t37, t38, t39, t40, t41, t42, t43, t44, t45, t46, t47, t48, t49, t50, t51, t52, t53, t54, t55, t56, t57, t58, t59, t60, t61, t62, t63, t64, t65, t66, t67, t68, t69, t70, t71, t72, t73, t74, t75, t76, t77, t78, t79, t80, t81, t82, t83, t84, t85, t86, t87, t88, t89, t90, t91, t92, t93, t94, t95, t96, t97, t98, t99, t100, t101, t102, t103, t104, t105, t106, t107, t108, t109, t110, t111, t112, t113, t114, t115, t116, t117, t118, t119, .slice (some ⟨z, 0, none⟩) bits.length 1, .int .i64 bits.length, .int .i64 ((i : Int) + 1), t123, t124, t125, t126, t127, t128, t129, t130, t131, t132, t133, t134, t135, t136, t137, t138] h1 R := by
      intro t1 t2 t3 t4 t5 t6 t7 t8 t9 t11 t12 t13 t14 t15 t16 t17 t18 t19 t20 t21 t22 t23 t24 t25 t26 t27 t28 t29 t30 t31 t32 t33 t34 t35 t36 t37 t38 t39 t40 t41 t42 t43 t44 t45 t46 t47 t48 t49 t50 t51 t52 t53 t54 t55 t56 t57 t58 t59 t60 t61 t62 t63 t64 t65 t66 t67 t68 t69 t70 t71 t72 t73 t74 t75 t76 t77 t78 t79 t80 t81 t82 t83 t84 t85 t86 t87 t88 t89 t90 t91 t92 t93 t94 t95 t96 t97 t98 t99 t100 t101 t102 t103 t104 t105 t106 t107 t108 t109 t110 t111 t112 t113 t114 t115 t116 t117 t118 t119 t123 t124 t125 t126 t127 t128 t129 t130 t131 t132 t133 t134 t135 t136 t137 t138
      refine ih (i + 1) h1 u1 sa _ _ _ _ _ _ _ _ _ _ _ _ _ _ _ _ _ _ _ _ _ _ _ _ _ _ _ _ _ _ _ _ _ _ _ _ _ _ _ _ _ _ _ _ _ _ _ _ _ _ _ _ _ _ _ _ _ _ _ _ _ _ _ _ _ _ _ _ _ _ _ _ _ _ _ _ _ _ _ _ _ _ _ _ _ _ _ _ _ _ _ _ _ _ _ _ _ _ _ _ _ _ _ _ _ _ _ _ _ _ _ _ _ _ _ _ _ _ _ _ _ _ _ _ _ _ _ _ _ _ _ _ _ _ _ (by omega) (by omega) p1 hz1 hn1 (by omega) ?_
      intro h' t' t1 t2 t3 t4 t5 t6 t7 t8 t9 t11 t12 t13 t14 t15 t16 t17 t18 t19 t20 t21 t22 t23 t24 t25 t26 t27 t28 t29 t30 t31 t32 t33 t34 t35 t36 t37 t38 t39 t40 t41 t42 t43 t44 t45 t46 t47 t48 t49 t50 t51 t52 t53 t54 t55 t56 t57 t58 t59 t60 t61 t62 t63 t64 t65 t66 t67 t68 t69 t70 t71 t72 t73 t74 t75 t76 t77 t78 t79 t80 t81 t82 t83 t84 t85 t86 t87 t88 t89 t90 t91 t92 t93 t94 t95 t96 t97 t98 t99 t100 t101 t102 t103 t104 t105 t106 t107 t108 t109 t110 t111 t112 t113 t114 t115 t116 t117 t118 t119 t120 t121 t122 t123 t124 t125 t126 t127 t128 t129 t130 t131 t132 t133 t134 t135 t136 t137 t138 pe st
      exact hk h' t' _ _ _ _ _ _ _ _ _ _ _ _ _ _ _ _ _ _ _ _ _ _ _ _ _ _ _ _ _ _ _ _ _ _ _ _ _ _ _ _ _ _ _ _ _ _ _ _ _ _ _ _ _ _ _ _ _ _ _ _ _ _ _ _ _ _ _ _ _ _ _ _ _ _ _ _ _ _ _ _ _ _ _ _ _ _ _ _ _ _ _ _ _ _ _ _ _ _ _ _ _ _ _ _ _ _ _ _ _ _ _ _ _ _ _ _ _ _ _ _ _ _ _ _ _ _ _ _ _ _ _ _ _ _ _ _ _ pe (s1.trans st)
    have hbi : b2i bits[i] = .int .i64 ((bits[i].toNat : Nat) : Int) := rfl
    generalize bits[i] = bi at *
    generalize ((bit.toNat : Nat) : Int) = bn at *
    generalize ((bi.toNat : Nat) : Int) = bm at *
    cases r
    · simp at hgo
      simp [k_guard, hlt, hw, hz, hget, hbi, hq, e1]
      exact hgo _ _ _ _ _ _ _ _ _ _ _ _ _ _ _ _ _ _ _ _ _ _ _ _ _ _ _ _ _ _ _ _ _ _ _ _ _ _ _ _ _ _ _ _ _ _ _ _ _ _ _ _ _ _ _ _ _ _ _ _ _ _ _ _ _ _ _ _ _ _ _ _ _ _ _ _ _ _ _ _ _ _ _ _ _ _ _ _ _ _ _ _ _ _ _ _ _ _ _ _ _ _ _ _ _ _ _ _ _ _ _ _ _ _ _ _ _ _ _ _ _ _ _ _ _ _ _ _ _ _ _ _ _ _
    · rw [Bool.true_and] at hgo
      simp [k_guard, hlt, hw, hz, hget, hbi, hq, e1, hcmp]
      exact hgo _ _ _ _ _ _ _ _ _ _ _ _ _ _ _ _ _ _ _ _ _ _ _ _ _ _ _ _ _ _ _ _ _ _ _ _ _ _ _ _ _ _ _ _ _ _ _ _ _ _ _ _ _ _ _ _ _ _ _ _ _ _ _ _ _ _ _ _ _ _ _ _ _ _ _ _ _ _ _ _ _ _ _ _ _ _ _ _ _ _ _ _ _ _ _ _ _ _ _ _ _ _ _ _ _ _ _ _ _ _ _ _ _ _ _ _ _ _ _ _ _ _ _ _ _ _ _ _ _ _ _ _ _ _

set_option maxRecDepth 10000 in
set_option maxHeartbeats 4000000 in
theorem cleanup_d (he : PD A h q p pb nb P t b s) (hl : A.size s + 100000 < 1000000) (on : Bool) :
    ∃ t' h', (∀ R, Ret tab 79 [ptr q, .bool on] h R = R (.bool ((dclean P b on).run A.ask s).1.2) h') ∧ PD A h' q p pb nb P t' ((dclean P b on).run A.ask s).1.1 ((dclean P b on).run A.ask s).2 ∧ Stq h h' c (A.own t) (A.own t') := by
  have key : Ret tab 79 [ptr q, .bool on] h fun v h' => v = .bool ((dclean P b on).run A.ask s).1.2 ∧ ∃ t', PD A h' q p pb nb P t' ((dclean P b on).run A.ask s).1.1 ((dclean P b on).run A.ask s).2 ∧ Stq h h' c (A.own t) (A.own t') := by
    have hw2 := he.dr.cb.ok.w2
    have hh2 := he.dr.cb.ok.h2
    have hsl := scan_len he.dr.cb.ok.w2 he.dr.cb.ok.h2
    have hst : 12 * b.w * stripesOf b.h ≤ 12 * 64 * 16 := Nat.mul_le_mul (by omega) (by unfold stripesOf; omega)
    have g1 : (b.h : Int) ≤ 0 + 4 * ((stripesOf b.h : Nat) : Int) := by unfold stripesOf; omega
    have g2 : 0 + 4 * ((stripesOf b.h : Nat) : Int) ≤ b.h + 3 := by unfold stripesOf; omega
    obtain ⟨hls, hsz⟩ := Tr.Lv.out (A := A.ask) (size := A.size) A.size_ask s (lv_dstripes he.dr.pok (n := stripesOf b.h) he.good (top := 0) (by omega) g2)
    have hcl : (dclean P b on).run A.ask s = ((((dstripes P b 0 (stripesOf b.h)).run A.ask s).1.clr (scan b.w b.h), ((dcheck P on).run A.ask ((dstripes P b 0 (stripesOf b.h)).run A.ask s).2).1), ((dcheck P on).run A.ask ((dstripes P b 0 (stripesOf b.h)).run A.ask s).2).2) := by
      unfold dclean
      simp only [Tr.run_bind, Tr.run_ret]
      rw [hls.w, hls.h]
    rw [hcl]
    rw [enter79, show B79 = .seq (nthC 0 B79) (.seq (nthC 1 B79) (.seq (nthC 2 B79) (tlC 3 B79))) from rfl]
    generalize hT : tlC 3 B79 = tl
    simp only [nthC, tlC, fstC, B79]
    simp
    refine dstripes_loop hw2 hh2 (stripesOf b.h) 0 h t b s _ _ _ _ _ _ _ _ _ _ _ _ _ _ _ _ _ _ _ _ _ _ _ _ _ _ _ _ _ _ _ _ _ _ _ _ _ _ _ _ _ _ _ _ _ _ _ _ _ _ _ _ _ _ _ _ _ _ _ _ _ _ _ _ _ _ _ _ _ _ _ _ _ _ _ _ _ _ _ _ _ _ _ _ _ _ _ _ _ _ _ _ _ _ _ _ _ _ _ _ _ _ _ _ _ _ _ _ _ _ _ _ _ _ _ _ _ _ _ _ _ _ _ _ _ _ _ _ _ _ _ _ _ _ _ _ g1 g2 (by omega) rfl rfl he (by omega) ?_
    intro h1 u1 t2 t3 t4 t5 t6 t7 t8 t9 t10 t11 t12 t13 t14 t15 t16 t17 t18 t19 t20 t21 t22 t23 t24 t25 t26 t27 t28 t29 t30 t31 t32 t33 t34 t35 t36 t37 t38 t39 t40 t41 t42 t43 t44 t45 t46 t47 t48 t49 t50 t51 t52 t53 t54 t55 t56 t57 t58 t59 t60 t61 t62 t63 t64 t65 t66 t67 t68 t69 t70 t71 t72 t73 t74 t75 t76 t77 t78 t79 t80 t81 t82 t83 t84 t85 t86 t87 t88 t89 t90 t91 t92 t93 t94 t95 t96 t97 t98 t99 t100 t101 t102 t103 t104 t105 t106 t107 t108 t109 t110 t111 t112 t113 t114 t115 t116 t117 t118 t119 t120 t121 t122 t123 t124 t125 t126 t127 t128 t129 t130 t131 t132 t133 t134 t135 t136 t137 t138 p1 s1
    generalize ((dstripes P b 0 (stripesOf b.h)).run A.ask s).1 = b1 at *
    generalize ((dstripes P b 0 (stripesOf b.h)).run A.ask s).2 = sa at *
    obtain ⟨sl, h2, e2, p2, s2, f2⟩ := p1.scan
    obtain ⟨a, cc, hs⟩ := f2.sl.shape
    have hq1 := p1.dr.blk
    rw [hls.w, hls.h] at e2 f2 hs hq1
    simp [hq1, e2, hs]
    rw [← hs]
    have hall : AllIn b1 (scan b.w b.h) := by have := scanIn b1; rwa [hls.w, hls.h] at this
    refine dclear_loop _ 0 h2 u1 b1 sa _ _ _ _ _ _ _ _ _ _ _ _ _ _ _ _ _ _ _ _ _ _ _ _ _ _ _ _ _ _ _ _ _ _ _ _ _ _ _ _ _ _ _ _ _ _ _ _ _ _ _ _ _ _ _ _ _ _ _ _ _ _ _ _ _ _ _ _ _ _ _ _ _ _ _ _ _ _ _ _ _ _ _ _ _ _ _ _ _ _ _ _ _ _ _ _ _ _ _ _ _ _ _ _ _ _ _ _ _ _ _ _ _ _ _ _ _ _ _ _ _ _ _ _ _ _ _ _ _ _ _ _ _ _ rfl (by omega) p2 f2 hall (by omega) ?_
    intro h3 t2 t3 t4 t5 t6 t7 t8 t9 t10 t11 t12 t13 t14 t15 t16 t17 t18 t19 t20 t21 t22 t23 t24 t25 t26 t27 t28 t29 t30 t31 t32 t33 t34 t35 t36 t37 t38 t39 t40 t41 t42 t43 t44 t45 t46 t47 t48 t49 t50 t51 t52 t53 t54 t55 t56 t57 t58 t59 t60 t61 t62 t63 t64 t65 t66 t67 t68 t69 t70 t71 t72 t73 t74 t75 t76 t77 t78 t79 t80 t81 t82 t83 t84 t85 t86 t87 t88 t89 t90 t91 t92 t93 t94 t95 t96 t97 t98 t99 t100 t101 t102 t103 t104 t105 t106 t107 t108 t109 t110 t111 t112 t113 t114 t115 t116 t117 t118 t119 t120 t121 t122 t123 t124 t125 t126 t127 t128 t129 t130 t131 t132 t133 t134 t135 t136 t137 t138 p3 s3
    rw [List.drop_zero] at p3
    rw [← hT]
    simp only [tlC, B79]
    cases on
    · simp [fin79]
      exact ⟨by simp [dcheck, Tr.run_ret], u1, p3, (s1.trans s2).trans s3⟩
    · have p4 := p3.push (some ⟨false, [.int .i64 1, .int .i64 0, .int .i64 1, .int .i64 0]⟩)
      have s4 := Stq.push h3 (some ⟨false, [.int .i64 1, .int .i64 0, .int .i64 1, .int .i64 0]⟩) c (A.own u1)
      obtain ⟨l1, l2, l3, l4, l5⟩ := p3.lts
      have hdc : dcheck P true = dchk P true [true, false, true, false] := rfl
      rw [hdc]
      simp [repL]
      refine dcheck_loop (z := h3.length) (bits := [true, false, true, false]) (by simp) 4 0 _ u1 sa true _ _ _ _ _ _ _ _ _ _ _ _ _ _ _ _ _ _ _ _ _ _ _ _ _ _ _ _ _ _ _ _ _ _ _ _ _ _ _ _ _ _ _ _ _ _ _ _ _ _ _ _ _ _ _ _ _ _ _ _ _ _ _ _ _ _ _ _ _ _ _ _ _ _ _ _ _ _ _ _ _ _ _ _ _ _ _ _ _ _ _ _ _ _ _ _ _ _ _ _ _ _ _ _ _ _ _ _ _ _ _ _ _ _ _ _ _ _ _ _ _ _ _ _ _ _ _ _ _ _ _ _ _ _ (by simp) (by simp) p4 ?_ ⟨by omega, fun e => by have := A.lt p3.rel _ e; omega⟩ (by omega) ?_
      · simpa [b2i] using blk?_push_eq (h := h3) (x := some (⟨false, [.int .i64 1, .int .i64 0, .int .i64 1, .int .i64 0]⟩ : Blk))
      · intro h5 u5 t1 t2 t3 t4 t5 t6 t7 t8 t9 t11 t12 t13 t14 t15 t16 t17 t18 t19 t20 t21 t22 t23 t24 t25 t26 t27 t28 t29 t30 t31 t32 t33 t34 t35 t36 t37 t38 t39 t40 t41 t42 t43 t44 t45 t46 t47 t48 t49 t50 t51 t52 t53 t54 t55 t56 t57 t58 t59 t60 t61 t62 t63 t64 t65 t66 t67 t68 t69 t70 t71 t72 t73 t74 t75 t76 t77 t78 t79 t80 t81 t82 t83 t84 t85 t86 t87 t88 t89 t90 t91 t92 t93 t94 t95 t96 t97 t98 t99 t100 t101 t102 t103 t104 t105 t106 t107 t108 t109 t110 t111 t112 t113 t114 t115 t116 t117 t118 t119 t120 t121 t122 t123 t124 t125 t126 t127 t128 t129 t130 t131 t132 t133 t134 t135 t136 t137 t138 p5 s5
        simp [fin79]
        exact ⟨u5, by simpa using p5, (((s1.trans s2).trans s3).trans s4).trans s5⟩
  obtain ⟨v, h', e, rfl, t', pe, st⟩ := ret_ex key
  exact ⟨t', h', e, pe, st⟩
end
end Go.Proofs.Ytjpjohchdfoeaaa
namespace Go.Proofs.Ytjpjohchdfoeaaa
open Go Go.Sim
set_option linter.unusedSimpArgs false
set_option linter.unusedVariables false

/-- What Run of the decoder comes to: the block, whether the check symbols are right, the source. -/
def dOut {S : Type} (A : S → Int → Bool × S) (m : MD) (b : BS) (n planes o : Int) (s : S) : (BS × Bool) × S := if runErr n planes o = 0 then (dRun m b n.toNat planes.toNat o.toNat).run A s else ((b, true), s)
def dErr (n planes o : Int) (ok : Bool) : Int := if runErr n planes o ≠ 0 then runErr n planes o else cond ok 0 16

/-- What Run of the decoder leaves. -/
structure DRes {c : Nat} {call : Heap → Int → (Value → Heap → Prop) → Prop} (A : Src c call) (h h' : Heap) (p : Nat) (t t' : A.T) (b : BS) (s : A.S) : Prop where
  cb : CB h' false p c b
  good : b.Good
  rel : A.rel h' t' s
  st : Stq h h' c (A.own t) (A.own t')

theorem eq_func {f : Fn} {a b : Array Value} : eqV .func (.func f a b) .nilFunc = some false := by simp [eqV]

section
variable {c : Nat} {g : FuncId} {fa fb : Array Value} {A : Src c (callF (.func (.func g) fa fb))} {h : Heap} {p : Nat} {t : A.T} {b : BS} {s : A.S}

theorem DRes.nothing {h h' : Heap} (hb : CB h false p c b) (hr : b.Rng) (hrel : A.rel h t s) (hk : ∀ id, id < h.length → blk? h' id = blk? h id) (hl : h.length ≤ h'.length) : DRes A h h' p t t b s :=
  ⟨⟨by rw [hk _ (blk?_lt hb.blkp)]; exact hb.blkp, by rw [hk _ (blk?_lt hb.blkc)]; exact hb.blkc, hb.ok⟩, ⟨hb.ok, hr⟩, A.stable hrel hl (fun id h1 _ => hk id h1), Stq.low hk hl _ _⟩

set_option maxHeartbeats 1000000 in
theorem run_d (hb : CB h false p c b) (hr : b.Rng) (hrel : A.rel h t s) (hp : ¬ A.own t p) (hnv : below h.length (.func (.func g) fa fb) = true) (hl : A.size s + 100000 < 1000000) (n planes o : Int) (m : MD) :
    ∃ t' h', (∀ R, Ret tab 23 [ptr p, .int .i64 n, .int .i64 planes, .int .i64 o, m.val, .func (.func g) fa fb] h R = R (.int .i64 (dErr n planes o (dOut A.ask m b n planes o s).1.2)) h') ∧
      DRes A h h' p t t' (dOut A.ask m b n planes o s).1.1 (dOut A.ask m b n planes o s).2 := by
  have key : Ret tab 23 [ptr p, .int .i64 n, .int .i64 planes, .int .i64 o, m.val, .func (.func g) fa fb] h fun v h' => v = .int .i64 (dErr n planes o (dOut A.ask m b n planes o s).1.2) ∧ ∃ t', DRes A h h' p t t' (dOut A.ask m b n planes o s).1.1 (dOut A.ask m b n planes o s).2 := by
    have hb1 : CB (h ++ [some ⟨false, [.bool m.byp, .bool m.res, .bool m.rst, .bool m.cz, .bool m.sy]⟩, some ⟨false, [.func (.func g) fa fb]⟩]) false p c b := ⟨by rw [app_lt (blk?_lt hb.blkp)]; exact hb.blkp, by rw [app_lt (blk?_lt hb.blkc)]; exact hb.blkc, hb.ok⟩
    have hsz := fun R => size_c (R := R) hb1
    have hw0 := hb.ok.w1
    have hw0' : ((b.w : Int) == 0) = false := by simp; omega
    have hnone : runErr n planes o ≠ 0 → ∀ h', (∀ id, id < h.length → blk? h' id = blk? h id) → h.length ≤ h'.length → ∃ t', DRes A h h' p t t' (dOut A.ask m b n planes o s).1.1 (dOut A.ask m b n planes o s).2 := by
      intro he h' hk hl
      unfold dOut
      rw [if_neg he]
      exact ⟨t, DRes.nothing hb hr hrel hk hl⟩
    have hkp : ∀ l : Heap, ∀ id, id < h.length → blk? (h ++ l) id = blk? h id := fun l id hid => app_lt hid
    rw [enter23, show B23 = .seq (nthC 0 B23) (.seq (nthC 1 B23) (.seq (nthC 2 B23) (.seq (nthC 3 B23) (.seq (nthC 4 B23) (.seq (nthC 5 B23) (tlC 6 B23)))))) from rfl]
    generalize hT : tlC 6 B23 = tl
    simp only [nthC, tlC, fstC, B23]
    obtain ⟨byp, res, rst, cz, sy⟩ := m
    simp only [MD.val] at *
    have herr : ∀ e, runErr n planes o = e → e ≠ 0 → dErr n planes o (dOut A.ask ⟨byp, res, rst, cz, sy⟩ b n planes o s).1.2 = e := by
      intro e he h0
      unfold dErr; rw [he, if_pos h0]
    by_cases h1 : planes < 1
    · have he := runErr_lo (n := n) (o := o) (.inl h1 : planes < 1 ∨ 60 < planes ∨ n < 0 ∨ 3 * planes - 3 < n)
      simp [k_guard, k_guardU, hsz, hw0', app_len, app_add, app_zero, app_succ, eq_func, h1, fin23]
      exact ⟨(herr 2 he (by decide)).symm, hnone (by rw [he]; decide) _ (hkp _) (by simp)⟩
    by_cases h2 : 60 < planes
    · have he := runErr_lo (n := n) (o := o) (.inr (.inl h2) : planes < 1 ∨ 60 < planes ∨ n < 0 ∨ 3 * planes - 3 < n)
      simp [k_guard, k_guardU, hsz, hw0', app_len, app_add, app_zero, app_succ, eq_func, h1, h2, fin23]
      exact ⟨(herr 2 he (by decide)).symm, hnone (by rw [he]; decide) _ (hkp _) (by simp)⟩
    by_cases h3 : n < 0
    · have he := runErr_lo (n := n) (o := o) (.inr (.inr (.inl h3)) : planes < 1 ∨ 60 < planes ∨ n < 0 ∨ 3 * planes - 3 < n)
      simp [k_guard, k_guardU, hsz, hw0', app_len, app_add, app_zero, app_succ, eq_func, h1, h2, h3, fin23]
      exact ⟨(herr 2 he (by decide)).symm, hnone (by rw [he]; decide) _ (hkp _) (by simp)⟩
    have hm1 : IntKind.i64.wrap (3 * planes) = 3 * planes := wrapI (by omega) (by omega)
    have hm2 : IntKind.i64.wrap (3 * planes - 3) = 3 * planes - 3 := wrapI (by omega) (by omega)
    by_cases h4 : 3 * planes - 3 < n
    · have he := runErr_lo (n := n) (o := o) (.inr (.inr (.inr h4)) : planes < 1 ∨ 60 < planes ∨ n < 0 ∨ 3 * planes - 3 < n)
      simp [k_guard, k_guardU, hsz, hw0', app_len, app_add, app_zero, app_succ, eq_func, h1, h2, h3, hm1, hm2, h4, fin23]
      exact ⟨(herr 2 he (by decide)).symm, hnone (by rw [he]; decide) _ (hkp _) (by simp)⟩
    by_cases h5 : o < 0
    · have he : runErr n planes o = 3 := by unfold runErr; rw [if_neg (by omega), if_pos (.inl h5)]
      simp [k_guard, k_guardU, hsz, hw0', app_len, app_add, app_zero, app_succ, eq_func, h1, h2, h3, hm1, hm2, h4, h5, fin23]
      exact ⟨(herr 3 he (by decide)).symm, hnone (by rw [he]; decide) _ (hkp _) (by simp)⟩
    by_cases h6 : 3 < o
    · have he : runErr n planes o = 3 := by unfold runErr; rw [if_neg (by omega), if_pos (.inr h6)]
      simp [k_guard, k_guardU, hsz, hw0', app_len, app_add, app_zero, app_succ, eq_func, h1, h2, h3, hm1, hm2, h4, h5, h6, fin23]
      exact ⟨(herr 3 he (by decide)).symm, hnone (by rw [he]; decide) _ (hkp _) (by simp)⟩
    simp [k_guard, k_guardU, hsz, hw0', app_len, app_add, app_zero, app_succ, eq_func, h1, h2, h3, hm1, hm2, h4, h5, h6, fin23]
    have he : runErr n planes o = 0 := by unfold runErr; rw [if_neg (by omega), if_neg (by omega)]
    unfold dErr dOut
    rw [he]
    simp only [ne_eq, not_true_eq_false, if_false, if_true]
    obtain ⟨n, rfl⟩ := Int.eq_ofNat_of_zero_le (show 0 ≤ n by omega)
    obtain ⟨planes, rfl⟩ := Int.eq_ofNat_of_zero_le (show 0 ≤ planes by omega)
    obtain ⟨o, rfl⟩ := Int.eq_ofNat_of_zero_le (show 0 ≤ o by omega)
    simp only [Int.toNat_natCast]
    generalize hres : (dRun ⟨byp, res, rst, cz, sy⟩ b n planes o).run A.ask s = dr
    have hp' := fun h R => pass_c (h := h) (R := R) (n := n) (by omega)
    have hrw := fun h R => raw_c (h := h) (R := R) (n := n) (by omega) ⟨byp, res, rst, cz, sy⟩
    have hpl := planeOf_le (n := n) (planes := planes) (by omega) (by omega)
    have e1 : IntKind.i64.wrap ((planes : Int) - 1) = ((planes - 1 : Nat) : Int) := by rw [wrapI (by omega) (by omega)]; omega
    have e2 : IntKind.i64.wrap (((planes - 1 : Nat) : Int) - (planeOf n : Int)) = ((planes - 1 - planeOf n : Nat) : Int) := by rw [wrapI (by omega) (by omega)]; omega
    rw [← hT, show tlC 6 B23 = .seq (nthC 6 B23) (.seq (nthC 7 B23) (.seq (nthC 8 B23) (tlC 9 B23))) from rfl]
    generalize hT2 : tlC 9 B23 = tl2
    simp only [nthC, tlC, fstC, B23]
    simp only [MD.val] at hrw
    have hlp := blk?_lt hb.blkp
    have hlc := blk?_lt hb.blkc
    have hblk := hb.blkp
    simp [hp', hrw, e1, e2, app_len, app_add, app_zero, app_succ, app_set, app_setk, book, logOf, addLog, chk1, lookL, reload]
    generalize hP : runPP ⟨byp, res, rst, cz, sy⟩ n planes o = P
    have hPs : P.s = planes - 1 - planeOf n := by rw [← hP]; rfl
    have hPo : P.o = o := by rw [← hP]; rfl
    have hPc : P.cz = cz := by rw [← hP]; rfl
    have hPr : P.rw = rawOf ⟨byp, res, rst, cz, sy⟩ n := by rw [← hP]; rfl
    have hrs : dRun ⟨byp, res, rst, cz, sy⟩ b n planes o = if kindOf n = 0 then (dsigs P b (scan b.w b.h)).bind fun b => .ret (b, true) else if kindOf n = 1 then (drefs P b (scan b.w b.h)).bind fun b => .ret (b, true) else dclean P b sy := by
      unfold dRun; rw [hP]
    rw [hrs] at hres
    rw [← hPr, ← hPs, ← hPo, ← hPc]
    generalize hH : h ++ [some (⟨false, [.bool byp, .bool res, .bool rst, .bool P.cz, .bool sy]⟩ : Blk), some ⟨false, [.func (.func g) fa fb]⟩,
      some ⟨false, [ptr p, .int .i64 b.w, .int .i64 b.h, .int .i64 P.s, .int .i64 P.o, .bool P.cz, .bool P.rw, .func (.func 76) #[] #[ptr (h.length + 3), ptr (h.length + 1)]]⟩, some ⟨false, [ptr (h.length + 2)]⟩] = H
    have hlow : ∀ id, id < h.length → blk? H id = blk? h id := fun id hid => by rw [← hH]; exact app_lt hid
    have hHl : H.length = h.length + 4 := by rw [← hH]; simp
    have hm0 : blk? H h.length = some ⟨false, [.bool byp, .bool res, .bool rst, .bool P.cz, .bool sy]⟩ := by rw [← hH, app_len]; rfl
    have hlt := fun id (ho : A.own t id) => A.lt hrel id ho
    have he : PD A H (h.length + 2) p (h.length + 3) (h.length + 1) P t b s := by
      refine ⟨⟨by rw [← hH, app_add]; rfl, ⟨by rw [hlow _ hlp]; exact hb.blkp, by rw [hlow _ hlc]; exact hb.blkc, hb.ok⟩, by simp; omega, ⟨by rw [hPs]; omega, by rw [hPo]; omega⟩, hr⟩, by rw [← hH, app_add]; rfl, by rw [← hH, app_add]; rfl, A.stable hrel (by omega) (fun id h1 _ => hlow id h1), ?_, ?_⟩
      · have := hb.ne; omega
      · exact ⟨fun e => by have := hlt _ e; omega, hp, fun e => by have := hlt _ e; omega, fun e => by have := hlt _ e; omega⟩
    have hpb := he.pbk
    -- what is left
    have fin : ∀ (b' : BS) (s' : A.S) (t' : A.T) (H' : Heap), PD A H' (h.length + 2) p (h.length + 3) (h.length + 1) P t' b' s' → Stq H H' c (A.own t) (A.own t') → ∃ t', DRes A h H' p t t' b' s' := by
      intro b' s' t' H' pe st
      exact ⟨t', pe.dr.cb, pe.good, pe.rel, (Stq.low hlow (by omega) _ _).trans st⟩
    rw [← hT2]
    simp only [tlC, B23]
    have hk : kindOf n = 0 ∨ kindOf n = 1 ∨ kindOf n = 2 := by unfold kindOf; split <;> omega
    rcases hk with hk | hk | hk
    · obtain ⟨t', H', e, pe, st⟩ := significance_d he hl
      rw [if_pos hk] at hres
      simp only [Tr.run_bind, Tr.run_ret] at hres
      subst hres
      simp [hk, hpb, e, fin23]
      exact fin _ _ _ _ pe st
    · obtain ⟨t', H', e, pe, st⟩ := refinement_d he hl
      rw [if_neg (by omega), if_pos hk] at hres
      simp only [Tr.run_bind, Tr.run_ret] at hres
      subst hres
      simp [hk, hpb, e, fin23]
      exact fin _ _ _ _ pe st
    · obtain ⟨t', H', e, pe, st⟩ := cleanup_d he hl sy
      rw [if_neg (by omega), if_neg (by omega)] at hres
      subst hres
      cases hok : ((dclean P b sy).run A.ask s).1.2
      · rw [hok] at e
        simp [hk, hpb, hm0, e, fin23]
        exact fin _ _ _ _ pe st
      · rw [hok] at e
        simp [hk, hpb, hm0, e, fin23]
        exact fin _ _ _ _ pe st
  obtain ⟨v, h', e, rfl, t', rs⟩ := ret_ex key
  exact ⟨t', h', e, rs⟩
end
end Go.Proofs.Ytjpjohchdfoeaaa
namespace Go.Proofs.Ytjpjohchdfoeaaa
open Go Go.Sim
set_option linter.unusedSimpArgs false
set_option linter.unusedVariables false

theorem Sl.tail {h : Heap} {s : Value} {l : List (Int × Int)} {p : Int × Int} (hs : Sl h 2 s (l.length + 1) (encP (p :: l))) :
    ∃ id off b, s = .slice (some ⟨id, off, none⟩) (l.length + 1) 2 ∧ blk? h id = some b ∧ b.cells[off]? = some (.int .i64 p.1) ∧ b.cells[off + 1]? = some (.int .i64 p.2) ∧ Sl h 2 (.slice (some ⟨id, off + 2, none⟩) l.length 2) l.length (encP l) := by
  obtain ⟨id, off, b, e, hb, hc⟩ := hs.get (i := 0) (by omega)
  have c0 := hc 0 (by omega)
  have c1 := hc 1 (by omega)
  simp [encP] at c0 c1
  refine ⟨id, off, b, e, hb, c0, c1, by rw [encP_len], .inr ⟨id, off + 2, rfl, ?_⟩⟩
  obtain ⟨hl, hs⟩ := hs
  rcases hs with ⟨rfl, h0⟩ | ⟨id', off', e', h0 | ⟨b', hb', hle, hct⟩⟩
  · cases e
  · omega
  · rw [e] at e'
    injection e' with e1 e2 e3
    injection e1 with e1
    injection e1 with e1 e4
    subst e1 e4
    rw [hb] at hb'
    injection hb' with hb'
    subst hb'
    refine .inr ⟨b, hb, by omega, ?_⟩
    have h2 := congrArg (List.drop 2) hct
    rw [List.drop_take, List.drop_drop] at h2
    simp [encP] at h2
    rw [← h2]
    congr 1
    omega

structure RelV (c sb : Nat) (h : Heap) (sv : Value) (s : List (Int × Int) × Bool) : Prop where
  blk : blk? h sb = some ⟨false, [sv, .bool s.2]⟩
  sl : Sl h 2 sv s.1.length (encP s.1)
  far : ∀ id, sid sv = some id → id < h.length ∧ id ≠ c ∧ id ≠ sb
  ne : sb ≠ c

theorem next_d {c sb : Nat} {h : Heap} {sv : Value} {s : List (Int × Int) × Bool} (hr : RelV c sb h sv s) (x : Int) :
    ∃ sv' h' v, (∀ R, Ret tab 94 [ptr sb, .int .i64 x] h R = R (.int .i64 v) h') ∧ (v != 0) = (askV s x).1 ∧ RelV c sb h' sv' (askV s x).2 ∧ Stu h h' (fun id => id = sb) (fun id => id = sb) := by
  obtain ⟨l, bad⟩ := s
  obtain ⟨hb, hsl, hf, hne⟩ := hr
  simp only at hb hsl
  have hls := blk?_lt hb
  have hset : ∀ sv' bad', Stu h (h.set sb (some ⟨false, [sv', .bool bad']⟩)) (fun id => id = sb) (fun id => id = sb) := fun sv' bad' => ⟨by simp, fun id h1 h2 => blk?_set_ne (fun e => h2 e.symm), fun id h => .inl h⟩
  have hE : ∀ x : Blk, blk? (h.set sb (some x)) sb = some x := fun x => blk?_set_eq hls
  -- turned bad
  have hbad : askV (l, bad) x = (false, (l, true)) → RelV c sb (h.set sb (some ⟨false, [sv, .bool true]⟩)) sv (askV (l, bad) x).2 := by
    intro e
    rw [e]
    refine ⟨hE _, hsl.of_sid fun id b hid hb => ?_, fun id hid => by simpa using hf id hid, hne⟩
    rw [blk?_set_ne (fun e => (hf id hid).2.2 e.symm)]; exact hb
  cases l with
  | nil =>
    obtain ⟨a, cc, hsh⟩ := hsl.shape
    have e : askV ([], bad) x = (false, ([], true)) := by cases bad <;> rfl
    refine ⟨sv, h.set sb (some ⟨false, [sv, .bool true]⟩), 0, fun R => ?_, by rw [e]; rfl, hbad e, hset _ _⟩
    rw [enter94, B94]
    subst hsh
    simp [k_guard, k_guardU, hb, hE, fin94]
  | cons p l =>
    obtain ⟨id, off, b, rfl, hbk, c0, c1, htl⟩ := Sl.tail hsl
    have hfar := hf id rfl
    obtain ⟨p1, p2⟩ := p
    simp only at c0 c1
    by_cases h1 : p1 = x
    · subst h1
      by_cases h2 : p2 = 0 ∨ p2 = 1
      · -- a bit
        cases bad
        · have e : askV ((p1, p2) :: l, false) p1 = (p2 == 1, (l, false)) := by simp only [askV]; rw [if_pos ⟨trivial, h2⟩]
          refine ⟨.slice (some ⟨id, off + 2, none⟩) l.length 2, h.set sb (some ⟨false, [.slice (some ⟨id, off + 2, none⟩) l.length 2, .bool false]⟩), p2, fun R => ?_, by rw [e]; rcases h2 with rfl | rfl <;> rfl, ?_, hset _ _⟩
          · rw [enter94, B94]
            have hnl : ((l.length : Int) + 1 == 0) = false := by simp; omega
            have hpos : (0 : Int) < (l.length : Int) + 1 := by omega
            have hsv : sliceV 2 (.slice (some ⟨id, off, none⟩) (l.length + 1) 2) (some (.int .i64 1)) none = some (.slice (some ⟨id, off + 2, none⟩) l.length 2) := by
              have hle : ((1 : Int) ≤ (l.length : Int) + 1) := by omega
              simp [sliceV, bndO, bnd, hle]
            rcases h2 with rfl | rfl <;> simp [k_guard, k_guardU, hb, hbk, c0, c1, hnl, hpos, hsv, fin94]
          · rw [e]
            refine ⟨hE _, htl.of_sid fun id' b' hid hb' => ?_, fun id' hid => ?_, hne⟩
            · simp [sid] at hid; subst hid
              rw [blk?_set_ne (fun e => hfar.2.2 e.symm)]; exact hb'
            · simp [sid] at hid; subst hid
              simpa using hfar
        · have e : askV ((p1, p2) :: l, true) p1 = (false, ((p1, p2) :: l, true)) := rfl
          refine ⟨_, h, 0, fun R => ?_, by rw [e]; rfl, by rw [e]; exact ⟨hb, hsl, hf, hne⟩, ⟨Nat.le_refl _, fun _ _ _ => rfl, fun id h => .inl h⟩⟩
          rw [enter94, B94]
          have hnl : ((l.length : Int) + 1 == 0) = false := by simp; omega
          have hpos : (0 : Int) < (l.length : Int) + 1 := by omega
          rcases h2 with rfl | rfl <;> simp [k_guard, k_guardU, hb, hbk, c0, c1, hnl, hpos, fin94]
      · have e : askV ((p1, p2) :: l, bad) p1 = (false, ((p1, p2) :: l, true)) := by
          cases bad
          · simp only [askV]; rw [if_neg (fun e => h2 e.2)]
          · rfl
        refine ⟨_, h.set sb (some ⟨false, [.slice (some ⟨id, off, none⟩) (l.length + 1) 2, .bool true]⟩), 0, fun R => ?_, by rw [e]; rfl, hbad e, hset _ _⟩
        rw [enter94, B94]
        have hnl : ((l.length : Int) + 1 == 0) = false := by simp; omega
        have hpos : (0 : Int) < (l.length : Int) + 1 := by omega
        have g0 : (p2 != 0) = true := by simp; omega
        have g1 : (p2 != 1) = true := by simp; omega
        simp [k_guard, k_guardU, hb, hbk, hE, c0, c1, g0, g1, hnl, hpos, fin94]
    · have e : askV ((p1, p2) :: l, bad) x = (false, ((p1, p2) :: l, true)) := by
        cases bad
        · simp only [askV]; rw [if_neg (fun e => h1 e.1)]
        · rfl
      refine ⟨_, h.set sb (some ⟨false, [.slice (some ⟨id, off, none⟩) (l.length + 1) 2, .bool true]⟩), 0, fun R => ?_, by rw [e]; rfl, hbad e, hset _ _⟩
      rw [enter94, B94]
      have hnl : ((l.length : Int) + 1 == 0) = false := by simp; omega
      have hpos : (0 : Int) < (l.length : Int) + 1 := by omega
      have g1 : (p1 != x) = true := by simp; exact h1
      simp [k_guard, k_guardU, hb, hbk, hE, c0, c1, g1, hnl, hpos, fin94]

/-- The source. -/
def srcV (c sb : Nat) : Src c (callF (.func (.func 94) #[ptr sb] #[])) where
  S := List (Int × Int) × Bool
  T := Value
  ask := askV
  rel := RelV c sb
  own := fun _ id => id = sb
  size := fun _ => 0
  lt := fun h id e => by rw [e]; exact blk?_lt h.blk
  stable := fun {h h' t s} hr hl hk => ⟨by rw [hk _ (blk?_lt hr.blk) hr.ne]; exact hr.blk, hr.sl.of_sid fun id b hid hb => (by obtain ⟨f1, f2, f3⟩ := hr.far id hid; rw [hk id f1 f2]; exact hb), fun id hid => (by obtain ⟨f1, f2, f3⟩ := hr.far id hid; exact ⟨by omega, f2, f3⟩), hr.ne⟩
  size_ask := fun _ _ => by simp
  step := fun {h t s} hr _ x => by
    obtain ⟨sv', h', v, e, hv, hr', st⟩ := next_d hr x
    refine ⟨sv', h', v, fun R => ?_, hv, hr', st⟩
    unfold callF
    rw [callK_func]
    exact e R
  c_own := fun hr e => hr.ne e.symm
end Go.Proofs.Ytjpjohchdfoeaaa
namespace Go.Proofs.Ytjpjohchdfoeaaa
open Go Go.Sim
set_option linter.unusedSimpArgs false
set_option linter.unusedVariables false

/-- Rows of symbols of any integers. -/
structure PsI (h : Heap) (s : Value) (vs : List Value) (ls : List (List (Int × Int))) : Prop where
  sl : Sl h 1 s vs.length vs
  len : vs.length = ls.length
  each : ∀ i (h1 : i < vs.length) (h2 : i < ls.length), Sl h 2 vs[i] ls[i].length (encP ls[i])
  lt : ∀ i (h1 : i < vs.length) id, sid vs[i] = some id → id < h.length
theorem PsI.keep {h h' : Heap} {s : Value} {vs : List Value} {ls : List (List (Int × Int))} (hp : PsI h s vs ls) (hl : h.length ≤ h'.length) (hk : ∀ id, id < h.length → blk? h' id = blk? h id) : PsI h' s vs ls :=
  ⟨hp.sl.of_sid fun id b _ hb => by rw [hk id (blk?_lt hb)]; exact hb, hp.len, fun i h1 h2 => (hp.each i h1 h2).of_sid fun id b _ hb => by rw [hk id (blk?_lt hb)]; exact hb, fun i h1 id hid => Nat.lt_of_lt_of_le (hp.lt i h1 id hid) hl⟩

/-- In the midst of Values. -/
structure VLv (h0 H : Heap) (M p c : Nat) (m : MD) (w hh : Nat) (b : BS) : Prop where
  low : ∀ id, id < h0.length → blk? H id = blk? h0 id
  len : h0.length ≤ H.length
  box : blk? H M = some ⟨false, [.bool m.byp, .bool m.res, .bool m.rst, .bool m.cz, .bool m.sy]⟩
  cb : CB H false p c b
  good : b.Good
  d : h0.length ≤ c ∧ M ≠ c
  bw : b.w = w
  bh : b.h = hh
  dp : h0.length ≤ p

set_option maxRecDepth 10000 in
set_option maxHeartbeats 1000000 in
theorem vals_loop {h0 : Heap} {M p c : Nat} {m : MD} {s v5 : Value} {vs : List Value} {ls : List (List (Int × Int))} {P O w hh : Nat} (hp : PsI h0 s vs ls) (hP : P ≤ 60) (hP1 : 0 < ls.length → 1 ≤ P) (hO : O ≤ 3) (hn : ls.length ≤ 3 * P - 2) {k : List RItem} {R : Value → Heap → Prop} :
    ∀ (n i : Nat) (H : Heap) (b : BS) (t6 t7 t8 t9 t10 t12 t13 t14 t16 t17 t18 t19 t20 t21 t22 t23 t24 t25 t26 t27 t28 t29 t30 t31 t32 t33 t34 t35 t36 t37 t38 t39 t40 t41 t42 t43 t44 t45 t46 t47 t48 t49 t50 t51 t52 t53 t54 t58 t59 t60 t61 t62 t63 t64 t65 t66 t67 t68 t69 t70 t71 t72 t73 t74 t75 t76 t77 t78 t79 t80 t81 t82 t83 t84 t85 t86 t87 t88 t89 t90 t91 t92 t93 t94 t95 t96 t97 t98 t99 t100 t101 t102 t103 t104 t105 t106 t107 t108 t109 t110 t111 t112 t113 t114 t115 t116 t117 t118 t119 t120 t121 t122 t123 t124 t125 t126 t127 t128 t129 t130 t131 t132 t133 t134 t135 t136 t137 t138 t139 t140 t141 t142 t143 t144 : Value), n = ls.length - i → i ≤ ls.length → VLv h0 H M p c m w hh b →
      (∀ (H' : Heap) (b' : BS) (t6 t7 t8 t9 t10 t12 t13 t14 t16 t17 t18 t19 t20 t21 t22 t23 t24 t25 t26 t27 t28 t29 t30 t31 t32 t33 t34 t35 t36 t37 t38 t39 t40 t41 t42 t43 t44 t45 t46 t47 t48 t49 t50 t51 t52 t53 t54 t55 t56 t57 t58 t59 t60 t61 t62 t63 t64 t65 t66 t67 t68 t69 t70 t71 t72 t73 t74 t75 t76 t77 t78 t79 t80 t81 t82 t83 t84 t85 t86 t87 t88 t89 t90 t91 t92 t93 t94 t95 t96 t97 t98 t99 t100 t101 t102 t103 t104 t105 t106 t107 t108 t109 t110 t111 t112 t113 t114 t115 t116 t117 t118 t119 t120 t121 t122 t123 t124 t125 t126 t127 t128 t129 t130 t131 t132 t133 t134 t135 t136 t137 t138 t139 t140 t141 t142 t143 t144 : Value), vLoop m P O i b (ls.drop i) = (b', 0) → VLv h0 H' M p c m w hh b' → Ok tab R29 k #[s, .int .i64 P, .int .i64 w, .int .i64 hh, .int .i64 O, v5, t6, t7, t8, t9, t10, ptr M, t12, t13, t14, ptr p, t16, t17, t18, t19, t20, t21, t22, t23, t24, t25, t26, t27, t28, t29, t30, t31, t32, t33, t34, t35, t36, t37, t38, t39, t40, t41, t42, t43, t44, t45, t46, t47, t48, t49, t50, t51, t52, t53, t54, t55, t56, t57, t58, t59, t60, t61, t62, t63, t64, t65, t66, t67, t68, t69, t70, t71, t72, t73, t74, t75, t76, t77, t78, t79, t80, t81, t82, t83, t84, t85, t86, t87, t88, t89, t90, t91, t92, t93, t94, t95, t96, t97, t98, t99, t100, t101, t102, t103, t104, t105, t106, t107, t108, t109, t110, t111, t112, t113, t114, t115, t116, t117, t118, t119, t120, t121, t122, t123, t124, t125, t126, t127, t128, t129, t130, t131, t132, t133, t134, t135, t136, t137, t138, t139, t140, t141, t142, t143, t144] H' R) →
      (∀ (H' : Heap) (e : Int), (vLoop m P O i b (ls.drop i)).2 = e → e ≠ 0 → (∀ id, id < h0.length → blk? H' id = blk? h0 id) → h0.length ≤ H'.length → R (.tuple #[.slice none 0 0, .slice none 0 0, .int .i64 e]) H') →
      Ok tab R29 (.inLoop L29_0 :: .inBlock 0 :: k) #[s, .int .i64 P, .int .i64 w, .int .i64 hh, .int .i64 O, v5, t6, t7, t8, t9, t10, ptr M, t12, t13, t14, ptr p, t16, t17, t18, t19, t20, t21, t22, t23, t24, t25, t26, t27, t28, t29, t30, t31, t32, t33, t34, t35, t36, t37, t38, t39, t40, t41, t42, t43, t44, t45, t46, t47, t48, t49, t50, t51, t52, t53, t54, s, .int .i64 ls.length, .int .i64 i, t58, t59, t60, t61, t62, t63, t64, t65, t66, t67, t68, t69, t70, t71, t72, t73, t74, t75, t76, t77, t78, t79, t80, t81, t82, t83, t84, t85, t86, t87, t88, t89, t90, t91, t92, t93, t94, t95, t96, t97, t98, t99, t100, t101, t102, t103, t104, t105, t106, t107, t108, t109, t110, t111, t112, t113, t114, t115, t116, t117, t118, t119, t120, t121, t122, t123, t124, t125, t126, t127, t128, t129, t130, t131, t132, t133, t134, t135, t136, t137, t138, t139, t140, t141, t142, t143, t144] H R := by
  intro n
  induction n with
  | zero =>
    intro i H b t6 t7 t8 t9 t10 t12 t13 t14 t16 t17 t18 t19 t20 t21 t22 t23 t24 t25 t26 t27 t28 t29 t30 t31 t32 t33 t34 t35 t36 t37 t38 t39 t40 t41 t42 t43 t44 t45 t46 t47 t48 t49 t50 t51 t52 t53 t54 t58 t59 t60 t61 t62 t63 t64 t65 t66 t67 t68 t69 t70 t71 t72 t73 t74 t75 t76 t77 t78 t79 t80 t81 t82 t83 t84 t85 t86 t87 t88 t89 t90 t91 t92 t93 t94 t95 t96 t97 t98 t99 t100 t101 t102 t103 t104 t105 t106 t107 t108 t109 t110 t111 t112 t113 t114 t115 t116 t117 t118 t119 t120 t121 t122 t123 t124 t125 t126 t127 t128 t129 t130 t131 t132 t133 t134 t135 t136 t137 t138 t139 t140 t141 t142 t143 t144 hm hi vl hk hx
    have hlt : ¬ ((i : Int) < ls.length) := by omega
    rw [List.drop_of_length_le (by omega)] at hk
    rw [ok_round, l29_0, L29_0a, L29_0b]
    simp [hlt]
    exact hk H b _ _ _ _ _ _ _ _ _ _ _ _ _ _ _ _ _ _ _ _ _ _ _ _ _ _ _ _ _ _ _ _ _ _ _ _ _ _ _ _ _ _ _ _ _ _ _ _ _ _ _ _ _ _ _ _ _ _ _ _ _ _ _ _ _ _ _ _ _ _ _ _ _ _ _ _ _ _ _ _ _ _ _ _ _ _ _ _ _ _ _ _ _ _ _ _ _ _ _ _ _ _ _ _ _ _ _ _ _ _ _ _ _ _ _ _ _ _ _ _ _ _ _ _ _ _ _ _ _ _ _ _ _ _ _ _ _ rfl vl
  | succ n ih =>
    intro i H b t6 t7 t8 t9 t10 t12 t13 t14 t16 t17 t18 t19 t20 t21 t22 t23 t24 t25 t26 t27 t28 t29 t30 t31 t32 t33 t34 t35 t36 t37 t38 t39 t40 t41 t42 t43 t44 t45 t46 t47 t48 t49 t50 t51 t52 t53 t54 t58 t59 t60 t61 t62 t63 t64 t65 t66 t67 t68 t69 t70 t71 t72 t73 t74 t75 t76 t77 t78 t79 t80 t81 t82 t83 t84 t85 t86 t87 t88 t89 t90 t91 t92 t93 t94 t95 t96 t97 t98 t99 t100 t101 t102 t103 t104 t105 t106 t107 t108 t109 t110 t111 t112 t113 t114 t115 t116 t117 t118 t119 t120 t121 t122 t123 t124 t125 t126 t127 t128 t129 t130 t131 t132 t133 t134 t135 t136 t137 t138 t139 t140 t141 t142 t143 t144 hm hi vl hk hx
    have hil : i < ls.length := by omega
    have hivs : i < vs.length := by rw [hp.len]; exact hil
    have hlt : ((i : Int) < ls.length) := by omega
    have hw : IntKind.i64.wrap ((i : Int) + 1) = (i : Int) + 1 := wrapN (n := i + 1) (by omega)
    have hpH := hp.keep vl.len vl.low
    obtain ⟨id, off, bk, hs, hbk, hc⟩ := hpH.sl.get hivs
    have hc0 := hc 0 (by omega)
    rw [Nat.mul_one, Nat.add_zero, Nat.add_zero, List.getElem?_eq_getElem hivs] at hc0
    have hsl := hpH.each i hivs hil
    have hfar := hp.lt i hivs
    obtain ⟨d1, d2⟩ := vl.d
    rw [List.drop_eq_getElem_cons hil, vLoop] at hk hx
    generalize vs[i] = sv at *
    generalize ls[i] = l at *
    obtain ⟨sa, scc, hsh⟩ := hsl.shape
    -- the source
    have hH1 : ∀ id, id < H.length → blk? (H ++ [some ⟨false, [sv, .bool false]⟩]) id = blk? H id := fun id hid => blk?_push_lt hid
    have hcb1 : CB (H ++ [some ⟨false, [sv, .bool false]⟩]) false p c b := ⟨by rw [hH1 _ (blk?_lt vl.cb.blkp)]; exact vl.cb.blkp, by rw [hH1 _ (blk?_lt vl.cb.blkc)]; exact vl.cb.blkc, vl.cb.ok⟩
    have hlc := blk?_lt vl.cb.blkc
    have hlp := blk?_lt vl.cb.blkp
    have hlM := blk?_lt vl.box
    have hlen0 := vl.len
    have hrel : RelV c H.length (H ++ [some ⟨false, [sv, .bool false]⟩]) sv (l, false) := ⟨blk?_push_eq, hsl.push _, fun id hid => by have := hfar id hid; simp; omega, by omega⟩
    obtain ⟨t', H2, e, dr⟩ := run_d (A := srcV c H.length) (t := sv) (s := (l, false)) hcb1 vl.good.rng hrel (by show ¬ p = H.length; omega) (by simp) (by show 0 + 100000 < 1000000; omega) i P O m
    have herr : runErr (i : Int) (P : Int) (O : Int) = 0 := by unfold runErr; rw [if_neg (by omega), if_neg (by omega)]
    have hout : dOut (srcV c H.length).ask m b (i : Int) (P : Int) (O : Int) (l, false) = (dRun m b i P O).run askV (l, false) := by
      unfold dOut; rw [if_pos herr]; rfl
    rw [hout] at e dr
    have hde : ∀ r, dErr (i : Int) (P : Int) (O : Int) r = cond r 0 16 := fun r => by unfold dErr; rw [herr]; simp
    rw [hde] at e
    have hlow2 : ∀ id, id < h0.length → blk? H2 id = blk? h0 id := fun id hid => by
      rw [dr.st.same id (by simp; omega) (by omega) (by show ¬ id = H.length; omega), hH1 id (by omega)]
      exact vl.low id hid
    have hlen2 : H.length + 1 ≤ H2.length := by have := dr.st.len; simpa using this
    have hrel2 : RelV c H.length H2 t' ((dRun m b i P O).run askV (l, false)).2 := dr.rel
    have hbox : blk? (H ++ [some ⟨false, [sv, .bool false]⟩]) M = some ⟨false, [.bool m.byp, .bool m.res, .bool m.rst, .bool m.cz, .bool m.sy]⟩ := by rw [hH1 _ hlM]; exact vl.box
    have hle := (Tr.Lv.out (A := askV) (size := fun _ => 0) (fun _ _ => by simp) (l, false) (lv_dRun vl.good (m := m) (n := i) (planes := P) (o := O) (runPP_ok hP (hP1 (by omega)) hO))).1
    obtain ⟨pl1, pl2⟩ := askV_play (dRun m b i P O) l
    simp only [MD.val] at e
    rw [ok_round, l29_0, L29_0a, L29_0b]
    subst hsh
    subst hs
    cases hpl : (dRun m b i P O).play l with
    | none =>
      have hbad := pl2 hpl
      have hb2 := hrel2.blk
      rw [hbad] at hb2
      rw [hpl] at hx
      obtain ⟨a2, c2, hs2⟩ := hrel2.sl.shape
      subst hs2
      simp [-List.cons_append, -List.append_assoc, k_guard, hlt, hivs, hbk, hc0, hbox, e, hb2, fin29]
      exact hx H2 8 rfl (by decide) hlow2 (by omega)
    | some q =>
      obtain ⟨⟨b', r⟩, l'⟩ := q
      have hrun := pl1 _ _ hpl
      rw [hrun] at e dr hrel2 hle
      rw [hpl] at hx hk
      have hb2 := hrel2.blk
      simp only at hb2 e hx hk dr hle
      obtain ⟨a2, c2, hs2⟩ := hrel2.sl.shape
      simp only at hs2
      cases r
      · simp only [cond_false, if_true] at e hx
        subst hs2
        simp [-List.cons_append, -List.append_assoc, k_guard, hlt, hivs, hbk, hc0, hbox, e, hb2, fin29]
        exact hx H2 16 rfl (by decide) hlow2 (by omega)
      · simp only [cond_true, Bool.true_eq_false, if_false] at e hx hk
        subst hs2
        cases l' with
        | cons y l' =>
          simp only at hx
          have hpos : (0 : Int) < (l'.length : Int) + 1 := by omega
          simp [-List.cons_append, -List.append_assoc, k_guard, hlt, hivs, hbk, hc0, hbox, e, hb2, hpos, fin29]
          exact hx H2 8 rfl (by decide) hlow2 (by omega)
        | nil =>
          simp only at hx hk
          simp [-List.cons_append, -List.append_assoc, k_guard, hlt, hivs, hbk, hc0, hbox, e, hb2, hw, fin29]
          have vl2 : VLv h0 H2 M p c m w hh b' := by
            refine ⟨hlow2, by omega, ?_, dr.cb, dr.good, ⟨d1, d2⟩, by rw [hle.w]; exact vl.bw, by rw [hle.h]; exact vl.bh, vl.dp⟩
            rw [dr.st.same M (by simp; omega) d2 (by show ¬ M = H.length; omega)]
            exact hbox
          exact ih (i + 1) H2 b' _ _ _ _ _ _ _ _ _ _ _ _ _ _ _ _ _ _ _ _ _ _ _ _ _ _ _ _ _ _ _ _ _ _ _ _ _ _ _ _ _ _ _ _ _ _ _ _ _ _ _ _ _ _ _ _ _ _ _ _ _ _ _ _ _ _ _ _ _ _ _ _ _ _ _ _ _ _ _ _ _ _ _ _ _ _ _ _ _ _ _ _ _ _ _ _ _ _ _ _ _ _ _ _ _ _ _ _ _ _ _ _ _ _ _ _ _ _ _ _ _ _ _ _ _ _ _ _ _ _ _ _ _ _ (by omega) (by omega) vl2 hk hx
end Go.Proofs.Ytjpjohchdfoeaaa
namespace Go.Proofs.Ytjpjohchdfoeaaa
open Go Go.Sim
set_option linter.unusedSimpArgs false
set_option linter.unusedVariables false

/-- The rows of values and missing planes, in the making. -/
structure VB (h0 H : Heap) (p c : Nat) (b : BS) (v1 v2 : Value) (xs ys : List Int) : Prop where
  low : ∀ id, id < h0.length → blk? H id = blk? h0 id
  len : h0.length ≤ H.length
  cb : CB H false p c b
  o1 : OwnS H 1 v1 xs.length (i64s xs)
  o2 : OwnS H 1 v2 ys.length (i64s ys)
  f1 : ∀ id, sid v1 = some id → h0.length ≤ id ∧ id ≠ c ∧ id ≠ p
  f2 : ∀ id, sid v2 = some id → h0.length ≤ id ∧ id ≠ c ∧ id ≠ p
  ne : ∀ id, sid v1 = some id → sid v2 ≠ some id
theorem i64s_len (xs : List Int) : (i64s xs).length = xs.length := by simp [i64s]
theorem VB.swap {h0 H : Heap} {p c : Nat} {b : BS} {v1 v2 : Value} {xs ys : List Int} (h : VB h0 H p c b v1 v2 xs ys) : VB h0 H p c b v2 v1 ys xs :=
  ⟨h.low, h.len, h.cb, h.o2, h.o1, h.f2, h.f1, fun id e e' => h.ne id e' e⟩
/-- One more value. -/
theorem VB.push1 {h0 H : Heap} {p c : Nat} {b : BS} {v1 v2 : Value} {xs ys : List Int} (h : VB h0 H p c b v1 v2 xs ys) (hl : xs.length < 100000) (v : Int) :
    ∃ H', appendV (H ++ [some ⟨false, [.int .i64 v]⟩]) 1 8 v1 (.slice (some ⟨H.length, 0, none⟩) 1 1) = some (.slice (some ⟨H.length + 1, 0, none⟩) (xs.length + 1) 1, H') ∧
      VB h0 H' p c b (.slice (some ⟨H.length + 1, 0, none⟩) (xs.length + 1) 1) v2 (xs ++ [v]) ys := by
  have hsl : Sl (H ++ [some ⟨false, [.int .i64 v]⟩]) 1 (.slice (some ⟨H.length, 0, none⟩) 1 1) 1 [.int .i64 v] :=
    ⟨by simp, .inr ⟨H.length, 0, rfl, .inr ⟨_, blk?_push_eq, by simp, by simp⟩⟩⟩
  have ho : OwnS (H ++ [some ⟨false, [.int .i64 v]⟩]) 1 v1 xs.length (i64s xs) := h.o1.of_blk fun id _ hb => blk?_push hb
  obtain ⟨H', ha, hK, hHl, hHs⟩ := own_append (bytes := 8) ho hsl (by unfold roomCells; omega) (by omega) (by omega)
  simp only [List.length_append, List.length_singleton] at ha hK hHl hHs
  have hk : ∀ id, id < H.length → sid v1 ≠ some id → blk? H' id = blk? H id := fun id hid hne => by rw [hHs id (by omega) hne, blk?_push_lt hid]
  have hlen := h.len
  have lp := blk?_lt h.cb.blkp
  have lc := blk?_lt h.cb.blkc
  refine ⟨H', ha, fun id hid => ?_, by omega, ⟨?_, ?_, h.cb.ok⟩, ?_, ?_, fun id hid => ?_, h.f2, fun id hid e => ?_⟩
  · rw [hk id (by omega) (fun e => by have := h.f1 id e; omega)]; exact h.low id hid
  · rw [hk p lp (fun e => (h.f1 p e).2.2 rfl)]; exact h.cb.blkp
  · rw [hk c lc (fun e => (h.f1 c e).2.1 rfl)]; exact h.cb.blkc
  · refine ⟨by simp [i64s], .inr ⟨H.length + 1, by simp, ?_⟩⟩
    rw [hK]; simp [i64s]
  · refine h.o2.of_blk fun id hid hb => ?_
    rw [hk id (blk?_lt hb) (fun e => h.ne id e hid)]; exact hb
  · simp [sid] at hid; omega
  · simp [sid] at hid
    have := h.o2.lt e
    omega

theorem pass_neg {h : Heap} {R : Value → Heap → Prop} : Ret tab 74 [.int .i64 (-1)] h R = R (.tuple #[.int .i64 (-1), .int .i64 (-1)]) h := by
  rw [enter74, B74]
  simp [fin74]

theorem get_row {b : BS} (ho : b.Ok) {x y : Nat} (hx : x < b.w) (hy : y < b.h) : y * b.w + x < b.cs.length ∧ b.cs[y * b.w + x]? = some (b.get x y) := by
  have hi : b.inb x y := ⟨by omega, by omega, by omega, by omega⟩
  have h1 := BS.get_in ho hi
  have h2 := BS.idx_lt ho hi
  have e : b.idx x y = y * b.w + x := by
    unfold BS.idx
    rw [show ((y : Int) * b.w + x) = ((y * b.w + x : Nat) : Int) by simp]; rfl
  rw [e] at h1 h2
  exact ⟨h2, h1⟩

/-- What is left at a coefficient: the lowest planes. -/
def valsTo (b : BS) (i : Nat) : List Int := (b.cs.take i).map (·.v)
def missTo (P : Int) (n : Nat) (b : BS) (i : Nat) : List Int := (b.cs.take i).map fun c => leftOf P n c.t
theorem valsTo_succ {b : BS} {i : Nat} {c : Cell} (h : b.cs[i]? = some c) : valsTo b (i + 1) = valsTo b i ++ [c.v] := by
  obtain ⟨hi, rfl⟩ := List.getElem?_eq_some_iff.1 h
  unfold valsTo
  rw [List.take_succ_eq_append_getElem hi, List.map_append]; rfl
theorem missTo_succ {P : Int} {n : Nat} {b : BS} {i : Nat} {c : Cell} (h : b.cs[i]? = some c) : missTo P n b (i + 1) = missTo P n b i ++ [leftOf P n c.t] := by
  obtain ⟨hi, rfl⟩ := List.getElem?_eq_some_iff.1 h
  unfold missTo
  rw [List.take_succ_eq_append_getElem hi, List.map_append]; rfl
theorem valsTo_len {b : BS} {i : Nat} (h : i ≤ b.cs.length) : (valsTo b i).length = i := by simp [valsTo]; omega
theorem missTo_len {P : Int} {n : Nat} {b : BS} {i : Nat} (h : i ≤ b.cs.length) : (missTo P n b i).length = i := by simp [missTo]; omega

section
variable {h0 : Heap} {p c : Nat} {b : BS} {P n : Nat} {pl kd : Int} {s v3 v4 v5 v11 v103 v104 : Value} {k : List RItem} {R : Value → Heap → Prop}
set_option maxRecDepth 10000 in
set_option maxHeartbeats 1000000 in
theorem valx_loop (hP : P ≤ 60) (hpl : -1 ≤ pl ∧ pl ≤ 100) (hleft : ∀ t, leftOf P n t = P - 1 - pl + if (decide (0 < n) && kd != 2 && !t) = true then 1 else 0) {y : Nat} (hy : y < b.h) :
    ∀ (m x : Nat) (H : Heap) (v1 v2 : Value) (t6 t7 t8 t9 t10 t14 t16 t17 t18 t19 t24 t25 t26 t27 t28 t29 t30 t31 t32 t33 t34 t35 t36 t37 t38 t39 t40 t41 t42 t43 t44 t45 t46 t47 t48 t49 t50 t51 t52 t53 t54 t55 t56 t57 t58 t59 t60 t61 t62 t63 t64 t65 t66 t67 t68 t69 t70 t71 t72 t73 t74 t75 t76 t77 t78 t79 t80 t81 t82 t83 t84 t85 t86 t87 t88 t89 t90 t91 t92 t93 t94 t95 t96 t97 t98 t99 t100 t101 t102 t105 t106 t109 t110 t111 t112 t113 t114 t115 t116 t117 t118 t119 t120 t121 t122 t123 t124 t125 t126 t127 t128 t129 t130 t131 t132 t133 t134 t135 t136 t137 t138 t139 t140 t141 t142 t143 t144 : Value), m = b.w - x → x ≤ b.w → VB h0 H p c b v1 v2 (valsTo b (y * b.w + x)) (missTo P n b (y * b.w + x)) →
      (∀ (H' : Heap) (v1' v2' : Value) (t6 t7 t8 t9 t10 t14 t16 t17 t18 t19 t24 t25 t26 t27 t28 t29 t30 t31 t32 t33 t34 t35 t36 t37 t38 t39 t40 t41 t42 t43 t44 t45 t46 t47 t48 t49 t50 t51 t52 t53 t54 t55 t56 t57 t58 t59 t60 t61 t62 t63 t64 t65 t66 t67 t68 t69 t70 t71 t72 t73 t74 t75 t76 t77 t78 t79 t80 t81 t82 t83 t84 t85 t86 t87 t88 t89 t90 t91 t92 t93 t94 t95 t96 t97 t98 t99 t100 t101 t102 t105 t106 t107 t108 t109 t110 t111 t112 t113 t114 t115 t116 t117 t118 t119 t120 t121 t122 t123 t124 t125 t126 t127 t128 t129 t130 t131 t132 t133 t134 t135 t136 t137 t138 t139 t140 t141 t142 t143 t144 : Value), VB h0 H' p c b v1' v2' (valsTo b (y * b.w + b.w)) (missTo P n b (y * b.w + b.w)) →
        Ok tab R29 k #[s, .int .i64 P, .int .i64 b.w, v3, v4, v5, t6, t7, t8, t9, t10, v11, v1', v2', t14, ptr p, t16, t17, t18, t19, .int .i64 n, .int .i64 pl, .int .i64 kd, .int .i64 y, t24, t25, t26, t27, t28, t29, t30, t31, t32, t33, t34, t35, t36, t37, t38, t39, t40, t41, t42, t43, t44, t45, t46, t47, t48, t49, t50, t51, t52, t53, t54, t55, t56, t57, t58, t59, t60, t61, t62, t63, t64, t65, t66, t67, t68, t69, t70, t71, t72, t73, t74, t75, t76, t77, t78, t79, t80, t81, t82, t83, t84, t85, t86, t87, t88, t89, t90, t91, t92, t93, t94, t95, t96, t97, t98, t99, t100, t101, t102, v103, v104, t105, t106, t107, t108, t109, t110, t111, t112, t113, t114, t115, t116, t117, t118, t119, t120, t121, t122, t123, t124, t125, t126, t127, t128, t129, t130, t131, t132, t133, t134, t135, t136, t137, t138, t139, t140, t141, t142, t143, t144] H' R) →
      Ok tab R29 (.inLoop L29_1 :: .inBlock 4 :: k) #[s, .int .i64 P, .int .i64 b.w, v3, v4, v5, t6, t7, t8, t9, t10, v11, v1, v2, t14, ptr p, t16, t17, t18, t19, .int .i64 n, .int .i64 pl, .int .i64 kd, .int .i64 y, t24, t25, t26, t27, t28, t29, t30, t31, t32, t33, t34, t35, t36, t37, t38, t39, t40, t41, t42, t43, t44, t45, t46, t47, t48, t49, t50, t51, t52, t53, t54, t55, t56, t57, t58, t59, t60, t61, t62, t63, t64, t65, t66, t67, t68, t69, t70, t71, t72, t73, t74, t75, t76, t77, t78, t79, t80, t81, t82, t83, t84, t85, t86, t87, t88, t89, t90, t91, t92, t93, t94, t95, t96, t97, t98, t99, t100, t101, t102, v103, v104, t105, t106, .int .i64 b.w, .int .i64 x, t109, t110, t111, t112, t113, t114, t115, t116, t117, t118, t119, t120, t121, t122, t123, t124, t125, t126, t127, t128, t129, t130, t131, t132, t133, t134, t135, t136, t137, t138, t139, t140, t141, t142, t143, t144] H R := by
  intro m
  induction m with
  | zero =>
    intro x H v1 v2 t6 t7 t8 t9 t10 t14 t16 t17 t18 t19 t24 t25 t26 t27 t28 t29 t30 t31 t32 t33 t34 t35 t36 t37 t38 t39 t40 t41 t42 t43 t44 t45 t46 t47 t48 t49 t50 t51 t52 t53 t54 t55 t56 t57 t58 t59 t60 t61 t62 t63 t64 t65 t66 t67 t68 t69 t70 t71 t72 t73 t74 t75 t76 t77 t78 t79 t80 t81 t82 t83 t84 t85 t86 t87 t88 t89 t90 t91 t92 t93 t94 t95 t96 t97 t98 t99 t100 t101 t102 t105 t106 t109 t110 t111 t112 t113 t114 t115 t116 t117 t118 t119 t120 t121 t122 t123 t124 t125 t126 t127 t128 t129 t130 t131 t132 t133 t134 t135 t136 t137 t138 t139 t140 t141 t142 t143 t144 hm hx vb hk
    have hlt : ¬ ((x : Int) < b.w) := by omega
    obtain rfl : x = b.w := by omega
    rw [ok_round, l29_1, L29_1a, L29_1b]
    simp [hlt]
    exact hk H v1 v2 _ _ _ _ _ _ _ _ _ _ _ _ _ _ _ _ _ _ _ _ _ _ _ _ _ _ _ _ _ _ _ _ _ _ _ _ _ _ _ _ _ _ _ _ _ _ _ _ _ _ _ _ _ _ _ _ _ _ _ _ _ _ _ _ _ _ _ _ _ _ _ _ _ _ _ _ _ _ _ _ _ _ _ _ _ _ _ _ _ _ _ _ _ _ _ _ _ _ _ _ _ _ _ _ _ _ _ _ _ _ _ _ _ _ _ _ _ _ _ _ _ _ _ _ _ _ _ _ _ vb
  | succ m ih =>
    intro x H v1 v2 t6 t7 t8 t9 t10 t14 t16 t17 t18 t19 t24 t25 t26 t27 t28 t29 t30 t31 t32 t33 t34 t35 t36 t37 t38 t39 t40 t41 t42 t43 t44 t45 t46 t47 t48 t49 t50 t51 t52 t53 t54 t55 t56 t57 t58 t59 t60 t61 t62 t63 t64 t65 t66 t67 t68 t69 t70 t71 t72 t73 t74 t75 t76 t77 t78 t79 t80 t81 t82 t83 t84 t85 t86 t87 t88 t89 t90 t91 t92 t93 t94 t95 t96 t97 t98 t99 t100 t101 t102 t105 t106 t109 t110 t111 t112 t113 t114 t115 t116 t117 t118 t119 t120 t121 t122 t123 t124 t125 t126 t127 t128 t129 t130 t131 t132 t133 t134 t135 t136 t137 t138 t139 t140 t141 t142 t143 t144 hm hx vb hk
    have hxl : x < b.w := by omega
    have hlt : ((x : Int) < b.w) := by omega
    have hw2 := vb.cb.ok.w2
    have hh2 := vb.cb.ok.h2
    have hm64 : y * b.w ≤ 64 * 64 := Nat.mul_le_mul (by omega) hw2
    have hw : IntKind.i64.wrap ((x : Int) + 1) = ((x + 1 : Nat) : Int) := wrapN (n := x + 1) (by omega)
    obtain ⟨hil, hgi⟩ := get_row vb.cb.ok hxl hy
    have hwa : IntKind.i64.wrap ((P : Int) - 1) = (P : Int) - 1 := wrapI (by omega) (by omega)
    have hwb : IntKind.i64.wrap ((P : Int) - 1 - pl) = (P : Int) - 1 - pl := wrapI (by omega) (by omega)
    have hwc : IntKind.i64.wrap ((P : Int) - 1 - pl + 1) = (P : Int) - 1 - pl + 1 := wrapI (by omega) (by omega)
    have hv := fun R => value_c (R := R) (x := (x : Int)) (y := (y : Int)) vb.cb
    obtain ⟨H1, e1, vb1⟩ := vb.push1 (by rw [valsTo_len (by omega)]; omega) (b.get x y).v
    have ht := fun R => touched_c (R := R) (x := (x : Int)) (y := (y : Int)) vb1.cb
    obtain ⟨H2, e2, vb2⟩ := vb1.swap.push1 (by rw [missTo_len (by omega)]; omega) (leftOf P n (b.get x y).t)
    have vb3 := vb2.swap
    rw [← valsTo_succ hgi, ← missTo_succ (P := P) (n := n) hgi] at vb3
    rw [Nat.add_assoc] at vb3
    have hl := hleft (b.get x y).t
    rw [valsTo_len (by omega)] at e1 vb3
    rw [missTo_len (by omega)] at e2 vb3
    generalize hnx : ((x + 1 : Nat) : Int) = xi at *
    have ih' := fun t6 t7 t8 t9 t10 t14 t16 t17 t18 t19 t24 t25 t26 t27 t28 t29 t30 t31 t32 t33 t34 t35 t36 t37 t38 t39 t40 t41 t42 t43 t44 t45 t46 t47 t48 t49 t50 t51 t52 t53 t54 t55 t56 t57 t58 t59 t60 t61 t62 t63 t64 t65 t66 t67 t68 t69 t70 t71 t72 t73 t74 t75 t76 t77 t78 t79 t80 t81 t82 t83 t84 t85 t86 t87 t88 t89 t90 t91 t92 t93 t94 t95 t96 t97 t98 t99 t100 t101 t102 t105 t106 t109 t110 t111 t112 t113 t114 t115 t116 t117 t118 t119 t120 t121 t122 t123 t124 t125 t126 t127 t128 t129 t130 t131 t132 t133 t134 t135 t136 t137 t138 t139 t140 t141 t142 t143 t144 => ih (x + 1) H2 _ _ t6 t7 t8 t9 t10 t14 t16 t17 t18 t19 t24 t25 t26 t27 t28 t29 t30 t31 t32 t33 t34 t35 t36 t37 t38 t39 t40 t41 t42 t43 t44 t45 t46 t47 t48 t49 t50 t51 t52 t53 t54 t55 t56 t57 t58 t59 t60 t61 t62 t63 t64 t65 t66 t67 t68 t69 t70 t71 t72 t73 t74 t75 t76 t77 t78 t79 t80 t81 t82 t83 t84 t85 t86 t87 t88 t89 t90 t91 t92 t93 t94 t95 t96 t97 t98 t99 t100 t101 t102 t105 t106 t109 t110 t111 t112 t113 t114 t115 t116 t117 t118 t119 t120 t121 t122 t123 t124 t125 t126 t127 t128 t129 t130 t131 t132 t133 t134 t135 t136 t137 t138 t139 t140 t141 t142 t143 t144 (by omega) (by omega) vb3 hk
    rw [hnx] at ih'
    rw [ok_round, l29_1, L29_1a, L29_1b]
    generalize leftOf P n (b.get x y).t = lf at *
    generalize (b.get x y).v = vv at *
    by_cases h1 : 0 < n
    · have h1' : (0 : Int) < (n : Int) := by omega
      by_cases h2 : kd = 2
      · have h2' : (kd != 2) = false := by simp [h2]
        simp [h2'] at hl
        subst hl
        simp [k_guard, k_guardU, hlt, hv, repL, e1, hwa, hwb, h1, h1', h2', e2, hw]
        exact ih' _ _ _ _ _ _ _ _ _ _ _ _ _ _ _ _ _ _ _ _ _ _ _ _ _ _ _ _ _ _ _ _ _ _ _ _ _ _ _ _ _ _ _ _ _ _ _ _ _ _ _ _ _ _ _ _ _ _ _ _ _ _ _ _ _ _ _ _ _ _ _ _ _ _ _ _ _ _ _ _ _ _ _ _ _ _ _ _ _ _ _ _ _ _ _ _ _ _ _ _ _ _ _ _ _ _ _ _ _ _ _ _ _ _ _ _ _ _ _ _ _ _ _ _ _ _ _
      · have h2' : (kd != 2) = true := by simp [h2]
        cases htt : (b.get x y).t
        · simp [h1, h2', htt] at hl
          rw [htt] at ht
          subst hl
          simp [k_guard, k_guardU, hlt, hv, repL, e1, hwa, hwb, hwc, h1, h1', h2', ht, e2, hw]
          exact ih' _ _ _ _ _ _ _ _ _ _ _ _ _ _ _ _ _ _ _ _ _ _ _ _ _ _ _ _ _ _ _ _ _ _ _ _ _ _ _ _ _ _ _ _ _ _ _ _ _ _ _ _ _ _ _ _ _ _ _ _ _ _ _ _ _ _ _ _ _ _ _ _ _ _ _ _ _ _ _ _ _ _ _ _ _ _ _ _ _ _ _ _ _ _ _ _ _ _ _ _ _ _ _ _ _ _ _ _ _ _ _ _ _ _ _ _ _ _ _ _ _ _ _ _ _ _ _
        · simp [htt] at hl
          rw [htt] at ht
          subst hl
          simp [k_guard, k_guardU, hlt, hv, repL, e1, hwa, hwb, h1, h1', h2', ht, e2, hw]
          exact ih' _ _ _ _ _ _ _ _ _ _ _ _ _ _ _ _ _ _ _ _ _ _ _ _ _ _ _ _ _ _ _ _ _ _ _ _ _ _ _ _ _ _ _ _ _ _ _ _ _ _ _ _ _ _ _ _ _ _ _ _ _ _ _ _ _ _ _ _ _ _ _ _ _ _ _ _ _ _ _ _ _ _ _ _ _ _ _ _ _ _ _ _ _ _ _ _ _ _ _ _ _ _ _ _ _ _ _ _ _ _ _ _ _ _ _ _ _ _ _ _ _ _ _ _ _ _ _
    · have h1' : ¬ (0 : Int) < (n : Int) := by omega
      simp [h1] at hl
      subst hl
      simp [k_guard, k_guardU, hlt, hv, repL, e1, hwa, hwb, h1, h1', e2, hw]
      exact ih' _ _ _ _ _ _ _ _ _ _ _ _ _ _ _ _ _ _ _ _ _ _ _ _ _ _ _ _ _ _ _ _ _ _ _ _ _ _ _ _ _ _ _ _ _ _ _ _ _ _ _ _ _ _ _ _ _ _ _ _ _ _ _ _ _ _ _ _ _ _ _ _ _ _ _ _ _ _ _ _ _ _ _ _ _ _ _ _ _ _ _ _ _ _ _ _ _ _ _ _ _ _ _ _ _ _ _ _ _ _ _ _ _ _ _ _ _ _ _ _ _ _ _ _ _ _ _

set_option maxRecDepth 10000 in
set_option maxHeartbeats 1000000 in
theorem valy_loop (hP : P ≤ 60) (hpl : -1 ≤ pl ∧ pl ≤ 100) (hleft : ∀ t, leftOf P n t = P - 1 - pl + if (decide (0 < n) && kd != 2 && !t) = true then 1 else 0) :
    ∀ (m y : Nat) (H : Heap) (v1 v2 : Value) (t6 t7 t8 t9 t10 t14 t16 t17 t18 t19 t23 t24 t25 t26 t27 t28 t29 t30 t31 t32 t33 t34 t35 t36 t37 t38 t39 t40 t41 t42 t43 t44 t45 t46 t47 t48 t49 t50 t51 t52 t53 t54 t55 t56 t57 t58 t59 t60 t61 t62 t63 t64 t65 t66 t67 t68 t69 t70 t71 t72 t73 t74 t75 t76 t77 t78 t79 t80 t81 t82 t83 t84 t85 t86 t87 t88 t89 t90 t91 t92 t93 t94 t95 t96 t97 t98 t99 t100 t101 t102 t105 t106 t107 t108 t109 t110 t111 t112 t113 t114 t115 t116 t117 t118 t119 t120 t121 t122 t123 t124 t125 t126 t127 t128 t129 t130 t131 t132 t133 t134 t135 t136 t137 t138 t139 t140 t141 t142 t143 t144 : Value), m = b.h - y → y ≤ b.h → VB h0 H p c b v1 v2 (valsTo b (y * b.w)) (missTo P n b (y * b.w)) →
      (∀ (H' : Heap) (v1' v2' : Value) (t6 t7 t8 t9 t10 t14 t16 t17 t18 t19 t23 t24 t25 t26 t27 t28 t29 t30 t31 t32 t33 t34 t35 t36 t37 t38 t39 t40 t41 t42 t43 t44 t45 t46 t47 t48 t49 t50 t51 t52 t53 t54 t55 t56 t57 t58 t59 t60 t61 t62 t63 t64 t65 t66 t67 t68 t69 t70 t71 t72 t73 t74 t75 t76 t77 t78 t79 t80 t81 t82 t83 t84 t85 t86 t87 t88 t89 t90 t91 t92 t93 t94 t95 t96 t97 t98 t99 t100 t101 t102 t103 t104 t105 t106 t107 t108 t109 t110 t111 t112 t113 t114 t115 t116 t117 t118 t119 t120 t121 t122 t123 t124 t125 t126 t127 t128 t129 t130 t131 t132 t133 t134 t135 t136 t137 t138 t139 t140 t141 t142 t143 t144 : Value), VB h0 H' p c b v1' v2' (valsTo b (b.h * b.w)) (missTo P n b (b.h * b.w)) →
        Ok tab R29 k #[s, .int .i64 P, .int .i64 b.w, v3, v4, v5, t6, t7, t8, t9, t10, v11, v1', v2', t14, ptr p, t16, t17, t18, t19, .int .i64 n, .int .i64 pl, .int .i64 kd, t23, t24, t25, t26, t27, t28, t29, t30, t31, t32, t33, t34, t35, t36, t37, t38, t39, t40, t41, t42, t43, t44, t45, t46, t47, t48, t49, t50, t51, t52, t53, t54, t55, t56, t57, t58, t59, t60, t61, t62, t63, t64, t65, t66, t67, t68, t69, t70, t71, t72, t73, t74, t75, t76, t77, t78, t79, t80, t81, t82, t83, t84, t85, t86, t87, t88, t89, t90, t91, t92, t93, t94, t95, t96, t97, t98, t99, t100, t101, t102, t103, t104, t105, t106, t107, t108, t109, t110, t111, t112, t113, t114, t115, t116, t117, t118, t119, t120, t121, t122, t123, t124, t125, t126, t127, t128, t129, t130, t131, t132, t133, t134, t135, t136, t137, t138, t139, t140, t141, t142, t143, t144] H' R) →
      Ok tab R29 (.inLoop L29_2 :: .inBlock 2 :: k) #[s, .int .i64 P, .int .i64 b.w, v3, v4, v5, t6, t7, t8, t9, t10, v11, v1, v2, t14, ptr p, t16, t17, t18, t19, .int .i64 n, .int .i64 pl, .int .i64 kd, t23, t24, t25, t26, t27, t28, t29, t30, t31, t32, t33, t34, t35, t36, t37, t38, t39, t40, t41, t42, t43, t44, t45, t46, t47, t48, t49, t50, t51, t52, t53, t54, t55, t56, t57, t58, t59, t60, t61, t62, t63, t64, t65, t66, t67, t68, t69, t70, t71, t72, t73, t74, t75, t76, t77, t78, t79, t80, t81, t82, t83, t84, t85, t86, t87, t88, t89, t90, t91, t92, t93, t94, t95, t96, t97, t98, t99, t100, t101, t102, .int .i64 b.h, .int .i64 y, t105, t106, t107, t108, t109, t110, t111, t112, t113, t114, t115, t116, t117, t118, t119, t120, t121, t122, t123, t124, t125, t126, t127, t128, t129, t130, t131, t132, t133, t134, t135, t136, t137, t138, t139, t140, t141, t142, t143, t144] H R := by
  intro m
  induction m with
  | zero =>
    intro y H v1 v2 t6 t7 t8 t9 t10 t14 t16 t17 t18 t19 t23 t24 t25 t26 t27 t28 t29 t30 t31 t32 t33 t34 t35 t36 t37 t38 t39 t40 t41 t42 t43 t44 t45 t46 t47 t48 t49 t50 t51 t52 t53 t54 t55 t56 t57 t58 t59 t60 t61 t62 t63 t64 t65 t66 t67 t68 t69 t70 t71 t72 t73 t74 t75 t76 t77 t78 t79 t80 t81 t82 t83 t84 t85 t86 t87 t88 t89 t90 t91 t92 t93 t94 t95 t96 t97 t98 t99 t100 t101 t102 t105 t106 t107 t108 t109 t110 t111 t112 t113 t114 t115 t116 t117 t118 t119 t120 t121 t122 t123 t124 t125 t126 t127 t128 t129 t130 t131 t132 t133 t134 t135 t136 t137 t138 t139 t140 t141 t142 t143 t144 hm hy vb hk
    have hlt : ¬ ((y : Int) < b.h) := by omega
    obtain rfl : y = b.h := by omega
    rw [ok_round, l29_2, L29_2a, L29_2b]
    simp [hlt]
    exact hk H v1 v2 _ _ _ _ _ _ _ _ _ _ _ _ _ _ _ _ _ _ _ _ _ _ _ _ _ _ _ _ _ _ _ _ _ _ _ _ _ _ _ _ _ _ _ _ _ _ _ _ _ _ _ _ _ _ _ _ _ _ _ _ _ _ _ _ _ _ _ _ _ _ _ _ _ _ _ _ _ _ _ _ _ _ _ _ _ _ _ _ _ _ _ _ _ _ _ _ _ _ _ _ _ _ _ _ _ _ _ _ _ _ _ _ _ _ _ _ _ _ _ _ _ _ _ _ _ _ _ _ _ _ _ _ vb
  | succ m ih =>
    intro y H v1 v2 t6 t7 t8 t9 t10 t14 t16 t17 t18 t19 t23 t24 t25 t26 t27 t28 t29 t30 t31 t32 t33 t34 t35 t36 t37 t38 t39 t40 t41 t42 t43 t44 t45 t46 t47 t48 t49 t50 t51 t52 t53 t54 t55 t56 t57 t58 t59 t60 t61 t62 t63 t64 t65 t66 t67 t68 t69 t70 t71 t72 t73 t74 t75 t76 t77 t78 t79 t80 t81 t82 t83 t84 t85 t86 t87 t88 t89 t90 t91 t92 t93 t94 t95 t96 t97 t98 t99 t100 t101 t102 t105 t106 t107 t108 t109 t110 t111 t112 t113 t114 t115 t116 t117 t118 t119 t120 t121 t122 t123 t124 t125 t126 t127 t128 t129 t130 t131 t132 t133 t134 t135 t136 t137 t138 t139 t140 t141 t142 t143 t144 hm hy vb hk
    have hlt : ((y : Int) < b.h) := by omega
    have hh2 := vb.cb.ok.h2
    have hw : IntKind.i64.wrap ((y : Int) + 1) = ((y + 1 : Nat) : Int) := wrapN (n := y + 1) (by omega)
    rw [ok_round, l29_2, L29_2a, L29_2b]
    simp [hlt]
    refine valx_loop hP hpl hleft (y := y) (by omega) b.w 0 H v1 v2 _ _ _ _ _ _ _ _ _ _ _ _ _ _ _ _ _ _ _ _ _ _ _ _ _ _ _ _ _ _ _ _ _ _ _ _ _ _ _ _ _ _ _ _ _ _ _ _ _ _ _ _ _ _ _ _ _ _ _ _ _ _ _ _ _ _ _ _ _ _ _ _ _ _ _ _ _ _ _ _ _ _ _ _ _ _ _ _ _ _ _ _ _ _ _ _ _ _ _ _ _ _ _ _ _ _ _ _ _ _ _ _ _ _ _ _ _ _ _ _ _ _ _ _ _ _ _ (by omega) (by omega) vb ?_
    intro H' v1' v2' t6 t7 t8 t9 t10 t14 t16 t17 t18 t19 t24 t25 t26 t27 t28 t29 t30 t31 t32 t33 t34 t35 t36 t37 t38 t39 t40 t41 t42 t43 t44 t45 t46 t47 t48 t49 t50 t51 t52 t53 t54 t55 t56 t57 t58 t59 t60 t61 t62 t63 t64 t65 t66 t67 t68 t69 t70 t71 t72 t73 t74 t75 t76 t77 t78 t79 t80 t81 t82 t83 t84 t85 t86 t87 t88 t89 t90 t91 t92 t93 t94 t95 t96 t97 t98 t99 t100 t101 t102 t105 t106 t107 t108 t109 t110 t111 t112 t113 t114 t115 t116 t117 t118 t119 t120 t121 t122 t123 t124 t125 t126 t127 t128 t129 t130 t131 t132 t133 t134 t135 t136 t137 t138 t139 t140 t141 t142 t143 t144 vb'
    have e : (y + 1) * b.w = y * b.w + b.w := by rw [Nat.add_mul]; omega
    rw [← e] at vb'
    have ih' := fun t6 t7 t8 t9 t10 t14 t16 t17 t18 t19 t23 t24 t25 t26 t27 t28 t29 t30 t31 t32 t33 t34 t35 t36 t37 t38 t39 t40 t41 t42 t43 t44 t45 t46 t47 t48 t49 t50 t51 t52 t53 t54 t55 t56 t57 t58 t59 t60 t61 t62 t63 t64 t65 t66 t67 t68 t69 t70 t71 t72 t73 t74 t75 t76 t77 t78 t79 t80 t81 t82 t83 t84 t85 t86 t87 t88 t89 t90 t91 t92 t93 t94 t95 t96 t97 t98 t99 t100 t101 t102 t105 t106 t107 t108 t109 t110 t111 t112 t113 t114 t115 t116 t117 t118 t119 t120 t121 t122 t123 t124 t125 t126 t127 t128 t129 t130 t131 t132 t133 t134 t135 t136 t137 t138 t139 t140 t141 t142 t143 t144 => ih (y + 1) H' v1' v2' t6 t7 t8 t9 t10 t14 t16 t17 t18 t19 t23 t24 t25 t26 t27 t28 t29 t30 t31 t32 t33 t34 t35 t36 t37 t38 t39 t40 t41 t42 t43 t44 t45 t46 t47 t48 t49 t50 t51 t52 t53 t54 t55 t56 t57 t58 t59 t60 t61 t62 t63 t64 t65 t66 t67 t68 t69 t70 t71 t72 t73 t74 t75 t76 t77 t78 t79 t80 t81 t82 t83 t84 t85 t86 t87 t88 t89 t90 t91 t92 t93 t94 t95 t96 t97 t98 t99 t100 t101 t102 t105 t106 t107 t108 t109 t110 t111 t112 t113 t114 t115 t116 t117 t118 t119 t120 t121 t122 t123 t124 t125 t126 t127 t128 t129 t130 t131 t132 t133 t134 t135 t136 t137 t138 t139 t140 t141 t142 t143 t144 (by omega) (by omega) vb' hk
    generalize ((y + 1 : Nat) : Int) = yi at *
    simp [hw]
    exact ih' _ _ _ _ _ _ _ _ _ _ _ _ _ _ _ _ _ _ _ _ _ _ _ _ _ _ _ _ _ _ _ _ _ _ _ _ _ _ _ _ _ _ _ _ _ _ _ _ _ _ _ _ _ _ _ _ _ _ _ _ _ _ _ _ _ _ _ _ _ _ _ _ _ _ _ _ _ _ _ _ _ _ _ _ _ _ _ _ _ _ _ _ _ _ _ _ _ _ _ _ _ _ _ _ _ _ _ _ _ _ _ _ _ _ _ _ _ _ _ _ _ _ _ _ _ _ _ _ _ _
end

/-- What Values leaves. -/
structure VOut (h h' : Heap) (v1 v2 : Value) (r : Int × List Int × List Int) : Prop where
  o1 : OwnS h' 1 v1 r.2.1.length (i64s r.2.1)
  o2 : OwnS h' 1 v2 r.2.2.length (i64s r.2.2)
  low : ∀ id, id < h.length → blk? h' id = blk? h id
  len : h.length ≤ h'.length
theorem VOut.bad {h h' : Heap} (low : ∀ id, id < h.length → blk? h' id = blk? h id) (len : h.length ≤ h'.length) (e : Int) : VOut h h' (.slice none 0 0) (.slice none 0 0) (e, [], []) := ⟨OwnS.nil _ _, OwnS.nil _ _, low, len⟩

set_option maxRecDepth 10000 in
set_option maxHeartbeats 1000000 in
theorem values_d {h : Heap} {s : Value} {vs : List Value} {ls : List (List (Int × Int))} (hp : PsI h s vs ls) (hl : ls.length < 100000) (P w hh o : Int) (hPr : -9223372036854775808 ≤ P ∧ P < 9223372036854775808) (m : MD) :
    ∃ v1 v2 h', (∀ R, Ret tab 29 [s, .int .i64 P, .int .i64 w, .int .i64 hh, .int .i64 o, m.val] h R = R (.tuple #[v1, v2, .int .i64 (valRes ls P w hh o m).1]) h') ∧ VOut h h' v1 v2 (valRes ls P w hh o m) := by
  have key : Ret tab 29 [s, .int .i64 P, .int .i64 w, .int .i64 hh, .int .i64 o, m.val] h fun v h' => ∃ v1 v2, v = .tuple #[v1, v2, .int .i64 (valRes ls P w hh o m).1] ∧ VOut h h' v1 v2 (valRes ls P w hh o m) := by
    obtain ⟨a, cc, hs⟩ := hp.sl.shape
    rw [hp.len] at hs
    rw [enter29, show B29 = .seq (nthC 0 B29) (.seq (nthC 1 B29) (.seq (nthC 2 B29) (.seq (nthC 3 B29) (.seq (nthC 4 B29) (tlC 5 B29))))) from rfl]
    generalize hT : tlC 5 B29 = tl
    simp only [nthC, tlC, fstC, B29]
    have hkp : ∀ x : Option Blk, ∀ id, id < h.length → blk? (h ++ [x]) id = blk? h id := fun x id hid => blk?_push_lt hid
    have hbadr : ∀ e, valErr ls.length P w hh o = e → e ≠ 0 → valRes ls P w hh o m = (e, [], []) := fun e he h0 => by unfold valRes; rw [he, if_pos h0]
    cases hsz : sized w hh
    · have hr := hbadr 2 (by unfold valErr; rw [if_pos (.inl (by simp [hsz]))]) (by decide)
      rw [hr]
      simp [MD.val, new_bad hsz, k_guard, k_guardU, fin29]
      exact ⟨_, _, ⟨rfl, rfl⟩, VOut.bad (hkp _) (by simp) _⟩
    have hsz' := hsz
    simp only [sized, decide_eq_true_eq] at hsz'
    obtain ⟨w, rfl⟩ := Int.eq_ofNat_of_zero_le (show 0 ≤ w by omega)
    obtain ⟨hh, rfl⟩ := Int.eq_ofNat_of_zero_le (show 0 ≤ hh by omega)
    have w1 : 1 ≤ w := by omega
    have w2 : w ≤ 64 := by omega
    have h1 : 1 ≤ hh := by omega
    have h2 : hh ≤ 64 := by omega
    have hm : w * hh ≤ 64 * 64 := Nat.mul_le_mul w2 h2
    have hnew := fun H R => new_c (h := H) (R := R) w1 w2 h1 h2
    have hls : ∀ H : Heap, (newHeap H w hh).length = H.length + 2 := fun H => newHeap_len H w hh
    have hlow : ∀ x : Option Blk, ∀ id, id < h.length → blk? (newHeap (h ++ [x]) w hh) id = blk? h id := fun x id hid => by
      rw [newHeap_low _ _ _ id (by simp; omega)]; exact hkp x id hid
    by_cases hp1 : P < 0
    · have hr := hbadr 2 (by unfold valErr; rw [if_pos (.inr (.inl hp1))]) (by decide)
      rw [hr]
      simp [MD.val, hnew, k_guard, k_guardU, hp1, fin29]
      exact ⟨_, _, ⟨rfl, rfl⟩, VOut.bad (hlow _) (by rw [hls]; simp; omega) _⟩
    by_cases hp2 : 60 < P
    · have hr := hbadr 2 (by unfold valErr; rw [if_pos (.inr (.inr hp2))]) (by decide)
      rw [hr]
      simp [MD.val, hnew, k_guard, k_guardU, hp1, hp2, fin29]
      exact ⟨_, _, ⟨rfl, rfl⟩, VOut.bad (hlow _) (by rw [hls]; simp; omega) _⟩
    have hne2 : ¬ (¬ sized (w : Int) (hh : Int) = true ∨ P < 0 ∨ 60 < P) := by rw [hsz]; simp; omega
    have hm1 : IntKind.i64.wrap (3 * P) = 3 * P := wrapI (by omega) (by omega)
    have hm2 : IntKind.i64.wrap (3 * P - 2) = 3 * P - 2 := wrapI (by omega) (by omega)
    have hmx : fold1 max2V [.int .i64 0, .int .i64 (3 * P - 2)] = some (.int .i64 (max 0 (3 * P - 2))) := by
      simp only [fold1, foldO, max2V]
      congr 2
      split <;> omega
    by_cases hln : max 0 (3 * P - 2) < (ls.length : Int)
    · have hr := hbadr 4 (by unfold valErr; rw [if_neg hne2, if_pos hln]) (by decide)
      rw [hr]
      simp [MD.val, hnew, k_guard, k_guardU, hp1, hp2, hs, hm1, hm2, hmx, hln, fin29]
      exact ⟨_, _, ⟨rfl, rfl⟩, VOut.bad (hlow _) (by rw [hls]; simp; omega) _⟩
    by_cases ho1 : o < 0
    · have hr := hbadr 3 (by unfold valErr; rw [if_neg hne2, if_neg hln, if_pos (.inl ho1)]) (by decide)
      rw [hr]
      simp [MD.val, hnew, k_guard, k_guardU, hp1, hp2, hs, hm1, hm2, hmx, hln, ho1, fin29]
      exact ⟨_, _, ⟨rfl, rfl⟩, VOut.bad (hlow _) (by rw [hls]; simp; omega) _⟩
    by_cases ho2 : 3 < o
    · have hr := hbadr 3 (by unfold valErr; rw [if_neg hne2, if_neg hln, if_pos (.inr ho2)]) (by decide)
      rw [hr]
      simp [MD.val, hnew, k_guard, k_guardU, hp1, hp2, hs, hm1, hm2, hmx, hln, ho1, ho2, fin29]
      exact ⟨_, _, ⟨rfl, rfl⟩, VOut.bad (hlow _) (by rw [hls]; simp; omega) _⟩
    obtain ⟨P, rfl⟩ := Int.eq_ofNat_of_zero_le (show 0 ≤ P by omega)
    obtain ⟨o, rfl⟩ := Int.eq_ofNat_of_zero_le (show 0 ≤ o by omega)
    have herr : valErr ls.length (P : Int) w hh o = 0 := by unfold valErr; rw [if_neg hne2, if_neg hln, if_neg (by omega)]
    generalize hr : valRes ls (P : Int) w hh o m = r
    have hr' : r = if (vLoop m P o 0 (newBS w hh) ls).2 ≠ 0 then ((vLoop m P o 0 (newBS w hh) ls).2, [], []) else (0, (vLoop m P o 0 (newBS w hh) ls).1.cs.map (·.v), (vLoop m P o 0 (newBS w hh) ls).1.cs.map fun c => leftOf P ls.length c.t) := by
      rw [← hr]; unfold valRes; rw [herr, if_neg (by simp)]; simp only [Int.toNat_natCast]
    simp [MD.val, hnew, k_guard, k_guardU, hp1, hp2, hs, hm1, hm2, hmx, hln, ho1, ho2]
    rw [← hT]
    simp only [tlC, B29]
    generalize hH : newHeap (h ++ [some (⟨false, [.bool m.byp, .bool m.res, .bool m.rst, .bool m.cz, .bool m.sy]⟩ : Blk)]) w hh = H
    have hlowH : ∀ id, id < h.length → blk? H id = blk? h id := by rw [← hH]; exact hlow _
    have hlenH : H.length = h.length + 3 := by rw [← hH, hls]; simp
    have vl : VLv h H h.length (h.length + 2) (h.length + 1) m w hh (newBS w hh) := by
      refine ⟨hlowH, by omega, ?_, ?_, newBS_good w1 w2 h1 h2, ⟨by omega, by omega⟩, rfl, rfl, by omega⟩
      · rw [← hH, newHeap_low _ _ _ _ (by simp)]; exact blk?_push_eq
      · rw [← hH]
        have := newHeap_cb (h ++ [some (⟨false, [.bool m.byp, .bool m.res, .bool m.rst, .bool m.cz, .bool m.sy]⟩ : Blk)]) w1 w2 h1 h2
        simpa using this
    have hvn : (vLoop m P o 0 (newBS w hh) (ls.drop 0)) = vLoop m P o 0 (newBS w hh) ls := rfl
    simp
    rw [← hs]
    refine vals_loop (w := w) (hh := hh) hp (by omega) (by omega) (by omega) (by omega) ls.length 0 H (newBS w hh) _ _ _ _ _ _ _ _ _ _ _ _ _ _ _ _ _ _ _ _ _ _ _ _ _ _ _ _ _ _ _ _ _ _ _ _ _ _ _ _ _ _ _ _ _ _ _ _ _ _ _ _ _ _ _ _ _ _ _ _ _ _ _ _ _ _ _ _ _ _ _ _ _ _ _ _ _ _ _ _ _ _ _ _ _ _ _ _ _ _ _ _ _ _ _ _ _ _ _ _ _ _ _ _ _ _ _ _ _ _ _ _ _ _ _ _ _ _ _ _ _ _ _ _ _ _ _ _ _ _ _ _ _ _ rfl (by omega) vl ?_ ?_
    · intro H1 b' t6 t7 t8 t9 t10 t12 t13 t14 t16 t17 t18 t19 t20 t21 t22 t23 t24 t25 t26 t27 t28 t29 t30 t31 t32 t33 t34 t35 t36 t37 t38 t39 t40 t41 t42 t43 t44 t45 t46 t47 t48 t49 t50 t51 t52 t53 t54 t55 t56 t57 t58 t59 t60 t61 t62 t63 t64 t65 t66 t67 t68 t69 t70 t71 t72 t73 t74 t75 t76 t77 t78 t79 t80 t81 t82 t83 t84 t85 t86 t87 t88 t89 t90 t91 t92 t93 t94 t95 t96 t97 t98 t99 t100 t101 t102 t103 t104 t105 t106 t107 t108 t109 t110 t111 t112 t113 t114 t115 t116 t117 t118 t119 t120 t121 t122 t123 t124 t125 t126 t127 t128 t129 t130 t131 t132 t133 t134 t135 t136 t137 t138 t139 t140 t141 t142 t143 t144 hv vl1
      rw [hvn] at hv
      rw [hv] at hr'
      simp only [ne_eq, not_true_eq_false, if_false] at hr'
      have hbw := vl1.bw
      have hbh := vl1.bh
      have hmwi : IntKind.i64.wrap ((w : Int) * (hh : Int)) = ((w * hh : Nat) : Int) := by rw [← Int.natCast_mul]; exact wrapN (by omega)
      have hroom : ((w * hh : Nat) : Int) ≤ (roomCells : Int) := by unfold roomCells; omega
      have hroom0 : (0 : Int) ≤ ((w * hh : Nat) : Int) := by omega
      generalize ((w * hh : Nat) : Int) = whi at hmwi hroom hroom0
      have lp := blk?_lt vl1.cb.blkp
      have lc := blk?_lt vl1.cb.blkc
      have hlen1 := vl1.len
      obtain ⟨dc, dM⟩ := vl1.d
      have dp := vl1.dp
      have hvb : VB h (H1 ++ [some ⟨false, []⟩, some ⟨false, []⟩]) (h.length + 2) (h.length + 1) b' (.slice (some ⟨H1.length, 0, none⟩) 0 1) (.slice (some ⟨H1.length + 1, 0, none⟩) 0 1) (valsTo b' (0 * b'.w)) (missTo P ls.length b' (0 * b'.w)) := by
        refine ⟨fun id hid => by rw [app_lt (by omega)]; exact vl1.low id hid, by simp; omega, ⟨by rw [app_lt lp]; exact vl1.cb.blkp, by rw [app_lt lc]; exact vl1.cb.blkc, vl1.cb.ok⟩, ⟨by simp [valsTo, i64s], .inr ⟨H1.length, by simp [valsTo], ?_⟩⟩, ⟨by simp [missTo, i64s], .inr ⟨H1.length + 1, by simp [missTo], ?_⟩⟩, fun id hid => ?_, fun id hid => ?_, fun id hid e => ?_⟩
        · rw [app_len]; simp [valsTo, i64s]; rfl
        · rw [app_add]; simp [missTo, i64s]; rfl
        · simp [sid] at hid; omega
        · simp [sid] at hid; omega
        · simp [sid] at hid e; omega
      have fin : ∀ (pl kd : Int) (t6 t7 t8 t9 t10 t14 t16 t17 t18 t19 t23 t24 t25 t26 t27 t28 t29 t30 t31 t32 t33 t34 t35 t36 t37 t38 t39 t40 t41 t42 t43 t44 t45 t46 t47 t48 t49 t50 t51 t52 t53 t54 t55 t56 t57 t58 t59 t60 t61 t62 t63 t64 t65 t66 t67 t68 t69 t70 t71 t72 t73 t74 t75 t76 t77 t78 t79 t80 t81 t82 t83 t84 t85 t86 t87 t88 t89 t90 t91 t92 t93 t94 t95 t96 t97 t98 t99 t100 t101 t102 t105 t106 t107 t108 t109 t110 t111 t112 t113 t114 t115 t116 t117 t118 t119 t120 t121 t122 t123 t124 t125 t126 t127 t128 t129 t130 t131 t132 t133 t134 t135 t136 t137 t138 t139 t140 t141 t142 t143 t144 : Value), (-1 ≤ pl ∧ pl ≤ 100) → (∀ t, leftOf P ls.length t = P - 1 - pl + if (decide (0 < ls.length) && kd != 2 && !t) = true then 1 else 0) →
          Ok tab R29 (.inLoop L29_2 :: .inBlock 2 :: [.code (.seq (.region [⟨some 143, .mov (.tmp 12), none⟩, ⟨some 144, .mov (.tmp 13), none⟩, ⟨some 12, .mov (.tmp 143), none⟩, ⟨some 13, .mov (.tmp 144), none⟩, ⟨some 14, .mov (.const (.int .i64 0)), none⟩] []) .ret)]) #[s, .int .i64 P, .int .i64 w, .int .i64 hh, .int .i64 o, .agg #[.bool m.byp, .bool m.res, .bool m.rst, .bool m.cz, .bool m.sy], t6, t7, t8, t9, t10, ptr h.length, .slice (some ⟨H1.length, 0, none⟩) 0 1, .slice (some ⟨H1.length + 1, 0, none⟩) 0 1, t14, ptr (h.length + 2), t16, t17, t18, t19, .int .i64 ls.length, .int .i64 pl, .int .i64 kd, t23, t24, t25, t26, t27, t28, t29, t30, t31, t32, t33, t34, t35, t36, t37, t38, t39, t40, t41, t42, t43, t44, t45, t46, t47, t48, t49, t50, t51, t52, t53, t54, t55, t56, t57, t58, t59, t60, t61, t62, t63, t64, t65, t66, t67, t68, t69, t70, t71, t72, t73, t74, t75, t76, t77, t78, t79, t80, t81, t82, t83, t84, t85, t86, t87, t88, t89, t90, t91, t92, t93, t94, t95, t96, t97, t98, t99, t100, t101, t102, .int .i64 hh, .int .i64 0, t105, t106, t107, t108, t109, t110, t111, t112, t113, t114, t115, t116, t117, t118, t119, t120, t121, t122, t123, t124, t125, t126, t127, t128, t129, t130, t131, t132, t133, t134, t135, t136, t137, t138, t139, t140, t141, t142, t143, t144] (H1 ++ [some ⟨false, []⟩, some ⟨false, []⟩])
            fun v h' => ∃ v1 v2, v = .tuple #[v1, v2, .int .i64 r.1] ∧ VOut h h' v1 v2 r := by
        intro pl kd t6 t7 t8 t9 t10 t14 t16 t17 t18 t19 t23 t24 t25 t26 t27 t28 t29 t30 t31 t32 t33 t34 t35 t36 t37 t38 t39 t40 t41 t42 t43 t44 t45 t46 t47 t48 t49 t50 t51 t52 t53 t54 t55 t56 t57 t58 t59 t60 t61 t62 t63 t64 t65 t66 t67 t68 t69 t70 t71 t72 t73 t74 t75 t76 t77 t78 t79 t80 t81 t82 t83 t84 t85 t86 t87 t88 t89 t90 t91 t92 t93 t94 t95 t96 t97 t98 t99 t100 t101 t102 t105 t106 t107 t108 t109 t110 t111 t112 t113 t114 t115 t116 t117 t118 t119 t120 t121 t122 t123 t124 t125 t126 t127 t128 t129 t130 t131 t132 t133 t134 t135 t136 t137 t138 t139 t140 t141 t142 t143 t144 hpl hleft
        rw [← hbw, ← hbh]
        refine valy_loop (P := P) (n := ls.length) (by omega) hpl hleft b'.h 0 _ _ _ _ _ _ _ _ _ _ _ _ _ _ _ _ _ _ _ _ _ _ _ _ _ _ _ _ _ _ _ _ _ _ _ _ _ _ _ _ _ _ _ _ _ _ _ _ _ _ _ _ _ _ _ _ _ _ _ _ _ _ _ _ _ _ _ _ _ _ _ _ _ _ _ _ _ _ _ _ _ _ _ _ _ _ _ _ _ _ _ _ _ _ _ _ _ _ _ _ _ _ _ _ _ _ _ _ _ _ _ _ _ _ _ _ _ _ _ _ _ _ _ _ _ _ _ _ _ _ _ _ _ rfl (by omega) hvb ?_
        intro H' v1' v2' t6 t7 t8 t9 t10 t14 t16 t17 t18 t19 t23 t24 t25 t26 t27 t28 t29 t30 t31 t32 t33 t34 t35 t36 t37 t38 t39 t40 t41 t42 t43 t44 t45 t46 t47 t48 t49 t50 t51 t52 t53 t54 t55 t56 t57 t58 t59 t60 t61 t62 t63 t64 t65 t66 t67 t68 t69 t70 t71 t72 t73 t74 t75 t76 t77 t78 t79 t80 t81 t82 t83 t84 t85 t86 t87 t88 t89 t90 t91 t92 t93 t94 t95 t96 t97 t98 t99 t100 t101 t102 t103 t104 t105 t106 t107 t108 t109 t110 t111 t112 t113 t114 t115 t116 t117 t118 t119 t120 t121 t122 t123 t124 t125 t126 t127 t128 t129 t130 t131 t132 t133 t134 t135 t136 t137 t138 t139 t140 t141 t142 t143 t144 vb
        have hfl : b'.h * b'.w = b'.cs.length := by rw [vl1.cb.ok.len, Nat.mul_comm]
        have ev : valsTo b' (b'.h * b'.w) = b'.cs.map (·.v) := by unfold valsTo; rw [List.take_of_length_le (by omega)]
        have em : missTo P ls.length b' (b'.h * b'.w) = b'.cs.map fun c => leftOf P ls.length c.t := by unfold missTo; rw [List.take_of_length_le (by omega)]
        rw [ev, em] at vb
        simp [fin29]
        rw [hr']
        exact ⟨v1', v2', ⟨rfl, rfl, rfl⟩, by simpa using vb.o1, by simpa using vb.o2, vb.low, vb.len⟩
      by_cases hn0 : ls.length = 0
      · have hw0 : IntKind.i64.wrap ((ls.length : Int) - 1) = -1 := by rw [hn0]; decide
        have hnn := fun h R => pass_neg (h := h) (R := R)
        have f := fin (-1) (-1)
        simp [hs, hmwi, hroom, hroom0, hw0, hnn]
        rw [← hs]
        exact f _ _ _ _ _ _ _ _ _ _ _ _ _ _ _ _ _ _ _ _ _ _ _ _ _ _ _ _ _ _ _ _ _ _ _ _ _ _ _ _ _ _ _ _ _ _ _ _ _ _ _ _ _ _ _ _ _ _ _ _ _ _ _ _ _ _ _ _ _ _ _ _ _ _ _ _ _ _ _ _ _ _ _ _ _ _ _ _ _ _ _ _ _ _ _ _ _ _ _ _ _ _ _ _ _ _ _ _ _ _ _ _ _ _ _ _ _ _ _ _ _ _ _ _ _ _ _ _ _ _ (by omega) (fun t => by unfold leftOf; rw [if_pos hn0]; simp [hn0])
      · have hw0 : IntKind.i64.wrap ((ls.length : Int) - 1) = ((ls.length - 1 : Nat) : Int) := by rw [wrapI (by omega) (by omega)]; omega
        have hnn := fun h R => pass_c (h := h) (R := R) (n := ls.length - 1) (by omega)
        have hpo : planeOf (ls.length - 1) ≤ P - 1 := planeOf_le (by omega) (by omega)
        have f := fin (planeOf (ls.length - 1) : Nat) (kindOf (ls.length - 1) : Nat)
        have hlf : ∀ t, leftOf P ls.length t = P - 1 - ((planeOf (ls.length - 1) : Nat) : Int) + if (decide (0 < ls.length) && ((kindOf (ls.length - 1) : Nat) : Int) != 2 && !t) = true then 1 else 0 := by
          intro t
          rw [leftOf_pos hn0]
          have e1 : (((kindOf (ls.length - 1) : Nat) : Int) != 2) = (kindOf (ls.length - 1) != 2) := by
            rw [Bool.eq_iff_iff]; simp; omega
          have e2 : decide (0 < ls.length) = true := by simp; omega
          rw [e1, e2, Bool.true_and]
        have hpl2 : (-1 : Int) ≤ ((planeOf (ls.length - 1) : Nat) : Int) ∧ ((planeOf (ls.length - 1) : Nat) : Int) ≤ 100 := by omega
        generalize ((planeOf (ls.length - 1) : Nat) : Int) = pl at *
        generalize ((kindOf (ls.length - 1) : Nat) : Int) = kd at *
        generalize ((ls.length - 1 : Nat) : Int) = n1 at *
        simp [hs, hmwi, hroom, hroom0, hw0, hnn]
        rw [← hs]
        exact f _ _ _ _ _ _ _ _ _ _ _ _ _ _ _ _ _ _ _ _ _ _ _ _ _ _ _ _ _ _ _ _ _ _ _ _ _ _ _ _ _ _ _ _ _ _ _ _ _ _ _ _ _ _ _ _ _ _ _ _ _ _ _ _ _ _ _ _ _ _ _ _ _ _ _ _ _ _ _ _ _ _ _ _ _ _ _ _ _ _ _ _ _ _ _ _ _ _ _ _ _ _ _ _ _ _ _ _ _ _ _ _ _ _ _ _ _ _ _ _ _ _ _ _ _ _ _ _ _ _ hpl2 hlf
    · intro H1 e he h0 low len
      rw [hvn] at he
      rw [he, if_pos h0] at hr'
      rw [hr']
      exact ⟨_, _, rfl, VOut.bad low len _⟩
  obtain ⟨v, h', e, v1, v2, rfl, rs⟩ := ret_ex key
  exact ⟨v1, v2, h', e, rs⟩
end Go.Proofs.Ytjpjohchdfoeaaa
