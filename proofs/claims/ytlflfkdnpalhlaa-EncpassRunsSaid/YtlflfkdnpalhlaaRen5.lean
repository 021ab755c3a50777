/-
  The reference's passes: what they read; symbols and signs.
  The reference's passes: significance, refinement.
  The reference's cleanup pass, plain: the same as the program's.
  The reference's passes: the cleanup pass, and Run.
  Run of the reference's passes.
-/
import Derived.Test.YtlflfkdnpalhlaaEnc8
namespace Go.Proofs.Ytlflfkdnpalhlaa
open Go Go.Sim
set_option linter.unusedSimpArgs false
set_option linter.unusedVariables false

/-- A pass of the reference at q over the block at p (coefficients at c). -/
structure QR (h : Heap) (f : Bool) (q p c : Nat) (P : PP) (m : MD) (sv : Value) (b : BS) : Prop where
  blk : blk? h q = some ⟨f, [ptr p, .int .i64 P.s, .int .i64 P.o, .bool m.byp, .bool m.res, .bool m.rst, .bool P.cz, .bool m.sy, .bool P.rw, sv]⟩
  cb : CB h f p c b
  sb : below h.length sv = true
  pok : P.Ok
  rng : b.Rng

theorem QR.frz {h : Heap} {f : Bool} {q p c : Nat} {P : PP} {m : MD} {sv : Value} {b : BS} (hr : QR h f q p c P m sv b) : QR (frz h) true q p c P m sv b :=
  ⟨blk_frz hr.blk (by simp [hr.sb, blk?_lt hr.cb.blkp]), hr.cb.frz, by rw [len_frz]; exact hr.sb, hr.pok, hr.rng⟩

section
variable {h : Heap} {f : Bool} {q p c : Nat} {P : PP} {m : MD} {sv : Value} {b : BS} {x y : Int} {R : Value → Heap → Prop}

theorem abs_r {v : Int} (h1 : -9223372036854775808 ≤ v) (h2 : v < 9223372036854775808) : Ret tab 82 [.int .i64 v] h R = R (.int .u64 (v.natAbs : Nat)) h := by
  rw [enter82, B82]
  by_cases hv : v < 0
  · have := natAbs_wrap hv h1
    rw [Int.zero_sub] at this
    simp [hv, this, fin82]
  · simp [hv, natAbs_wrap0 hv h2, fin82]

theorem bit_r (hr : QR h f q p c P m sv b) : Ret tab 101 [ptr q, .int .i64 x, .int .i64 y] h R = R (.int .i64 (bitOf (b.get x y).v P.s)) h := by
  have hq := hr.frz.blk
  have hlq := blk?_lt hr.blk
  obtain ⟨r1, r2⟩ := hr.rng x y
  have hm := fun R => abs_r (h := Go.Sim.frz h) (R := R) (v := (b.get x y).v) (by omega) (by omega)
  have hs := hr.pok.s1
  have hw : IntKind.u64.wrap (P.s : Int) = (P.s : Int) := wrapU (by omega)
  have hs' : ¬ (P.s : Int) < 0 := by omega
  have hsh : shrI .u64 ((b.get x y).v.natAbs : Int) (P.s : Int) = (((b.get x y).v.natAbs / 2 ^ P.s : Nat) : Int) := shrN (show P.s ≤ 64 by omega)
  have hle : (b.get x y).v.natAbs / 2 ^ P.s ≤ (b.get x y).v.natAbs := shr_le
  have h63 : (b.get x y).v.natAbs < 9223372036854775808 := by omega
  have ha := and1u (a := (b.get x y).v.natAbs / 2 ^ P.s) (by omega)
  have hwi : IntKind.i64.wrap (((b.get x y).v.natAbs / 2 ^ P.s % 2 : Nat) : Int) = (((b.get x y).v.natAbs / 2 ^ P.s % 2 : Nat) : Int) := wrapN (by omega)
  rw [enter101, B101]
  unfold bitOf
  have hv : ∀ R, Ret tab 74 [ptr p, .int .i64 x, .int .i64 y] (Go.Sim.frz h) R = R (.int .i64 (b.get x y).v) (Go.Sim.frz h) := fun R => value_r hr.frz.cb
  generalize hn : (b.get x y).v.natAbs / 2 ^ P.s = n at *
  generalize (b.get x y).v.natAbs = na at *
  simp [-Int.natCast_ediv, -Int.natCast_emod, hq, hlq, hv, hm, hw, hs', hsh, hwi, ha, fin101, book, logOf, addLog, chk1, lookL, reload]

theorem near_r (hr : QR h f q p c P m sv b) (hi : b.inb x y) : Ret tab 97 [ptr q, .int .i64 x, .int .i64 y] h R = R (.int .i64 (nbH b x y + nbV b x y P.cz + nbD b x y P.cz : Nat)) h := by
  have hq := hr.frz.blk
  have hlq := blk?_lt hr.blk
  obtain ⟨n1, n2, n3⟩ := nb_le b x y P.cz
  have s1 : IntKind.i64.wrap ((nbH b x y : Int) + (nbV b x y P.cz : Int)) = ((nbH b x y + nbV b x y P.cz : Nat) : Int) := wrapNN (by omega)
  have s2 : IntKind.i64.wrap (((nbH b x y + nbV b x y P.cz : Nat) : Int) + (nbD b x y P.cz : Int)) = ((nbH b x y + nbV b x y P.cz + nbD b x y P.cz : Nat) : Int) := wrapNN (by omega)
  rw [enter97, B97]
  simp [-Int.natCast_add, hq, hlq, neighbors_r hr.frz.cb hi, s1, s2, fin97]
theorem near_pos (b : BS) (x y : Int) (k : Bool) : decide ((0 : Int) < ((nbH b x y + nbV b x y k + nbD b x y k : Nat) : Int)) = near b x y k := by
  rw [near_eq]; congr 1; exact propext Int.natCast_pos

theorem quiet_loop_r (hr : QR h true q p c P m sv b) {x : Int} (hx : 0 ≤ x ∧ x < b.w) {top : Int} (ht : 0 ≤ top ∧ top + 4 ≤ b.h) {k : List RItem} {R : Value → Heap → Prop} {v3 v8 : Value}
    (hk : ∀ t4 t5 t6 t7 t9 t10 t11 t12 t13 t14 t15 t16 t17 t18 t19 t20 t21 t22 t23 t24 t25 t26 t27 t28 t29 t30 t31 t32 t33 t34 t35 t36 t37 t38 t39 t40 t41 t42 t43 t44 t45 t46 t47 t48 t49 t50 t51 : Value, Ok tab R102 k #[ptr q, .int .i64 x, .int .i64 top, v3, t4, t5, t6, t7, v8, t9, t10, t11, t12, t13, t14, t15, t16, t17, t18, t19, t20, t21, t22, t23, t24, t25, t26, t27, t28, t29, t30, t31, t32, t33, t34, t35, t36, t37, t38, t39, t40, t41, t42, t43, t44, t45, t46, t47, t48, t49, t50, t51] h R = R (.bool true) h) :
    ∀ (n i : Nat) (t4 t5 t6 t7 t10 t11 t12 t13 t14 t15 t16 t17 t18 t19 t20 t21 t22 t23 t24 t25 t26 t27 t28 t29 t30 t31 t32 t33 t34 t35 t36 t37 t38 t39 t40 t41 t42 t43 t44 t45 t46 t47 t48 t49 t50 t51 : Value), i + n = 4 →
      Ok tab R102 (.inLoop L102_0 :: .inBlock 0 :: k) #[ptr q, .int .i64 x, .int .i64 top, v3, t4, t5, t6, t7, v8, .int .i64 i, t10, t11, t12, t13, t14, t15, t16, t17, t18, t19, t20, t21, t22, t23, t24, t25, t26, t27, t28, t29, t30, t31, t32, t33, t34, t35, t36, t37, t38, t39, t40, t41, t42, t43, t44, t45, t46, t47, t48, t49, t50, t51] h R = R (.bool (quietFrom b x (top + i) P.cz n)) h := by
  intro n
  induction n with
  | zero =>
    intro i t4 t5 t6 t7 t10 t11 t12 t13 t14 t15 t16 t17 t18 t19 t20 t21 t22 t23 t24 t25 t26 t27 t28 t29 t30 t31 t32 t33 t34 t35 t36 t37 t38 t39 t40 t41 t42 t43 t44 t45 t46 t47 t48 t49 t50 t51 hi
    obtain rfl : i = 4 := by omega
    rw [ok_round, l102_0, L102_0a, L102_0b]
    simp [hk, quietFrom]
  | succ n ih =>
    intro i t4 t5 t6 t7 t10 t11 t12 t13 t14 t15 t16 t17 t18 t19 t20 t21 t22 t23 t24 t25 t26 t27 t28 t29 t30 t31 t32 t33 t34 t35 t36 t37 t38 t39 t40 t41 t42 t43 t44 t45 t46 t47 t48 t49 t50 t51 hi
    have hb2 := hr.cb.ok.h2
    have hw1 : IntKind.i64.wrap ((i : Int) + 1) = ((i + 1 : Nat) : Int) := wrapN (n := i + 1) (by omega)
    have hw2 : IntKind.i64.wrap (top + (i : Int)) = top + (i : Int) := wrapI (by omega) (by omega)
    have hlt : (i : Int) < 4 := by omega
    have hi' : b.inb x (top + i) := ⟨hx.1, hx.2, by omega, by show top + (i : Int) < b.h; omega⟩
    have hq := hr.blk
    have ih' := fun t4 t5 t6 t7 t10 t11 t12 t13 t14 t15 t16 t17 t18 t19 t20 t21 t22 t23 t24 t25 t26 t27 t28 t29 t30 t31 t32 t33 t34 t35 t36 t37 t38 t39 t40 t41 t42 t43 t44 t45 t46 t47 t48 t49 t50 t51 => ih (i + 1) t4 t5 t6 t7 t10 t11 t12 t13 t14 t15 t16 t17 t18 t19 t20 t21 t22 t23 t24 t25 t26 t27 t28 t29 t30 t31 t32 t33 t34 t35 t36 t37 t38 t39 t40 t41 t42 t43 t44 t45 t46 t47 t48 t49 t50 t51 (by omega)
    have hnp : decide (0 < nbH b x (top + i) + nbV b x (top + i) P.cz + nbD b x (top + i) P.cz) = near b x (top + i) P.cz := rfl
    have hyy : top + ((i + 1 : Nat) : Int) = top + (i : Int) + 1 := by omega
    rw [ok_round, l102_0, L102_0a, L102_0b]
    cases hs : (b.get x (top + i)).s
    · cases ht : (b.get x (top + i)).t
      · cases hn : near b x (top + i) P.cz
        · rw [hn] at hnp
          simp [-Int.natCast_add, k_guard, hw1, hw2, hlt, hq, significant_r hr.cb, touched_r hr.cb, near_r hr hi', hs, ht, hn, hnp, ih', hyy, quietFrom, still]
        · rw [hn] at hnp
          simp [-Int.natCast_add, k_guard, hw1, hw2, hlt, hq, significant_r hr.cb, touched_r hr.cb, near_r hr hi', hs, ht, hn, hnp, quietFrom, still, fin102]
      · simp [-Int.natCast_add, k_guard, k_guardU, hw1, hw2, hlt, hq, significant_r hr.cb, touched_r hr.cb, hs, ht, quietFrom, still, fin102]
    · simp [-Int.natCast_add, k_guard, k_guardU, hw1, hw2, hlt, hq, significant_r hr.cb, hs, quietFrom, still, fin102]

def quietR (b : BS) (x y : Int) (k : Bool) : Bool := decide (y % 4 = 0) && quiet b x y k

theorem quiet_r (hr : QR h f q p c P m sv b) {x y : Int} (hi : b.inb x y) : Ret tab 102 [ptr q, .int .i64 x, .int .i64 y, .int .i64 b.h] h R = R (.bool (quietR b x y P.cz)) h := by
  have hq := hr.frz.blk
  have hlq := blk?_lt hr.blk
  obtain ⟨i1, i2, i3, i4⟩ := hi
  have hb2 := hr.cb.ok.h2
  have hw : IntKind.i64.wrap (y + 4) = y + 4 := wrapI (by omega) (by omega)
  have hm := tmod4 i3
  rw [enter102, B102]
  by_cases hy : y % 4 = 0
  · by_cases h4 : y + 4 ≤ b.h
    · have h4' : ¬ (b.h : Int) < y + 4 := by omega
      have := fun t4 t5 t6 t7 t10 t11 t12 t13 t14 t15 t16 t17 t18 t19 t20 t21 t22 t23 t24 t25 t26 t27 t28 t29 t30 t31 t32 t33 t34 t35 t36 t37 t38 t39 t40 t41 t42 t43 t44 t45 t46 t47 t48 t49 t50 t51 v3 v8 R hk => quiet_loop_r (R := R) (v3 := v3) (v8 := v8) hr.frz ⟨i1, i2⟩ (top := y) ⟨i3, h4⟩ (k := [.code ((RCode.region [⟨some 8, .mov (.const (.bool true)), none⟩] []).seq .ret)]) hk 4 0 t4 t5 t6 t7 t10 t11 t12 t13 t14 t15 t16 t17 t18 t19 t20 t21 t22 t23 t24 t25 t26 t27 t28 t29 t30 t31 t32 t33 t34 t35 t36 t37 t38 t39 t40 t41 t42 t43 t44 t45 t46 t47 t48 t49 t50 t51 (by omega)
      simp at this
      simp [k_guard, hq, hlq, hw, hm, hy, h4']
      rw [this]
      · simp [quietR, quiet, h4, hy]
      · intro t4 t5 t6 t7 t9 t10 t11 t12 t13 t14 t15 t16 t17 t18 t19 t20 t21 t22 t23 t24 t25 t26 t27 t28 t29 t30 t31 t32 t33 t34 t35 t36 t37 t38 t39 t40 t41 t42 t43 t44 t45 t46 t47 t48 t49 t50 t51
        simp [fin102]
    · have h4' : (b.h : Int) < y + 4 := by omega
      simp [k_guard, hq, hlq, hw, hm, hy, h4', quietR, quiet, h4, fin102]
  · have hy' : (y % 4 != 0) = true := by simp [hy]
    simp [k_guard, k_guardU, hq, hlq, hm, hy', quietR, hy, fin102]
end

/-- A pass in progress. -/
structure QE (h : Heap) (q p c : Nat) (P : PP) (m : MD) (sv : Value) (σ : ES) : Prop where
  qr : QR h false q p c P m sv σ.b
  own : OwnS h 2 sv σ.out.length (encS σ.out)
  n1 : c ≠ q ∧ c ≠ p ∧ q ≠ p
  n3 : sid sv ≠ some q ∧ sid sv ≠ some p ∧ sid sv ≠ some c

theorem QR.keep {h h' : Heap} {q p c : Nat} {P : PP} {m : MD} {sv : Value} {b : BS} (hr : QR h false q p c P m sv b) (hk : ∀ id, id = q ∨ id = p ∨ id = c → blk? h' id = blk? h id) (hf : below h'.length sv = true) : QR h' false q p c P m sv b :=
  ⟨by rw [hk q (.inl rfl)]; exact hr.blk, ⟨by rw [hk p (.inr (.inl rfl))]; exact hr.cb.blkp, by rw [hk c (.inr (.inr rfl))]; exact hr.cb.blkc, hr.cb.ok⟩, hf, hr.pok, hr.rng⟩
theorem own_below {h : Heap} {esz n : Nat} {s : Value} {cs : List Value} (ho : OwnS h esz s n cs) {N : Nat} (hl : h.length ≤ N) : below N s = true := by
  rcases ho.2 with ⟨rfl, _⟩ | ⟨id, rfl, hb⟩
  · simp
  · have := blk?_lt hb; simp; omega

section
variable {h : Heap} {q p c : Nat} {P : PP} {m : MD} {sv : Value} {σ : ES}

theorem QE.lts (he : QE h q p c P m sv σ) : q < h.length ∧ p < h.length ∧ c < h.length := ⟨blk?_lt he.qr.blk, blk?_lt he.qr.cb.blkp, blk?_lt he.qr.cb.blkc⟩
theorem QE.good (he : QE h q p c P m sv σ) : σ.b.Good := ⟨he.qr.cb.ok, he.qr.rng⟩
theorem QE.low (he : QE h q p c P m sv σ) {h' : Heap} (hk : ∀ id, id < h.length → blk? h' id = blk? h id) (hl : h.length ≤ h'.length) : QE h' q p c P m sv σ := by
  obtain ⟨l1, l2, l3⟩ := he.lts
  refine ⟨he.qr.keep (fun id hid => hk id ?_) (own_below he.own hl), he.own.of_blk (fun id _ hb => by rw [hk _ (blk?_lt hb)]; exact hb), he.n1, he.n3⟩
  rcases hid with rfl | rfl | rfl <;> assumption
theorem QE.push (he : QE h q p c P m sv σ) (x : Option Blk) : QE (h ++ [x]) q p c P m sv σ := he.low (fun id hid => blk?_push_lt hid) (by simp)

theorem QE.map (he : QE h q p c P m sv σ) {x y : Int} (hi : σ.b.inb x y) {f : Cell → Cell} (hf : keepsV f) :
    QE (h.set c (some ⟨false, encC (σ.b.upd x y f).cs⟩)) q p c P m sv (σ.map x y f) ∧ Stp h (h.set c (some ⟨false, encC (σ.b.upd x y f).cs⟩)) c q sv sv := by
  obtain ⟨m1, m2, m3⟩ := he.n1
  have hg : (σ.b.upd x y f).Good := BS.Good.upd he.good hi hf
  refine ⟨⟨⟨?_, ?_, by have := he.qr.sb; simpa using this, he.qr.pok, hg.rng⟩, he.own.of_blk (fun id hid hb => ?_), he.n1, he.n3⟩, ⟨by simp, fun id _ hc _ _ => blk?_set_ne (Ne.symm hc), fun _ h => .inl h⟩⟩
  · rw [blk?_set_ne m1]; exact he.qr.blk
  · exact he.qr.cb.set rfl rfl hg.ok
  · rw [blk?_set_ne (fun e => he.n3.2.2 (by rw [e]; exact hid))]; exact hb

/-- A symbol. -/
theorem put_r (he : QE h q p c P m sv σ) (hn : σ.out.length < 1000000) (ctx : Int) (bit : Nat) :
    ∃ sv' h', (∀ R, Ret tab 99 [ptr q, .int .i64 ctx, .int .i64 bit] h R = R (.tuple #[]) h') ∧ QE h' q p c P m sv' (σ.emit P ctx bit) ∧ Stp h h' c q sv sv' := by
  obtain ⟨l1, l2, l3⟩ := he.lts
  obtain ⟨m1, m2, m3⟩ := he.n1
  obtain ⟨m8, m9, m10⟩ := he.n3
  generalize hcx : (if P.rw = true then (-1 : Int) else ctx) = cx
  have hsl : Sl (h ++ [some ⟨false, [.int .i64 cx, .int .i64 bit]⟩]) 2 (.slice (some ⟨h.length, 0, none⟩) 1 2) 1 [.int .i64 cx, .int .i64 bit] :=
    ⟨by simp, .inr ⟨h.length, 0, rfl, .inr ⟨_, blk?_push_eq, by simp, by simp⟩⟩⟩
  have hp := he.push (some ⟨false, [.int .i64 cx, .int .i64 bit]⟩)
  obtain ⟨H, ha, hK, hHl, hHs⟩ := own_append (bytes := 16) hp.own hsl (by unfold roomCells; omega) (by omega) (by omega)
  simp only [List.length_append, List.length_singleton] at ha hK hHl hHs
  have hk : ∀ id, id < h.length → sid sv ≠ some id → blk? H id = blk? h id := fun id hid hne => by rw [hHs id (by omega) hne, blk?_push_lt hid]
  have hHq := hk q l1 m8
  rw [he.qr.blk] at hHq
  have hlqH := blk?_lt hHq
  refine ⟨.slice (some ⟨h.length + 1, 0, none⟩) (σ.out.length + 1) 2, H.set q (some ⟨false, [ptr p, .int .i64 P.s, .int .i64 P.o, .bool m.byp, .bool m.res, .bool m.rst, .bool P.cz, .bool m.sy, .bool P.rw, .slice (some ⟨h.length + 1, 0, none⟩) (σ.out.length + 1) 2]⟩), fun R => ?_,
    ⟨⟨blk?_set_eq hlqH, ⟨?_, ?_, he.qr.cb.ok⟩, by simp; omega, he.qr.pok, he.qr.rng⟩, ?_, he.n1, ?_⟩, ⟨?_, ?_, ?_⟩⟩
  · have hpq := he.qr.blk
    rw [enter99, B99]
    cases hrw : P.rw
    · simp only [hrw, Bool.false_eq_true, if_false] at hcx
      subst hcx
      rw [hrw] at hpq hHq
      simp [hpq, repL, ha, hHq, fin99]
    · simp only [hrw, if_true] at hcx
      subst hcx
      rw [hrw] at hpq hHq
      simp [hpq, repL, ha, hHq, fin99]
  · rw [blk?_set_ne m3, hk _ l2 m9]; exact he.qr.cb.blkp
  · rw [blk?_set_ne (Ne.symm m1), hk _ l3 m10]; exact he.qr.cb.blkc
  · refine ⟨by rw [encS_len], .inr ⟨h.length + 1, by simp [ES.emit], ?_⟩⟩
    rw [blk?_set_ne (by omega), hK]
    simp [ES.emit, encS_append, encS, hcx]
  · simp [sid]; omega
  · simp; omega
  · intro id hid _ h3 h4
    rw [blk?_set_ne (Ne.symm h3), hk id hid h4]
  · intro id hid
    simp [sid] at hid
    exact .inr (by simp; omega)

/-- The sign of a coefficient. -/
theorem psign_r (he : QE h q p c P m sv σ) (hn : σ.out.length < 1000000) {x y : Int} (hi : σ.b.inb x y) :
    ∃ sv' h', (∀ R, Ret tab 111 [ptr q, .int .i64 x, .int .i64 y] h R = R (.tuple #[]) h') ∧ QE h' q p c P m sv' (σ.sign P x y) ∧ Stp h h' c q sv sv' := by
  obtain ⟨sv1, h1, e1, p1, s1⟩ := put_r he hn (signCtx (sgH σ.b x y) (sgV σ.b x y P.cz)) (signBit P σ.b x y)
  obtain ⟨p2, s2⟩ := p1.map (x := x) (y := y) hi kv_mark
  refine ⟨sv1, _, fun R => ?_, p2, s1.trans s2⟩
  have hq := he.qr.blk
  have hq1 := p1.qr.blk
  have hm := fun R => mark_r (R := R) p1.qr.cb (x := x) (y := y) hi
  have hc := fun R => ctxSign_r (h := h) (R := R) (joint_range (sgn σ.b (x - 1) y) (sgn σ.b (x + 1) y)) (joint_range (sgn σ.b x (y - 1)) (if (!P.cz || y % 4 != 3) = true then sgn σ.b x (y + 1) else 0))
  change ∀ R, Ret tab _ [.int .i64 (sgH σ.b x y), .int .i64 (sgV σ.b x y P.cz)] h R = R (.tuple #[.int .i64 (signCtx (sgH σ.b x y) (sgV σ.b x y P.cz)), .int .i64 (signFlip (sgH σ.b x y) (sgV σ.b x y P.cz))]) h at hc
  have hv := fun R => value_r (R := R) (x := x) (y := y) he.qr.cb
  have hs := fun R => signs_r (R := R) he.qr.cb hi P.cz
  have hx := xor01 (negOf_le (σ.b.get x y).v) (signFlip_le (sgH σ.b x y) (sgV σ.b x y P.cz))
  have hx0 := xor01 (negOf_le (σ.b.get x y).v) (Nat.zero_le 1)
  have hmm : (fun z : Cell => ({ z with s := true } : Cell)) = mark := rfl
  rw [hmm] at hm
  rw [enter111, B111]
  unfold signBit at e1
  simp only [ES.emit_b] at *
  generalize sgH σ.b x y = H at *
  generalize sgV σ.b x y P.cz = V at *
  by_cases hneg : (σ.b.get x y).v < 0
  · have hno : negOf (σ.b.get x y).v = 1 := by simp [negOf, hneg]
    rw [hno] at hx hx0 e1
    simp only [Int.natCast_one, Int.natCast_zero] at hx hx0
    cases hrw : P.rw
    · simp only [hrw, Bool.false_eq_true, if_false] at e1
      rw [hrw] at hq
      simp [-Int.natCast_emod, -Int.natCast_add] at e1
      simp [-Int.natCast_emod, -Int.natCast_add, hq, hq1, hv, hneg, hs, hc, hx, e1, hm, fin111]
    · simp only [hrw, if_true] at e1
      rw [hrw] at hq
      simp [-Int.natCast_emod, -Int.natCast_add] at e1
      simp [-Int.natCast_emod, -Int.natCast_add, hq, hq1, hv, hneg, hs, hc, hx0, e1, hm, fin111]
  · have hno : negOf (σ.b.get x y).v = 0 := by simp [negOf, hneg]
    rw [hno] at hx hx0 e1
    simp only [Int.natCast_one, Int.natCast_zero] at hx hx0
    cases hrw : P.rw
    · simp only [hrw, Bool.false_eq_true, if_false] at e1
      rw [hrw] at hq
      simp [-Int.natCast_emod, -Int.natCast_add] at e1
      simp [-Int.natCast_emod, -Int.natCast_add, hq, hq1, hv, hneg, hs, hc, hx, e1, hm, fin111]
    · simp only [hrw, if_true] at e1
      rw [hrw] at hq
      simp [-Int.natCast_emod, -Int.natCast_add] at e1
      simp [-Int.natCast_emod, -Int.natCast_add, hq, hq1, hv, hneg, hs, hc, hx0, e1, hm, fin111]

/-- The bit of a coefficient, and its sign. -/
theorem code_r (he : QE h q p c P m sv σ) (hn : σ.out.length + 2 < 1000000) {x y : Int} (hi : σ.b.inb x y) :
    ∃ sv' h', (∀ R, Ret tab 98 [ptr q, .int .i64 x, .int .i64 y] h R = R (.tuple #[]) h') ∧ QE h' q p c P m sv' (σ.code P x y) ∧ Stp h h' c q sv sv' := by
  obtain ⟨sv1, h1, e1, p1, s1⟩ := put_r he (by omega) (ctxOf P σ.b x y) (bitOf (σ.b.get x y).v P.s)
  have hq := he.qr.blk
  have hq1 := p1.qr.blk
  obtain ⟨n1, n2, n3⟩ := nb_le σ.b x y P.cz
  have hnb := fun R => neighbors_r (R := R) he.qr.cb hi P.cz
  have hbit := fun R => bit_r (R := R) (x := x) (y := y) he.qr
  have hsg := fun R => significance_r (h := h) (R := R) he.qr.pok.o1 n1 n2 n3
  change ∀ R, Ret tab _ _ h R = R (.int .i64 (ctxOf P σ.b x y)) h at hsg
  unfold ES.code
  by_cases hb : bitOf (σ.b.get x y).v P.s = 1
  · obtain ⟨sv2, h2, e2, p2, s2⟩ := psign_r p1 (by simp [ES.emit]; omega) hi
    rw [if_pos hb]
    refine ⟨sv2, h2, fun R => ?_, p2, s1.trans s2⟩
    rw [hb] at hbit e1
    rw [enter98, B98]
    simp at hbit e1
    simp [hq, hq1, hnb, hbit, hsg, e1, e2, fin98]
  · have hb0 : bitOf (σ.b.get x y).v P.s = 0 := by unfold bitOf at *; omega
    rw [if_neg hb]
    refine ⟨sv1, h1, fun R => ?_, p1, s1⟩
    rw [hb0] at hbit e1
    rw [enter98, B98]
    simp at hbit e1
    simp [hq, hq1, hnb, hbit, hsg, e1, fin98]
end
end Go.Proofs.Ytlflfkdnpalhlaa
namespace Go.Proofs.Ytlflfkdnpalhlaa
open Go Go.Sim
set_option linter.unusedSimpArgs false
set_option linter.unusedVariables false

section
variable {h : Heap} {q p c : Nat} {P : PP} {m : MD} {sv : Value} {σ : ES} {k : List RItem} {R : Value → Heap → Prop}

theorem sig_loop_r {s v1 : Value} {pts : List (Int × Int)} :
    ∀ (n i : Nat) (h : Heap) (sv : Value) (σ : ES) (t2 t3 t4 t5 t9 t10 t11 t12 t13 t14 t15 t16 t17 t18 t19 t20 t21 t22 t23 t24 t25 t26 t27 t28 t29 t30 t31 t32 t33 t34 t35 t36 t37 t38 t39 t40 t41 t42 t43 t44 t45 t46 : Value), n = pts.length - i → i ≤ pts.length → QE h q p c P m sv σ → Far h s pts c q sv → AllIn σ.b pts → σ.out.length + 2 * n + 3 < 1000000 → pts.length < 1000000 →
      (∀ (h' : Heap) (sv' : Value) (t1 t2 t3 t4 t5 t6 t7 t8 t9 t10 t11 t12 t13 t14 t15 t16 t17 t18 t19 t20 t21 t22 t23 t24 t25 t26 t27 t28 t29 t30 t31 t32 t33 t34 t35 t36 t37 t38 t39 t40 t41 t42 t43 t44 t45 t46 : Value), QE h' q p c P m sv' (σ.sigs P (pts.drop i)) → Stp h h' c q sv sv' → Ok tab R70 k #[ptr q, t1, t2, t3, t4, t5, t6, t7, t8, t9, t10, t11, t12, t13, t14, t15, t16, t17, t18, t19, t20, t21, t22, t23, t24, t25, t26, t27, t28, t29, t30, t31, t32, t33, t34, t35, t36, t37, t38, t39, t40, t41, t42, t43, t44, t45, t46] h' R) →
      Ok tab R70 (.inLoop L70_0 :: .inBlock 0 :: k) #[ptr q, v1, t2, t3, t4, t5, s, .int .i64 pts.length, .int .i64 i, t9, t10, t11, t12, t13, t14, t15, t16, t17, t18, t19, t20, t21, t22, t23, t24, t25, t26, t27, t28, t29, t30, t31, t32, t33, t34, t35, t36, t37, t38, t39, t40, t41, t42, t43, t44, t45, t46] h R := by
  intro n
  induction n with
  | zero =>
    intro i h sv σ t2 t3 t4 t5 t9 t10 t11 t12 t13 t14 t15 t16 t17 t18 t19 t20 t21 t22 t23 t24 t25 t26 t27 t28 t29 t30 t31 t32 t33 t34 t35 t36 t37 t38 t39 t40 t41 t42 t43 t44 t45 t46 hm hi he hf ha hl hpl hk
    have hlt : ¬ ((i : Int) < pts.length) := by omega
    rw [ok_round, l70_0, L70_0a, L70_0b]
    simp [hlt]
    refine hk h sv _ _ _ _ _ _ _ _ _ _ _ _ _ _ _ _ _ _ _ _ _ _ _ _ _ _ _ _ _ _ _ _ _ _ _ _ _ _ _ _ _ _ _ _ _ _ ?_ (Stp.refl _ _ _ _)
    rw [List.drop_of_length_le (by omega)]; exact he
  | succ n ih =>
    intro i h sv σ t2 t3 t4 t5 t9 t10 t11 t12 t13 t14 t15 t16 t17 t18 t19 t20 t21 t22 t23 t24 t25 t26 t27 t28 t29 t30 t31 t32 t33 t34 t35 t36 t37 t38 t39 t40 t41 t42 t43 t44 t45 t46 hm hi he hf ha hl hpl hk
    have hlt : ((i : Int) < pts.length) := by omega
    have hw : IntKind.i64.wrap ((i : Int) + 1) = (i : Int) + 1 := wrapN (n := i + 1) (by omega)
    have hil : i < pts.length := by omega
    obtain ⟨id, off, blk, hs, hb, ht, hle⟩ := hf.get hil
    have hin := ha _ (List.getElem_mem hil)
    have hsp : ∀ τ : ES, τ = σ.sig1 P pts[i].1 pts[i].2 → σ.sigs P (pts.drop i) = τ.sigs P (pts.drop (i + 1)) := by
      intro τ hτ
      rw [List.drop_eq_getElem_cons hil, hτ]; rfl
    have hle1 := le_sig1 (P := P) he.good hin
    generalize hx : pts[i].1 = x at *
    generalize hy : pts[i].2 = y at *
    have he2 := he.push (some ⟨false, [.int .i64 x, .int .i64 y]⟩)
    have hs2 := Stp.push h (some ⟨false, [.int .i64 x, .int .i64 y]⟩) c q sv
    have hf2 := hf.stp hs2
    have hK : ∀ y : Blk, blk? (h ++ [some y]) h.length = some y := fun y => blk?_push_eq
    obtain ⟨l1, l2, l3⟩ := he.lts
    have hq2 := he2.qr.blk
    have hcb2 := he2.qr.cb
    have hsig := fun R => significant_r (R := R) (x := x) (y := y) hcb2
    have hnb := fun R => near_r (R := R) (x := x) (y := y) he2.qr hin
    have hnp : decide (0 < nbH σ.b x y + nbV σ.b x y P.cz + nbD σ.b x y P.cz) = near σ.b x y P.cz := rfl
    rw [ok_round, l70_0, L70_0a, L70_0b]
    cases hsg : (σ.b.get x y).s
    · cases hnr : near σ.b x y P.cz
      · have h1 : σ.sig1 P x y = σ := by unfold ES.sig1; rw [if_neg (by simp [hnr])]
        rw [hsg] at hsig; rw [hnr] at hnp
        simp [-Int.natCast_add, -List.cons_append, -List.append_assoc, k_guard, hlt, hw, hs, hb, ht, hle, hK, hq2, hsig, hnb, hnp]
        rw [← hs]
        refine ih (i + 1) _ sv σ _ _ _ _ _ _ _ _ _ _ _ _ _ _ _ _ _ _ _ _ _ _ _ _ _ _ _ _ _ _ _ _ _ _ _ _ _ _ _ _ _ _ (by omega) (by omega) he2 hf2 ha (by omega) hpl ?_
        intro h' sv' t1 t2 t3 t4 t5 t6 t7 t8 t9 t10 t11 t12 t13 t14 t15 t16 t17 t18 t19 t20 t21 t22 t23 t24 t25 t26 t27 t28 t29 t30 t31 t32 t33 t34 t35 t36 t37 t38 t39 t40 t41 t42 t43 t44 t45 t46 pe st
        exact hk h' sv' _ _ _ _ _ _ _ _ _ _ _ _ _ _ _ _ _ _ _ _ _ _ _ _ _ _ _ _ _ _ _ _ _ _ _ _ _ _ _ _ _ _ _ _ _ _ (by rw [hsp σ h1.symm]; exact pe) (hs2.trans st)
      · obtain ⟨sv3, h3, e3, p3, s3⟩ := code_r he2 (by omega) hin
        have hc1 := le_code (P := P) he.good hin
        have hq3 := p3.qr.blk
        have hv3 : blk? h3 h.length = some ⟨false, [.int .i64 x, .int .i64 y]⟩ := by
          rw [s3.same h.length (by simp) (by omega) (by omega) (fun e => by have := he.own.lt e; omega)]; exact blk?_push_eq
        have htc := fun R => touch_r (R := R) (v := true) p3.qr.cb (x := x) (y := y) (hc1.inb hin)
        obtain ⟨p4, s4⟩ := p3.map (x := x) (y := y) (hc1.inb hin) (kv_touch true)
        have h1 : σ.sig1 P x y = (σ.code P x y).map x y (touch true) := by unfold ES.sig1; rw [if_pos ⟨hsg, hnr⟩]
        have hmm : (fun z : Cell => ({ z with t := true } : Cell)) = touch true := rfl
        rw [hmm] at htc
        have hle1' := hle1.len
        rw [h1] at hle1'
        rw [hsg] at hsig; rw [hnr] at hnp
        simp [-Int.natCast_add, -List.cons_append, -List.append_assoc, k_guard, hlt, hw, hs, hb, ht, hle, hK, hq2, hsig, hnb, hnp, e3, hq3, hv3, htc]
        rw [← hs]
        have st4 := (hs2.trans s3).trans s4
        refine ih (i + 1) _ sv3 _ _ _ _ _ _ _ _ _ _ _ _ _ _ _ _ _ _ _ _ _ _ _ _ _ _ _ _ _ _ _ _ _ _ _ _ _ _ _ _ _ _ _ (by omega) (by omega) p4 (hf.stp st4) (by rw [← h1]; exact ha.le hle1) (by omega) hpl ?_
        intro h' sv' t1 t2 t3 t4 t5 t6 t7 t8 t9 t10 t11 t12 t13 t14 t15 t16 t17 t18 t19 t20 t21 t22 t23 t24 t25 t26 t27 t28 t29 t30 t31 t32 t33 t34 t35 t36 t37 t38 t39 t40 t41 t42 t43 t44 t45 t46 pe st
        exact hk h' sv' _ _ _ _ _ _ _ _ _ _ _ _ _ _ _ _ _ _ _ _ _ _ _ _ _ _ _ _ _ _ _ _ _ _ _ _ _ _ _ _ _ _ _ _ _ _ (by rw [hsp _ h1.symm]; exact pe) (st4.trans st)
    · have h1 : σ.sig1 P x y = σ := by unfold ES.sig1; rw [if_neg (by simp [hsg])]
      rw [hsg] at hsig
      simp [-List.cons_append, -List.append_assoc, k_guard, hlt, hw, hs, hb, ht, hle, hK, hq2, hsig]
      rw [← hs]
      refine ih (i + 1) _ sv σ _ _ _ _ _ _ _ _ _ _ _ _ _ _ _ _ _ _ _ _ _ _ _ _ _ _ _ _ _ _ _ _ _ _ _ _ _ _ _ _ _ _ (by omega) (by omega) he2 hf2 ha (by omega) hpl ?_
      intro h' sv' t1 t2 t3 t4 t5 t6 t7 t8 t9 t10 t11 t12 t13 t14 t15 t16 t17 t18 t19 t20 t21 t22 t23 t24 t25 t26 t27 t28 t29 t30 t31 t32 t33 t34 t35 t36 t37 t38 t39 t40 t41 t42 t43 t44 t45 t46 pe st
      exact hk h' sv' _ _ _ _ _ _ _ _ _ _ _ _ _ _ _ _ _ _ _ _ _ _ _ _ _ _ _ _ _ _ _ _ _ _ _ _ _ _ _ _ _ _ _ _ _ _ (by rw [hsp σ h1.symm]; exact pe) (hs2.trans st)

theorem significance_pr (he : QE h q p c P m sv σ) (hl : σ.out.length ≤ 1000) {s : Value} (hf : Far h s (scan σ.b.w σ.b.h) c q sv) :
    ∃ sv' h', (∀ R, Ret tab 70 [ptr q, s] h R = R (.tuple #[]) h') ∧ QE h' q p c P m sv' (σ.sigs P (scan σ.b.w σ.b.h)) ∧ Stp h h' c q sv sv' := by
  have key : Ret tab 70 [ptr q, s] h fun v h' => v = .tuple #[] ∧ ∃ sv', QE h' q p c P m sv' (σ.sigs P (scan σ.b.w σ.b.h)) ∧ Stp h h' c q sv sv' := by
    obtain ⟨a, cc, hs⟩ := hf.sl.shape
    have hsl := scan_len he.qr.cb.ok.w2 he.qr.cb.ok.h2
    rw [enter70, B70]
    simp [hs]
    rw [← hs]
    refine sig_loop_r _ 0 h sv σ _ _ _ _ _ _ _ _ _ _ _ _ _ _ _ _ _ _ _ _ _ _ _ _ _ _ _ _ _ _ _ _ _ _ _ _ _ _ _ _ _ _ rfl (by omega) he hf (scanIn σ.b) (by omega) (by omega) ?_
    intro h' sv' t1 t2 t3 t4 t5 t6 t7 t8 t9 t10 t11 t12 t13 t14 t15 t16 t17 t18 t19 t20 t21 t22 t23 t24 t25 t26 t27 t28 t29 t30 t31 t32 t33 t34 t35 t36 t37 t38 t39 t40 t41 t42 t43 t44 t45 t46 pe st
    simp [fin70]
    exact ⟨sv', by simpa using pe, st⟩
  obtain ⟨v, h', e, rfl, sv', pe, st⟩ := ret_ex key
  exact ⟨sv', h', e, pe, st⟩

theorem ref_loop_r {s v1 : Value} {pts : List (Int × Int)} :
    ∀ (n i : Nat) (h : Heap) (sv : Value) (σ : ES) (t2 t3 t4 t5 t9 t10 t11 t12 t13 t14 t15 t16 t17 t18 t19 t20 t21 t22 t23 t24 t25 t26 t27 t28 t29 t30 t31 t32 t33 t34 t35 t36 t37 t38 t39 t40 t41 t42 t43 t44 t45 t46 t47 t48 t49 t50 t51 t52 t53 t54 t55 t56 t57 t58 t59 t60 t61 t62 t63 t64 t65 t66 t67 t68 t69 t70 t71 t72 t73 t74 t75 t76 t77 : Value), n = pts.length - i → i ≤ pts.length → QE h q p c P m sv σ → Far h s pts c q sv → AllIn σ.b pts → σ.out.length + 2 * n + 3 < 1000000 → pts.length < 1000000 →
      (∀ (h' : Heap) (sv' : Value) (t1 t2 t3 t4 t5 t6 t7 t8 t9 t10 t11 t12 t13 t14 t15 t16 t17 t18 t19 t20 t21 t22 t23 t24 t25 t26 t27 t28 t29 t30 t31 t32 t33 t34 t35 t36 t37 t38 t39 t40 t41 t42 t43 t44 t45 t46 t47 t48 t49 t50 t51 t52 t53 t54 t55 t56 t57 t58 t59 t60 t61 t62 t63 t64 t65 t66 t67 t68 t69 t70 t71 t72 t73 t74 t75 t76 t77 : Value), QE h' q p c P m sv' (σ.refs P (pts.drop i)) → Stp h h' c q sv sv' → Ok tab R71 k #[ptr q, t1, t2, t3, t4, t5, t6, t7, t8, t9, t10, t11, t12, t13, t14, t15, t16, t17, t18, t19, t20, t21, t22, t23, t24, t25, t26, t27, t28, t29, t30, t31, t32, t33, t34, t35, t36, t37, t38, t39, t40, t41, t42, t43, t44, t45, t46, t47, t48, t49, t50, t51, t52, t53, t54, t55, t56, t57, t58, t59, t60, t61, t62, t63, t64, t65, t66, t67, t68, t69, t70, t71, t72, t73, t74, t75, t76, t77] h' R) →
      Ok tab R71 (.inLoop L71_0 :: .inBlock 0 :: k) #[ptr q, v1, t2, t3, t4, t5, s, .int .i64 pts.length, .int .i64 i, t9, t10, t11, t12, t13, t14, t15, t16, t17, t18, t19, t20, t21, t22, t23, t24, t25, t26, t27, t28, t29, t30, t31, t32, t33, t34, t35, t36, t37, t38, t39, t40, t41, t42, t43, t44, t45, t46, t47, t48, t49, t50, t51, t52, t53, t54, t55, t56, t57, t58, t59, t60, t61, t62, t63, t64, t65, t66, t67, t68, t69, t70, t71, t72, t73, t74, t75, t76, t77] h R := by
  intro n
  induction n with
  | zero =>
    intro i h sv σ t2 t3 t4 t5 t9 t10 t11 t12 t13 t14 t15 t16 t17 t18 t19 t20 t21 t22 t23 t24 t25 t26 t27 t28 t29 t30 t31 t32 t33 t34 t35 t36 t37 t38 t39 t40 t41 t42 t43 t44 t45 t46 t47 t48 t49 t50 t51 t52 t53 t54 t55 t56 t57 t58 t59 t60 t61 t62 t63 t64 t65 t66 t67 t68 t69 t70 t71 t72 t73 t74 t75 t76 t77 hm hi he hf ha hl hpl hk
    have hlt : ¬ ((i : Int) < pts.length) := by omega
    rw [ok_round, l71_0, L71_0a, L71_0b]
    simp [hlt]
    refine hk h sv _ _ _ _ _ _ _ _ _ _ _ _ _ _ _ _ _ _ _ _ _ _ _ _ _ _ _ _ _ _ _ _ _ _ _ _ _ _ _ _ _ _ _ _ _ _ _ _ _ _ _ _ _ _ _ _ _ _ _ _ _ _ _ _ _ _ _ _ _ _ _ _ _ _ _ _ _ ?_ (Stp.refl _ _ _ _)
    rw [List.drop_of_length_le (by omega)]; exact he
  | succ n ih =>
    intro i h sv σ t2 t3 t4 t5 t9 t10 t11 t12 t13 t14 t15 t16 t17 t18 t19 t20 t21 t22 t23 t24 t25 t26 t27 t28 t29 t30 t31 t32 t33 t34 t35 t36 t37 t38 t39 t40 t41 t42 t43 t44 t45 t46 t47 t48 t49 t50 t51 t52 t53 t54 t55 t56 t57 t58 t59 t60 t61 t62 t63 t64 t65 t66 t67 t68 t69 t70 t71 t72 t73 t74 t75 t76 t77 hm hi he hf ha hl hpl hk
    have hlt : ((i : Int) < pts.length) := by omega
    have hw : IntKind.i64.wrap ((i : Int) + 1) = (i : Int) + 1 := wrapN (n := i + 1) (by omega)
    have hil : i < pts.length := by omega
    obtain ⟨id, off, blk, hs, hb, ht, hle⟩ := hf.get hil
    have hin := ha _ (List.getElem_mem hil)
    have hsp : ∀ τ : ES, τ = σ.ref1 P pts[i].1 pts[i].2 → σ.refs P (pts.drop i) = τ.refs P (pts.drop (i + 1)) := by
      intro τ hτ
      rw [List.drop_eq_getElem_cons hil, hτ]; rfl
    have hle1 := le_ref1 (P := P) he.good hin
    generalize hx : pts[i].1 = x at *
    generalize hy : pts[i].2 = y at *
    have he2 := he.push (some ⟨false, [.int .i64 x, .int .i64 y]⟩)
    have hs2 := Stp.push h (some ⟨false, [.int .i64 x, .int .i64 y]⟩) c q sv
    have hf2 := hf.stp hs2
    have hK : ∀ y : Blk, blk? (h ++ [some y]) h.length = some y := fun y => blk?_push_eq
    obtain ⟨l1, l2, l3⟩ := he.lts
    have hq2 := he2.qr.blk
    have hcb2 := he2.qr.cb
    have hsig := fun R => significant_r (R := R) (x := x) (y := y) hcb2
    have htch := fun R => touched_r (R := R) (x := x) (y := y) hcb2
    have hrfd := fun R => refined_r (R := R) (x := x) (y := y) hcb2
    have hnb := fun R => near_r (R := R) (x := x) (y := y) he2.qr hin
    have hnp : decide (0 < nbH σ.b x y + nbV σ.b x y P.cz + nbD σ.b x y P.cz) = near σ.b x y P.cz := rfl
    have hbit := fun R => bit_r (R := R) (x := x) (y := y) he2.qr
    have hcx := fun a b R => ctxRefine_r (h := h ++ [some (⟨false, [.int .i64 x, .int .i64 y]⟩ : Blk)]) (R := R) (a := a) (b := b)
    have hskip : σ.ref1 P x y = σ → ∀ t2 t3 t4 t5 t9 t10 t11 t12 t13 t14 t15 t16 t17 t18 t19 t20 t21 t22 t23 t24 t25 t26 t27 t28 t29 t30 t31 t32 t33 t34 t35 t36 t37 t38 t39 t40 t41 t42 t43 t44 t45 t46 t47 t48 t49 t50 t51 t52 t53 t54 t55 t56 t57 t58 t59 t60 t61 t62 t63 t64 t65 t66 t67 t68 t69 t70 t71 t72 t73 t74 t75 t76 t77 : Value, Ok tab R71 (.inLoop L71_0 :: .inBlock 0 :: k) #[ptr q, v1, t2, t3, t4, t5, s, .int .i64 pts.length, .int .i64 ((i : Int) + 1), t9, t10, t11, t12, t13, t14, t15, t16, t17, t18, t19, t20, t21, t22, t23, t24, t25, t26, t27, t28, t29, t30, t31, t32, t33, t34, t35, t36, t37, t38, t39, t40, t41, t42, t43, t44, t45, t46, t47, t48, t49, t50, t51, t52, t53, t54, t55, t56, t57, t58, t59, t60, t61, t62, t63, t64, t65, t66, t67, t68, t69, t70, t71, t72, t73, t74, t75, t76, t77] (h ++ [some ⟨false, [.int .i64 x, .int .i64 y]⟩]) R := by
      intro h1 t2 t3 t4 t5 t9 t10 t11 t12 t13 t14 t15 t16 t17 t18 t19 t20 t21 t22 t23 t24 t25 t26 t27 t28 t29 t30 t31 t32 t33 t34 t35 t36 t37 t38 t39 t40 t41 t42 t43 t44 t45 t46 t47 t48 t49 t50 t51 t52 t53 t54 t55 t56 t57 t58 t59 t60 t61 t62 t63 t64 t65 t66 t67 t68 t69 t70 t71 t72 t73 t74 t75 t76 t77
      refine ih (i + 1) _ sv σ _ _ _ _ _ _ _ _ _ _ _ _ _ _ _ _ _ _ _ _ _ _ _ _ _ _ _ _ _ _ _ _ _ _ _ _ _ _ _ _ _ _ _ _ _ _ _ _ _ _ _ _ _ _ _ _ _ _ _ _ _ _ _ _ _ _ _ _ _ _ _ _ _ (by omega) (by omega) he2 hf2 ha (by omega) hpl ?_
      intro h' sv' t1 t2 t3 t4 t5 t6 t7 t8 t9 t10 t11 t12 t13 t14 t15 t16 t17 t18 t19 t20 t21 t22 t23 t24 t25 t26 t27 t28 t29 t30 t31 t32 t33 t34 t35 t36 t37 t38 t39 t40 t41 t42 t43 t44 t45 t46 t47 t48 t49 t50 t51 t52 t53 t54 t55 t56 t57 t58 t59 t60 t61 t62 t63 t64 t65 t66 t67 t68 t69 t70 t71 t72 t73 t74 t75 t76 t77 pe st
      exact hk h' sv' _ _ _ _ _ _ _ _ _ _ _ _ _ _ _ _ _ _ _ _ _ _ _ _ _ _ _ _ _ _ _ _ _ _ _ _ _ _ _ _ _ _ _ _ _ _ _ _ _ _ _ _ _ _ _ _ _ _ _ _ _ _ _ _ _ _ _ _ _ _ _ _ _ _ _ _ _ (by rw [hsp σ h1.symm]; exact pe) (hs2.trans st)
    rw [ok_round, l71_0, L71_0a, L71_0b]
    cases hsg : (σ.b.get x y).s
    · have h1 : σ.ref1 P x y = σ := by unfold ES.ref1; rw [if_pos (.inl hsg)]
      rw [hsg] at hsig
      simp [-Int.natCast_add, -List.cons_append, -List.append_assoc, k_guard, k_guardU, hlt, hw, hs, hb, ht, hle, hK, hq2, hsig]
      rw [← hs]
      exact hskip h1 _ _ _ _ _ _ _ _ _ _ _ _ _ _ _ _ _ _ _ _ _ _ _ _ _ _ _ _ _ _ _ _ _ _ _ _ _ _ _ _ _ _ _ _ _ _ _ _ _ _ _ _ _ _ _ _ _ _ _ _ _ _ _ _ _ _ _ _ _ _ _ _ _
    · cases htc0 : (σ.b.get x y).t
      · -- refined
        obtain ⟨sv3, h3, e3, p3, s3⟩ := put_r he2 (by omega) (refCtx (!(σ.b.get x y).r) (near σ.b x y P.cz)) (bitOf (σ.b.get x y).v P.s)
        have hc1 := le_emit (P := P) he.good (refCtx (!(σ.b.get x y).r) (near σ.b x y P.cz)) (bitOf (σ.b.get x y).v P.s)
        have hq3 := p3.qr.blk
        have hv3 : blk? h3 h.length = some ⟨false, [.int .i64 x, .int .i64 y]⟩ := by
          rw [s3.same h.length (by simp) (by omega) (by omega) (fun e => by have := he.own.lt e; omega)]; exact blk?_push_eq
        have hrf := fun R => refine_r (R := R) p3.qr.cb (x := x) (y := y) (hc1.inb hin)
        obtain ⟨p4, s4⟩ := p3.map (x := x) (y := y) (hc1.inb hin) kv_refine
        have hc2 := hc1.trans (le_map hc1.good (hc1.inb hin) kv_refine)
        have hq4 := p4.qr.blk
        have hv4 : blk? (h3.set c (some ⟨false, encC ((σ.emit P (refCtx (!(σ.b.get x y).r) (near σ.b x y P.cz)) (bitOf (σ.b.get x y).v P.s)).b.upd x y refine').cs⟩)) h.length = some ⟨false, [.int .i64 x, .int .i64 y]⟩ := by
          rw [blk?_set_ne (by omega)]; exact hv3
        have htc := fun R => touch_r (R := R) (v := true) p4.qr.cb (x := x) (y := y) (hc2.inb hin)
        obtain ⟨p5, s5⟩ := p4.map (x := x) (y := y) (hc2.inb hin) (kv_touch true)
        have h1 : σ.ref1 P x y = ((σ.emit P (refCtx (!(σ.b.get x y).r) (near σ.b x y P.cz)) (bitOf (σ.b.get x y).v P.s)).map x y refine').map x y (touch true) := by unfold ES.ref1; rw [if_neg (by simp [hsg, htc0])]
        have hmm : (fun z : Cell => ({ z with t := true } : Cell)) = touch true := rfl
        have hmr : (fun z : Cell => ({ z with r := true } : Cell)) = refine' := rfl
        rw [hmm] at htc
        rw [hmr] at hrf
        have hle1' := hle1.len
        rw [h1] at hle1'
        rw [hsg] at hsig; rw [htc0] at htch
        have st5 := ((hs2.trans s3).trans s4).trans s5
        rw [List.set_set] at p5 st5
        simp only [ES.map_b, ES.emit_b] at hrf htc hv4 hq3 hq4
        simp [-Int.natCast_add, -List.cons_append, -List.append_assoc, k_guard, hlt, hw, hs, hb, ht, hle, hK, hq2, hsig, htch, hrfd, hnb, hnp, hbit, hcx, e3, hq3, hv3, hrf, hq4, hv4, htc, book, logOf, addLog, chk1, lookL, reload]
        rw [← hs]
        refine ih (i + 1) _ sv3 _ _ _ _ _ _ _ _ _ _ _ _ _ _ _ _ _ _ _ _ _ _ _ _ _ _ _ _ _ _ _ _ _ _ _ _ _ _ _ _ _ _ _ _ _ _ _ _ _ _ _ _ _ _ _ _ _ _ _ _ _ _ _ _ _ _ _ _ _ _ _ _ _ _ (by omega) (by omega) p5 (hf.stp st5) (by rw [← h1]; exact ha.le hle1) (by omega) hpl ?_
        intro h' sv' t1 t2 t3 t4 t5 t6 t7 t8 t9 t10 t11 t12 t13 t14 t15 t16 t17 t18 t19 t20 t21 t22 t23 t24 t25 t26 t27 t28 t29 t30 t31 t32 t33 t34 t35 t36 t37 t38 t39 t40 t41 t42 t43 t44 t45 t46 t47 t48 t49 t50 t51 t52 t53 t54 t55 t56 t57 t58 t59 t60 t61 t62 t63 t64 t65 t66 t67 t68 t69 t70 t71 t72 t73 t74 t75 t76 t77 pe st
        exact hk h' sv' _ _ _ _ _ _ _ _ _ _ _ _ _ _ _ _ _ _ _ _ _ _ _ _ _ _ _ _ _ _ _ _ _ _ _ _ _ _ _ _ _ _ _ _ _ _ _ _ _ _ _ _ _ _ _ _ _ _ _ _ _ _ _ _ _ _ _ _ _ _ _ _ _ _ _ _ _ (by rw [hsp _ h1.symm]; exact pe) (st5.trans st)
      · have h1 : σ.ref1 P x y = σ := by unfold ES.ref1; rw [if_pos (.inr htc0)]
        rw [hsg] at hsig; rw [htc0] at htch
        simp [-Int.natCast_add, -List.cons_append, -List.append_assoc, k_guard, hlt, hw, hs, hb, ht, hle, hK, hq2, hsig, htch]
        rw [← hs]
        exact hskip h1 _ _ _ _ _ _ _ _ _ _ _ _ _ _ _ _ _ _ _ _ _ _ _ _ _ _ _ _ _ _ _ _ _ _ _ _ _ _ _ _ _ _ _ _ _ _ _ _ _ _ _ _ _ _ _ _ _ _ _ _ _ _ _ _ _ _ _ _ _ _ _ _ _

theorem refinement_pr (he : QE h q p c P m sv σ) (hl : σ.out.length ≤ 1000) {s : Value} (hf : Far h s (scan σ.b.w σ.b.h) c q sv) :
    ∃ sv' h', (∀ R, Ret tab 71 [ptr q, s] h R = R (.tuple #[]) h') ∧ QE h' q p c P m sv' (σ.refs P (scan σ.b.w σ.b.h)) ∧ Stp h h' c q sv sv' := by
  have key : Ret tab 71 [ptr q, s] h fun v h' => v = .tuple #[] ∧ ∃ sv', QE h' q p c P m sv' (σ.refs P (scan σ.b.w σ.b.h)) ∧ Stp h h' c q sv sv' := by
    obtain ⟨a, cc, hs⟩ := hf.sl.shape
    have hsl := scan_len he.qr.cb.ok.w2 he.qr.cb.ok.h2
    rw [enter71, B71]
    simp [hs]
    rw [← hs]
    refine ref_loop_r _ 0 h sv σ _ _ _ _ _ _ _ _ _ _ _ _ _ _ _ _ _ _ _ _ _ _ _ _ _ _ _ _ _ _ _ _ _ _ _ _ _ _ _ _ _ _ _ _ _ _ _ _ _ _ _ _ _ _ _ _ _ _ _ _ _ _ _ _ _ _ _ _ _ _ _ _ _ rfl (by omega) he hf (scanIn σ.b) (by omega) (by omega) ?_
    intro h' sv' t1 t2 t3 t4 t5 t6 t7 t8 t9 t10 t11 t12 t13 t14 t15 t16 t17 t18 t19 t20 t21 t22 t23 t24 t25 t26 t27 t28 t29 t30 t31 t32 t33 t34 t35 t36 t37 t38 t39 t40 t41 t42 t43 t44 t45 t46 t47 t48 t49 t50 t51 t52 t53 t54 t55 t56 t57 t58 t59 t60 t61 t62 t63 t64 t65 t66 t67 t68 t69 t70 t71 t72 t73 t74 t75 t76 t77 pe st
    simp [fin71]
    exact ⟨sv', by simpa using pe, st⟩
  obtain ⟨v, h', e, rfl, sv', pe, st⟩ := ret_ex key
  exact ⟨sv', h', e, pe, st⟩
end
end Go.Proofs.Ytlflfkdnpalhlaa
namespace Go.Proofs.Ytlflfkdnpalhlaa
open Go Go.Sim
set_option linter.unusedSimpArgs false
set_option linter.unusedVariables false

/-- A step of the reference's cleanup pass: the state, and how many points are to be passed by. -/
def cstep (P : PP) (τ : ES × Nat) (p : Int × Int) : ES × Nat :=
  match τ.2 with
  | s + 1 => (τ.1, s)
  | 0 => if quietR τ.1.b p.1 p.2 P.cz = true then ((τ.1.run P p.1 p.2).1, ((τ.1.run P p.1 p.2).2 - p.2 - 1).toNat) else (τ.1.cln1 P p.1 p.2, 0)
def csteps (P : PP) (τ : ES × Nat) (l : List (Int × Int)) : ES × Nat := l.foldl (cstep P) τ

theorem csteps_append (P : PP) (τ : ES × Nat) (a b : List (Int × Int)) : csteps P τ (a ++ b) = csteps P (csteps P τ a) b := List.foldl_append
theorem csteps_skip (P : PP) (σ : ES) (x : Int) (n : Nat) : ∀ (k : Nat) (y : Int), csteps P (σ, k) (colPts x y (k + n)) = csteps P (σ, 0) (colPts x (y + k) n)
  | 0, y => by simp
  | k + 1, y => by
    rw [show k + 1 + n = (k + n) + 1 by omega, colPts]
    show csteps P (cstep P (σ, k + 1) (x, y)) (colPts x (y + 1) (k + n)) = _
    rw [show cstep P (σ, k + 1) (x, y) = (σ, k) from rfl, csteps_skip P σ x n k (y + 1)]
    congr 2; omega
theorem csteps_rows (P : PP) (x : Int) : ∀ (n : Nat) (y : Int) (σ : ES), (∀ j : Nat, j < n → (y + j) % 4 ≠ 0) → csteps P (σ, 0) (colPts x y n) = (σ.rows P x y n, 0)
  | 0, y, σ, _ => rfl
  | n + 1, y, σ, h => by
    rw [colPts]
    show csteps P (cstep P (σ, 0) (x, y)) (colPts x (y + 1) n) = _
    have h0 : y % 4 ≠ 0 := by have := h 0 (by omega); simpa using this
    have hq : quietR σ.b x y P.cz = false := by simp [quietR, h0]
    have : cstep P (σ, 0) (x, y) = (σ.cln1 P x y, 0) := by simp [cstep, hq]
    rw [this, csteps_rows P x n (y + 1) _ (fun j hj => by have := h (j + 1) (by omega); rw [show y + 1 + (j : Int) = y + ((j + 1 : Nat) : Int) by omega]; exact this)]
    rfl
theorem csteps_col {P : PP} {σ : ES} (hg : σ.b.Good) {x top : Int} (hi : σ.b.inb x top) (h4 : top % 4 = 0) :
    csteps P (σ, 0) (colPts x top (min (top + 4) (σ.b.h : Int) - top).toNat) = (σ.col P x top, 0) := by
  have hi0 := hi
  obtain ⟨i1, i2, i3, i4⟩ := hi
  cases hq : quiet σ.b x top P.cz
  · have hcol : σ.col P x top = σ.rows P x top (min (top + 4) σ.b.h - top).toNat := by unfold ES.col; rw [if_neg (by simp [hq])]
    rw [hcol]
    obtain ⟨n, hn⟩ : ∃ n, (min (top + 4) (σ.b.h : Int) - top).toNat = n + 1 := ⟨(min (top + 4) (σ.b.h : Int) - top).toNat - 1, by omega⟩
    rw [hn, colPts]
    show csteps P (cstep P (σ, 0) (x, top)) (colPts x (top + 1) n) = _
    have : cstep P (σ, 0) (x, top) = (σ.cln1 P x top, 0) := by simp [cstep, quietR, hq]
    rw [this, csteps_rows P x n (top + 1) _ (fun j hj => by omega)]
    rfl
  · have htop : top + 4 ≤ σ.b.h := by
      simp only [quiet, Bool.and_eq_true, decide_eq_true_eq] at hq; exact hq.1
    have hcol : σ.col P x top = ((σ.run P x top).1).rows P x (σ.run P x top).2 (min (top + 4) σ.b.h - (σ.run P x top).2).toNat := by unfold ES.col; rw [if_pos hq]
    rw [hcol]
    obtain ⟨_, b2, b3⟩ := le_run (P := P) hg hi0 htop
    rw [show (min (top + 4) (σ.b.h : Int) - top).toNat = 3 + 1 by omega, colPts]
    show csteps P (cstep P (σ, 0) (x, top)) (colPts x (top + 1) 3) = _
    have : cstep P (σ, 0) (x, top) = ((σ.run P x top).1, ((σ.run P x top).2 - top - 1).toNat) := by simp [cstep, quietR, hq, h4]
    rw [this]
    generalize (σ.run P x top).1 = τ
    generalize (σ.run P x top).2 = y at *
    have e3 : 3 = (y - top - 1).toNat + (top + 4 - y).toNat := by omega
    have := csteps_skip P τ x (top + 4 - y).toNat (y - top - 1).toNat (top + 1)
    rw [← e3] at this
    rw [this, show top + 1 + ((y - top - 1).toNat : Int) = y by omega, show (min (top + 4) (σ.b.h : Int) - y).toNat = (top + 4 - y).toNat by omega]
    exact csteps_rows P x _ y τ (fun j hj => by omega)
theorem csteps_cols {P : PP} {w h : Nat} : ∀ (n : Nat) (σ : ES) (x top : Int), σ.b.Good → σ.b.w = w → σ.b.h = h → 0 ≤ x → x + n ≤ w → 0 ≤ top → top < h → top % 4 = 0 → csteps P (σ, 0) (stripePts h x top n) = (σ.cols P x top n, 0)
  | 0, σ, x, top, _, _, _, _, _, _, _, _ => rfl
  | n + 1, σ, x, top, hg, hw, hh, h1, h2, h3, h4, h5 => by
    have hi : σ.b.inb x top := ⟨h1, by omega, h3, by omega⟩
    have hc := csteps_col (P := P) hg hi h5
    have hl := le_col (P := P) hg hi
    rw [stripePts, csteps_append, ← hh, hc, hh]
    exact csteps_cols n _ (x + 1) top hl.good (hl.w.trans hw) (hl.h.trans hh) (by omega) (by omega) h3 h4 h5
theorem csteps_scan {P : PP} {w h : Nat} : ∀ (n : Nat) (σ : ES) (top : Int), σ.b.Good → σ.b.w = w → σ.b.h = h → 0 ≤ top → top + 4 * n ≤ h + 3 → top % 4 = 0 → csteps P (σ, 0) (scanPts w h top n) = (σ.stripes P top n, 0)
  | 0, σ, top, _, _, _, _, _, _ => rfl
  | n + 1, σ, top, hg, hw, hh, h1, h2, h3 => by
    have hc := csteps_cols (P := P) (w := w) (h := h) w σ 0 top hg hw hh (by omega) (by omega) h1 (by omega) h3
    have hl := le_cols (P := P) (n := σ.b.w) hg (x := 0) (top := top) (by omega) (by omega) h1 (by omega)
    rw [scanPts, csteps_append, hc, ES.stripes, hw]
    rw [hw] at hl
    exact csteps_scan n _ (top + 4) hl.good (hl.w.trans hw) (hl.h.trans hh) (by omega) (by omega) (by omega)
theorem csteps_all {P : PP} {σ : ES} (hg : σ.b.Good) : csteps P (σ, 0) (scan σ.b.w σ.b.h) = (σ.stripes P 0 (stripesOf σ.b.h), 0) :=
  csteps_scan _ σ 0 hg rfl rfl (by omega) (by unfold stripesOf; omega) (by omega)

theorem quietR_top {b : BS} {x y : Int} {k : Bool} (h : quietR b x y k = true) : y + 4 ≤ b.h := by
  simp only [quietR, quiet, Bool.and_eq_true, decide_eq_true_eq] at h; exact h.2.1
theorem le_cstep {P : PP} {τ : ES × Nat} (hg : τ.1.b.Good) {p : Int × Int} (hi : τ.1.b.inb p.1 p.2) : τ.1.Le (cstep P τ p).1 4 ∧ (cstep P τ p).2 ≤ max τ.2 3 := by
  obtain ⟨σ, s⟩ := τ
  cases s with
  | succ s => exact ⟨ES.Le.refl hg 4, Nat.le_trans (Nat.le_succ s) (Nat.le_max_left _ _)⟩
  | zero =>
    simp only [cstep]
    split
    · rename_i hq
      obtain ⟨a, b, c⟩ := le_run (P := P) hg hi (quietR_top hq)
      simp only at a b c
      exact ⟨a, Nat.le_trans (by omega) (Nat.le_max_right _ _)⟩
    · exact ⟨(le_cln1 hg hi).mono (by omega), by simp⟩
end Go.Proofs.Ytlflfkdnpalhlaa
namespace Go.Proofs.Ytlflfkdnpalhlaa
open Go Go.Sim
set_option linter.unusedSimpArgs false
set_option linter.unusedVariables false

section
variable {h : Heap} {q p c : Nat} {P : PP} {m : MD} {sv : Value} {σ : ES} {k : List RItem} {R : Value → Heap → Prop}

theorem runLength_loop {x y : Int} {v6 : Value} (he : QE h q p c P m sv σ) (hx : 0 ≤ x ∧ x < σ.b.w) (hy : 0 ≤ y ∧ y + 4 ≤ σ.b.h)
    (hk : ∀ (j : Nat) (t3 t4 t5 t8 t9 t10 t11 t12 t13 t14 t15 t16 t17 t18 t19 t20 t21 t22 t23 t24 t25 t26 t27 t28 t29 t30 t31 t32 t33 t34 t35 t36 t37 t38 t39 t40 t41 t42 : Value), (j = 4 ∧ firstBit σ.b P.s x y 4 = none ∨ j < 4 ∧ firstBit σ.b P.s x y 4 = some j) → Ok tab R103 k #[ptr q, .int .i64 x, .int .i64 y, t3, t4, t5, v6, .int .i64 j, t8, t9, t10, t11, t12, t13, t14, t15, t16, t17, t18, t19, t20, t21, t22, t23, t24, t25, t26, t27, t28, t29, t30, t31, t32, t33, t34, t35, t36, t37, t38, t39, t40, t41, t42] h R) :
    ∀ (n i : Nat) (t3 t4 t5 t8 t9 t10 t11 t12 t13 t14 t15 t16 t17 t18 t19 t20 t21 t22 t23 t24 t25 t26 t27 t28 t29 t30 t31 t32 t33 t34 t35 t36 t37 t38 t39 t40 t41 t42 : Value), i + n = 4 → firstBit σ.b P.s x y 4 = (firstBit σ.b P.s x (y + i) n).map (· + i) →
      Ok tab R103 (.inLoop L103_0 :: .inBlock 0 :: k) #[ptr q, .int .i64 x, .int .i64 y, t3, t4, t5, v6, .int .i64 i, t8, t9, t10, t11, t12, t13, t14, t15, t16, t17, t18, t19, t20, t21, t22, t23, t24, t25, t26, t27, t28, t29, t30, t31, t32, t33, t34, t35, t36, t37, t38, t39, t40, t41, t42] h R := by
  intro n
  induction n with
  | zero =>
    intro i t3 t4 t5 t8 t9 t10 t11 t12 t13 t14 t15 t16 t17 t18 t19 t20 t21 t22 t23 t24 t25 t26 t27 t28 t29 t30 t31 t32 t33 t34 t35 t36 t37 t38 t39 t40 t41 t42 hi hfb
    obtain rfl : i = 4 := by omega
    rw [ok_round, l103_0, L103_0a, L103_0b]
    simp [k_guard, k_guardU]
    exact hk 4 _ _ _ _ _ _ _ _ _ _ _ _ _ _ _ _ _ _ _ _ _ _ _ _ _ _ _ _ _ _ _ _ _ _ _ _ _ _ (.inl ⟨rfl, by rw [hfb]; simp [firstBit]⟩)
  | succ n ih =>
    intro i t3 t4 t5 t8 t9 t10 t11 t12 t13 t14 t15 t16 t17 t18 t19 t20 t21 t22 t23 t24 t25 t26 t27 t28 t29 t30 t31 t32 t33 t34 t35 t36 t37 t38 t39 t40 t41 t42 hi hfb
    have hb2 := he.qr.cb.ok.h2
    have hlt : (i : Int) < 4 := by omega
    have hw1 : IntKind.i64.wrap ((i : Int) + 1) = (i : Int) + 1 := wrapN (n := i + 1) (by omega)
    have hw2 : IntKind.i64.wrap (y + (i : Int)) = y + (i : Int) := wrapI (by omega) (by omega)
    have hbit := fun R => bit_r (R := R) (x := x) (y := y + i) he.qr
    rw [ok_round, l103_0, L103_0a, L103_0b]
    by_cases hb : bitOf (σ.b.get x (y + i)).v P.s = 1
    · rw [hb] at hbit
      simp only [Int.natCast_one] at hbit
      simp [k_guard, hlt, hw2, hbit]
      exact hk i _ _ _ _ _ _ _ _ _ _ _ _ _ _ _ _ _ _ _ _ _ _ _ _ _ _ _ _ _ _ _ _ _ _ _ _ _ _ (.inr ⟨by omega, by rw [hfb]; simp [firstBit, hb]⟩)
    · have hb0 : bitOf (σ.b.get x (y + i)).v P.s = 0 := by unfold bitOf at *; omega
      rw [hb0] at hbit
      simp only [Int.natCast_zero] at hbit
      simp [k_guard, hlt, hw1, hw2, hbit]
      refine ih (i + 1) _ _ _ _ _ _ _ _ _ _ _ _ _ _ _ _ _ _ _ _ _ _ _ _ _ _ _ _ _ _ _ _ _ _ _ _ _ _ (by omega) ?_
      rw [hfb, firstBit, if_neg hb]
      rw [show y + ((i + 1 : Nat) : Int) = y + i + 1 by omega]
      cases firstBit σ.b P.s x (y + i + 1) n with
      | none => rfl
      | some j => simp; omega

theorem runLength_r (he : QE h q p c P m sv σ) (hn : σ.out.length + 5 < 1000000) {x y : Int} (hx : 0 ≤ x ∧ x < σ.b.w) (hy : 0 ≤ y ∧ y + 4 ≤ σ.b.h) :
    ∃ sv' h', (∀ R, Ret tab 103 [ptr q, .int .i64 x, .int .i64 y] h R = R (.int .i64 ((σ.run P x y).2 - y)) h') ∧ QE h' q p c P m sv' (σ.run P x y).1 ∧ Stp h h' c q sv sv' := by
  have key : Ret tab 103 [ptr q, .int .i64 x, .int .i64 y] h fun v h' => v = .int .i64 ((σ.run P x y).2 - y) ∧ ∃ sv', QE h' q p c P m sv' (σ.run P x y).1 ∧ Stp h h' c q sv sv' := by
    have hb2 := he.qr.cb.ok.h2
    rw [enter103, B103]
    simp
    refine runLength_loop he hx hy ?_ 4 0 _ _ _ _ _ _ _ _ _ _ _ _ _ _ _ _ _ _ _ _ _ _ _ _ _ _ _ _ _ _ _ _ _ _ _ _ _ _ (by omega) (by simp)
    intro j t3 t4 t5 t8 t9 t10 t11 t12 t13 t14 t15 t16 t17 t18 t19 t20 t21 t22 t23 t24 t25 t26 t27 t28 t29 t30 t31 t32 t33 t34 t35 t36 t37 t38 t39 t40 t41 t42 hj
    rcases hj with ⟨rfl, hf⟩ | ⟨hj4, hf⟩
    · obtain ⟨sv1, h1, e1, p1, s1⟩ := put_r he (by omega) 17 0
      have hr : σ.run P x y = (σ.emit P 17 0, y + 4) := by unfold ES.run; rw [hf]
      rw [hr]
      simp only [Int.natCast_zero] at e1
      simp [e1, fin103]
      exact ⟨by omega, sv1, p1, s1⟩
    · have hr : σ.run P x y = ((((σ.emit P 17 1).emit P 18 (j / 2)).emit P 18 (j % 2)).sign P x (y + j), y + j + 1) := by unfold ES.run; rw [hf]
      obtain ⟨sv1, h1, e1, p1, s1⟩ := put_r he (by omega) 17 1
      obtain ⟨sv2, h2, e2, p2, s2⟩ := put_r p1 (by simp [ES.emit]; omega) 18 (j / 2)
      obtain ⟨sv3, h3, e3, p3, s3⟩ := put_r p2 (by simp [ES.emit]; omega) 18 (j % 2)
      obtain ⟨sv4, h4, e4, p4, s4⟩ := psign_r p3 (by simp [ES.emit]; omega) (x := x) (y := y + j) ⟨hx.1, hx.2, by omega, by show y + (j : Int) < σ.b.h; omega⟩
      have h4' : ((j : Int) == 4) = false := by simp; omega
      have hw1 : IntKind.i64.wrap ((j : Int) + 1) = (j : Int) + 1 := wrapN (n := j + 1) (by omega)
      have hw2 : IntKind.i64.wrap (y + (j : Int)) = y + (j : Int) := wrapI (by omega) (by omega)
      have hd : (j : Int).tdiv 2 = ((j / 2 : Nat) : Int) := rfl
      have hm : (j : Int).tmod 2 = ((j % 2 : Nat) : Int) := rfl
      have hw3 : IntKind.i64.wrap ((j / 2 : Nat) : Int) = ((j / 2 : Nat) : Int) := wrapN (by omega)
      simp only [Int.natCast_one] at e1
      rw [hr]
      simp [-Int.natCast_ediv, -Int.natCast_emod, h4', hw1, hw2, hd, hm, hw3, e1, e2, e3, e4, fin103]
      exact ⟨by omega, sv4, p4, ((s1.trans s2).trans s3).trans s4⟩
  obtain ⟨v, h', e, rfl, sv', pe, st⟩ := ret_ex key
  exact ⟨sv', h', e, pe, st⟩

theorem clean_loop_r {s : Value} {pts : List (Int × Int)} {hh : Nat} :
    ∀ (n i : Nat) (h : Heap) (sv : Value) (τ : ES × Nat) (t3 t4 t5 t7 t8 t9 t10 t14 t15 t16 t17 t18 t19 t20 t21 t22 t23 t24 t25 t26 t27 t28 t29 t30 t31 t32 t33 t34 t35 t36 t37 t38 t39 t40 t41 t42 t43 t44 t45 t46 t47 t48 t49 t50 t51 t52 t53 t54 t55 t56 t57 t58 t59 t60 t61 t62 t63 t64 t65 t66 t67 t68 t69 t70 t71 t72 t73 t74 t75 t76 t77 t78 t79 t80 t81 t82 t83 t84 t85 t86 t87 t88 t89 t90 t91 t92 : Value), n = pts.length - i → i ≤ pts.length → QE h q p c P m sv τ.1 → Far h s pts c q sv → AllIn τ.1.b pts → τ.1.b.h = hh → τ.1.out.length + 4 * n + 6 < 1000000 → τ.2 ≤ 3 → pts.length < 1000000 →
      (∀ (h' : Heap) (sv' : Value) (t2 t3 t4 t5 t6 t7 t8 t9 t10 t11 t12 t13 t14 t15 t16 t17 t18 t19 t20 t21 t22 t23 t24 t25 t26 t27 t28 t29 t30 t31 t32 t33 t34 t35 t36 t37 t38 t39 t40 t41 t42 t43 t44 t45 t46 t47 t48 t49 t50 t51 t52 t53 t54 t55 t56 t57 t58 t59 t60 t61 t62 t63 t64 t65 t66 t67 t68 t69 t70 t71 t72 t73 t74 t75 t76 t77 t78 t79 t80 t81 t82 t83 t84 t85 t86 t87 t88 t89 t90 t91 t92 : Value), QE h' q p c P m sv' (csteps P τ (pts.drop i)).1 → Stp h h' c q sv sv' → Ok tab R72 k #[ptr q, s, t2, t3, t4, t5, t6, t7, t8, t9, t10, t11, t12, t13, t14, t15, t16, t17, t18, t19, t20, t21, t22, t23, t24, t25, t26, t27, t28, t29, t30, t31, t32, t33, t34, t35, t36, t37, t38, t39, t40, t41, t42, t43, t44, t45, t46, t47, t48, t49, t50, t51, t52, t53, t54, t55, t56, t57, t58, t59, t60, t61, t62, t63, t64, t65, t66, t67, t68, t69, t70, t71, t72, t73, t74, t75, t76, t77, t78, t79, t80, t81, t82, t83, t84, t85, t86, t87, t88, t89, t90, t91, t92] h' R) →
      Ok tab R72 (.inLoop L72_0 :: .inBlock 0 :: k) #[ptr q, s, .int .i64 hh, t3, t4, t5, .int .i64 τ.2, t7, t8, t9, t10, s, .int .i64 pts.length, .int .i64 i, t14, t15, t16, t17, t18, t19, t20, t21, t22, t23, t24, t25, t26, t27, t28, t29, t30, t31, t32, t33, t34, t35, t36, t37, t38, t39, t40, t41, t42, t43, t44, t45, t46, t47, t48, t49, t50, t51, t52, t53, t54, t55, t56, t57, t58, t59, t60, t61, t62, t63, t64, t65, t66, t67, t68, t69, t70, t71, t72, t73, t74, t75, t76, t77, t78, t79, t80, t81, t82, t83, t84, t85, t86, t87, t88, t89, t90, t91, t92] h R := by
  intro n
  induction n with
  | zero =>
    intro i h sv τ t3 t4 t5 t7 t8 t9 t10 t14 t15 t16 t17 t18 t19 t20 t21 t22 t23 t24 t25 t26 t27 t28 t29 t30 t31 t32 t33 t34 t35 t36 t37 t38 t39 t40 t41 t42 t43 t44 t45 t46 t47 t48 t49 t50 t51 t52 t53 t54 t55 t56 t57 t58 t59 t60 t61 t62 t63 t64 t65 t66 t67 t68 t69 t70 t71 t72 t73 t74 t75 t76 t77 t78 t79 t80 t81 t82 t83 t84 t85 t86 t87 t88 t89 t90 t91 t92 hm hi he hf ha hh' hl hsk hpl hk
    have hlt : ¬ ((i : Int) < pts.length) := by omega
    rw [ok_round, l72_0, L72_0a, L72_0b]
    simp [hlt]
    refine hk h sv _ _ _ _ _ _ _ _ _ _ _ _ _ _ _ _ _ _ _ _ _ _ _ _ _ _ _ _ _ _ _ _ _ _ _ _ _ _ _ _ _ _ _ _ _ _ _ _ _ _ _ _ _ _ _ _ _ _ _ _ _ _ _ _ _ _ _ _ _ _ _ _ _ _ _ _ _ _ _ _ _ _ _ _ _ _ _ _ _ _ _ ?_ (Stp.refl _ _ _ _)
    rw [List.drop_of_length_le (by omega)]; exact he
  | succ n ih =>
    intro i h sv τ t3 t4 t5 t7 t8 t9 t10 t14 t15 t16 t17 t18 t19 t20 t21 t22 t23 t24 t25 t26 t27 t28 t29 t30 t31 t32 t33 t34 t35 t36 t37 t38 t39 t40 t41 t42 t43 t44 t45 t46 t47 t48 t49 t50 t51 t52 t53 t54 t55 t56 t57 t58 t59 t60 t61 t62 t63 t64 t65 t66 t67 t68 t69 t70 t71 t72 t73 t74 t75 t76 t77 t78 t79 t80 t81 t82 t83 t84 t85 t86 t87 t88 t89 t90 t91 t92 hm hi he hf ha hh' hl hsk hpl hk
    obtain ⟨σ, sk⟩ := τ
    simp only at he ha hh' hl hsk
    have hlt : ((i : Int) < pts.length) := by omega
    have hw : IntKind.i64.wrap ((i : Int) + 1) = (i : Int) + 1 := wrapN (n := i + 1) (by omega)
    have hil : i < pts.length := by omega
    obtain ⟨id, off, blk, hs, hb, ht, hle⟩ := hf.get hil
    have hin := ha _ (List.getElem_mem hil)
    have hsp : ∀ υ, cstep P (σ, sk) (pts[i].1, pts[i].2) = υ → csteps P (σ, sk) (pts.drop i) = csteps P υ (pts.drop (i + 1)) := by
      intro υ hυ
      rw [List.drop_eq_getElem_cons hil, ← hυ]; rfl
    have hle1 := le_cstep (P := P) (τ := (σ, sk)) he.good (p := (pts[i].1, pts[i].2)) hin
    simp only at hle1
    generalize hx : pts[i].1 = x at *
    generalize hy : pts[i].2 = y at *
    have he2 := he.push (some ⟨false, [.int .i64 x, .int .i64 y]⟩)
    have hs2 := Stp.push h (some ⟨false, [.int .i64 x, .int .i64 y]⟩) c q sv
    have hf2 := hf.stp hs2
    have hK : ∀ y : Blk, blk? (h ++ [some y]) h.length = some y := fun y => blk?_push_eq
    obtain ⟨l1, l2, l3⟩ := he.lts
    obtain ⟨i1, i2, i3, i4⟩ := hin
    have hb2 := he.qr.cb.ok.h2
    -- on
    have hnext : ∀ (h' : Heap) (sv' : Value) (υ : ES × Nat) (t3 t4 t5 t7 t8 t9 t10 t14 t15 t16 t17 t18 t19 t20 t21 t22 t23 t24 t25 t26 t27 t28 t29 t30 t31 t32 t33 t34 t35 t36 t37 t38 t39 t40 t41 t42 t43 t44 t45 t46 t47 t48 t49 t50 t51 t52 t53 t54 t55 t56 t57 t58 t59 t60 t61 t62 t63 t64 t65 t66 t67 t68 t69 t70 t71 t72 t73 t74 t75 t76 t77 t78 t79 t80 t81 t82 t83 t84 t85 t86 t87 t88 t89 t90 t91 t92 : Value), cstep P (σ, sk) (x, y) = υ → QE h' q p c P m sv' υ.1 → Stp h h' c q sv sv' →
        Ok tab R72 (.inLoop L72_0 :: .inBlock 0 :: k) #[ptr q, s, .int .i64 hh, t3, t4, t5, .int .i64 υ.2, t7, t8, t9, t10, s, .int .i64 pts.length, .int .i64 ((i : Int) + 1), t14, t15, t16, t17, t18, t19, t20, t21, t22, t23, t24, t25, t26, t27, t28, t29, t30, t31, t32, t33, t34, t35, t36, t37, t38, t39, t40, t41, t42, t43, t44, t45, t46, t47, t48, t49, t50, t51, t52, t53, t54, t55, t56, t57, t58, t59, t60, t61, t62, t63, t64, t65, t66, t67, t68, t69, t70, t71, t72, t73, t74, t75, t76, t77, t78, t79, t80, t81, t82, t83, t84, t85, t86, t87, t88, t89, t90, t91, t92] h' R := by
      intro h' sv' υ t3 t4 t5 t7 t8 t9 t10 t14 t15 t16 t17 t18 t19 t20 t21 t22 t23 t24 t25 t26 t27 t28 t29 t30 t31 t32 t33 t34 t35 t36 t37 t38 t39 t40 t41 t42 t43 t44 t45 t46 t47 t48 t49 t50 t51 t52 t53 t54 t55 t56 t57 t58 t59 t60 t61 t62 t63 t64 t65 t66 t67 t68 t69 t70 t71 t72 t73 t74 t75 t76 t77 t78 t79 t80 t81 t82 t83 t84 t85 t86 t87 t88 t89 t90 t91 t92 hυ pe st
      rw [hυ] at hle1
      refine ih (i + 1) h' sv' υ _ _ _ _ _ _ _ _ _ _ _ _ _ _ _ _ _ _ _ _ _ _ _ _ _ _ _ _ _ _ _ _ _ _ _ _ _ _ _ _ _ _ _ _ _ _ _ _ _ _ _ _ _ _ _ _ _ _ _ _ _ _ _ _ _ _ _ _ _ _ _ _ _ _ _ _ _ _ _ _ _ _ _ _ _ _ (by omega) (by omega) pe (hf.stp st) (ha.le hle1.1) (hle1.1.h.trans hh') (by have := hle1.1.len; omega) (by have := hle1.2; omega) hpl ?_
      intro h'' sv'' t2 t3 t4 t5 t6 t7 t8 t9 t10 t11 t12 t13 t14 t15 t16 t17 t18 t19 t20 t21 t22 t23 t24 t25 t26 t27 t28 t29 t30 t31 t32 t33 t34 t35 t36 t37 t38 t39 t40 t41 t42 t43 t44 t45 t46 t47 t48 t49 t50 t51 t52 t53 t54 t55 t56 t57 t58 t59 t60 t61 t62 t63 t64 t65 t66 t67 t68 t69 t70 t71 t72 t73 t74 t75 t76 t77 t78 t79 t80 t81 t82 t83 t84 t85 t86 t87 t88 t89 t90 t91 t92 pe2 st2
      exact hk h'' sv'' _ _ _ _ _ _ _ _ _ _ _ _ _ _ _ _ _ _ _ _ _ _ _ _ _ _ _ _ _ _ _ _ _ _ _ _ _ _ _ _ _ _ _ _ _ _ _ _ _ _ _ _ _ _ _ _ _ _ _ _ _ _ _ _ _ _ _ _ _ _ _ _ _ _ _ _ _ _ _ _ _ _ _ _ _ _ _ _ _ _ _ (by rw [hsp υ hυ]; exact pe2) (st.trans st2)
    rw [ok_round, l72_0, L72_0a, L72_0b]
    cases sk with
    | succ sk =>
      have hsk0 : (0 : Int) < ((sk + 1 : Nat) : Int) := by omega
      have hskw : IntKind.i64.wrap (((sk + 1 : Nat) : Int) - 1) = (sk : Int) := by rw [wrapI (by omega) (by omega)]; omega
      generalize ((sk + 1 : Nat) : Int) = ski at *
      simp [-List.cons_append, -List.append_assoc, hlt, hw, hs, hb, ht, hle, hK, hsk0, hskw]
      rw [← hs]
      exact hnext _ sv (σ, sk) _ _ _ _ _ _ _ _ _ _ _ _ _ _ _ _ _ _ _ _ _ _ _ _ _ _ _ _ _ _ _ _ _ _ _ _ _ _ _ _ _ _ _ _ _ _ _ _ _ _ _ _ _ _ _ _ _ _ _ _ _ _ _ _ _ _ _ _ _ _ _ _ _ _ _ _ _ _ _ _ _ _ _ _ _ _ rfl he2 hs2
    | zero =>
      have hqt := fun R => quiet_r (R := R) (x := x) (y := y) he2.qr ⟨i1, i2, i3, i4⟩
      rw [hh'] at hqt
      have hq2 := he2.qr.blk
      have hcb2 := he2.qr.cb
      have hsig := fun R => significant_r (R := R) (x := x) (y := y) hcb2
      have htch := fun R => touched_r (R := R) (x := x) (y := y) hcb2
      cases hqq : quietR σ.b x y P.cz
      · rw [hqq] at hqt
        have hst : cstep P (σ, 0) (x, y) = (σ.cln1 P x y, 0) := by simp [cstep, hqq]
        cases hsg : (σ.b.get x y).s
        · cases htc : (σ.b.get x y).t
          · have h1 : σ.cln1 P x y = σ.code P x y := by unfold ES.cln1; rw [if_pos ⟨hsg, htc⟩]
            obtain ⟨sv3, h3, e3, p3, s3⟩ := code_r he2 (by omega) (x := x) (y := y) ⟨i1, i2, i3, i4⟩
            rw [hsg] at hsig; rw [htc] at htch
            simp [-List.cons_append, -List.append_assoc, k_guard, hlt, hw, hs, hb, ht, hle, hK, hqt, hq2, hsig, htch, e3]
            rw [← hs]
            exact hnext _ sv3 (σ.code P x y, 0) _ _ _ _ _ _ _ _ _ _ _ _ _ _ _ _ _ _ _ _ _ _ _ _ _ _ _ _ _ _ _ _ _ _ _ _ _ _ _ _ _ _ _ _ _ _ _ _ _ _ _ _ _ _ _ _ _ _ _ _ _ _ _ _ _ _ _ _ _ _ _ _ _ _ _ _ _ _ _ _ _ _ _ _ _ _ (by rw [hst, h1]) p3 (hs2.trans s3)
          · have h1 : σ.cln1 P x y = σ := by unfold ES.cln1; rw [if_neg (by simp [htc])]
            rw [hsg] at hsig; rw [htc] at htch
            simp [-List.cons_append, -List.append_assoc, k_guard, hlt, hw, hs, hb, ht, hle, hK, hqt, hq2, hsig, htch]
            rw [← hs]
            exact hnext _ sv (σ, 0) _ _ _ _ _ _ _ _ _ _ _ _ _ _ _ _ _ _ _ _ _ _ _ _ _ _ _ _ _ _ _ _ _ _ _ _ _ _ _ _ _ _ _ _ _ _ _ _ _ _ _ _ _ _ _ _ _ _ _ _ _ _ _ _ _ _ _ _ _ _ _ _ _ _ _ _ _ _ _ _ _ _ _ _ _ _ (by rw [hst, h1]) he2 hs2
        · have h1 : σ.cln1 P x y = σ := by unfold ES.cln1; rw [if_neg (by simp [hsg])]
          rw [hsg] at hsig
          simp [-List.cons_append, -List.append_assoc, k_guard, k_guardU, hlt, hw, hs, hb, ht, hle, hK, hqt, hq2, hsig]
          rw [← hs]
          exact hnext _ sv (σ, 0) _ _ _ _ _ _ _ _ _ _ _ _ _ _ _ _ _ _ _ _ _ _ _ _ _ _ _ _ _ _ _ _ _ _ _ _ _ _ _ _ _ _ _ _ _ _ _ _ _ _ _ _ _ _ _ _ _ _ _ _ _ _ _ _ _ _ _ _ _ _ _ _ _ _ _ _ _ _ _ _ _ _ _ _ _ _ (by rw [hst, h1]) he2 hs2
      · have htop := quietR_top hqq
        obtain ⟨sv3, h3, e3, p3, s3⟩ := runLength_r he2 (by omega) (x := x) (y := y) ⟨i1, i2⟩ ⟨i3, htop⟩
        obtain ⟨r1, r2, r3⟩ := le_run (P := P) he.good (x := x) (top := y) ⟨i1, i2, i3, i4⟩ htop
        have hst : cstep P (σ, 0) (x, y) = ((σ.run P x y).1, ((σ.run P x y).2 - y - 1).toNat) := by simp [cstep, hqq]
        have hrw : IntKind.i64.wrap ((σ.run P x y).2 - y - 1) = (((σ.run P x y).2 - y - 1).toNat : Int) := by rw [wrapI (by omega) (by omega)]; omega
        rw [hqq] at hqt
        generalize (σ.run P x y).2 - y = rl at *
        simp [-List.cons_append, -List.append_assoc, -Int.ofNat_toNat, hlt, hw, hs, hb, ht, hle, hK, hqt, hq2, e3, hrw]
        rw [← hs]
        exact hnext _ sv3 ((σ.run P x y).1, rl.toNat - 1) _ _ _ _ _ _ _ _ _ _ _ _ _ _ _ _ _ _ _ _ _ _ _ _ _ _ _ _ _ _ _ _ _ _ _ _ _ _ _ _ _ _ _ _ _ _ _ _ _ _ _ _ _ _ _ _ _ _ _ _ _ _ _ _ _ _ _ _ _ _ _ _ _ _ _ _ _ _ _ _ _ _ _ _ _ _ (by rw [hst, show (rl - 1).toNat = rl.toNat - 1 by omega]) p3 (hs2.trans s3)

theorem clear_loop_r {s : Value} {pts : List (Int × Int)} :
    ∀ (n i : Nat) (h : Heap) (sv : Value) (σ : ES) (t1 t2 t3 t4 t5 t6 t7 t8 t9 t10 t11 t12 t13 t14 t15 t16 t17 t18 t19 t20 t21 t22 t23 t24 t25 t26 t27 t28 t29 t30 t31 t32 t33 t34 t35 t36 t37 t38 t39 t40 t41 t42 t43 t44 t45 t46 t47 t48 t49 t50 t51 t52 t53 t54 t55 t56 t57 t58 t59 t60 t61 t62 t63 t67 t68 t69 t70 t71 t72 t73 t74 t75 t76 t77 t78 t79 t80 t81 t82 t83 t84 t85 t86 t87 t88 t89 t90 t91 t92 : Value), n = pts.length - i → i ≤ pts.length → QE h q p c P m sv σ → Far h s pts c q sv → AllIn σ.b pts → pts.length < 1000000 →
      (∀ (h' : Heap) (sv' : Value) (t1 t2 t3 t4 t5 t6 t7 t8 t9 t10 t11 t12 t13 t14 t15 t16 t17 t18 t19 t20 t21 t22 t23 t24 t25 t26 t27 t28 t29 t30 t31 t32 t33 t34 t35 t36 t37 t38 t39 t40 t41 t42 t43 t44 t45 t46 t47 t48 t49 t50 t51 t52 t53 t54 t55 t56 t57 t58 t59 t60 t61 t62 t63 t64 t65 t66 t67 t68 t69 t70 t71 t72 t73 t74 t75 t76 t77 t78 t79 t80 t81 t82 t83 t84 t85 t86 t87 t88 t89 t90 t91 t92 : Value), QE h' q p c P m sv' (σ.clear (pts.drop i)) → Stp h h' c q sv sv' → Ok tab R72 k #[ptr q, t1, t2, t3, t4, t5, t6, t7, t8, t9, t10, t11, t12, t13, t14, t15, t16, t17, t18, t19, t20, t21, t22, t23, t24, t25, t26, t27, t28, t29, t30, t31, t32, t33, t34, t35, t36, t37, t38, t39, t40, t41, t42, t43, t44, t45, t46, t47, t48, t49, t50, t51, t52, t53, t54, t55, t56, t57, t58, t59, t60, t61, t62, t63, t64, t65, t66, t67, t68, t69, t70, t71, t72, t73, t74, t75, t76, t77, t78, t79, t80, t81, t82, t83, t84, t85, t86, t87, t88, t89, t90, t91, t92] h' R) →
      Ok tab R72 (.inLoop L72_1 :: .inBlock 2 :: k) #[ptr q, t1, t2, t3, t4, t5, t6, t7, t8, t9, t10, t11, t12, t13, t14, t15, t16, t17, t18, t19, t20, t21, t22, t23, t24, t25, t26, t27, t28, t29, t30, t31, t32, t33, t34, t35, t36, t37, t38, t39, t40, t41, t42, t43, t44, t45, t46, t47, t48, t49, t50, t51, t52, t53, t54, t55, t56, t57, t58, t59, t60, t61, t62, t63, s, .int .i64 pts.length, .int .i64 i, t67, t68, t69, t70, t71, t72, t73, t74, t75, t76, t77, t78, t79, t80, t81, t82, t83, t84, t85, t86, t87, t88, t89, t90, t91, t92] h R := by
  intro n
  induction n with
  | zero =>
    intro i h sv σ t1 t2 t3 t4 t5 t6 t7 t8 t9 t10 t11 t12 t13 t14 t15 t16 t17 t18 t19 t20 t21 t22 t23 t24 t25 t26 t27 t28 t29 t30 t31 t32 t33 t34 t35 t36 t37 t38 t39 t40 t41 t42 t43 t44 t45 t46 t47 t48 t49 t50 t51 t52 t53 t54 t55 t56 t57 t58 t59 t60 t61 t62 t63 t67 t68 t69 t70 t71 t72 t73 t74 t75 t76 t77 t78 t79 t80 t81 t82 t83 t84 t85 t86 t87 t88 t89 t90 t91 t92 hm hi he hf ha hpl hk
    have hlt : ¬ ((i : Int) < pts.length) := by omega
    rw [ok_round, l72_1, L72_1a, L72_1b]
    simp [hlt]
    refine hk h sv _ _ _ _ _ _ _ _ _ _ _ _ _ _ _ _ _ _ _ _ _ _ _ _ _ _ _ _ _ _ _ _ _ _ _ _ _ _ _ _ _ _ _ _ _ _ _ _ _ _ _ _ _ _ _ _ _ _ _ _ _ _ _ _ _ _ _ _ _ _ _ _ _ _ _ _ _ _ _ _ _ _ _ _ _ _ _ _ _ _ _ _ ?_ (Stp.refl _ _ _ _)
    rw [List.drop_of_length_le (by omega)]; exact he
  | succ n ih =>
    intro i h sv σ t1 t2 t3 t4 t5 t6 t7 t8 t9 t10 t11 t12 t13 t14 t15 t16 t17 t18 t19 t20 t21 t22 t23 t24 t25 t26 t27 t28 t29 t30 t31 t32 t33 t34 t35 t36 t37 t38 t39 t40 t41 t42 t43 t44 t45 t46 t47 t48 t49 t50 t51 t52 t53 t54 t55 t56 t57 t58 t59 t60 t61 t62 t63 t67 t68 t69 t70 t71 t72 t73 t74 t75 t76 t77 t78 t79 t80 t81 t82 t83 t84 t85 t86 t87 t88 t89 t90 t91 t92 hm hi he hf ha hpl hk
    have hlt : ((i : Int) < pts.length) := by omega
    have hw : IntKind.i64.wrap ((i : Int) + 1) = (i : Int) + 1 := wrapN (n := i + 1) (by omega)
    have hil : i < pts.length := by omega
    obtain ⟨id, off, blk, hs, hb, ht, hle⟩ := hf.get hil
    have hin := ha _ (List.getElem_mem hil)
    have hsp : σ.clear (pts.drop i) = (σ.map pts[i].1 pts[i].2 (touch false)).clear (pts.drop (i + 1)) := by
      rw [List.drop_eq_getElem_cons hil]; rfl
    generalize hx : pts[i].1 = x at *
    generalize hy : pts[i].2 = y at *
    have he2 := he.push (some ⟨false, [.int .i64 x, .int .i64 y]⟩)
    have hs2 := Stp.push h (some ⟨false, [.int .i64 x, .int .i64 y]⟩) c q sv
    have hK : ∀ y : Blk, blk? (h ++ [some y]) h.length = some y := fun y => blk?_push_eq
    have hq2 := he2.qr.blk
    have htc := fun R => touch_r (R := R) (v := false) he2.qr.cb (x := x) (y := y) hin
    obtain ⟨p4, s4⟩ := he2.map (x := x) (y := y) hin (kv_touch false)
    have hmm : (fun z : Cell => ({ z with t := false } : Cell)) = touch false := rfl
    rw [hmm] at htc
    have hls : (h ++ [some (⟨false, [.int .i64 x, .int .i64 y]⟩ : Blk)]).set c (some ⟨false, encC (σ.b.upd x y (touch false)).cs⟩) = h.set c (some ⟨false, encC (σ.b.upd x y (touch false)).cs⟩) ++ [some ⟨false, [.int .i64 x, .int .i64 y]⟩] :=
      List.set_append_left _ _ he.lts.2.2
    rw [ok_round, l72_1, L72_1a, L72_1b]
    rw [hls] at htc p4 s4
    simp [-List.cons_append, -List.append_assoc, hlt, hw, hs, hb, ht, hle, hK, hq2, htc]
    rw [← hs]
    have st4 := hs2.trans s4
    refine ih (i + 1) _ sv _ _ _ _ _ _ _ _ _ _ _ _ _ _ _ _ _ _ _ _ _ _ _ _ _ _ _ _ _ _ _ _ _ _ _ _ _ _ _ _ _ _ _ _ _ _ _ _ _ _ _ _ _ _ _ _ _ _ _ _ _ _ _ _ _ _ _ _ _ _ _ _ _ _ _ _ _ _ _ _ _ _ _ _ _ _ _ _ _ _ (by omega) (by omega) p4 (hf.stp st4) (ha.le (le_map he.good hin (kv_touch false))) hpl ?_
    intro h' sv' t1 t2 t3 t4 t5 t6 t7 t8 t9 t10 t11 t12 t13 t14 t15 t16 t17 t18 t19 t20 t21 t22 t23 t24 t25 t26 t27 t28 t29 t30 t31 t32 t33 t34 t35 t36 t37 t38 t39 t40 t41 t42 t43 t44 t45 t46 t47 t48 t49 t50 t51 t52 t53 t54 t55 t56 t57 t58 t59 t60 t61 t62 t63 t64 t65 t66 t67 t68 t69 t70 t71 t72 t73 t74 t75 t76 t77 t78 t79 t80 t81 t82 t83 t84 t85 t86 t87 t88 t89 t90 t91 t92 pe st
    exact hk h' sv' _ _ _ _ _ _ _ _ _ _ _ _ _ _ _ _ _ _ _ _ _ _ _ _ _ _ _ _ _ _ _ _ _ _ _ _ _ _ _ _ _ _ _ _ _ _ _ _ _ _ _ _ _ _ _ _ _ _ _ _ _ _ _ _ _ _ _ _ _ _ _ _ _ _ _ _ _ _ _ _ _ _ _ _ _ _ _ _ _ _ _ _ (by rw [hsp]; exact pe) (st4.trans st)

theorem cleanup_r (he : QE h q p c P m sv σ) (hl : σ.out.length ≤ 1000) {s : Value} (hf : Far h s (scan σ.b.w σ.b.h) c q sv) :
    ∃ sv' h', (∀ R, Ret tab 72 [ptr q, s, .int .i64 σ.b.h] h R = R (.tuple #[]) h') ∧ QE h' q p c P m sv' (σ.clean P m.sy) ∧ Stp h h' c q sv sv' := by
  have key : Ret tab 72 [ptr q, s, .int .i64 σ.b.h] h fun v h' => v = .tuple #[] ∧ ∃ sv', QE h' q p c P m sv' (σ.clean P m.sy) ∧ Stp h h' c q sv sv' := by
    have hsl := scan_len he.qr.cb.ok.w2 he.qr.cb.ok.h2
    have hst : 12 * σ.b.w * stripesOf σ.b.h ≤ 12 * 64 * 16 := Nat.mul_le_mul (by have := he.qr.cb.ok.w2; omega) (by have := he.qr.cb.ok.h2; unfold stripesOf; omega)
    have g2 : 0 + 4 * ((stripesOf σ.b.h : Nat) : Int) ≤ σ.b.h + 3 := by unfold stripesOf; omega
    have hls := le_stripes (P := P) (n := stripesOf σ.b.h) he.good (top := 0) (by omega) g2
    obtain ⟨a, cc, hs⟩ := hf.sl.shape
    rw [enter72, show B72 = .seq (nthC 0 B72) (.seq (nthC 1 B72) (.seq (nthC 2 B72) (tlC 3 B72))) from rfl]
    generalize hT : tlC 3 B72 = tl
    simp only [nthC, tlC, fstC, B72]
    simp [hs]
    rw [← hs]
    refine clean_loop_r _ 0 h sv (σ, 0) _ _ _ _ _ _ _ _ _ _ _ _ _ _ _ _ _ _ _ _ _ _ _ _ _ _ _ _ _ _ _ _ _ _ _ _ _ _ _ _ _ _ _ _ _ _ _ _ _ _ _ _ _ _ _ _ _ _ _ _ _ _ _ _ _ _ _ _ _ _ _ _ _ _ _ _ _ _ _ _ _ _ _ _ _ _ rfl (by omega) he hf (scanIn σ.b) rfl (by simp only; omega) (by simp only; omega) (by omega) ?_
    intro h1 sv1 t2 t3 t4 t5 t6 t7 t8 t9 t10 t11 t12 t13 t14 t15 t16 t17 t18 t19 t20 t21 t22 t23 t24 t25 t26 t27 t28 t29 t30 t31 t32 t33 t34 t35 t36 t37 t38 t39 t40 t41 t42 t43 t44 t45 t46 t47 t48 t49 t50 t51 t52 t53 t54 t55 t56 t57 t58 t59 t60 t61 t62 t63 t64 t65 t66 t67 t68 t69 t70 t71 t72 t73 t74 t75 t76 t77 t78 t79 t80 t81 t82 t83 t84 t85 t86 t87 t88 t89 t90 t91 t92 p1 s1
    rw [List.drop_zero, csteps_all he.good] at p1
    simp only at p1
    have f1 := hf.stp s1
    have hall : AllIn (σ.stripes P 0 (stripesOf σ.b.h)).b (scan σ.b.w σ.b.h) := by have := scanIn (σ.stripes P 0 (stripesOf σ.b.h)).b; rwa [hls.w, hls.h] at this
    simp [hs]
    rw [← hs]
    refine clear_loop_r _ 0 h1 sv1 _ _ _ _ _ _ _ _ _ _ _ _ _ _ _ _ _ _ _ _ _ _ _ _ _ _ _ _ _ _ _ _ _ _ _ _ _ _ _ _ _ _ _ _ _ _ _ _ _ _ _ _ _ _ _ _ _ _ _ _ _ _ _ _ _ _ _ _ _ _ _ _ _ _ _ _ _ _ _ _ _ _ _ _ _ _ _ _ _ _ rfl (by omega) p1 f1 hall (by omega) ?_
    intro h3 sv3 t1 t2 t3 t4 t5 t6 t7 t8 t9 t10 t11 t12 t13 t14 t15 t16 t17 t18 t19 t20 t21 t22 t23 t24 t25 t26 t27 t28 t29 t30 t31 t32 t33 t34 t35 t36 t37 t38 t39 t40 t41 t42 t43 t44 t45 t46 t47 t48 t49 t50 t51 t52 t53 t54 t55 t56 t57 t58 t59 t60 t61 t62 t63 t64 t65 t66 t67 t68 t69 t70 t71 t72 t73 t74 t75 t76 t77 t78 t79 t80 t81 t82 t83 t84 t85 t86 t87 t88 t89 t90 t91 t92 p3 s3
    rw [List.drop_zero] at p3
    have hcl := le_clear hls.good hall
    have hlen : ((σ.stripes P 0 (stripesOf σ.b.h)).clear (scan σ.b.w σ.b.h)).out.length < 900000 := by have := hls.len; have := hcl.len; omega
    have hq3 := p3.qr.blk
    have hce : ∀ on, σ.clean P on = ((σ.stripes P 0 (stripesOf σ.b.h)).clear (scan σ.b.w σ.b.h)).check P on := fun _ => rfl
    rw [hce]
    generalize (σ.stripes P 0 (stripesOf σ.b.h)).clear (scan σ.b.w σ.b.h) = τ at *
    rw [← hT]
    simp only [tlC, B72]
    cases hon : m.sy
    · rw [hon] at hq3
      simp [hq3, fin72]
      exact ⟨sv3, p3, s1.trans s3⟩
    · rw [hon] at hq3
      obtain ⟨sv4, h4, e4, p4, s4⟩ := put_r p3 (by omega) 18 1
      obtain ⟨sv5, h5, e5, p5, s5⟩ := put_r p4 (by simp [ES.emit]; omega) 18 0
      obtain ⟨sv6, h6, e6, p6, s6⟩ := put_r p5 (by simp [ES.emit]; omega) 18 1
      obtain ⟨sv7, h7, e7, p7, s7⟩ := put_r p6 (by simp [ES.emit]; omega) 18 0
      simp only [Int.natCast_one, Int.natCast_zero] at e4 e5 e6 e7
      simp [hq3, e4, e5, e6, e7, fin72]
      exact ⟨sv7, p7, ((((s1.trans s3).trans s4).trans s5).trans s6).trans s7⟩
  obtain ⟨v, h', e, rfl, sv', pe, st⟩ := ret_ex key
  exact ⟨sv', h', e, pe, st⟩
end
end Go.Proofs.Ytlflfkdnpalhlaa
namespace Go.Proofs.Ytlflfkdnpalhlaa
open Go Go.Sim
set_option linter.unusedSimpArgs false
set_option linter.unusedVariables false

section
variable {h : Heap} {R : Value → Heap → Prop}
theorem validOrient_r {o : Int} : Ret tab 44 [.int .i64 o] h R = R (.bool (decide (0 ≤ o ∧ o ≤ 3))) h := by
  rw [enter44, B44]
  by_cases h0 : 0 ≤ o
  · by_cases h3 : o ≤ 3
    · simp [k_guard, h0, h3, fin44]
    · simp [k_guard, h0, h3, fin44]
  · simp [k_guard, h0, fin44]
theorem floorDiv3_r {n : Nat} (hn : n < 100000) : Ret tab 83 [.int .i64 n, .int .i64 3] h R = R (.int .i64 (n / 3 : Nat)) h := by
  have e2 : (n : Int).tdiv 3 = ((n / 3 : Nat) : Int) := rfl
  have e3 : (n : Int).tmod 3 = ((n % 3 : Nat) : Int) := rfl
  have e4 : IntKind.i64.wrap ((n / 3 : Nat) : Int) = ((n / 3 : Nat) : Int) := wrapN (by omega)
  have e5 : ¬ (((n % 3 : Nat) : Int) < 0) := by omega
  rw [enter83, B83]
  simp [-Int.natCast_ediv, -Int.natCast_emod, e2, e3, e4, e5, fin83]
theorem pass_r {n : Nat} (hn : n < 100000) : Ret tab 46 [.int .i64 n] h R = R (.tuple #[.int .i64 (planeOf n), .int .i64 (kindOf n)]) h := by
  have h1 : ¬ ((n : Int) < 0) := by omega
  rw [enter46, B46]
  by_cases h0 : n = 0
  · subst h0; simp [fin46, planeOf, kindOf]
  · have hn0 : ((n : Int) == 0) = false := by simp [h0]
    have e1 : IntKind.i64.wrap ((n : Int) - 1) = ((n - 1 : Nat) : Int) := by rw [wrapI (by omega) (by omega)]; omega
    have e3 : ((n - 1 : Nat) : Int).tmod 3 = (((n - 1) % 3 : Nat) : Int) := rfl
    have hf := fun R => floorDiv3_r (h := frz h) (R := R) (n := n - 1) (by omega)
    have e5 : IntKind.i64.wrap (1 + (((n - 1) / 3 : Nat) : Int)) = (((n - 1) / 3 + 1 : Nat) : Int) := by rw [wrapI (by omega) (by omega)]; omega
    have hp : planeOf n = (n - 1) / 3 + 1 := by unfold planeOf; rw [if_neg h0]
    have hk : kindOf n = (n - 1) % 3 := by unfold kindOf; rw [if_neg h0]
    rw [hp, hk]
    generalize hm : n - 1 = m at *
    generalize hd : m / 3 = d at *
    generalize hr : m % 3 = r at *
    simp [-Int.natCast_add, h1, hn0, e1, e3, hf, e5, fin46]
theorem raw_r {n : Nat} (hn : n < 100000) (m : MD) : Ret tab 45 [.int .i64 n, m.val] h R = R (.bool (rawOf m n)) h := by
  have hK : ∀ y : Blk, blk? (frz h ++ [some y]) h.length = some y := fun y => by
    have := blk?_push_eq (h := frz h) (x := some y)
    rwa [len_frz] at this
  have hp := fun h R => pass_r (h := h) (R := R) hn
  have hk : kindOf n = 0 ∨ kindOf n = 1 ∨ kindOf n = 2 := by unfold kindOf; split <;> omega
  rw [enter45, B45]
  obtain ⟨b1, b2, b3, b4, b5⟩ := m
  by_cases h4 : 4 ≤ planeOf n
  · have h4' : (4 : Int) ≤ (planeOf n : Int) := by omega
    rcases hk with hk | hk | hk <;> cases b1 <;> simp [k_guard, k_guardU, MD.val, hp, hk, hK, h4, h4', fin45, rawOf]
  · have h4' : ¬ (4 : Int) ≤ (planeOf n : Int) := by omega
    rcases hk with hk | hk | hk <;> cases b1 <;> simp [k_guard, k_guardU, MD.val, hp, hk, hK, h4, h4', fin45, rawOf]
end

section
variable {h : Heap} {p c : Nat} {b : BS}

/-- The points of a block, made. -/
theorem QE.scan {q : Nat} {P : PP} {m : MD} {sv : Value} {σ : ES} (he : QE h q p c P m sv σ) : ∃ s h', (∀ R, Ret tab 69 [.int .i64 σ.b.w, .int .i64 σ.b.h] h R = R s h') ∧ QE h' q p c P m sv σ ∧ Stp h h' c q sv sv ∧ Far h' s (scan σ.b.w σ.b.h) c q sv := by
  have ho := he.qr.cb.ok
  obtain ⟨l1, l2, l3⟩ := he.lts
  obtain ⟨s, h', e, m'⟩ := scan_r ho.w1 ho.w2 ho.h1 ho.h2 h
  refine ⟨s, h', e, he.low m'.low m'.len, Stp.low m'.low m'.len c q sv, ⟨m'.own.sl, fun id hid => ?_⟩⟩
  have h1 := m'.far id hid
  refine ⟨?_, by omega, by omega, fun e => by have := he.own.lt e; omega⟩
  rcases m'.own.2 with ⟨rfl, _⟩ | ⟨id', rfl, hb⟩
  · simp [sid] at hid
  · simp [sid] at hid; subst hid; exact blk?_lt hb

theorem run_r (hb : CB h false p c b) (hr : b.Rng) (n planes o : Int) (m : MD) :
    ∃ sv h', (∀ R, Ret tab 36 [ptr p, .int .i64 n, .int .i64 planes, .int .i64 o, m.val] h R = R (.tuple #[sv, .int .i64 (runErr n planes o)]) h') ∧ RunRes h h' p c sv (runOut m b n planes o) := by
  have key : Ret tab 36 [ptr p, .int .i64 n, .int .i64 planes, .int .i64 o, m.val] h fun v h' => ∃ sv, v = .tuple #[sv, .int .i64 (runErr n planes o)] ∧ RunRes h h' p c sv (runOut m b n planes o) := by
    have hb1 : CB (h ++ [some ⟨false, [.bool m.byp, .bool m.res, .bool m.rst, .bool m.cz, .bool m.sy]⟩]) false p c b := ⟨blk?_push hb.blkp, blk?_push hb.blkc, hb.ok⟩
    have hsz := fun R => size_r (R := R) hb1
    have hw0 := hb.ok.w1
    have hw0' : ((b.w : Int) == 0) = false := by simp; omega
    have hnone : runErr n planes o ≠ 0 → ∀ h', (∀ id, id < h.length → blk? h' id = blk? h id) → h.length ≤ h'.length → RunRes h h' p c (.slice none 0 0) (runOut m b n planes o) := by
      intro he h' hk hl
      unfold runOut
      rw [if_neg he]
      exact RunRes.nothing hb hr hk hl
    have hkp : ∀ x : Option Blk, ∀ id, id < h.length → blk? (h ++ [x]) id = blk? h id := fun x id hid => blk?_push_lt hid
    rw [enter36, show B36 = .seq (nthC 0 B36) (.seq (nthC 1 B36) (.seq (nthC 2 B36) (.seq (nthC 3 B36) (.seq (nthC 4 B36) (tlC 5 B36))))) from rfl]
    generalize hT : tlC 5 B36 = tl
    simp only [nthC, tlC, fstC, B36]
    obtain ⟨byp, res, rst, cz, sy⟩ := m
    simp only [MD.val] at *
    by_cases h1 : planes < 1
    · have he := runErr_lo (n := n) (o := o) (.inl h1 : planes < 1 ∨ 60 < planes ∨ n < 0 ∨ 3 * planes - 3 < n)
      simp [k_guard, k_guardU, hsz, hw0', h1, fin36]
      exact ⟨_, ⟨rfl, he.symm⟩, hnone (by rw [he]; decide) _ (hkp _) (by simp)⟩
    by_cases h2 : 60 < planes
    · have he := runErr_lo (n := n) (o := o) (.inr (.inl h2) : planes < 1 ∨ 60 < planes ∨ n < 0 ∨ 3 * planes - 3 < n)
      simp [k_guard, k_guardU, hsz, hw0', h1, h2, fin36]
      exact ⟨_, ⟨rfl, he.symm⟩, hnone (by rw [he]; decide) _ (hkp _) (by simp)⟩
    by_cases h3 : n < 0
    · have he := runErr_lo (n := n) (o := o) (.inr (.inr (.inl h3)) : planes < 1 ∨ 60 < planes ∨ n < 0 ∨ 3 * planes - 3 < n)
      simp [k_guard, k_guardU, hsz, hw0', h1, h2, h3, fin36]
      exact ⟨_, ⟨rfl, he.symm⟩, hnone (by rw [he]; decide) _ (hkp _) (by simp)⟩
    have hm1 : IntKind.i64.wrap (3 * planes) = 3 * planes := wrapI (by omega) (by omega)
    have hm2 : IntKind.i64.wrap (3 * planes - 3) = 3 * planes - 3 := wrapI (by omega) (by omega)
    by_cases h4 : 3 * planes - 3 < n
    · have he := runErr_lo (n := n) (o := o) (.inr (.inr (.inr h4)) : planes < 1 ∨ 60 < planes ∨ n < 0 ∨ 3 * planes - 3 < n)
      simp [k_guard, k_guardU, hsz, hw0', h1, h2, h3, hm1, hm2, h4, fin36]
      exact ⟨_, ⟨rfl, he.symm⟩, hnone (by rw [he]; decide) _ (hkp _) (by simp)⟩
    by_cases h5 : 0 ≤ o ∧ o ≤ 3
    case neg =>
      have he : runErr n planes o = 3 := by unfold runErr; rw [if_neg (by omega), if_pos (by omega)]
      have hd : decide (0 ≤ o ∧ o ≤ 3) = false := by simp [h5]
      simp [-decide_eq_false_iff_not, -Bool.decide_and, k_guard, k_guardU, hsz, hw0', h1, h2, h3, hm1, hm2, h4, validOrient_r, hd, fin36]
      exact ⟨_, ⟨rfl, he.symm⟩, hnone (by rw [he]; decide) _ (hkp _) (by simp)⟩
    have hd : decide (0 ≤ o ∧ o ≤ 3) = true := by simp [h5]
    simp [-decide_eq_true_eq, -Bool.decide_and, k_guard, k_guardU, hsz, hw0', h1, h2, h3, hm1, hm2, h4, validOrient_r, hd]
    have he : runErr n planes o = 0 := by unfold runErr; rw [if_neg (by omega), if_neg (by omega)]
    rw [he]
    unfold runOut
    rw [if_pos he]
    obtain ⟨n, rfl⟩ := Int.eq_ofNat_of_zero_le (show 0 ≤ n by omega)
    obtain ⟨planes, rfl⟩ := Int.eq_ofNat_of_zero_le (show 0 ≤ planes by omega)
    obtain ⟨o, rfl⟩ := Int.eq_ofNat_of_zero_le (show 0 ≤ o by omega)
    have hp := fun h R => pass_r (h := h) (R := R) (n := n) (by omega)
    have hrw := fun h R => raw_r (h := h) (R := R) (n := n) (by omega) ⟨byp, res, rst, cz, sy⟩
    have hpl := planeOf_le (n := n) (planes := planes) (by omega) (by omega)
    have e1 : IntKind.i64.wrap ((planes : Int) - 1) = ((planes - 1 : Nat) : Int) := by rw [wrapI (by omega) (by omega)]; omega
    have e2 : IntKind.i64.wrap (((planes - 1 : Nat) : Int) - (planeOf n : Int)) = ((planes - 1 - planeOf n : Nat) : Int) := by rw [wrapI (by omega) (by omega)]; omega
    rw [← hT, show tlC 5 B36 = .seq (nthC 5 B36) (.seq (nthC 6 B36) (tlC 7 B36)) from rfl]
    generalize hT3 : tlC 7 B36 = tl3
    simp only [nthC, tlC, fstC, B36]
    simp only [MD.val] at hrw
    have hlp := blk?_lt hb.blkp
    have hlc := blk?_lt hb.blkc
    simp [hp, hrw, e1, e2, app_len, app_add, app_zero, app_succ, app_set, app_setk, book, logOf, addLog, chk1, lookL, reload]
    generalize hP : runPP ⟨byp, res, rst, cz, sy⟩ n planes o = P
    have hPs : P.s = planes - 1 - planeOf n := by rw [← hP]; rfl
    have hPo : P.o = o := by rw [← hP]; rfl
    have hPc : P.cz = cz := by rw [← hP]; rfl
    have hPr : P.rw = rawOf ⟨byp, res, rst, cz, sy⟩ n := by rw [← hP]; rfl
    have hk : kindOf n = 0 ∨ kindOf n = 1 ∨ kindOf n = 2 := by unfold kindOf; split <;> omega
    have hrs : runSt ⟨byp, res, rst, cz, sy⟩ b n planes o = if kindOf n = 0 then ES.sigs P ⟨b, []⟩ (scan b.w b.h) else if kindOf n = 1 then ES.refs P ⟨b, []⟩ (scan b.w b.h) else ES.clean P ⟨b, []⟩ sy := by
      unfold runSt; rw [hP]
    rw [hrs, ← hPr, ← hPs, ← hPo, ← hPc]
    generalize hH : h ++ [some (⟨false, [.bool byp, .bool res, .bool rst, .bool P.cz, .bool sy]⟩ : Blk),
      some ⟨false, [ptr p, .int .i64 P.s, .int .i64 P.o, .bool byp, .bool res, .bool rst, .bool P.cz, .bool sy, .bool P.rw, .slice none 0 0]⟩] = H
    have hlow : ∀ id, id < h.length → blk? H id = blk? h id := fun id hid => by rw [← hH]; exact app_lt hid
    have hHl : H.length = h.length + 2 := by rw [← hH]; simp
    have he : QE H (h.length + 1) p c P ⟨byp, res, rst, P.cz, sy⟩ (.slice none 0 0) ⟨b, []⟩ := by
      refine ⟨⟨by rw [← hH, app_add]; rfl, ⟨by rw [hlow _ hlp]; exact hb.blkp, by rw [hlow _ hlc]; exact hb.blkc, hb.ok⟩, by simp, ⟨by rw [hPs]; omega, by rw [hPo]; omega⟩, hr⟩, OwnS.nil _ _, ?_, ?_⟩
      · have := hb.ne; omega
      · simp [sid]
    obtain ⟨s, H1, es, he1, st1, f1⟩ := he.scan
    simp only at es f1
    -- what is left
    have fin : ∀ (σ : ES) (sv' : Value) (H' : Heap), QE H' (h.length + 1) p c P ⟨byp, res, rst, P.cz, sy⟩ sv' σ → Stp H H' c (h.length + 1) (.slice none 0 0) sv' → RunRes h H' p c sv' σ := by
      intro σ sv' H' pe st
      refine ⟨pe.qr.cb, pe.good, pe.own, fun id hid => ?_, fun id hid hc => ?_, by have := st.len; omega⟩
      · rcases st.fresh id hid with h | h
        · simp [sid] at h
        · omega
      · rw [st.same id (by omega) hc (by omega) (by simp [sid]), hlow id hid]
    rw [← hT3]
    simp only [tlC, B36]
    rcases hk with hk | hk | hk
    · obtain ⟨sv', H', e, pe, st⟩ := significance_pr he1 (by simp) f1
      have hq' := pe.qr.blk
      simp [hk, es, e, hq', fin36]
      exact fin _ _ _ pe (st1.trans st)
    · obtain ⟨sv', H', e, pe, st⟩ := refinement_pr he1 (by simp) f1
      have hq' := pe.qr.blk
      simp [hk, es, e, hq', fin36]
      exact fin _ _ _ pe (st1.trans st)
    · obtain ⟨sv', H', e, pe, st⟩ := cleanup_r he1 (by simp) f1
      have hq' := pe.qr.blk
      simp only at e
      simp [hk, es, e, hq', fin36]
      exact fin _ _ _ pe (st1.trans st)
  obtain ⟨v, h', e, sv, rfl, rs⟩ := ret_ex key
  exact ⟨sv, h', e, rs⟩
end
end Go.Proofs.Ytlflfkdnpalhlaa
