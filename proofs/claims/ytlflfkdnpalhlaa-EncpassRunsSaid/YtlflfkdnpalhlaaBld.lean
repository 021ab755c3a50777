import Derived.Test.YtlflfkdnpalhlaaTwo
/-! 'build': two blocks with the same values and flags. -/
namespace Go.Proofs.Ytlflfkdnpalhlaa
open Go.Sim
open Go.RowKit
set_option linter.unusedVariables false
set_option linter.unusedSimpArgs false

theorem good_setV {b : BS} (hg : b.Good) {x y : Int} (hi : b.inb x y) {v : Int} (hv : inR v) : (b.upd x y fun z => { z with v := v }).Good := by
  refine ⟨hg.ok.upd x y _, fun x' y' => ?_⟩
  rw [BS.get_upd hg.ok hi]
  split
  · exact hv
  · exact hg.rng x' y'
section
variable {h0 : Heap} {R : Value → Heap → Prop}
set_option maxRecDepth 10000 in
set_option maxHeartbeats 4000000 in
theorem build_loop {B p c p' c' w hh : Nat} {s t v2 v3 o : Value} {xs zs : List Int} {m0 m1 m2 m3 m4 : Value} (hi : Ints h0 s xs) (ht : Sl h0 1 t zs.length (zs.map fun z => .int .u8 z)) (hbox : blk? h0 B = some ⟨false, [.int .i64 w, .int .i64 hh, s, t, o, m0, m1, m2, m3, m4]⟩)
    (w1 : 1 ≤ w) (w2 : w ≤ 64) (hh2 : hh ≤ 64) (hl : xs.length = w * hh) (hr : ∀ v ∈ xs, inR v) {k : List RItem}
    (hk : ∀ (H : Heap) (b : BS) (t0 t5 t7 t8 t9 t10 t11 t12 t13 t14 t15 t16 t17 t18 t19 t20 t21 t22 t23 t24 t25 t26 t27 t28 t29 t30 t31 t32 t33 t34 t35 t36 t37 t38 t39 t40 t41 t42 t43 t44 t45 t46 t47 t48 t49 t50 t51 t52 t53 t54 t55 t56 t57 t58 t59 t60 t61 t62 t63 t64 t65 t66 t67 t68 t69 t70 t71 t72 t73 t74 t75 t76 t77 t78 t79 t80 t81 t82 t83 t84 t85 t86 t87 t88 t89 t90 t91 t92 t93 t94 t95 t96 t97 t98 t99 t100 t101 t102 t103 t104 t105 t106 t107 t108 : Value), TwoB h0 H p c p' c' w hh b → Ok tab R34 k #[t0, ptr B, v2, v3, ptr p, t5, ptr p', t7, t8, t9, t10, t11, t12, t13, t14, t15, t16, t17, t18, t19, t20, t21, t22, t23, t24, t25, t26, t27, t28, t29, t30, t31, t32, t33, t34, t35, t36, t37, t38, t39, t40, t41, t42, t43, t44, t45, t46, t47, t48, t49, t50, t51, t52, t53, t54, t55, t56, t57, t58, t59, t60, t61, t62, t63, t64, t65, t66, t67, t68, t69, t70, t71, t72, t73, t74, t75, t76, t77, t78, t79, t80, t81, t82, t83, t84, t85, t86, t87, t88, t89, t90, t91, t92, t93, t94, t95, t96, t97, t98, t99, t100, t101, t102, t103, t104, t105, t106, t107, t108] H R) :
    ∀ (n i : Nat) (H : Heap) (b : BS) (t0 t5 t7 t8 t9 t10 t11 t12 t13 t14 t15 t16 t17 t18 t19 t20 t21 t22 t23 t24 t25 t26 t27 t28 t32 t33 t34 t35 t36 t37 t38 t39 t40 t41 t42 t43 t44 t45 t46 t47 t48 t49 t50 t51 t52 t53 t54 t55 t56 t57 t58 t59 t60 t61 t62 t63 t64 t65 t66 t67 t68 t69 t70 t71 t72 t73 t74 t75 t76 t77 t78 t79 t80 t81 t82 t83 t84 t85 t86 t87 t88 t89 t90 t91 t92 t93 t94 t95 t96 t97 t98 t99 t100 t101 t102 t103 t104 t105 t106 t107 t108 : Value), n = xs.length - i → i ≤ xs.length → TwoB h0 H p c p' c' w hh b →
      Ok tab R34 (.inLoop L34_0 :: .inBlock 0 :: k) #[t0, ptr B, v2, v3, ptr p, t5, ptr p', t7, t8, t9, t10, t11, t12, t13, t14, t15, t16, t17, t18, t19, t20, t21, t22, t23, t24, t25, t26, t27, t28, s, .int .i64 xs.length, .int .i64 i, t32, t33, t34, t35, t36, t37, t38, t39, t40, t41, t42, t43, t44, t45, t46, t47, t48, t49, t50, t51, t52, t53, t54, t55, t56, t57, t58, t59, t60, t61, t62, t63, t64, t65, t66, t67, t68, t69, t70, t71, t72, t73, t74, t75, t76, t77, t78, t79, t80, t81, t82, t83, t84, t85, t86, t87, t88, t89, t90, t91, t92, t93, t94, t95, t96, t97, t98, t99, t100, t101, t102, t103, t104, t105, t106, t107, t108] H R := by
  intro n
  have hm : w * hh ≤ 64 * 64 := Nat.mul_le_mul w2 hh2
  induction n with
  | zero =>
    intro i H b t0 t5 t7 t8 t9 t10 t11 t12 t13 t14 t15 t16 t17 t18 t19 t20 t21 t22 t23 t24 t25 t26 t27 t28 t32 t33 t34 t35 t36 t37 t38 t39 t40 t41 t42 t43 t44 t45 t46 t47 t48 t49 t50 t51 t52 t53 t54 t55 t56 t57 t58 t59 t60 t61 t62 t63 t64 t65 t66 t67 t68 t69 t70 t71 t72 t73 t74 t75 t76 t77 t78 t79 t80 t81 t82 t83 t84 t85 t86 t87 t88 t89 t90 t91 t92 t93 t94 t95 t96 t97 t98 t99 t100 t101 t102 t103 t104 t105 t106 t107 t108 hn hi' tb
    have hlt : ¬ ((i : Int) < xs.length) := by omega
    rw [ok_round, l34_0, L34_0a, L34_0b]
    simp [hlt]
    exact hk H b _ _ _ _ _ _ _ _ _ _ _ _ _ _ _ _ _ _ _ _ _ _ _ _ _ _ _ _ _ _ _ _ _ _ _ _ _ _ _ _ _ _ _ _ _ _ _ _ _ _ _ _ _ _ _ _ _ _ _ _ _ _ _ _ _ _ _ _ _ _ _ _ _ _ _ _ _ _ _ _ _ _ _ _ _ _ _ _ _ _ _ _ _ _ _ _ _ _ _ _ _ _ _ _ tb
  | succ n ih =>
    intro i H b t0 t5 t7 t8 t9 t10 t11 t12 t13 t14 t15 t16 t17 t18 t19 t20 t21 t22 t23 t24 t25 t26 t27 t28 t32 t33 t34 t35 t36 t37 t38 t39 t40 t41 t42 t43 t44 t45 t46 t47 t48 t49 t50 t51 t52 t53 t54 t55 t56 t57 t58 t59 t60 t61 t62 t63 t64 t65 t66 t67 t68 t69 t70 t71 t72 t73 t74 t75 t76 t77 t78 t79 t80 t81 t82 t83 t84 t85 t86 t87 t88 t89 t90 t91 t92 t93 t94 t95 t96 t97 t98 t99 t100 t101 t102 t103 t104 t105 t106 t107 t108 hn hi' tb
    have hlt : ((i : Int) < xs.length) := by omega
    have hil : i < xs.length := by omega
    have hw : IntKind.i64.wrap ((i : Int) + 1) = ((i + 1 : Nat) : Int) := wrapN (n := i + 1) (by omega)
    obtain ⟨a0, c0, hsh⟩ := hi.sl.shape
    obtain ⟨ta, tc, hth⟩ := ht.shape
    obtain ⟨id, off, bk, hs, hbk, hc⟩ := hi.get hil
    have low : ∀ {H : Heap} {b : BS}, TwoB h0 H p c p' c' w hh b → ∀ {id : Nat} {x : Blk}, blk? h0 id = some x → blk? H id = some x := fun t _ _ hx => by rw [t.low _ (blk?_lt hx)]; exact hx
    have hbk0 := low tb hbk
    have hbox0 := low tb hbox
    have hmod : (i : Int).tmod (w : Int) = ((i % w : Nat) : Int) := rfl
    have hdiv : (i : Int).tdiv (w : Int) = ((i / w : Nat) : Int) := rfl
    have hdw : IntKind.i64.wrap ((i / w : Nat) : Int) = ((i / w : Nat) : Int) := wrapN (by have := Nat.div_le_self i w; omega)
    have hw0 : ¬ w = 0 := by omega
    have inb : ∀ {b : BS}, b.w = w → b.h = hh → b.inb ((i % w : Nat) : Int) ((i / w : Nat) : Int) := by
      intro b e1 e2
      obtain ⟨a1, a2, a3, a4⟩ := inb_divmod (i := i) (h := hh) (w := w) (by omega) (by omega) b.cs
      exact ⟨a1, by rw [e1]; exact a2, a3, by rw [e2]; exact a4⟩
    have ih' := fun H b t0 t5 t7 t8 t9 t10 t11 t12 t13 t14 t15 t16 t17 t18 t19 t20 t21 t22 t23 t24 t25 t26 t27 t28 t32 t33 t34 t35 t36 t37 t38 t39 t40 t41 t42 t43 t44 t45 t46 t47 t48 t49 t50 t51 t52 t53 t54 t55 t56 t57 t58 t59 t60 t61 t62 t63 t64 t65 t66 t67 t68 t69 t70 t71 t72 t73 t74 t75 t76 t77 t78 t79 t80 t81 t82 t83 t84 t85 t86 t87 t88 t89 t90 t91 t92 t93 t94 t95 t96 t97 t98 t99 t100 t101 t102 t103 t104 t105 t106 t107 t108 => ih (i + 1) H b t0 t5 t7 t8 t9 t10 t11 t12 t13 t14 t15 t16 t17 t18 t19 t20 t21 t22 t23 t24 t25 t26 t27 t28 t32 t33 t34 t35 t36 t37 t38 t39 t40 t41 t42 t43 t44 t45 t46 t47 t48 t49 t50 t51 t52 t53 t54 t55 t56 t57 t58 t59 t60 t61 t62 t63 t64 t65 t66 t67 t68 t69 t70 t71 t72 t73 t74 t75 t76 t77 t78 t79 t80 t81 t82 t83 t84 t85 t86 t87 t88 t89 t90 t91 t92 t93 t94 t95 t96 t97 t98 t99 t100 t101 t102 t103 t104 t105 t106 t107 t108 (by omega) (by omega)
    have hin := hr _ (List.getElem_mem hil)
    have es1 := fun R => set_c (R := R) tb.cb (inb tb.bw tb.bh) hin
    have es2 := fun R => set_r (R := R) (tb.mid (some ⟨false, encC (b.upd ((i % w : Nat) : Int) ((i / w : Nat) : Int) fun z => { z with v := xs[i] }).cs⟩)) (inb tb.bw tb.bh) hin
    have tb1 := tb.upd (inb tb.bw tb.bh) (good_setV tb.good (inb tb.bw tb.bh) hin)
    have hbox1 := low tb1 hbox
    rw [ok_round, l34_0, L34_0a, L34_0b]
    generalize hX1 : (some (⟨false, encC (b.upd ((i % w : Nat) : Int) ((i / w : Nat) : Int) fun z => { z with v := xs[i] }).cs⟩ : Blk)) = X1 at *
    generalize (b.upd ((i % w : Nat) : Int) ((i / w : Nat) : Int) fun z => { z with v := xs[i] }) = b1 at *
    generalize hH1 : (H.set c X1).set c' X1 = H1 at *
    generalize xs[i] = v at *
    subst hs
    by_cases hfl : zs.length = xs.length
    · have hfl' : ((zs.length : Int) != xs.length) = false := by simp [hfl]
      have hzl : i < zs.length := by omega
      have hltz : ((i : Int) < zs.length) := by omega
      obtain ⟨idt, offt, bt, htsh, hbt, hct⟩ := ht.get hzl
      have hct := hct 0 (by omega)
      rw [show (zs.map fun z => Value.int .u8 z)[i * 1 + 0]? = some (.int .u8 zs[i]) by simp [hzl]] at hct
      simp only [Nat.mul_one, Nat.add_zero] at hct
      generalize zs[i] = z at *
      subst htsh
      have hbt1 := low tb1 hbt
      generalize ((i + 1 : Nat) : Int) = wi at *
      by_cases f0 : (andI .u8 z 1 != 0) = true
      · have ec2 := fun R => mark_c (R := R) tb1.cb (inb tb1.bw tb1.bh)
        have er2 := fun R => mark_r (R := R) (tb1.mid (some ⟨false, encC ((b1.upd ((i % w : Nat) : Int) ((i / w : Nat) : Int) (fun z => { z with s := true }))).cs⟩)) (inb tb1.bw tb1.bh)
        have tb2 : TwoB h0 _ p c p' c' w hh ((b1.upd ((i % w : Nat) : Int) ((i / w : Nat) : Int) (fun z => { z with s := true }))) := tb1.upd (inb tb1.bw tb1.bh) (tb1.good.upd (inb tb1.bw tb1.bh) kv_mark)
        have hbox2 := low tb2 hbox
        have hbt2 := low tb2 hbt
        generalize hX2 : (some (⟨false, encC ((b1.upd ((i % w : Nat) : Int) ((i / w : Nat) : Int) (fun z => { z with s := true }))).cs⟩ : Blk)) = X2 at *
        generalize ((b1.upd ((i % w : Nat) : Int) ((i / w : Nat) : Int) (fun z => { z with s := true }))) = b2 at *
        generalize hH2 : (H1.set c X2).set c' X2 = H2 at *
        by_cases f1 : (andI .u8 z 2 != 0) = true
        · have ec3 := fun R => touch_c (R := R) (v := true) tb2.cb (inb tb2.bw tb2.bh)
          have er3 := fun R => touch_r (R := R) (v := true) (tb2.mid (some ⟨false, encC ((b2.upd ((i % w : Nat) : Int) ((i / w : Nat) : Int) (fun z => { z with t := true }))).cs⟩)) (inb tb2.bw tb2.bh)
          have tb3 : TwoB h0 _ p c p' c' w hh ((b2.upd ((i % w : Nat) : Int) ((i / w : Nat) : Int) (fun z => { z with t := true }))) := tb2.upd (inb tb2.bw tb2.bh) (tb2.good.upd (inb tb2.bw tb2.bh) (kv_touch true))
          have hbox3 := low tb3 hbox
          have hbt3 := low tb3 hbt
          generalize hX3 : (some (⟨false, encC ((b2.upd ((i % w : Nat) : Int) ((i / w : Nat) : Int) (fun z => { z with t := true }))).cs⟩ : Blk)) = X3 at *
          generalize ((b2.upd ((i % w : Nat) : Int) ((i / w : Nat) : Int) (fun z => { z with t := true }))) = b3 at *
          generalize hH3 : (H2.set c X3).set c' X3 = H3 at *
          by_cases f2 : (andI .u8 z 4 != 0) = true
          · have ec4 := fun R => refine_c (R := R) tb3.cb (inb tb3.bw tb3.bh)
            have er4 := fun R => refine_r (R := R) (tb3.mid (some ⟨false, encC ((b3.upd ((i % w : Nat) : Int) ((i / w : Nat) : Int) (fun z => { z with r := true }))).cs⟩)) (inb tb3.bw tb3.bh)
            have tb4 : TwoB h0 _ p c p' c' w hh ((b3.upd ((i % w : Nat) : Int) ((i / w : Nat) : Int) (fun z => { z with r := true }))) := tb3.upd (inb tb3.bw tb3.bh) (tb3.good.upd (inb tb3.bw tb3.bh) kv_refine)
            have hbox4 := low tb4 hbox
            have hbt4 := low tb4 hbt
            generalize hX4 : (some (⟨false, encC ((b3.upd ((i % w : Nat) : Int) ((i / w : Nat) : Int) (fun z => { z with r := true }))).cs⟩ : Blk)) = X4 at *
            generalize ((b3.upd ((i % w : Nat) : Int) ((i / w : Nat) : Int) (fun z => { z with r := true }))) = b4 at *
            generalize hH4 : (H3.set c X4).set c' X4 = H4 at *
            simp [-Int.natCast_ediv, -Int.natCast_emod, hlt, hltz, hbk0, hc, hbox0, hmod, hdiv, hdw, hw0, es1, es2, hH1, hbox1, hbt1, hct, hfl', hw, f0, ec2, er2, hH2, hbox2, hbt2, f1, ec3, er3, hH3, hbox3, hbt3, f2, ec4, er4, hH4, hbox4, hbt4, k_guard]
            exact ih' H4 b4 _ _ _ _ _ _ _ _ _ _ _ _ _ _ _ _ _ _ _ _ _ _ _ _ _ _ _ _ _ _ _ _ _ _ _ _ _ _ _ _ _ _ _ _ _ _ _ _ _ _ _ _ _ _ _ _ _ _ _ _ _ _ _ _ _ _ _ _ _ _ _ _ _ _ _ _ _ _ _ _ _ _ _ _ _ _ _ _ _ _ _ _ _ _ _ _ _ _ _ _ _ tb4
          · rw [Bool.not_eq_true] at f2
            simp [-Int.natCast_ediv, -Int.natCast_emod, hlt, hltz, hbk0, hc, hbox0, hmod, hdiv, hdw, hw0, es1, es2, hH1, hbox1, hbt1, hct, hfl', hw, f0, ec2, er2, hH2, hbox2, hbt2, f1, ec3, er3, hH3, hbox3, hbt3, f2, k_guard]
            exact ih' H3 b3 _ _ _ _ _ _ _ _ _ _ _ _ _ _ _ _ _ _ _ _ _ _ _ _ _ _ _ _ _ _ _ _ _ _ _ _ _ _ _ _ _ _ _ _ _ _ _ _ _ _ _ _ _ _ _ _ _ _ _ _ _ _ _ _ _ _ _ _ _ _ _ _ _ _ _ _ _ _ _ _ _ _ _ _ _ _ _ _ _ _ _ _ _ _ _ _ _ _ _ _ _ tb3
        · rw [Bool.not_eq_true] at f1
          by_cases f2 : (andI .u8 z 4 != 0) = true
          · have ec4 := fun R => refine_c (R := R) tb2.cb (inb tb2.bw tb2.bh)
            have er4 := fun R => refine_r (R := R) (tb2.mid (some ⟨false, encC ((b2.upd ((i % w : Nat) : Int) ((i / w : Nat) : Int) (fun z => { z with r := true }))).cs⟩)) (inb tb2.bw tb2.bh)
            have tb4 : TwoB h0 _ p c p' c' w hh ((b2.upd ((i % w : Nat) : Int) ((i / w : Nat) : Int) (fun z => { z with r := true }))) := tb2.upd (inb tb2.bw tb2.bh) (tb2.good.upd (inb tb2.bw tb2.bh) kv_refine)
            have hbox4 := low tb4 hbox
            have hbt4 := low tb4 hbt
            generalize hX4 : (some (⟨false, encC ((b2.upd ((i % w : Nat) : Int) ((i / w : Nat) : Int) (fun z => { z with r := true }))).cs⟩ : Blk)) = X4 at *
            generalize ((b2.upd ((i % w : Nat) : Int) ((i / w : Nat) : Int) (fun z => { z with r := true }))) = b4 at *
            generalize hH4 : (H2.set c X4).set c' X4 = H4 at *
            simp [-Int.natCast_ediv, -Int.natCast_emod, hlt, hltz, hbk0, hc, hbox0, hmod, hdiv, hdw, hw0, es1, es2, hH1, hbox1, hbt1, hct, hfl', hw, f0, ec2, er2, hH2, hbox2, hbt2, f1, f2, ec4, er4, hH4, hbox4, hbt4, k_guard]
            exact ih' H4 b4 _ _ _ _ _ _ _ _ _ _ _ _ _ _ _ _ _ _ _ _ _ _ _ _ _ _ _ _ _ _ _ _ _ _ _ _ _ _ _ _ _ _ _ _ _ _ _ _ _ _ _ _ _ _ _ _ _ _ _ _ _ _ _ _ _ _ _ _ _ _ _ _ _ _ _ _ _ _ _ _ _ _ _ _ _ _ _ _ _ _ _ _ _ _ _ _ _ _ _ _ _ tb4
          · rw [Bool.not_eq_true] at f2
            simp [-Int.natCast_ediv, -Int.natCast_emod, hlt, hltz, hbk0, hc, hbox0, hmod, hdiv, hdw, hw0, es1, es2, hH1, hbox1, hbt1, hct, hfl', hw, f0, ec2, er2, hH2, hbox2, hbt2, f1, f2, k_guard]
            exact ih' H2 b2 _ _ _ _ _ _ _ _ _ _ _ _ _ _ _ _ _ _ _ _ _ _ _ _ _ _ _ _ _ _ _ _ _ _ _ _ _ _ _ _ _ _ _ _ _ _ _ _ _ _ _ _ _ _ _ _ _ _ _ _ _ _ _ _ _ _ _ _ _ _ _ _ _ _ _ _ _ _ _ _ _ _ _ _ _ _ _ _ _ _ _ _ _ _ _ _ _ _ _ _ _ tb2
      · rw [Bool.not_eq_true] at f0
        by_cases f1 : (andI .u8 z 2 != 0) = true
        · have ec3 := fun R => touch_c (R := R) (v := true) tb1.cb (inb tb1.bw tb1.bh)
          have er3 := fun R => touch_r (R := R) (v := true) (tb1.mid (some ⟨false, encC ((b1.upd ((i % w : Nat) : Int) ((i / w : Nat) : Int) (fun z => { z with t := true }))).cs⟩)) (inb tb1.bw tb1.bh)
          have tb3 : TwoB h0 _ p c p' c' w hh ((b1.upd ((i % w : Nat) : Int) ((i / w : Nat) : Int) (fun z => { z with t := true }))) := tb1.upd (inb tb1.bw tb1.bh) (tb1.good.upd (inb tb1.bw tb1.bh) (kv_touch true))
          have hbox3 := low tb3 hbox
          have hbt3 := low tb3 hbt
          generalize hX3 : (some (⟨false, encC ((b1.upd ((i % w : Nat) : Int) ((i / w : Nat) : Int) (fun z => { z with t := true }))).cs⟩ : Blk)) = X3 at *
          generalize ((b1.upd ((i % w : Nat) : Int) ((i / w : Nat) : Int) (fun z => { z with t := true }))) = b3 at *
          generalize hH3 : (H1.set c X3).set c' X3 = H3 at *
          by_cases f2 : (andI .u8 z 4 != 0) = true
          · have ec4 := fun R => refine_c (R := R) tb3.cb (inb tb3.bw tb3.bh)
            have er4 := fun R => refine_r (R := R) (tb3.mid (some ⟨false, encC ((b3.upd ((i % w : Nat) : Int) ((i / w : Nat) : Int) (fun z => { z with r := true }))).cs⟩)) (inb tb3.bw tb3.bh)
            have tb4 : TwoB h0 _ p c p' c' w hh ((b3.upd ((i % w : Nat) : Int) ((i / w : Nat) : Int) (fun z => { z with r := true }))) := tb3.upd (inb tb3.bw tb3.bh) (tb3.good.upd (inb tb3.bw tb3.bh) kv_refine)
            have hbox4 := low tb4 hbox
            have hbt4 := low tb4 hbt
            generalize hX4 : (some (⟨false, encC ((b3.upd ((i % w : Nat) : Int) ((i / w : Nat) : Int) (fun z => { z with r := true }))).cs⟩ : Blk)) = X4 at *
            generalize ((b3.upd ((i % w : Nat) : Int) ((i / w : Nat) : Int) (fun z => { z with r := true }))) = b4 at *
            generalize hH4 : (H3.set c X4).set c' X4 = H4 at *
            simp [-Int.natCast_ediv, -Int.natCast_emod, hlt, hltz, hbk0, hc, hbox0, hmod, hdiv, hdw, hw0, es1, es2, hH1, hbox1, hbt1, hct, hfl', hw, f0, f1, ec3, er3, hH3, hbox3, hbt3, f2, ec4, er4, hH4, hbox4, hbt4, k_guard]
            exact ih' H4 b4 _ _ _ _ _ _ _ _ _ _ _ _ _ _ _ _ _ _ _ _ _ _ _ _ _ _ _ _ _ _ _ _ _ _ _ _ _ _ _ _ _ _ _ _ _ _ _ _ _ _ _ _ _ _ _ _ _ _ _ _ _ _ _ _ _ _ _ _ _ _ _ _ _ _ _ _ _ _ _ _ _ _ _ _ _ _ _ _ _ _ _ _ _ _ _ _ _ _ _ _ _ tb4
          · rw [Bool.not_eq_true] at f2
            simp [-Int.natCast_ediv, -Int.natCast_emod, hlt, hltz, hbk0, hc, hbox0, hmod, hdiv, hdw, hw0, es1, es2, hH1, hbox1, hbt1, hct, hfl', hw, f0, f1, ec3, er3, hH3, hbox3, hbt3, f2, k_guard]
            exact ih' H3 b3 _ _ _ _ _ _ _ _ _ _ _ _ _ _ _ _ _ _ _ _ _ _ _ _ _ _ _ _ _ _ _ _ _ _ _ _ _ _ _ _ _ _ _ _ _ _ _ _ _ _ _ _ _ _ _ _ _ _ _ _ _ _ _ _ _ _ _ _ _ _ _ _ _ _ _ _ _ _ _ _ _ _ _ _ _ _ _ _ _ _ _ _ _ _ _ _ _ _ _ _ _ tb3
        · rw [Bool.not_eq_true] at f1
          by_cases f2 : (andI .u8 z 4 != 0) = true
          · have ec4 := fun R => refine_c (R := R) tb1.cb (inb tb1.bw tb1.bh)
            have er4 := fun R => refine_r (R := R) (tb1.mid (some ⟨false, encC ((b1.upd ((i % w : Nat) : Int) ((i / w : Nat) : Int) (fun z => { z with r := true }))).cs⟩)) (inb tb1.bw tb1.bh)
            have tb4 : TwoB h0 _ p c p' c' w hh ((b1.upd ((i % w : Nat) : Int) ((i / w : Nat) : Int) (fun z => { z with r := true }))) := tb1.upd (inb tb1.bw tb1.bh) (tb1.good.upd (inb tb1.bw tb1.bh) kv_refine)
            have hbox4 := low tb4 hbox
            have hbt4 := low tb4 hbt
            generalize hX4 : (some (⟨false, encC ((b1.upd ((i % w : Nat) : Int) ((i / w : Nat) : Int) (fun z => { z with r := true }))).cs⟩ : Blk)) = X4 at *
            generalize ((b1.upd ((i % w : Nat) : Int) ((i / w : Nat) : Int) (fun z => { z with r := true }))) = b4 at *
            generalize hH4 : (H1.set c X4).set c' X4 = H4 at *
            simp [-Int.natCast_ediv, -Int.natCast_emod, hlt, hltz, hbk0, hc, hbox0, hmod, hdiv, hdw, hw0, es1, es2, hH1, hbox1, hbt1, hct, hfl', hw, f0, f1, f2, ec4, er4, hH4, hbox4, hbt4, k_guard]
            exact ih' H4 b4 _ _ _ _ _ _ _ _ _ _ _ _ _ _ _ _ _ _ _ _ _ _ _ _ _ _ _ _ _ _ _ _ _ _ _ _ _ _ _ _ _ _ _ _ _ _ _ _ _ _ _ _ _ _ _ _ _ _ _ _ _ _ _ _ _ _ _ _ _ _ _ _ _ _ _ _ _ _ _ _ _ _ _ _ _ _ _ _ _ _ _ _ _ _ _ _ _ _ _ _ _ tb4
          · rw [Bool.not_eq_true] at f2
            simp [-Int.natCast_ediv, -Int.natCast_emod, hlt, hltz, hbk0, hc, hbox0, hmod, hdiv, hdw, hw0, es1, es2, hH1, hbox1, hbt1, hct, hfl', hw, f0, f1, f2, k_guard]
            exact ih' H1 b1 _ _ _ _ _ _ _ _ _ _ _ _ _ _ _ _ _ _ _ _ _ _ _ _ _ _ _ _ _ _ _ _ _ _ _ _ _ _ _ _ _ _ _ _ _ _ _ _ _ _ _ _ _ _ _ _ _ _ _ _ _ _ _ _ _ _ _ _ _ _ _ _ _ _ _ _ _ _ _ _ _ _ _ _ _ _ _ _ _ _ _ _ _ _ _ _ _ _ _ _ _ tb1
    · have hfl' : ((zs.length : Int) != xs.length) = true := by simp; omega
      generalize ((i + 1 : Nat) : Int) = wi at *
      simp [-Int.natCast_ediv, -Int.natCast_emod, hlt, hbk0, hc, hbox0, hmod, hdiv, hdw, hw0, es1, es2, hH1, hbox1, hth, hfl', hw, k_guard]
      exact ih' H1 b1 _ _ _ _ _ _ _ _ _ _ _ _ _ _ _ _ _ _ _ _ _ _ _ _ _ _ _ _ _ _ _ _ _ _ _ _ _ _ _ _ _ _ _ _ _ _ _ _ _ _ _ _ _ _ _ _ _ _ _ _ _ _ _ _ _ _ _ _ _ _ _ _ _ _ _ _ _ _ _ _ _ _ _ _ _ _ _ _ _ _ _ _ _ _ _ _ _ _ _ _ _ tb1
end
end Go.Proofs.Ytlflfkdnpalhlaa
