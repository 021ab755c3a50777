import Derived.Test.YtlflfkdnpalhlaaRun15
/-! EncpassRuns. -/
namespace Go.Proofs.Ytlflfkdnpalhlaa
open Go.Sim
open Go.RowKit
set_option linter.unusedVariables false
set_option linter.unusedSimpArgs false
section
variable {h0 : Heap} {R : Value → Heap → Prop}
set_option maxRecDepth 10000 in
set_option maxHeartbeats 1000000 in
theorem runs_loop {B p c p' c' w hh : Nat} {s t u1 u2 : Value} {o : Int} {m : MD} {ps qs : List Int} (hp : Ints h0 u1 ps) (hq : Ints h0 u2 qs) (hlen : qs.length = ps.length) (hl : ps.length ≤ 12) (hbox : blk? h0 B = some ⟨false, [.int .i64 w, .int .i64 hh, s, t, .int .i64 o, .bool m.byp, .bool m.res, .bool m.rst, .bool m.cz, .bool m.sy]⟩)
    (w2 : w ≤ 64) (hh2 : hh ≤ 64) {k : List RItem}
    (hk : ∀ (H : Heap) (b : BS) (t0 t4 t5 t9 t10 t11 t12 t13 t14 t15 t16 t17 t18 t19 t20 t21 t22 t23 t24 t25 t26 t27 t28 t29 t30 t31 t32 t33 t34 t35 t36 t37 t38 t39 t40 t41 t42 t43 t44 t45 t46 t47 t48 t49 t50 t51 t52 t53 t54 t55 t56 t57 t58 t59 t60 t61 t62 t63 t64 t65 t66 t67 t68 t69 t70 t71 t72 t73 t74 t75 t76 t77 t78 t79 t80 t81 t82 t83 t84 t85 t86 t87 t88 t89 t90 t91 t92 t93 t94 : Value), TwoB h0 H p c p' c' w hh b → Ok tab R7 k #[t0, u1, u2, ptr B, t4, t5, .bool false, ptr p, ptr p', t9, t10, t11, t12, t13, t14, t15, t16, t17, t18, t19, t20, t21, t22, t23, t24, t25, t26, t27, t28, t29, t30, t31, t32, t33, t34, t35, t36, t37, t38, t39, t40, t41, t42, t43, t44, t45, t46, t47, t48, t49, t50, t51, t52, t53, t54, t55, t56, t57, t58, t59, t60, t61, t62, t63, t64, t65, t66, t67, t68, t69, t70, t71, t72, t73, t74, t75, t76, t77, t78, t79, t80, t81, t82, t83, t84, t85, t86, t87, t88, t89, t90, t91, t92, t93, t94] H R) :
    ∀ (n i : Nat) (H : Heap) (b : BS) (t0 t4 t5 t9 t10 t11 t12 t13 t14 t15 t16 t17 t18 t19 t20 t21 t22 t23 t24 t25 t26 t27 t28 t29 t30 t31 t32 t33 t34 t35 t38 t39 t40 t41 t42 t43 t44 t45 t46 t47 t48 t49 t50 t51 t52 t53 t54 t55 t56 t57 t58 t59 t60 t61 t62 t63 t64 t65 t66 t67 t68 t69 t70 t71 t72 t73 t74 t75 t76 t77 t78 t79 t80 t81 t82 t83 t84 t85 t86 t87 t88 t89 t90 t91 t92 t93 t94 : Value), n = ps.length - i → i ≤ ps.length → TwoB h0 H p c p' c' w hh b →
      Ok tab R7 (.inLoop L7_0 :: .inBlock 0 :: k) #[t0, u1, u2, ptr B, t4, t5, .bool false, ptr p, ptr p', t9, t10, t11, t12, t13, t14, t15, t16, t17, t18, t19, t20, t21, t22, t23, t24, t25, t26, t27, t28, t29, t30, t31, t32, t33, t34, t35, .int .i64 ps.length, .int .i64 i, t38, t39, t40, t41, t42, t43, t44, t45, t46, t47, t48, t49, t50, t51, t52, t53, t54, t55, t56, t57, t58, t59, t60, t61, t62, t63, t64, t65, t66, t67, t68, t69, t70, t71, t72, t73, t74, t75, t76, t77, t78, t79, t80, t81, t82, t83, t84, t85, t86, t87, t88, t89, t90, t91, t92, t93, t94] H R := by
  intro n
  induction n with
  | zero =>
    intro i H b t0 t4 t5 t9 t10 t11 t12 t13 t14 t15 t16 t17 t18 t19 t20 t21 t22 t23 t24 t25 t26 t27 t28 t29 t30 t31 t32 t33 t34 t35 t38 t39 t40 t41 t42 t43 t44 t45 t46 t47 t48 t49 t50 t51 t52 t53 t54 t55 t56 t57 t58 t59 t60 t61 t62 t63 t64 t65 t66 t67 t68 t69 t70 t71 t72 t73 t74 t75 t76 t77 t78 t79 t80 t81 t82 t83 t84 t85 t86 t87 t88 t89 t90 t91 t92 t93 t94 hn hi tb
    have hlt : ¬ ((i : Int) < ps.length) := by omega
    rw [ok_round, l7_0, L7_0a, L7_0b]
    simp [hlt]
    exact hk H b _ _ _ _ _ _ _ _ _ _ _ _ _ _ _ _ _ _ _ _ _ _ _ _ _ _ _ _ _ _ _ _ _ _ _ _ _ _ _ _ _ _ _ _ _ _ _ _ _ _ _ _ _ _ _ _ _ _ _ _ _ _ _ _ _ _ _ _ _ _ _ _ _ _ _ _ _ _ _ _ _ _ _ _ _ _ _ _ _ tb
  | succ n ih =>
    intro i H b t0 t4 t5 t9 t10 t11 t12 t13 t14 t15 t16 t17 t18 t19 t20 t21 t22 t23 t24 t25 t26 t27 t28 t29 t30 t31 t32 t33 t34 t35 t38 t39 t40 t41 t42 t43 t44 t45 t46 t47 t48 t49 t50 t51 t52 t53 t54 t55 t56 t57 t58 t59 t60 t61 t62 t63 t64 t65 t66 t67 t68 t69 t70 t71 t72 t73 t74 t75 t76 t77 t78 t79 t80 t81 t82 t83 t84 t85 t86 t87 t88 t89 t90 t91 t92 t93 t94 hn hi tb
    have hlt : ((i : Int) < ps.length) := by omega
    have hia : i < ps.length := by omega
    have hib : i < qs.length := by omega
    have hltq : ((i : Int) < qs.length) := by omega
    have hw1 : IntKind.i64.wrap ((i : Int) + 1) = ((i + 1 : Nat) : Int) := wrapN (n := i + 1) (by omega)
    obtain ⟨id1, off1, b1, hs1, hb1, hc1⟩ := hp.get hia
    obtain ⟨id2, off2, b2, hs2, hb2, hc2⟩ := hq.get hib
    have up : ∀ {H : Heap}, (∀ id, id < h0.length → blk? H id = blk? h0 id) → ∀ {id : Nat} {x : Blk}, blk? h0 id = some x → blk? H id = some x := fun t _ _ hx => by rw [t _ (blk?_lt hx)]; exact hx
    obtain ⟨s1, H1, s2, H2, e1, e2, tb2, y1, y2, hln, lo1⟩ := runs_step tb ps[i] qs[i] o m
    have a1 := up tb.low hb1
    have a2 := up tb.low hb2
    have a3 := up tb.low hbox
    have c1 := up lo1 hb1
    have c2 := up lo1 hb2
    have c3 := up lo1 hbox
    have d3 := up tb2.low hbox
    have hsame := fun R => sameSyms_r (R := R) y1 y2 hln
    have hsm := fun R => same_eq (R := R) tb2.cb tb2.cb' (w := w) (hh := hh) (by omega) (by omega)
    have ih' := fun t0 t4 t5 t9 t10 t11 t12 t13 t14 t15 t16 t17 t18 t19 t20 t21 t22 t23 t24 t25 t26 t27 t28 t29 t30 t31 t32 t33 t34 t35 t38 t39 t40 t41 t42 t43 t44 t45 t46 t47 t48 t49 t50 t51 t52 t53 t54 t55 t56 t57 t58 t59 t60 t61 t62 t63 t64 t65 t66 t67 t68 t69 t70 t71 t72 t73 t74 t75 t76 t77 t78 t79 t80 t81 t82 t83 t84 t85 t86 t87 t88 t89 t90 t91 t92 t93 t94 => ih (i + 1) H2 _ t0 t4 t5 t9 t10 t11 t12 t13 t14 t15 t16 t17 t18 t19 t20 t21 t22 t23 t24 t25 t26 t27 t28 t29 t30 t31 t32 t33 t34 t35 t38 t39 t40 t41 t42 t43 t44 t45 t46 t47 t48 t49 t50 t51 t52 t53 t54 t55 t56 t57 t58 t59 t60 t61 t62 t63 t64 t65 t66 t67 t68 t69 t70 t71 t72 t73 t74 t75 t76 t77 t78 t79 t80 t81 t82 t83 t84 t85 t86 t87 t88 t89 t90 t91 t92 t93 t94 (by omega) (by omega) tb2
    rw [ok_round, l7_0, L7_0a, L7_0b]
    simp only [MD.val] at e1 e2
    generalize runOut m b ps[i] qs[i] o = σ at *
    generalize runErr ps[i] qs[i] o = er at *
    generalize ps[i] = pi at *
    generalize qs[i] = qi at *
    generalize ((i + 1 : Nat) : Int) = wi at *
    subst hs1
    subst hs2
    simp [hlt, hltq, a1, a2, a3, c1, c2, c3, d3, hc1, hc2, e1, e2, hsame, hsm, hw1, k_guard, k_guardU]
    exact ih' _ _ _ _ _ _ _ _ _ _ _ _ _ _ _ _ _ _ _ _ _ _ _ _ _ _ _ _ _ _ _ _ _ _ _ _ _ _ _ _ _ _ _ _ _ _ _ _ _ _ _ _ _ _ _ _ _ _ _ _ _ _ _ _ _ _ _ _ _ _ _ _ _ _ _ _ _ _ _ _ _ _ _ _ _ _ _
end
end Go.Proofs.Ytlflfkdnpalhlaa
