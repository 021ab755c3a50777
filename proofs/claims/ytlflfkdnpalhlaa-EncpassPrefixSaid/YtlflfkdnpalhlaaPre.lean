import Derived.Test.YtlflfkdnpalhlaaPln
/-! EncpassPrefix. -/
namespace Go.Proofs.Ytlflfkdnpalhlaa
open Go.Sim
open Go.RowKit
set_option linter.unusedVariables false
set_option linter.unusedSimpArgs false

def cutc (k : Nat) (xs : List Int) (i : Nat) : List Value := i64s ((xs.take i).map (cutv k) ++ List.replicate (xs.length - i) 0)
theorem cutc_len (k : Nat) (xs : List Int) (i : Nat) (hi : i ≤ xs.length) : (cutc k xs i).length = xs.length := by
  simp [cutc, i64s]; omega
theorem cutc_set (k : Nat) (xs : List Int) (i : Nat) (hi : i < xs.length) : (cutc k xs i).set i (.int .i64 (cutv k xs[i])) = cutc k xs (i + 1) := by
  have h1 : xs.length - i = (xs.length - (i + 1)) + 1 := by omega
  have h2 : xs.take (i + 1) = xs.take i ++ [xs[i]] := by rw [List.take_succ_eq_append_getElem hi]
  unfold cutc i64s
  rw [h1, h2, List.replicate_succ, List.map_append, List.map_append, List.map_append, List.map_append]
  rw [List.set_append_right _ _ (by simp; omega)]
  have h3 : i - (List.map (fun n => Value.int .i64 n) (List.map (cutv k) (List.take i xs))).length = 0 := by simp; omega
  rw [h3]
  simp
section
variable {h0 : Heap} {R : Value → Heap → Prop}
theorem cut_loop {B kk : Nat} {s v4 v5 : Value} {xs : List Int} (hi : Ints h0 s xs) (hr : ∀ v ∈ xs, inR v) (hkk : kk ≤ 60) (hl : xs.length ≤ 144) {k : List RItem}
    (hk : ∀ t0 t3 t7 t8 t9 t10 t11 t12 t13 t14 t15 t16 t17 t18 t19 t20 t21 t22 t23 t24 t25 t26 t27 t28 t29 t30 t31 t32 t33 t34 t35 t36 t37 t38 t39 t40 t41 t42 t43 t44 t45 t46 t47 t48 t49 t50 t51 t52 t53 t54 t55 t56 t57 t58 t59 t60 t61 t62 t63 t64 t65 t66 t67 t68 t69 t70 t71 t72 t73 t74 t75 t76 t77 t78 t79 t80 t81 t82 t83 t84 t85 t86 t87 t88 t89 t90 t91 t92 t93 t94 t95 t96 t97 t98 t99 t100 t101 t102 t103 t104 t105 t106 t107 t108 t109 t110 t111 t112 t113 t114 t115 t116 t117 t118 t119 t120 t121 t122 t123 t124 t125 t126 t127 t128 t129 t130 t131 t132 : Value, Ok tab R11 k #[t0, .int .i64 kk, ptr B, t3, v4, v5, .slice (some ⟨h0.length, 0, none⟩) xs.length 1, t7, t8, t9, t10, t11, t12, t13, t14, t15, t16, t17, t18, t19, t20, t21, t22, t23, t24, t25, t26, t27, t28, t29, t30, t31, t32, t33, t34, t35, t36, t37, t38, t39, t40, t41, t42, t43, t44, t45, t46, t47, t48, t49, t50, t51, t52, t53, t54, t55, t56, t57, t58, t59, t60, t61, t62, t63, t64, t65, t66, t67, t68, t69, t70, t71, t72, t73, t74, t75, t76, t77, t78, t79, t80, t81, t82, t83, t84, t85, t86, t87, t88, t89, t90, t91, t92, t93, t94, t95, t96, t97, t98, t99, t100, t101, t102, t103, t104, t105, t106, t107, t108, t109, t110, t111, t112, t113, t114, t115, t116, t117, t118, t119, t120, t121, t122, t123, t124, t125, t126, t127, t128, t129, t130, t131, t132] (h0 ++ [some ⟨false, cutc kk xs xs.length⟩]) R) :
    ∀ (n i : Nat) (t0 t3 t7 t8 t9 t10 t11 t12 t13 t14 t15 t16 t17 t18 t19 t20 t21 t22 t23 t24 t25 t26 t27 t28 t29 t30 t31 t32 t33 t34 t35 t36 t37 t38 t39 t40 t44 t45 t46 t47 t48 t49 t50 t51 t52 t53 t54 t55 t56 t57 t58 t59 t60 t61 t62 t63 t64 t65 t66 t67 t68 t69 t70 t71 t72 t73 t74 t75 t76 t77 t78 t79 t80 t81 t82 t83 t84 t85 t86 t87 t88 t89 t90 t91 t92 t93 t94 t95 t96 t97 t98 t99 t100 t101 t102 t103 t104 t105 t106 t107 t108 t109 t110 t111 t112 t113 t114 t115 t116 t117 t118 t119 t120 t121 t122 t123 t124 t125 t126 t127 t128 t129 t130 t131 t132 : Value), n = xs.length - i → i ≤ xs.length →
      Ok tab R11 (.inLoop L11_0 :: .inBlock 0 :: k) #[t0, .int .i64 kk, ptr B, t3, v4, v5, .slice (some ⟨h0.length, 0, none⟩) xs.length 1, t7, t8, t9, t10, t11, t12, t13, t14, t15, t16, t17, t18, t19, t20, t21, t22, t23, t24, t25, t26, t27, t28, t29, t30, t31, t32, t33, t34, t35, t36, t37, t38, t39, t40, s, .int .i64 xs.length, .int .i64 i, t44, t45, t46, t47, t48, t49, t50, t51, t52, t53, t54, t55, t56, t57, t58, t59, t60, t61, t62, t63, t64, t65, t66, t67, t68, t69, t70, t71, t72, t73, t74, t75, t76, t77, t78, t79, t80, t81, t82, t83, t84, t85, t86, t87, t88, t89, t90, t91, t92, t93, t94, t95, t96, t97, t98, t99, t100, t101, t102, t103, t104, t105, t106, t107, t108, t109, t110, t111, t112, t113, t114, t115, t116, t117, t118, t119, t120, t121, t122, t123, t124, t125, t126, t127, t128, t129, t130, t131, t132] (h0 ++ [some ⟨false, cutc kk xs i⟩]) R := by
  intro n
  induction n with
  | zero =>
    intro i t0 t3 t7 t8 t9 t10 t11 t12 t13 t14 t15 t16 t17 t18 t19 t20 t21 t22 t23 t24 t25 t26 t27 t28 t29 t30 t31 t32 t33 t34 t35 t36 t37 t38 t39 t40 t44 t45 t46 t47 t48 t49 t50 t51 t52 t53 t54 t55 t56 t57 t58 t59 t60 t61 t62 t63 t64 t65 t66 t67 t68 t69 t70 t71 t72 t73 t74 t75 t76 t77 t78 t79 t80 t81 t82 t83 t84 t85 t86 t87 t88 t89 t90 t91 t92 t93 t94 t95 t96 t97 t98 t99 t100 t101 t102 t103 t104 t105 t106 t107 t108 t109 t110 t111 t112 t113 t114 t115 t116 t117 t118 t119 t120 t121 t122 t123 t124 t125 t126 t127 t128 t129 t130 t131 t132 hn hi'
    have hlt : ¬ ((i : Int) < xs.length) := by omega
    have : i = xs.length := by omega
    subst this
    rw [ok_round, l11_0, L11_0a, L11_0b]
    simp
    exact hk _ _ _ _ _ _ _ _ _ _ _ _ _ _ _ _ _ _ _ _ _ _ _ _ _ _ _ _ _ _ _ _ _ _ _ _ _ _ _ _ _ _ _ _ _ _ _ _ _ _ _ _ _ _ _ _ _ _ _ _ _ _ _ _ _ _ _ _ _ _ _ _ _ _ _ _ _ _ _ _ _ _ _ _ _ _ _ _ _ _ _ _ _ _ _ _ _ _ _ _ _ _ _ _ _ _ _ _ _ _ _ _ _ _ _ _ _ _ _ _ _ _ _ _ _ _ _ _
  | succ n ih =>
    intro i t0 t3 t7 t8 t9 t10 t11 t12 t13 t14 t15 t16 t17 t18 t19 t20 t21 t22 t23 t24 t25 t26 t27 t28 t29 t30 t31 t32 t33 t34 t35 t36 t37 t38 t39 t40 t44 t45 t46 t47 t48 t49 t50 t51 t52 t53 t54 t55 t56 t57 t58 t59 t60 t61 t62 t63 t64 t65 t66 t67 t68 t69 t70 t71 t72 t73 t74 t75 t76 t77 t78 t79 t80 t81 t82 t83 t84 t85 t86 t87 t88 t89 t90 t91 t92 t93 t94 t95 t96 t97 t98 t99 t100 t101 t102 t103 t104 t105 t106 t107 t108 t109 t110 t111 t112 t113 t114 t115 t116 t117 t118 t119 t120 t121 t122 t123 t124 t125 t126 t127 t128 t129 t130 t131 t132 hn hi'
    have hlt : ((i : Int) < xs.length) := by omega
    have hia : i < xs.length := by omega
    have hw : IntKind.i64.wrap ((i : Int) + 1) = ((i + 1 : Nat) : Int) := wrapN (n := i + 1) (by omega)
    obtain ⟨id, off, b, rfl, hb, hc⟩ := hi.sl.get hia
    have hc := hc 0 (by omega)
    have hxi : (i64s xs)[i * 1 + 0]? = some (.int .i64 xs[i]) := by simp [i64s, hia]
    rw [hxi] at hc
    simp only [Nat.mul_one, Nat.add_zero] at hc
    have hb' : blk? (h0 ++ [some ⟨false, cutc kk xs i⟩]) id = some b := blk?_push hb
    have hrx := hr _ (List.getElem_mem hia)
    have hset := cutc_set kk xs i hia
    have hclen := cutc_len kk xs i hi'
    have hku : IntKind.u64.wrap (kk : Int) = kk := by rw [IntKind.wrap_u64]; omega
    have hk0 : ¬ ((kk : Int) < 0) := by omega
    have ih' := fun t0 t3 t7 t8 t9 t10 t11 t12 t13 t14 t15 t16 t17 t18 t19 t20 t21 t22 t23 t24 t25 t26 t27 t28 t29 t30 t31 t32 t33 t34 t35 t36 t37 t38 t39 t40 t44 t45 t46 t47 t48 t49 t50 t51 t52 t53 t54 t55 t56 t57 t58 t59 t60 t61 t62 t63 t64 t65 t66 t67 t68 t69 t70 t71 t72 t73 t74 t75 t76 t77 t78 t79 t80 t81 t82 t83 t84 t85 t86 t87 t88 t89 t90 t91 t92 t93 t94 t95 t96 t97 t98 t99 t100 t101 t102 t103 t104 t105 t106 t107 t108 t109 t110 t111 t112 t113 t114 t115 t116 t117 t118 t119 t120 t121 t122 t123 t124 t125 t126 t127 t128 t129 t130 t131 t132 => ih (i + 1) t0 t3 t7 t8 t9 t10 t11 t12 t13 t14 t15 t16 t17 t18 t19 t20 t21 t22 t23 t24 t25 t26 t27 t28 t29 t30 t31 t32 t33 t34 t35 t36 t37 t38 t39 t40 t44 t45 t46 t47 t48 t49 t50 t51 t52 t53 t54 t55 t56 t57 t58 t59 t60 t61 t62 t63 t64 t65 t66 t67 t68 t69 t70 t71 t72 t73 t74 t75 t76 t77 t78 t79 t80 t81 t82 t83 t84 t85 t86 t87 t88 t89 t90 t91 t92 t93 t94 t95 t96 t97 t98 t99 t100 t101 t102 t103 t104 t105 t106 t107 t108 t109 t110 t111 t112 t113 t114 t115 t116 t117 t118 t119 t120 t121 t122 t123 t124 t125 t126 t127 t128 t129 t130 t131 t132 (by omega) (by omega)
    rw [ok_round, l11_0, L11_0a, L11_0b]
    rw [← hset] at ih'
    generalize xs[i] = v at *
    generalize cutc kk xs i = cs at *
    generalize ((i + 1 : Nat) : Int) = w at *
    unfold inR at hrx
    by_cases hv : v < 0
    · obtain ⟨k1, k2, k3⟩ := cut_neg (k := kk) (by omega) hrx.1 hv
      simp [-List.cons_append, -List.append_assoc, blk?_push_eq, hlt, hb', hc, hv, k3, k1, hku, hk0, hw, hia, show i + 1 ≤ xs.length by omega, hclen]
      exact ih' _ _ _ _ _ _ _ _ _ _ _ _ _ _ _ _ _ _ _ _ _ _ _ _ _ _ _ _ _ _ _ _ _ _ _ _ _ _ _ _ _ _ _ _ _ _ _ _ _ _ _ _ _ _ _ _ _ _ _ _ _ _ _ _ _ _ _ _ _ _ _ _ _ _ _ _ _ _ _ _ _ _ _ _ _ _ _ _ _ _ _ _ _ _ _ _ _ _ _ _ _ _ _ _ _ _ _ _ _ _ _ _ _ _ _ _ _ _ _ _ _ _ _ _ _
    · have k1 := cut_pos (k := kk) (by omega) (by omega) hrx.2
      simp [-List.cons_append, -List.append_assoc, blk?_push_eq, hlt, hb', hc, hv, k1, hku, hk0, hw, hia, show i + 1 ≤ xs.length by omega, hclen]
      exact ih' _ _ _ _ _ _ _ _ _ _ _ _ _ _ _ _ _ _ _ _ _ _ _ _ _ _ _ _ _ _ _ _ _ _ _ _ _ _ _ _ _ _ _ _ _ _ _ _ _ _ _ _ _ _ _ _ _ _ _ _ _ _ _ _ _ _ _ _ _ _ _ _ _ _ _ _ _ _ _ _ _ _ _ _ _ _ _ _ _ _ _ _ _ _ _ _ _ _ _ _ _ _ _ _ _ _ _ _ _ _ _ _ _ _ _ _ _ _ _ _ _ _ _ _ _
end
end Go.Proofs.Ytlflfkdnpalhlaa
