import Derived.Test.YtlflfkdnpalhlaaShaP
/-! EncpassShape. -/
namespace Go.Proofs.Ytlflfkdnpalhlaa
open Go.Sim
open Go.RowKit
set_option linter.unusedVariables false
set_option linter.unusedSimpArgs false

structure Low (h0 h : Heap) : Prop where
  len : h0.length ≤ h.length
  low : ∀ id, id < h0.length → blk? h id = blk? h0 id
theorem Low.refl (h : Heap) : Low h h := ⟨Nat.le_refl _, fun _ _ => rfl⟩
theorem Low.push {h0 h : Heap} (l : Low h0 h) (x : List (Option Blk)) : Low h0 (h ++ x) :=
  ⟨by simp; have := l.len; omega, fun id hid => by rw [← l.low id hid]; have := l.len; simp only [blk?]; rw [List.getElem?_append_left (by omega)]⟩
theorem Low.blk {h0 h : Heap} (l : Low h0 h) {id : Nat} {b : Blk} (hb : blk? h0 id = some b) : blk? h id = some b := by rw [l.low id (blk?_lt hb)]; exact hb

theorem Syms.low {h0 h : Heap} {s : Value} {l : List (Int × Nat)} (lo : Low h0 h) (hs : Syms h0 s l) : Syms h s l := by
  obtain ⟨a, c, hsh⟩ := hs.sl.shape
  have hlt : ∀ id, sid s = some id → id < h0.length := by
    intro id hid
    have hb := hs.sb
    rw [hsh] at hid hb
    cases a with
    | none => simp [sid] at hid
    | some a => simp [sid] at hid; subst hid; simpa using hb
  refine ⟨hs.sl.of_sid fun id b _ hb => lo.blk hb, below_mono lo.len s hs.sb, fun id b hid hb => ?_⟩
  rw [lo.low id (hlt id hid)] at hb
  exact hs.bl id b hid hb
theorem encS_drop : ∀ (l : List (Int × Nat)) (j : Nat), encS (l.drop j) = (encS l).drop (j * 2)
  | l, 0 => by simp
  | [], j + 1 => by simp [encS]
  | p :: l, j + 1 => by rw [List.drop_succ_cons, encS_drop l j, encS, show (j + 1) * 2 = j * 2 + 1 + 1 by omega, List.drop_succ_cons, List.drop_succ_cons]
/-- The end of a row of symbols. -/
theorem Syms.drop {h : Heap} {id off n : Nat} {l : List (Int × Nat)} (hs : Syms h (.slice (some ⟨id, off, none⟩) n 2) l) {j : Nat} (hn : n = l.length) (hj : j ≤ l.length) : Syms h (.slice (some ⟨id, off + j * 2, none⟩) (n - j) 2) (l.drop j) := by
  subst hn
  have hsb := hs.sb
  refine ⟨⟨by rw [encS_len], .inr ⟨id, off + j * 2, by rw [List.length_drop], ?_⟩⟩, by simpa using hsb, fun id' b hid hb => hs.bl id' b (by simpa [sid] using hid) hb⟩
  obtain ⟨_, ⟨h1, _⟩ | ⟨id', off', h1, h2⟩⟩ := hs.sl
  · cases h1
  · simp only [Value.slice.injEq, Option.some.injEq, Addr.mk.injEq, and_true] at h1
    obtain ⟨rfl, rfl⟩ := h1
    rcases h2 with h2 | ⟨b, hb, hle, hc⟩
    · left; simp; omega
    · right
      refine ⟨b, hb, by simp; omega, ?_⟩
      rw [encS_drop, ← hc, List.drop_take, List.drop_drop, List.length_drop]
      congr 1; omega
section
variable {h0 : Heap} {R : Value → Heap → Prop}
set_option maxRecDepth 10000 in
set_option maxHeartbeats 1000000 in
theorem shape_in {B : Nat} {v v6 v52 v53 v54 : Value} {l : List (Int × Nat)} {raw : Bool} (hs : Syms h0 v l) (hl : l.length < 9000000000) (hall : ∀ p ∈ l, SymOk raw p) {k : List RItem}
    (hk : ∀ (h : Heap) (t0 t3 t4 t5 t9 t10 t11 t12 t13 t14 t15 t16 t17 t18 t19 t20 t21 t22 t23 t24 t25 t26 t27 t28 t29 t30 t31 t32 t33 t34 t35 t36 t37 t38 t39 t40 t41 t42 t43 t44 t45 t46 t47 t48 t49 t50 t51 t55 t56 t57 t58 t59 t60 t61 t62 t63 t64 t65 t66 t67 t68 t69 t70 t71 t72 t73 t74 t75 t76 t77 t78 t79 t80 t81 t82 t83 t84 t85 t86 t87 t88 t89 t90 t91 t92 t93 t94 t95 t96 t97 t98 t99 t100 t101 t102 t103 t104 t105 t106 t107 t108 t109 t110 t111 t112 t113 t114 t115 t116 t117 t118 t119 t120 t121 t122 t123 t124 t125 t126 t127 : Value), Low h0 h → Ok tab R10 k #[t0, ptr B, .bool false, t3, t4, t5, v6, v, .bool raw, t9, t10, t11, t12, t13, t14, t15, t16, t17, t18, t19, t20, t21, t22, t23, t24, t25, t26, t27, t28, t29, t30, t31, t32, t33, t34, t35, t36, t37, t38, t39, t40, t41, t42, t43, t44, t45, t46, t47, t48, t49, t50, t51, v52, v53, v54, t55, t56, t57, t58, t59, t60, t61, t62, t63, t64, t65, t66, t67, t68, t69, t70, t71, t72, t73, t74, t75, t76, t77, t78, t79, t80, t81, t82, t83, t84, t85, t86, t87, t88, t89, t90, t91, t92, t93, t94, t95, t96, t97, t98, t99, t100, t101, t102, t103, t104, t105, t106, t107, t108, t109, t110, t111, t112, t113, t114, t115, t116, t117, t118, t119, t120, t121, t122, t123, t124, t125, t126, t127] h R) :
    ∀ (n j : Nat) (h : Heap) (t0 t3 t4 t5 t9 t10 t11 t12 t13 t14 t15 t16 t17 t18 t19 t20 t21 t22 t23 t24 t25 t26 t27 t28 t29 t30 t31 t32 t33 t34 t35 t36 t37 t38 t39 t40 t41 t42 t43 t44 t45 t46 t47 t48 t49 t50 t51 t55 t56 t57 t58 t59 t60 t61 t62 t66 t67 t68 t69 t70 t71 t72 t73 t74 t75 t76 t77 t78 t79 t80 t81 t82 t83 t84 t85 t86 t87 t88 t89 t90 t91 t92 t93 t94 t95 t96 t97 t98 t99 t100 t101 t102 t103 t104 t105 t106 t107 t108 t109 t110 t111 t112 t113 t114 t115 t116 t117 t118 t119 t120 t121 t122 t123 t124 t125 t126 t127 : Value), n = l.length - j → j ≤ l.length → Low h0 h →
      Ok tab R10 (.inLoop L10_0 :: .inBlock 2 :: k) #[t0, ptr B, .bool false, t3, t4, t5, v6, v, .bool raw, t9, t10, t11, t12, t13, t14, t15, t16, t17, t18, t19, t20, t21, t22, t23, t24, t25, t26, t27, t28, t29, t30, t31, t32, t33, t34, t35, t36, t37, t38, t39, t40, t41, t42, t43, t44, t45, t46, t47, t48, t49, t50, t51, v52, v53, v54, t55, t56, t57, t58, t59, t60, t61, t62, v, .int .i64 l.length, .int .i64 j, t66, t67, t68, t69, t70, t71, t72, t73, t74, t75, t76, t77, t78, t79, t80, t81, t82, t83, t84, t85, t86, t87, t88, t89, t90, t91, t92, t93, t94, t95, t96, t97, t98, t99, t100, t101, t102, t103, t104, t105, t106, t107, t108, t109, t110, t111, t112, t113, t114, t115, t116, t117, t118, t119, t120, t121, t122, t123, t124, t125, t126, t127] h R := by
  intro n
  induction n with
  | zero =>
    intro j h t0 t3 t4 t5 t9 t10 t11 t12 t13 t14 t15 t16 t17 t18 t19 t20 t21 t22 t23 t24 t25 t26 t27 t28 t29 t30 t31 t32 t33 t34 t35 t36 t37 t38 t39 t40 t41 t42 t43 t44 t45 t46 t47 t48 t49 t50 t51 t55 t56 t57 t58 t59 t60 t61 t62 t66 t67 t68 t69 t70 t71 t72 t73 t74 t75 t76 t77 t78 t79 t80 t81 t82 t83 t84 t85 t86 t87 t88 t89 t90 t91 t92 t93 t94 t95 t96 t97 t98 t99 t100 t101 t102 t103 t104 t105 t106 t107 t108 t109 t110 t111 t112 t113 t114 t115 t116 t117 t118 t119 t120 t121 t122 t123 t124 t125 t126 t127 hn hj lo
    have hlt : ¬ ((j : Int) < l.length) := by omega
    rw [ok_round, l10_0, L10_0a, L10_0b]
    simp [hlt]
    exact hk h _ _ _ _ _ _ _ _ _ _ _ _ _ _ _ _ _ _ _ _ _ _ _ _ _ _ _ _ _ _ _ _ _ _ _ _ _ _ _ _ _ _ _ _ _ _ _ _ _ _ _ _ _ _ _ _ _ _ _ _ _ _ _ _ _ _ _ _ _ _ _ _ _ _ _ _ _ _ _ _ _ _ _ _ _ _ _ _ _ _ _ _ _ _ _ _ _ _ _ _ _ _ _ _ _ _ _ _ _ _ _ _ _ _ _ _ _ _ _ _ lo
  | succ n ih =>
    intro j h t0 t3 t4 t5 t9 t10 t11 t12 t13 t14 t15 t16 t17 t18 t19 t20 t21 t22 t23 t24 t25 t26 t27 t28 t29 t30 t31 t32 t33 t34 t35 t36 t37 t38 t39 t40 t41 t42 t43 t44 t45 t46 t47 t48 t49 t50 t51 t55 t56 t57 t58 t59 t60 t61 t62 t66 t67 t68 t69 t70 t71 t72 t73 t74 t75 t76 t77 t78 t79 t80 t81 t82 t83 t84 t85 t86 t87 t88 t89 t90 t91 t92 t93 t94 t95 t96 t97 t98 t99 t100 t101 t102 t103 t104 t105 t106 t107 t108 t109 t110 t111 t112 t113 t114 t115 t116 t117 t118 t119 t120 t121 t122 t123 t124 t125 t126 t127 hn hj lo
    have hlt : ((j : Int) < l.length) := by omega
    have hia : j < l.length := by omega
    have hw : IntKind.i64.wrap ((j : Int) + 1) = ((j + 1 : Nat) : Int) := wrapN (n := j + 1) (by omega)
    obtain ⟨id, off, b, rfl, hb, ht, hle⟩ := hs.get hia
    have hb' := lo.blk hb
    have hok := hall _ (List.getElem_mem hia)
    have ih' := fun x t0 t3 t4 t5 t9 t10 t11 t12 t13 t14 t15 t16 t17 t18 t19 t20 t21 t22 t23 t24 t25 t26 t27 t28 t29 t30 t31 t32 t33 t34 t35 t36 t37 t38 t39 t40 t41 t42 t43 t44 t45 t46 t47 t48 t49 t50 t51 t55 t56 t57 t58 t59 t60 t61 t62 t66 t67 t68 t69 t70 t71 t72 t73 t74 t75 t76 t77 t78 t79 t80 t81 t82 t83 t84 t85 t86 t87 t88 t89 t90 t91 t92 t93 t94 t95 t96 t97 t98 t99 t100 t101 t102 t103 t104 t105 t106 t107 t108 t109 t110 t111 t112 t113 t114 t115 t116 t117 t118 t119 t120 t121 t122 t123 t124 t125 t126 t127 => ih (j + 1) (h ++ [x]) t0 t3 t4 t5 t9 t10 t11 t12 t13 t14 t15 t16 t17 t18 t19 t20 t21 t22 t23 t24 t25 t26 t27 t28 t29 t30 t31 t32 t33 t34 t35 t36 t37 t38 t39 t40 t41 t42 t43 t44 t45 t46 t47 t48 t49 t50 t51 t55 t56 t57 t58 t59 t60 t61 t62 t66 t67 t68 t69 t70 t71 t72 t73 t74 t75 t76 t77 t78 t79 t80 t81 t82 t83 t84 t85 t86 t87 t88 t89 t90 t91 t92 t93 t94 t95 t96 t97 t98 t99 t100 t101 t102 t103 t104 t105 t106 t107 t108 t109 t110 t111 t112 t113 t114 t115 t116 t117 t118 t119 t120 t121 t122 t123 t124 t125 t126 t127 (by omega) (by omega) (lo.push [x])
    rw [ok_round, l10_0, L10_0a, L10_0b]
    generalize l[j] = p at *
    obtain ⟨p1, p2⟩ := p
    obtain ⟨k1, k2, k3, k4⟩ := hok
    simp only at ht k1 k2 k3 k4
    generalize ((j + 1 : Nat) : Int) = w at *
    have g1 : ¬ p1 < -1 := by omega
    have g2 : ¬ 18 < p1 := by omega
    have hp2 : p2 = 0 ∨ p2 = 1 := by omega
    cases raw
    · have g3 : (p1 == -1) = false := by simpa using k4
      rcases hp2 with rfl | rfl
      · simp [-List.cons_append, -List.append_assoc, blk?_push_eq, hlt, hb', ht, hle, g1, g2, g3, hw, k_guard, k_guardU]
        exact ih' _ _ _ _ _ _ _ _ _ _ _ _ _ _ _ _ _ _ _ _ _ _ _ _ _ _ _ _ _ _ _ _ _ _ _ _ _ _ _ _ _ _ _ _ _ _ _ _ _ _ _ _ _ _ _ _ _ _ _ _ _ _ _ _ _ _ _ _ _ _ _ _ _ _ _ _ _ _ _ _ _ _ _ _ _ _ _ _ _ _ _ _ _ _ _ _ _ _ _ _ _ _ _ _ _ _ _ _ _ _ _ _ _ _ _ _ _ _
      · simp [-List.cons_append, -List.append_assoc, blk?_push_eq, hlt, hb', ht, hle, g1, g2, g3, hw, k_guard, k_guardU]
        exact ih' _ _ _ _ _ _ _ _ _ _ _ _ _ _ _ _ _ _ _ _ _ _ _ _ _ _ _ _ _ _ _ _ _ _ _ _ _ _ _ _ _ _ _ _ _ _ _ _ _ _ _ _ _ _ _ _ _ _ _ _ _ _ _ _ _ _ _ _ _ _ _ _ _ _ _ _ _ _ _ _ _ _ _ _ _ _ _ _ _ _ _ _ _ _ _ _ _ _ _ _ _ _ _ _ _ _ _ _ _ _ _ _ _ _ _ _ _ _
    · have g3 : p1 = -1 := by simpa using k4
      subst g3
      rcases hp2 with rfl | rfl
      · simp [-List.cons_append, -List.append_assoc, blk?_push_eq, hlt, hb', ht, hle, g1, g2, hw, k_guard, k_guardU]
        exact ih' _ _ _ _ _ _ _ _ _ _ _ _ _ _ _ _ _ _ _ _ _ _ _ _ _ _ _ _ _ _ _ _ _ _ _ _ _ _ _ _ _ _ _ _ _ _ _ _ _ _ _ _ _ _ _ _ _ _ _ _ _ _ _ _ _ _ _ _ _ _ _ _ _ _ _ _ _ _ _ _ _ _ _ _ _ _ _ _ _ _ _ _ _ _ _ _ _ _ _ _ _ _ _ _ _ _ _ _ _ _ _ _ _ _ _ _ _ _
      · simp [-List.cons_append, -List.append_assoc, blk?_push_eq, hlt, hb', ht, hle, g1, g2, hw, k_guard, k_guardU]
        exact ih' _ _ _ _ _ _ _ _ _ _ _ _ _ _ _ _ _ _ _ _ _ _ _ _ _ _ _ _ _ _ _ _ _ _ _ _ _ _ _ _ _ _ _ _ _ _ _ _ _ _ _ _ _ _ _ _ _ _ _ _ _ _ _ _ _ _ _ _ _ _ _ _ _ _ _ _ _ _ _ _ _ _ _ _ _ _ _ _ _ _ _ _ _ _ _ _ _ _ _ _ _ _ _ _ _ _ _ _ _ _ _ _ _ _ _ _ _ _

def chk : List (Int × Nat) := [(18, 1), (18, 0), (18, 1), (18, 0)]
theorem chk_syms {h : Heap} : Syms (h ++ [some ⟨false, [.int .i64 18, .int .i64 1, .int .i64 18, .int .i64 0, .int .i64 18, .int .i64 1, .int .i64 18, .int .i64 0]⟩]) (.slice (some ⟨h.length, 0, none⟩) 4 2) chk :=
  syms_own ⟨rfl, .inr ⟨h.length, rfl, blk?_push_eq⟩⟩
set_option maxRecDepth 10000 in
set_option maxHeartbeats 1000000 in
theorem shape_loop {B : Nat} {sv : Value} {vs : List Value} {ls : List (List (Int × Nat))} {w hh o : Int} {s t : Value} {m : MD} (hp : Pss h0 sv vs ls) (hsm : ∀ l ∈ ls, l.length < 9000000000) (hlen : ls.length < 1000)
    (hbox : blk? h0 B = some ⟨false, [.int .i64 w, .int .i64 hh, s, t, .int .i64 o, .bool m.byp, .bool m.res, .bool m.rst, .bool m.cz, .bool m.sy]⟩)
    (hok : ∀ (i : Nat) (hi : i < ls.length), (∀ p ∈ ls[i], SymOk (rawOf m i) p) ∧ (kindOf i = 2 → m.sy = true → ∃ l, ls[i] = l ++ chk)) {k : List RItem}
    (hk : ∀ (h : Heap) (t0 t3 t4 t5 t6 t7 t8 t9 t10 t11 t12 t13 t14 t15 t16 t17 t18 t19 t20 t21 t22 t23 t24 t25 t26 t27 t28 t29 t30 t31 t32 t33 t34 t35 t36 t37 t38 t39 t40 t41 t42 t43 t44 t45 t46 t47 t48 t49 t50 t51 t52 t53 t54 t55 t56 t57 t58 t59 t60 t61 t62 t63 t64 t65 t66 t67 t68 t69 t70 t71 t72 t73 t74 t75 t76 t77 t78 t79 t80 t81 t82 t83 t84 t85 t86 t87 t88 t89 t90 t91 t92 t93 t94 t95 t96 t97 t98 t99 t100 t101 t102 t103 t104 t105 t106 t107 t108 t109 t110 t111 t112 t113 t114 t115 t116 t117 t118 t119 t120 t121 t122 t123 t124 t125 t126 t127 : Value), Low h0 h → Ok tab R10 k #[t0, ptr B, .bool false, t3, t4, t5, t6, t7, t8, t9, t10, t11, t12, t13, t14, t15, t16, t17, t18, t19, t20, t21, t22, t23, t24, t25, t26, t27, t28, t29, t30, t31, t32, t33, t34, t35, t36, t37, t38, t39, t40, t41, t42, t43, t44, t45, t46, t47, t48, t49, t50, t51, t52, t53, t54, t55, t56, t57, t58, t59, t60, t61, t62, t63, t64, t65, t66, t67, t68, t69, t70, t71, t72, t73, t74, t75, t76, t77, t78, t79, t80, t81, t82, t83, t84, t85, t86, t87, t88, t89, t90, t91, t92, t93, t94, t95, t96, t97, t98, t99, t100, t101, t102, t103, t104, t105, t106, t107, t108, t109, t110, t111, t112, t113, t114, t115, t116, t117, t118, t119, t120, t121, t122, t123, t124, t125, t126, t127] h R) :
    ∀ (n i : Nat) (h : Heap) (t0 t3 t4 t5 t6 t7 t8 t9 t10 t11 t12 t13 t14 t15 t16 t17 t18 t19 t20 t21 t22 t23 t24 t25 t26 t27 t28 t29 t30 t31 t32 t33 t34 t35 t36 t37 t38 t39 t40 t41 t42 t43 t44 t45 t46 t47 t48 t49 t50 t51 t55 t56 t57 t58 t59 t60 t61 t62 t63 t64 t65 t66 t67 t68 t69 t70 t71 t72 t73 t74 t75 t76 t77 t78 t79 t80 t81 t82 t83 t84 t85 t86 t87 t88 t89 t90 t91 t92 t93 t94 t95 t96 t97 t98 t99 t100 t101 t102 t103 t104 t105 t106 t107 t108 t109 t110 t111 t112 t113 t114 t115 t116 t117 t118 t119 t120 t121 t122 t123 t124 t125 t126 t127 : Value), n = ls.length - i → i ≤ ls.length → Low h0 h →
      Ok tab R10 (.inLoop L10_1 :: .inBlock 0 :: k) #[t0, ptr B, .bool false, t3, t4, t5, t6, t7, t8, t9, t10, t11, t12, t13, t14, t15, t16, t17, t18, t19, t20, t21, t22, t23, t24, t25, t26, t27, t28, t29, t30, t31, t32, t33, t34, t35, t36, t37, t38, t39, t40, t41, t42, t43, t44, t45, t46, t47, t48, t49, t50, t51, sv, .int .i64 ls.length, .int .i64 i, t55, t56, t57, t58, t59, t60, t61, t62, t63, t64, t65, t66, t67, t68, t69, t70, t71, t72, t73, t74, t75, t76, t77, t78, t79, t80, t81, t82, t83, t84, t85, t86, t87, t88, t89, t90, t91, t92, t93, t94, t95, t96, t97, t98, t99, t100, t101, t102, t103, t104, t105, t106, t107, t108, t109, t110, t111, t112, t113, t114, t115, t116, t117, t118, t119, t120, t121, t122, t123, t124, t125, t126, t127] h R := by
  intro n
  induction n with
  | zero =>
    intro i h t0 t3 t4 t5 t6 t7 t8 t9 t10 t11 t12 t13 t14 t15 t16 t17 t18 t19 t20 t21 t22 t23 t24 t25 t26 t27 t28 t29 t30 t31 t32 t33 t34 t35 t36 t37 t38 t39 t40 t41 t42 t43 t44 t45 t46 t47 t48 t49 t50 t51 t55 t56 t57 t58 t59 t60 t61 t62 t63 t64 t65 t66 t67 t68 t69 t70 t71 t72 t73 t74 t75 t76 t77 t78 t79 t80 t81 t82 t83 t84 t85 t86 t87 t88 t89 t90 t91 t92 t93 t94 t95 t96 t97 t98 t99 t100 t101 t102 t103 t104 t105 t106 t107 t108 t109 t110 t111 t112 t113 t114 t115 t116 t117 t118 t119 t120 t121 t122 t123 t124 t125 t126 t127 hn hi lo
    have hlt : ¬ ((i : Int) < ls.length) := by omega
    rw [ok_round, l10_1, L10_1a, L10_1b]
    simp [hlt]
    exact hk h _ _ _ _ _ _ _ _ _ _ _ _ _ _ _ _ _ _ _ _ _ _ _ _ _ _ _ _ _ _ _ _ _ _ _ _ _ _ _ _ _ _ _ _ _ _ _ _ _ _ _ _ _ _ _ _ _ _ _ _ _ _ _ _ _ _ _ _ _ _ _ _ _ _ _ _ _ _ _ _ _ _ _ _ _ _ _ _ _ _ _ _ _ _ _ _ _ _ _ _ _ _ _ _ _ _ _ _ _ _ _ _ _ _ _ _ _ _ _ _ _ _ _ _ _ _ lo
  | succ n ih =>
    intro i h t0 t3 t4 t5 t6 t7 t8 t9 t10 t11 t12 t13 t14 t15 t16 t17 t18 t19 t20 t21 t22 t23 t24 t25 t26 t27 t28 t29 t30 t31 t32 t33 t34 t35 t36 t37 t38 t39 t40 t41 t42 t43 t44 t45 t46 t47 t48 t49 t50 t51 t55 t56 t57 t58 t59 t60 t61 t62 t63 t64 t65 t66 t67 t68 t69 t70 t71 t72 t73 t74 t75 t76 t77 t78 t79 t80 t81 t82 t83 t84 t85 t86 t87 t88 t89 t90 t91 t92 t93 t94 t95 t96 t97 t98 t99 t100 t101 t102 t103 t104 t105 t106 t107 t108 t109 t110 t111 t112 t113 t114 t115 t116 t117 t118 t119 t120 t121 t122 t123 t124 t125 t126 t127 hn hi lo
    have hia : i < ls.length := by omega
    have hiv : i < vs.length := by rw [hp.len]; exact hia
    have hlt : ((i : Int) < ls.length) := by omega
    have hltv : ((i : Int) < vs.length) := by omega
    have hw1 : IntKind.i64.wrap ((i : Int) + 1) = ((i + 1 : Nat) : Int) := wrapN (n := i + 1) (by omega)
    obtain ⟨id, off, b, rfl, hb, hcell⟩ := hp.get hiv
    have hb' := lo.blk hb
    have hbox' := lo.blk hbox
    have hsy := hp.each i hiv hia
    have hl := hsm _ (List.getElem_mem hia)
    obtain ⟨hok1, hok2⟩ := hok i hia
    have hraw := fun R => raw_r (h := h) (R := R) (n := i) (by omega) m
    have ih1 := fun H t0 t3 t4 t5 t6 t7 t8 t9 t10 t11 t12 t13 t14 t15 t16 t17 t18 t19 t20 t21 t22 t23 t24 t25 t26 t27 t28 t29 t30 t31 t32 t33 t34 t35 t36 t37 t38 t39 t40 t41 t42 t43 t44 t45 t46 t47 t48 t49 t50 t51 t55 t56 t57 t58 t59 t60 t61 t62 t63 t64 t65 t66 t67 t68 t69 t70 t71 t72 t73 t74 t75 t76 t77 t78 t79 t80 t81 t82 t83 t84 t85 t86 t87 t88 t89 t90 t91 t92 t93 t94 t95 t96 t97 t98 t99 t100 t101 t102 t103 t104 t105 t106 t107 t108 t109 t110 t111 t112 t113 t114 t115 t116 t117 t118 t119 t120 t121 t122 t123 t124 t125 t126 t127 => ih (i + 1) H t0 t3 t4 t5 t6 t7 t8 t9 t10 t11 t12 t13 t14 t15 t16 t17 t18 t19 t20 t21 t22 t23 t24 t25 t26 t27 t28 t29 t30 t31 t32 t33 t34 t35 t36 t37 t38 t39 t40 t41 t42 t43 t44 t45 t46 t47 t48 t49 t50 t51 t55 t56 t57 t58 t59 t60 t61 t62 t63 t64 t65 t66 t67 t68 t69 t70 t71 t72 t73 t74 t75 t76 t77 t78 t79 t80 t81 t82 t83 t84 t85 t86 t87 t88 t89 t90 t91 t92 t93 t94 t95 t96 t97 t98 t99 t100 t101 t102 t103 t104 t105 t106 t107 t108 t109 t110 t111 t112 t113 t114 t115 t116 t117 t118 t119 t120 t121 t122 t123 t124 t125 t126 t127 (by omega) (by omega)
    obtain ⟨a1, c1, hvsh⟩ := hsy.sl.shape
    simp only [MD.val] at hraw
    rw [ok_round, l10_1, L10_1a, L10_1b]
    generalize vs[i] = v at *
    generalize ls[i] = l at *
    simp [hlt, hltv, hb', hcell, hbox', hraw, hvsh]
    rw [← hvsh]
    refine shape_in hsy hl hok1 ?_ _ 0 h _ _ _ _ _ _ _ _ _ _ _ _ _ _ _ _ _ _ _ _ _ _ _ _ _ _ _ _ _ _ _ _ _ _ _ _ _ _ _ _ _ _ _ _ _ _ _ _ _ _ _ _ _ _ _ _ _ _ _ _ _ _ _ _ _ _ _ _ _ _ _ _ _ _ _ _ _ _ _ _ _ _ _ _ _ _ _ _ _ _ _ _ _ _ _ _ _ _ _ _ _ _ _ _ _ _ _ _ _ _ _ _ _ _ _ _ _ rfl (by omega) lo
    intro h1 t0 t3 t4 t5 t9 t10 t11 t12 t13 t14 t15 t16 t17 t18 t19 t20 t21 t22 t23 t24 t25 t26 t27 t28 t29 t30 t31 t32 t33 t34 t35 t36 t37 t38 t39 t40 t41 t42 t43 t44 t45 t46 t47 t48 t49 t50 t51 t55 t56 t57 t58 t59 t60 t61 t62 t63 t64 t65 t66 t67 t68 t69 t70 t71 t72 t73 t74 t75 t76 t77 t78 t79 t80 t81 t82 t83 t84 t85 t86 t87 t88 t89 t90 t91 t92 t93 t94 t95 t96 t97 t98 t99 t100 t101 t102 t103 t104 t105 t106 t107 t108 t109 t110 t111 t112 t113 t114 t115 t116 t117 t118 t119 t120 t121 t122 t123 t124 t125 t126 t127 lo1
    have hbox1 := lo1.blk hbox
    have hpass := fun H R => pass_r (h := H) (R := R) (n := i) (by omega)
    by_cases hsy1 : m.sy = true
    · rw [hsy1] at hbox1
      by_cases hk2 : kindOf i = 2
      · obtain ⟨l0, hl0⟩ := hok2 hk2 hsy1
        have hl4 : l.length = l0.length + 4 := by rw [hl0]; simp [chk]
        obtain ⟨id2, off2, b2, hv2, _, _⟩ := hsy.sl.get (i := 0) (by omega)
        have hd := Syms.drop (j := l0.length) (by rw [← hv2]; exact hsy.low lo1) rfl (by omega)
        have hdl : l.drop l0.length = chk := by rw [hl0]; simp
        rw [hdl, show l.length - l0.length = 4 by omega] at hd
        have hsame := fun R => sameSyms_r (R := R) (hd.low (Low.push (Low.refl h1) [some ⟨false, [.int .i64 18, .int .i64 1, .int .i64 18, .int .i64 0, .int .i64 18, .int .i64 1, .int .i64 18, .int .i64 0]⟩])) chk_syms (by decide)
        rw [hk2] at hpass
        generalize hn4 : l.length = n4 at *
        have hsub : IntKind.i64.wrap ((n4 : Int) - 4) = (l0.length : Int) := by rw [show (n4 : Int) - 4 = (l0.length : Int) by omega]; exact wrapN (by omega)
        have q1 : ¬ (n4 : Int) < 4 := by omega
        have q2 : l0.length ≤ n4 := by omega
        have q3 : n4 - l0.length = 4 := by omega
        have ih2 := fun x t0 t3 t4 t5 t6 t7 t8 t9 t10 t11 t12 t13 t14 t15 t16 t17 t18 t19 t20 t21 t22 t23 t24 t25 t26 t27 t28 t29 t30 t31 t32 t33 t34 t35 t36 t37 t38 t39 t40 t41 t42 t43 t44 t45 t46 t47 t48 t49 t50 t51 t55 t56 t57 t58 t59 t60 t61 t62 t63 t64 t65 t66 t67 t68 t69 t70 t71 t72 t73 t74 t75 t76 t77 t78 t79 t80 t81 t82 t83 t84 t85 t86 t87 t88 t89 t90 t91 t92 t93 t94 t95 t96 t97 t98 t99 t100 t101 t102 t103 t104 t105 t106 t107 t108 t109 t110 t111 t112 t113 t114 t115 t116 t117 t118 t119 t120 t121 t122 t123 t124 t125 t126 t127 => ih1 (h1 ++ [x]) t0 t3 t4 t5 t6 t7 t8 t9 t10 t11 t12 t13 t14 t15 t16 t17 t18 t19 t20 t21 t22 t23 t24 t25 t26 t27 t28 t29 t30 t31 t32 t33 t34 t35 t36 t37 t38 t39 t40 t41 t42 t43 t44 t45 t46 t47 t48 t49 t50 t51 t55 t56 t57 t58 t59 t60 t61 t62 t63 t64 t65 t66 t67 t68 t69 t70 t71 t72 t73 t74 t75 t76 t77 t78 t79 t80 t81 t82 t83 t84 t85 t86 t87 t88 t89 t90 t91 t92 t93 t94 t95 t96 t97 t98 t99 t100 t101 t102 t103 t104 t105 t106 t107 t108 t109 t110 t111 t112 t113 t114 t115 t116 t117 t118 t119 t120 t121 t122 t123 t124 t125 t126 t127 (lo1.push [x])
        have hsl : sliceV 2 (.slice (some ⟨id2, off2, none⟩) n4 2) (some (.int .i64 (l0.length : Int))) none = some (.slice (some ⟨id2, off2 + l0.length * 2, none⟩) 4 2) := by
          simp [sliceV, bndO, bnd, q2, q3]
        have hrep : repL [.int .i64 0, .int .i64 0] 4 = [.int .i64 0, .int .i64 0, .int .i64 0, .int .i64 0, .int .i64 0, .int .i64 0, .int .i64 0, .int .i64 0] := rfl
        subst hv2
        generalize ((i + 1 : Nat) : Int) = w2 at *
        simp [-List.cons_append, -List.append_assoc, hpass, hbox1, hsl, hrep, hsub, q1, q2, q3, hsame, hw1, k_guard, k_guardU]
        exact ih2 _ _ _ _ _ _ _ _ _ _ _ _ _ _ _ _ _ _ _ _ _ _ _ _ _ _ _ _ _ _ _ _ _ _ _ _ _ _ _ _ _ _ _ _ _ _ _ _ _ _ _ _ _ _ _ _ _ _ _ _ _ _ _ _ _ _ _ _ _ _ _ _ _ _ _ _ _ _ _ _ _ _ _ _ _ _ _ _ _ _ _ _ _ _ _ _ _ _ _ _ _ _ _ _ _ _ _ _ _ _ _ _ _ _ _ _ _ _ _ _ _ _ _ _
      · have hk2' : (((kindOf i : Nat) : Int) == 2) = false := by simp; omega
        generalize kindOf i = kd at *
        generalize ((i + 1 : Nat) : Int) = w2 at *
        simp [hpass, hbox1, hk2', hvsh, hw1, k_guard, k_guardU]
        rw [← hvsh]
        exact ih1 h1 _ _ _ _ _ _ _ _ _ _ _ _ _ _ _ _ _ _ _ _ _ _ _ _ _ _ _ _ _ _ _ _ _ _ _ _ _ _ _ _ _ _ _ _ _ _ _ _ _ _ _ _ _ _ _ _ _ _ _ _ _ _ _ _ _ _ _ _ _ _ _ _ _ _ _ _ _ _ _ _ _ _ _ _ _ _ _ _ _ _ _ _ _ _ _ _ _ _ _ _ _ _ _ _ _ _ _ _ _ _ _ _ _ _ _ _ _ _ _ _ _ _ _ lo1
    · rw [Bool.not_eq_true] at hsy1
      rw [hsy1] at hbox1
      generalize kindOf i = kd at *
      generalize ((i + 1 : Nat) : Int) = w2 at *
      simp [hpass, hbox1, hvsh, hw1, k_guard, k_guardU]
      exact ih1 h1 _ _ _ _ _ _ _ _ _ _ _ _ _ _ _ _ _ _ _ _ _ _ _ _ _ _ _ _ _ _ _ _ _ _ _ _ _ _ _ _ _ _ _ _ _ _ _ _ _ _ _ _ _ _ _ _ _ _ _ _ _ _ _ _ _ _ _ _ _ _ _ _ _ _ _ _ _ _ _ _ _ _ _ _ _ _ _ _ _ _ _ _ _ _ _ _ _ _ _ _ _ _ _ _ _ _ _ _ _ _ _ _ _ _ _ _ _ _ _ _ _ _ _ lo1
end
end Go.Proofs.Ytlflfkdnpalhlaa
