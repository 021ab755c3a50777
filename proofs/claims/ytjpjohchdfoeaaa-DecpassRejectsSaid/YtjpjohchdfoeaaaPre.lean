/-
  DecpassPrefix: the walk.
-/
import Derived.Test.YtjpjohchdfoeaaaRet
namespace Go.Proofs.Ytjpjohchdfoeaaa
open Go Go.Sim
set_option linter.unusedSimpArgs false
set_option linter.unusedVariables false

section
variable {h : Heap} {R : Value → Heap → Prop}
theorem max_loop2 {k : List RItem} {s v0 v2 : Value} {xs : List Int} (hi : Ints h s xs)
    (hk : ∀ t1 t4 t5 t6 t7 t8 t9 t10 t11 t12 t13 t14 t15 t16 t17 t18 t19 t20 t21 t22 t23 t24 t25 : Value, Ok tab R37 k #[v0, t1, v2, .int .i64 (planesOf xs), t4, t5, t6, t7, t8, t9, t10, t11, t12, t13, t14, t15, t16, t17, t18, t19, t20, t21, t22, t23, t24, t25] h R) :
    ∀ (n i : Nat) (t1 t4 t5 t9 t10 t11 t12 t13 t14 t15 t16 t17 t18 t19 t20 t21 t22 t23 t24 t25 : Value), n = xs.length - i → i ≤ xs.length → xs.length < 9223372036854775808 →
      Ok tab R37 (.inLoop L37_1 :: .inBlock 0 :: k) #[v0, t1, v2, .int .i64 (planesOf (xs.take i)), t4, t5, s, .int .i64 xs.length, .int .i64 i, t9, t10, t11, t12, t13, t14, t15, t16, t17, t18, t19, t20, t21, t22, t23, t24, t25] h R := by
  intro n
  have h64 := planes_64 hi
  induction n with
  | zero =>
    intro i t1 t4 t5 t9 t10 t11 t12 t13 t14 t15 t16 t17 t18 t19 t20 t21 t22 t23 t24 t25 hn hi' hl
    have hlt : ¬ ((i : Int) < xs.length) := by omega
    rw [ok_round, l37_1, L37_1a, L37_1b, List.take_of_length_le (by omega)]
    simp [hlt]
    exact hk _ _ _ _ _ _ _ _ _ _ _ _ _ _ _ _ _ _ _ _ _ _ _
  | succ n ih =>
    intro i t1 t4 t5 t9 t10 t11 t12 t13 t14 t15 t16 t17 t18 t19 t20 t21 t22 t23 t24 t25 hn hi' hl
    have hlt : ((i : Int) < xs.length) := by omega
    have hil : i < xs.length := by omega
    have hw : IntKind.i64.wrap ((i : Int) + 1) = ((i + 1 : Nat) : Int) := wrapN (n := i + 1) (by omega)
    obtain ⟨id, off, b, hs, hbk, hc⟩ := hi.get hil
    obtain ⟨r1, r2⟩ := hi.rng xs[i] (List.getElem_mem hil)
    have hp : planesOf (xs.take (i + 1)) = max (planesOf (xs.take i)) (blen xs[i].natAbs) := by
      rw [List.take_succ_eq_append_getElem hil, planesOf, planesOf, List.foldl_append]; rfl
    have hp64 : planesOf (xs.take (i + 1)) ≤ 64 := by
      rw [planes_le] at h64 ⊢
      exact fun v hv => h64 v (List.mem_of_mem_take hv)
    have ih' := ih (i + 1)
    rw [ok_round, l37_1, L37_1a, L37_1b]
    generalize hq : ((i + 1 : Nat) : Int) = q at *
    simp [hlt, hs, hbk, hc]
    rw [← hs]
    refine in_loop r1 r2 (planesOf (xs.take (i + 1))) ?_ (planesOf (xs.take (i + 1)) - planesOf (xs.take i)) (planesOf (xs.take i)) _ _ _ _ _ _ _ _ _ _ _ _ _ _ _ _ _ _ _ (by omega) hp hp64
    intro t1 t4 t5 t9 t10 t11 t12 t13 t14 t15 t16 t17 t18 t19 t20 t21 t22 t23 t24 t25
    simp [hw]
    exact ih' _ _ _ _ _ _ _ _ _ _ _ _ _ _ _ _ _ _ _ _ (by omega) (by omega) hl

theorem planes_r2 {s : Value} {xs : List Int} (hi : Ints h s xs) (hl : xs.length < 9223372036854775808) : Ret tab 37 [s] h R = R (.int .i64 (planesOf xs)) h := by
  obtain ⟨a, cc, hs⟩ := hi.sl.shape
  have key : Ret tab 37 [s] h fun v h' => v = .int .i64 (planesOf xs) ∧ h' = h := by
    rw [enter37, B37]
    refine ⟨by simp [hi.sb], ?_⟩
    simp [hs]
    rw [← hs]
    refine max_loop2 hi.frz ?_ _ 0 _ _ _ _ _ _ _ _ _ _ _ _ _ _ _ _ _ _ _ _ rfl (by omega) hl
    intro t1 t4 t5 t6 t7 t8 t9 t10 t11 t12 t13 t14 t15 t16 t17 t18 t19 t20 t21 t22 t23 t24 t25
    simp [fin37]
  obtain ⟨v, h', e, rfl, rfl⟩ := ret_ex key
  exact e R


theorem Pss.take {h : Heap} {id off n c : Nat} {vs : List Value} {ls : List (List (Int × Nat))} (hp : Pss h (.slice (some ⟨id, off, none⟩) n c) vs ls) {j : Nat} (hj : j ≤ ls.length) : Pss h (.slice (some ⟨id, off, none⟩) j c) (vs.take j) (ls.take j) := by
  have hv := hp.len
  have hsb := hp.sb
  obtain ⟨hl, ⟨h1, _⟩ | ⟨id', off', h1, h2⟩⟩ := hp.sl
  · cases h1
  · simp only [Value.slice.injEq, Option.some.injEq, Addr.mk.injEq, and_true] at h1
    obtain ⟨⟨rfl, rfl⟩, rfl, rfl⟩ := h1
    have hjl : (vs.take j).length = j := by simp; omega
    refine ⟨⟨by simp, .inr ⟨id, off, by rw [hjl], ?_⟩⟩, by simpa using hsb, fun id' b hid hb => hp.bl id' b (by simpa [sid] using hid) hb, by simp; omega, fun i h1 h2 => ?_⟩
    · rw [hjl]
      rcases h2 with h2 | ⟨b, hb, hle, hc⟩
      · left; omega
      · right
        refine ⟨b, hb, by omega, ?_⟩
        rw [Nat.mul_one] at hc ⊢
        rw [← hc, List.take_take, Nat.min_eq_left (by omega)]
    · simp only [List.length_take] at h1 h2
      simp only [List.getElem_take]
      exact hp.each i (by omega) (by omega)
theorem cutN_lt {k n : Nat} : cutN k n ≤ n := cutN_le k n
theorem cut_neg {k : Nat} (hk : k ≤ 62) {v : Int} (h1 : -1152921504606846976 < v) (h2 : v < 0) :
    IntKind.i64.wrap (-(shlI .i64 (shrI .i64 (-v) (k : Int)) (k : Int))) = cutv k v ∧ 0 ≤ IntKind.i64.wrap (-v) ∧ IntKind.i64.wrap (-v) = -v := by
  obtain ⟨n, hn⟩ := Int.eq_ofNat_of_zero_le (show 0 ≤ -v by omega)
  have hv : v.natAbs = n := by omega
  have hle := cutN_le k n
  have hw : IntKind.i64.wrap (-v) = -v := wrapI (by omega) (by omega)
  refine ⟨?_, by rw [hw]; omega, hw⟩
  rw [hn, shrN (by show k ≤ 64; omega)]
  unfold shlI
  rw [Int.toNat_natCast, Nat.min_eq_left (by show k ≤ 64; omega), show ((n / 2 ^ k : Nat) : Int) * 2 ^ k = ((cutN k n : Nat) : Int) by unfold cutN; simp]
  rw [show IntKind.i64.wrap ((cutN k n : Nat) : Int) = ((cutN k n : Nat) : Int) from wrapN (by omega)]
  rw [wrapI (by omega) (by omega)]
  unfold cutv
  rw [if_pos h2, hv]
theorem cut_pos {k : Nat} (hk : k ≤ 62) {v : Int} (h1 : 0 ≤ v) (h2 : v < 1152921504606846976) : shlI .i64 (shrI .i64 v (k : Int)) (k : Int) = cutv k v := by
  obtain ⟨n, hn⟩ := Int.eq_ofNat_of_zero_le h1
  have hv : v.natAbs = n := by omega
  have hle := cutN_le k n
  rw [hn, shrN (by show k ≤ 64; omega)]
  unfold shlI
  rw [Int.toNat_natCast, Nat.min_eq_left (by show k ≤ 64; omega), show ((n / 2 ^ k : Nat) : Int) * 2 ^ k = ((cutN k n : Nat) : Int) by unfold cutN; simp]
  rw [show IntKind.i64.wrap ((cutN k n : Nat) : Int) = ((cutN k n : Nat) : Int) from wrapN (by omega)]
  unfold cutv
  rw [if_neg (by omega), Int.natAbs_natCast]

theorem kept_r {v : Int} (hv : inR v) {k : Nat} (hk : k ≤ 62) : Ret tab 39 [.int .i64 v, .int .i64 k] h R = R (.int .i64 (cutv k v)) h := by
  have hku : IntKind.u64.wrap (k : Int) = k := by rw [IntKind.wrap_u64]; omega
  have hk0 : ¬ ((k : Int) < 0) := by omega
  unfold inR at hv
  rw [enter39, B39]
  by_cases hn : v < 0
  · obtain ⟨k1, k2, k3⟩ := cut_neg (k := k) hk hv.1 hn
    simp [hn, hku, hk0, k3, k1, fin39]
  · have k1 := cut_pos (k := k) hk (by omega) hv.2
    simp [hn, hku, hk0, k1, fin39]
theorem pass_neg_r : Ret tab 38 [.int .i64 (-1)] h R = R (.tuple #[.int .i64 (-1), .int .i64 (-1)]) h := by
  rw [enter38, B38]
  simp [fin38]

/-- What is asked of each value. -/
def KeptOk (P n : Nat) (pl kd : Int) (x v m : Int) : Prop := 0 ≤ m ∧ m ≤ P ∧ v = cutv m.toNat x ∧ (n = 0 → m = P) ∧ (0 < n → m = P - 1 - pl ∨ kd ≠ 2 ∧ m = P - pl)
set_option maxRecDepth 10000 in
set_option maxHeartbeats 1000000 in
theorem pre_loop {B P n : Nat} {pl kd : Int} {s t u o v0 v4 v6 v7 v10 vw vh v102 : Value} {m0 m1 m2 m3 m4 : Value} {xs vs ms : List Int} (hi : Iw h s xs) (hv : Iw h t vs) (hm : Iw h u ms) (hbox : blk? h B = some ⟨false, [vw, vh, s, v0, o, m0, m1, m2, m3, m4]⟩)
    (l1 : vs.length = xs.length) (l2 : ms.length = xs.length) (hl : xs.length ≤ 144) (hP : P ≤ 60) (hpl : -1 ≤ pl ∧ pl ≤ 60) (hr : ∀ v ∈ xs, inR v)
    (hall : ∀ i (h1 : i < xs.length) (h2 : i < vs.length) (h3 : i < ms.length), KeptOk P n pl kd xs[i] vs[i] ms[i]) {k : List RItem}
    (hk : ∀ t0 t3 t13 t14 t15 t16 t17 t18 t19 t20 t21 t22 t23 t24 t25 t26 t27 t28 t29 t30 t31 t32 t33 t34 t35 t36 t37 t38 t39 t40 t41 t42 t43 t44 t45 t46 t47 t48 t49 t50 t51 t52 t53 t54 t55 t56 t57 t58 t59 t60 t61 t62 t63 t64 t65 t66 t67 t68 t69 t70 t71 t72 t73 t74 t75 t76 t77 t78 t79 t80 t81 t82 t83 t84 t85 t86 t87 t88 t89 t90 t91 t92 t93 t94 t95 t96 t97 t98 t99 t100 t101 t102 t103 t104 t105 t106 t107 t108 t109 t110 t111 t112 t113 t114 t115 t116 t117 t118 t119 t120 t121 t122 t123 t124 t125 t126 t127 t128 t129 t130 t131 t132 t133 t134 t135 t136 t137 t138 t139 t140 t141 t142 t143 t144 t145 t146 t147 t148 t149 t150 t151 t152 t153 t154 t155 t156 t157 t158 t159 t160 t161 t162 t163 t164 t165 t166 t167 t168 t169 t170 t171 t172 t173 t174 t175 t176 t177 : Value, Ok tab R7 k #[t0, .int .i64 n, ptr B, t3, v4, .int .i64 P, v6, v7, t, u, v10, .int .i64 pl, .int .i64 kd, t13, t14, t15, t16, t17, t18, t19, t20, t21, t22, t23, t24, t25, t26, t27, t28, t29, t30, t31, t32, t33, t34, t35, t36, t37, t38, t39, t40, t41, t42, t43, t44, t45, t46, t47, t48, t49, t50, t51, t52, t53, t54, t55, t56, t57, t58, t59, t60, t61, t62, t63, t64, t65, t66, t67, t68, t69, t70, t71, t72, t73, t74, t75, t76, t77, t78, t79, t80, t81, t82, t83, t84, t85, t86, t87, t88, t89, t90, t91, t92, t93, t94, t95, t96, t97, t98, t99, t100, t101, t102, t103, t104, t105, t106, t107, t108, t109, t110, t111, t112, t113, t114, t115, t116, t117, t118, t119, t120, t121, t122, t123, t124, t125, t126, t127, t128, t129, t130, t131, t132, t133, t134, t135, t136, t137, t138, t139, t140, t141, t142, t143, t144, t145, t146, t147, t148, t149, t150, t151, t152, t153, t154, t155, t156, t157, t158, t159, t160, t161, t162, t163, t164, t165, t166, t167, t168, t169, t170, t171, t172, t173, t174, t175, t176, t177] h R) :
    ∀ (m i : Nat) (t0 t3 t13 t14 t15 t16 t17 t18 t19 t20 t21 t22 t23 t24 t25 t26 t27 t28 t29 t30 t31 t32 t33 t34 t35 t36 t37 t38 t39 t40 t41 t42 t43 t44 t45 t46 t47 t48 t49 t50 t51 t52 t53 t54 t55 t56 t57 t58 t59 t60 t61 t62 t63 t64 t65 t66 t67 t68 t69 t70 t71 t72 t73 t74 t75 t76 t77 t78 t79 t80 t81 t82 t83 t84 t85 t86 t87 t88 t89 t90 t91 t92 t93 t94 t95 t96 t97 t98 t99 t100 t101 t105 t106 t107 t108 t109 t110 t111 t112 t113 t114 t115 t116 t117 t118 t119 t120 t121 t122 t123 t124 t125 t126 t127 t128 t129 t130 t131 t132 t133 t134 t135 t136 t137 t138 t139 t140 t141 t142 t143 t144 t145 t146 t147 t148 t149 t150 t151 t152 t153 t154 t155 t156 t157 t158 t159 t160 t161 t162 t163 t164 t165 t166 t167 t168 t169 t170 t171 t172 t173 t174 t175 t176 t177 : Value), m = xs.length - i → i ≤ xs.length →
      Ok tab R7 (.inLoop L7_0 :: .inBlock 0 :: k) #[t0, .int .i64 n, ptr B, t3, v4, .int .i64 P, v6, v7, t, u, v10, .int .i64 pl, .int .i64 kd, t13, t14, t15, t16, t17, t18, t19, t20, t21, t22, t23, t24, t25, t26, t27, t28, t29, t30, t31, t32, t33, t34, t35, t36, t37, t38, t39, t40, t41, t42, t43, t44, t45, t46, t47, t48, t49, t50, t51, t52, t53, t54, t55, t56, t57, t58, t59, t60, t61, t62, t63, t64, t65, t66, t67, t68, t69, t70, t71, t72, t73, t74, t75, t76, t77, t78, t79, t80, t81, t82, t83, t84, t85, t86, t87, t88, t89, t90, t91, t92, t93, t94, t95, t96, t97, t98, t99, t100, t101, v102, .int .i64 xs.length, .int .i64 i, t105, t106, t107, t108, t109, t110, t111, t112, t113, t114, t115, t116, t117, t118, t119, t120, t121, t122, t123, t124, t125, t126, t127, t128, t129, t130, t131, t132, t133, t134, t135, t136, t137, t138, t139, t140, t141, t142, t143, t144, t145, t146, t147, t148, t149, t150, t151, t152, t153, t154, t155, t156, t157, t158, t159, t160, t161, t162, t163, t164, t165, t166, t167, t168, t169, t170, t171, t172, t173, t174, t175, t176, t177] h R := by
  intro m
  induction m with
  | zero =>
    intro i t0 t3 t13 t14 t15 t16 t17 t18 t19 t20 t21 t22 t23 t24 t25 t26 t27 t28 t29 t30 t31 t32 t33 t34 t35 t36 t37 t38 t39 t40 t41 t42 t43 t44 t45 t46 t47 t48 t49 t50 t51 t52 t53 t54 t55 t56 t57 t58 t59 t60 t61 t62 t63 t64 t65 t66 t67 t68 t69 t70 t71 t72 t73 t74 t75 t76 t77 t78 t79 t80 t81 t82 t83 t84 t85 t86 t87 t88 t89 t90 t91 t92 t93 t94 t95 t96 t97 t98 t99 t100 t101 t105 t106 t107 t108 t109 t110 t111 t112 t113 t114 t115 t116 t117 t118 t119 t120 t121 t122 t123 t124 t125 t126 t127 t128 t129 t130 t131 t132 t133 t134 t135 t136 t137 t138 t139 t140 t141 t142 t143 t144 t145 t146 t147 t148 t149 t150 t151 t152 t153 t154 t155 t156 t157 t158 t159 t160 t161 t162 t163 t164 t165 t166 t167 t168 t169 t170 t171 t172 t173 t174 t175 t176 t177 hn hi'
    have hlt : ¬ ((i : Int) < xs.length) := by omega
    rw [ok_round, l7_0, L7_0a, L7_0b]
    simp [hlt]
    exact hk _ _ _ _ _ _ _ _ _ _ _ _ _ _ _ _ _ _ _ _ _ _ _ _ _ _ _ _ _ _ _ _ _ _ _ _ _ _ _ _ _ _ _ _ _ _ _ _ _ _ _ _ _ _ _ _ _ _ _ _ _ _ _ _ _ _ _ _ _ _ _ _ _ _ _ _ _ _ _ _ _ _ _ _ _ _ _ _ _ _ _ _ _ _ _ _ _ _ _ _ _ _ _ _ _ _ _ _ _ _ _ _ _ _ _ _ _ _ _ _ _ _ _ _ _ _ _ _ _ _ _ _ _ _ _ _ _ _ _ _ _ _ _ _ _ _ _ _ _ _ _ _ _ _ _ _ _ _ _ _ _ _ _ _ _ _ _
  | succ m ih =>
    intro i t0 t3 t13 t14 t15 t16 t17 t18 t19 t20 t21 t22 t23 t24 t25 t26 t27 t28 t29 t30 t31 t32 t33 t34 t35 t36 t37 t38 t39 t40 t41 t42 t43 t44 t45 t46 t47 t48 t49 t50 t51 t52 t53 t54 t55 t56 t57 t58 t59 t60 t61 t62 t63 t64 t65 t66 t67 t68 t69 t70 t71 t72 t73 t74 t75 t76 t77 t78 t79 t80 t81 t82 t83 t84 t85 t86 t87 t88 t89 t90 t91 t92 t93 t94 t95 t96 t97 t98 t99 t100 t101 t105 t106 t107 t108 t109 t110 t111 t112 t113 t114 t115 t116 t117 t118 t119 t120 t121 t122 t123 t124 t125 t126 t127 t128 t129 t130 t131 t132 t133 t134 t135 t136 t137 t138 t139 t140 t141 t142 t143 t144 t145 t146 t147 t148 t149 t150 t151 t152 t153 t154 t155 t156 t157 t158 t159 t160 t161 t162 t163 t164 t165 t166 t167 t168 t169 t170 t171 t172 t173 t174 t175 t176 t177 hn hi'
    have hlt : ((i : Int) < xs.length) := by omega
    have hia : i < xs.length := by omega
    have hib : i < vs.length := by omega
    have hic : i < ms.length := by omega
    have hltb : ((i : Int) < vs.length) := by omega
    have hltc : ((i : Int) < ms.length) := by omega
    have hw : IntKind.i64.wrap ((i : Int) + 1) = ((i + 1 : Nat) : Int) := wrapN (n := i + 1) (by omega)
    obtain ⟨id1, off1, b1, hs1, hb1, hc1⟩ := hi.get hia
    obtain ⟨id2, off2, b2, hs2, hb2, hc2⟩ := hv.get hib
    obtain ⟨id3, off3, b3, hs3, hb3, hc3⟩ := hm.get hic
    obtain ⟨g1, g2, g3, g4, g5⟩ := hall i hia hib hic
    have hrx := hr _ (List.getElem_mem hia)
    have hkp := fun R => kept_r (h := h) (R := R) hrx (k := ms[i].toNat) (by omega)
    rw [Int.toNat_of_nonneg g1, ← g3] at hkp
    have hwa : IntKind.i64.wrap ((P : Int) - 1) = (P : Int) - 1 := wrapI (by omega) (by omega)
    have hwb : IntKind.i64.wrap ((P : Int) - 1 - pl) = (P : Int) - 1 - pl := wrapI (by omega) (by omega)
    have hwc : IntKind.i64.wrap ((P : Int) - pl) = (P : Int) - pl := wrapI (by omega) (by omega)
    have ih' := fun t0 t3 t13 t14 t15 t16 t17 t18 t19 t20 t21 t22 t23 t24 t25 t26 t27 t28 t29 t30 t31 t32 t33 t34 t35 t36 t37 t38 t39 t40 t41 t42 t43 t44 t45 t46 t47 t48 t49 t50 t51 t52 t53 t54 t55 t56 t57 t58 t59 t60 t61 t62 t63 t64 t65 t66 t67 t68 t69 t70 t71 t72 t73 t74 t75 t76 t77 t78 t79 t80 t81 t82 t83 t84 t85 t86 t87 t88 t89 t90 t91 t92 t93 t94 t95 t96 t97 t98 t99 t100 t101 t105 t106 t107 t108 t109 t110 t111 t112 t113 t114 t115 t116 t117 t118 t119 t120 t121 t122 t123 t124 t125 t126 t127 t128 t129 t130 t131 t132 t133 t134 t135 t136 t137 t138 t139 t140 t141 t142 t143 t144 t145 t146 t147 t148 t149 t150 t151 t152 t153 t154 t155 t156 t157 t158 t159 t160 t161 t162 t163 t164 t165 t166 t167 t168 t169 t170 t171 t172 t173 t174 t175 t176 t177 => ih (i + 1) t0 t3 t13 t14 t15 t16 t17 t18 t19 t20 t21 t22 t23 t24 t25 t26 t27 t28 t29 t30 t31 t32 t33 t34 t35 t36 t37 t38 t39 t40 t41 t42 t43 t44 t45 t46 t47 t48 t49 t50 t51 t52 t53 t54 t55 t56 t57 t58 t59 t60 t61 t62 t63 t64 t65 t66 t67 t68 t69 t70 t71 t72 t73 t74 t75 t76 t77 t78 t79 t80 t81 t82 t83 t84 t85 t86 t87 t88 t89 t90 t91 t92 t93 t94 t95 t96 t97 t98 t99 t100 t101 t105 t106 t107 t108 t109 t110 t111 t112 t113 t114 t115 t116 t117 t118 t119 t120 t121 t122 t123 t124 t125 t126 t127 t128 t129 t130 t131 t132 t133 t134 t135 t136 t137 t138 t139 t140 t141 t142 t143 t144 t145 t146 t147 t148 t149 t150 t151 t152 t153 t154 t155 t156 t157 t158 t159 t160 t161 t162 t163 t164 t165 t166 t167 t168 t169 t170 t171 t172 t173 t174 t175 t176 t177 (by omega) (by omega)
    rw [ok_round, l7_0, L7_0a, L7_0b]
    subst hs1; subst hs2; subst hs3
    generalize ms[i] = mi at *
    generalize vs[i] = vi at *
    generalize xs[i] = xi at *
    generalize ((i + 1 : Nat) : Int) = wi at *
    have q1 : ¬ mi < 0 := by omega
    have q2 : ¬ (P : Int) < mi := by omega
    by_cases hn0 : n = 0
    · have hmP := g4 hn0
      subst hn0
      subst hmP
      simp (maxSteps := 1000000) [k_guard, k_guardP, k_guardU, hlt, hltb, hltc, hia, hib, hic, hb1, hb2, hb3, hc1, hc2, hc3, hbox, q1, hkp, hw, book, logOf, addLog, chk1, lookL, reload]
      exact ih' _ _ _ _ _ _ _ _ _ _ _ _ _ _ _ _ _ _ _ _ _ _ _ _ _ _ _ _ _ _ _ _ _ _ _ _ _ _ _ _ _ _ _ _ _ _ _ _ _ _ _ _ _ _ _ _ _ _ _ _ _ _ _ _ _ _ _ _ _ _ _ _ _ _ _ _ _ _ _ _ _ _ _ _ _ _ _ _ _ _ _ _ _ _ _ _ _ _ _ _ _ _ _ _ _ _ _ _ _ _ _ _ _ _ _ _ _ _ _ _ _ _ _ _ _ _ _ _ _ _ _ _ _ _ _ _ _ _ _ _ _ _ _ _ _ _ _ _ _ _ _ _ _ _ _ _ _ _ _ _ _ _ _ _
    · have hnn : ((n : Int) == 0) = false := by simp [hn0]
      have hnp : 0 < n := by omega
      rcases g5 (by omega) with g5 | ⟨g5, g6⟩
      · subst g5
        simp (maxSteps := 1000000) [k_guard, k_guardP, k_guardU, hlt, hltb, hltc, hia, hib, hic, hb1, hb2, hb3, hc1, hc2, hc3, hbox, q1, q2, hkp, hw, hnn, hnp, hwa, hwb, book, logOf, addLog, chk1, lookL, reload]
        exact ih' _ _ _ _ _ _ _ _ _ _ _ _ _ _ _ _ _ _ _ _ _ _ _ _ _ _ _ _ _ _ _ _ _ _ _ _ _ _ _ _ _ _ _ _ _ _ _ _ _ _ _ _ _ _ _ _ _ _ _ _ _ _ _ _ _ _ _ _ _ _ _ _ _ _ _ _ _ _ _ _ _ _ _ _ _ _ _ _ _ _ _ _ _ _ _ _ _ _ _ _ _ _ _ _ _ _ _ _ _ _ _ _ _ _ _ _ _ _ _ _ _ _ _ _ _ _ _ _ _ _ _ _ _ _ _ _ _ _ _ _ _ _ _ _ _ _ _ _ _ _ _ _ _ _ _ _ _ _ _ _ _ _ _ _
      · have q3 : (mi != (P : Int) - 1 - pl) = true := by simp; omega
        have q4 : (kd == 2) = false := by simp [g5]
        subst g6
        simp (maxSteps := 1000000) [k_guard, k_guardP, k_guardU, hlt, hltb, hltc, hia, hib, hic, hb1, hb2, hb3, hc1, hc2, hc3, hbox, q1, q2, q3, q4, hkp, hw, hnn, hnp, hwa, hwb, hwc, book, logOf, addLog, chk1, lookL, reload]
        exact ih' _ _ _ _ _ _ _ _ _ _ _ _ _ _ _ _ _ _ _ _ _ _ _ _ _ _ _ _ _ _ _ _ _ _ _ _ _ _ _ _ _ _ _ _ _ _ _ _ _ _ _ _ _ _ _ _ _ _ _ _ _ _ _ _ _ _ _ _ _ _ _ _ _ _ _ _ _ _ _ _ _ _ _ _ _ _ _ _ _ _ _ _ _ _ _ _ _ _ _ _ _ _ _ _ _ _ _ _ _ _ _ _ _ _ _ _ _ _ _ _ _ _ _ _ _ _ _ _ _ _ _ _ _ _ _ _ _ _ _ _ _ _ _ _ _ _ _ _ _ _ _ _ _ _ _ _ _ _ _ _ _ _ _ _
end
end Go.Proofs.Ytjpjohchdfoeaaa
