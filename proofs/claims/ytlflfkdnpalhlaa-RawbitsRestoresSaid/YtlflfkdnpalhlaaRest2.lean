/-
  RawbitsRestores: the walk, joined.
-/
import Derived.Test.YtlflfkdnpalhlaaRestores
namespace Go.Proofs.Ytlflfkdnpalhlaa
open Go Go.Sim
set_option linter.unusedSimpArgs false
set_option maxRecDepth 100000

def tl : Nat → RCode → RCode
  | 0, c => c
  | n + 1, c => tl n (sndC c)

theorem seg_lt {bs : List Nat} (h : AreBits bs) : ∀ x ∈ segOf bs, x < 256 := fun x hx => pack_lt h x (List.mem_of_mem_take hx)
theorem seg_len {bs : List Nat} (h : AreBits bs) : (segOf bs).length = endAt bs bs.length := by
  rw [segOf, List.length_take]; have := (trim_end h).1; omega

theorem seg_get {bs : List Nat} {j : Nat} (h : j < endAt bs bs.length) : (segOf bs)[j]? = (pack bs)[j]? := by
  unfold segOf; rw [List.getElem?_take, if_pos h]

/-- From the second segment on. -/
theorem stage10 {B : Nat} {h0 h : Heap} {p : Nat} {s s1 : Value} {bs : List Nat} (hs : Sl h0 1 s bs.length (i64s bs)) (hsB : ∀ id, sid s = some id → id < B) (hn : bs.length ≤ 2000) (hbits : AreBits bs)
    (w : PInv B h0 h p s1 []) (t1 t2 t3 t4 t5 t6 t8 t9 t10 t11 t12 t13 t14 t15 t16 t17 t18 t19 t20 t21 t22 t23 t24 t25 t26 t27 t28 t29 t30 t31 t32 t33 t34 t35 t36 t37 t38 t39 t40 t41 t42 t43 t44 t45 t46 t47 t48 t49 t50 t51 t52 t53 t54 t55 t56 t57 t58 t59 t60 t61 t62 t63 t64 t65 t66 t67 t68 t69 t70 t71 t72 t73 t74 t75 t76 t77 t78 t79 t80 t81 t82 t83 t84 t85 t86 t87 t88 t89 t90 t91 t92 t93 t94 t95 t96 t97 t98 t99 t100 t101 t102 t103 t104 t105 t106 t107 t108 t109 t110 t111 t112 t113 t114 t115 t116 t117 t118 t119 t120 t121 t122 t123 t124 t125 t126 t127 t128 t129 t130 t131 t132 t133 t134 t135 t136 t137 t138 t139 t140 : Value) : Ok tab R5 [.code (tl 10 B5)] #[s, t1, t2, t3, t4, t5, t6, ptr p, t8, t9, t10, t11, t12, t13, t14, t15, t16, t17, t18, t19, t20, t21, t22, t23, t24, t25, t26, t27, t28, t29, t30, t31, t32, t33, t34, t35, t36, t37, t38, t39, t40, t41, t42, t43, t44, t45, t46, t47, t48, t49, t50, t51, t52, t53, t54, t55, t56, t57, t58, t59, t60, t61, t62, t63, t64, t65, t66, t67, t68, t69, t70, t71, t72, t73, t74, t75, t76, t77, t78, t79, t80, t81, t82, t83, t84, t85, t86, t87, t88, t89, t90, t91, t92, t93, t94, t95, t96, t97, t98, t99, t100, t101, t102, t103, t104, t105, t106, t107, t108, t109, t110, t111, t112, t113, t114, t115, t116, t117, t118, t119, t120, t121, t122, t123, t124, t125, t126, t127, t128, t129, t130, t131, t132, t133, t134, t135, t136, t137, t138, t139, t140] h (fun v _ => v = .bool true) := by
  obtain ⟨a, c, e⟩ := hs.shape
  simp only [tl, sndC, B5]
  simp [e]
  rw [← e]
  refine loop5b hs hsB hn hbits ?_ bs.length 0 h s1 _ _ _ _ _ _ _ _ _ _ _ _ _ _ _ _ _ _ _ _ _ _ _ _ _ _ _ _ _ _ _ _ _ _ _ _ _ _ _ _ _ _ _ _ _ _ _ _ _ _ _ _ _ _ _ _ _ _ _ _ _ _ _ _ _ _ _ _ _ _ _ _ _ _ _ _ _ _ _ _ _ _ _ _ _ _ _ _ _ _ _ _ _ _ _ _ _ _ _ _ _ _ _ _ _ _ _ _ _ _ _ _ _ _ _ _ _ _ _ _ _ _ _ _ _ _ _ _ _ _ _ _ _ _ _ _ _ (by omega) (by omega) w
  intro h1 s1' t1 t2 t3 t4 t5 t6 t8 t9 t10 t11 t12 t13 t14 t15 t16 t17 t18 t19 t20 t21 t22 t23 t24 t25 t26 t27 t28 t29 t30 t31 t32 t33 t34 t35 t36 t37 t38 t39 t40 t41 t42 t43 t44 t45 t46 t47 t48 t49 t50 t51 t52 t53 t54 t55 t56 t57 t58 t59 t60 t61 t62 t63 t64 t65 t66 t67 t68 t69 t70 t71 t72 t73 t74 t75 t76 t77 t78 t79 t80 t81 t82 t83 t84 t85 t86 t87 t88 t89 t90 t91 t92 t93 t94 t95 t96 t97 t98 t99 t100 t101 t102 t103 t104 t105 t106 t107 t108 t109 t110 t111 t112 t113 t114 t115 t116 t117 t118 t119 t120 t121 t122 t123 t124 t125 t126 t127 t128 t129 t130 t131 t132 t133 t134 t135 t136 t137 t138 t139 t140 w1
  have hfl := flip_length bs
  have hfb := flip_bits bs
  obtain ⟨t, h2, e2, sl2, p2, l2, f2, i2⟩ := term18 w1.pw (by omega)
  have hel := endAt_le (flip bs) (flip bs).length
  obtain ⟨r, sr, h3, e3, hr, l3, l4, l5, l6⟩ := new24 sl2 (seg_lt hfb) (by rw [seg_len hfb]; omega)
  have hBr : B ≤ r := by have := w1.len; omega
  have hs3 : Sl h3 1 s bs.length (i64s bs) := hs.of_sid fun id b hid hb => by
    have := hsB id hid
    have hlen := w1.len
    have hbp := w1.bp
    rw [l5 id (by omega), f2 id (by omega), w1.low id this]; exact hb
  have hself : h3.set r (rcell sr 0) = h3 := blk?_set_self hr.1
  simp [e, e2, e3]
  rw [← e]
  have hc := fun (k : List RItem) hk t1 t2 t3 t4 t5 t6 t7 t8 t9 t10 t11 t12 t13 t15 t16 t17 t18 t19 t20 t21 t22 t23 t24 t25 t26 t27 t28 t29 t30 t31 t32 t33 t34 t35 t36 t37 t38 t39 t40 t41 t42 t43 t44 t45 t46 t47 t48 t49 t50 t51 t52 t53 t54 t55 t56 t57 t58 t59 t60 t61 t62 t63 t64 t65 t66 t67 t68 t69 t70 t71 t72 t73 t74 t75 t76 t77 t78 t79 t80 t81 t82 t83 t84 t85 t86 t87 t88 t89 t90 t91 t92 t93 t94 t95 t96 t97 t98 t99 t100 t101 t102 t103 t104 t105 t106 t107 t108 t109 t110 t111 t112 t113 t114 t115 t116 t117 t118 t119 t120 t121 t122 t123 t124 t125 t126 t129 t130 t131 t132 t133 t134 t135 t136 t137 t138 t139 t140 => loop5c (k := k) (R := fun v _ => v = .bool true) hr hs3 (fun id hid e => by have := hsB id hid; omega) hn hbits (fun i hi => by rw [segOf_bit hfb]) hk bs.length 0 t1 t2 t3 t4 t5 t6 t7 t8 t9 t10 t11 t12 t13 t15 t16 t17 t18 t19 t20 t21 t22 t23 t24 t25 t26 t27 t28 t29 t30 t31 t32 t33 t34 t35 t36 t37 t38 t39 t40 t41 t42 t43 t44 t45 t46 t47 t48 t49 t50 t51 t52 t53 t54 t55 t56 t57 t58 t59 t60 t61 t62 t63 t64 t65 t66 t67 t68 t69 t70 t71 t72 t73 t74 t75 t76 t77 t78 t79 t80 t81 t82 t83 t84 t85 t86 t87 t88 t89 t90 t91 t92 t93 t94 t95 t96 t97 t98 t99 t100 t101 t102 t103 t104 t105 t106 t107 t108 t109 t110 t111 t112 t113 t114 t115 t116 t117 t118 t119 t120 t121 t122 t123 t124 t125 t126 t129 t130 t131 t132 t133 t134 t135 t136 t137 t138 t139 t140 (by omega) (by omega)
  rw [hself] at hc
  apply hc
  intro h' t1 t2 t3 t4 t5 t6 t7 t8 t9 t10 t11 t12 t13 t15 t16 t17 t18 t19 t20 t21 t22 t23 t24 t25 t26 t27 t28 t29 t30 t31 t32 t33 t34 t35 t36 t37 t38 t39 t40 t41 t42 t43 t44 t45 t46 t47 t48 t49 t50 t51 t52 t53 t54 t55 t56 t57 t58 t59 t60 t61 t62 t63 t64 t65 t66 t67 t68 t69 t70 t71 t72 t73 t74 t75 t76 t77 t78 t79 t80 t81 t82 t83 t84 t85 t86 t87 t88 t89 t90 t91 t92 t93 t94 t95 t96 t97 t98 t99 t100 t101 t102 t103 t104 t105 t106 t107 t108 t109 t110 t111 t112 t113 t114 t115 t116 t117 t118 t119 t120 t121 t122 t123 t124 t125 t126 t127 t128 t129 t130 t131 t132 t133 t134 t135 t136 t137 t138 t139 t140
  simp [awake_eq, fin5]

theorem Sl.take {h : Heap} {s : Value} {n m : Nat} {cs : List Value} (hs : Sl h 1 s n cs) (hm : m ≤ n) : ∃ s', (∀ lo : Option Value, lo = none → sliceV 1 s lo (some (.int .i64 (m : Int))) = some s') ∧ Sl h 1 s' m (cs.take m) ∧ (∀ id, sid s' = some id → sid s = some id) := by
  obtain ⟨hl, hs⟩ := hs
  have hb : (0 : Int) ≤ m ∧ (m : Int) ≤ n := by omega
  rcases hs with ⟨rfl, rfl⟩ | ⟨id, off, rfl, hx⟩
  · obtain rfl : m = 0 := by omega
    exact ⟨.slice none 0 0, fun lo e => by subst e; simp [sliceV, bndO, bnd], ⟨by simp, .inl ⟨rfl, rfl⟩⟩, fun id h => h⟩
  · refine ⟨.slice (some ⟨id, off, none⟩) m 1, fun lo e => by subst e; simp [sliceV, bndO, bnd, hb], ⟨by rw [List.length_take]; omega, .inr ⟨id, off, rfl, ?_⟩⟩, fun id h => h⟩
    rcases hx with h0 | ⟨b, h1, h2, h3⟩
    · left; omega
    · right
      refine ⟨b, h1, by omega, ?_⟩
      rw [← h3, List.take_take]
      congr 1; omega

/-- What a reader of the first bytes, and of other bytes behind them, answers. -/
theorem bit_prefix {xs ys : List Nat} {z i : Nat} (hz : z ≤ xs.length) (hi : i / 8 < z) : bitAt (xs.take z ++ ys) i = bitAt xs i := by
  unfold bitAt
  congr 2
  simp only [List.getD_eq_getElem?_getD]
  rw [List.getElem?_append_left (by rw [List.length_take]; omega), List.getElem?_take, if_pos hi]

/-- Appending to a slice that is not nil. -/
theorem app_some {h : Heap} {id n m : Nat} {t : Value} {cs new : List Value} (hl : cs.length = n) (hb : blk? h id = some ⟨false, cs⟩) (ht : Sl h 1 t m new) (hr : n + m ≤ roomCells) :
    ∃ H, appendV h 1 1 (.slice (some ⟨id, 0, none⟩) n 1) t = some (.slice (some ⟨h.length, 0, none⟩) (n + m) 1, H) ∧ blk? H h.length = some ⟨false, cs ++ new⟩ ∧ H.length = h.length + 1 ∧ (∀ j, j < h.length → j ≠ id → blk? H j = blk? h j) := by
  refine ⟨h.set id none ++ [some ⟨false, cs ++ new⟩], ?_, ?_, by simp, fun j hj hne => ?_⟩
  · simp only [appendV, ht.lenV, ht.firstC, hb]
    rw [if_pos ⟨trivial, trivial, by omega, hr, by omega⟩]
    rw [List.drop_zero, List.take_of_length_le (by omega)]
  · have := blk?_push_eq (h := h.set id none) (x := some ⟨false, cs ++ new⟩)
    simpa using this
  · rw [blk?_push_lt (by simpa using hj), blk?_set_ne (Ne.symm hne)]

set_option maxHeartbeats 4000000 in
theorem stage6 {B : Nat} {h0 h : Heap} {p n : Nat} {s so s1 : Value} {bs ys : List Nat} (hs : Sl h0 1 s bs.length (i64s bs)) (hsB : ∀ id, sid s = some id → id < B) (hn : bs.length ≤ 2000) (hbits : AreBits bs)
    (hso : Sl h0 1 so ys.length (u8s ys)) (hsoB : ∀ id, sid so = some id → id < B) (hy : ∀ y ∈ ys, y < 256) (hyl : ys.length ≤ 300) (hnl : n ≤ bs.length)
    (w : PInv B h0 h p s1 bs) (t3 t4 t5 t6 t9 t10 t11 t12 t13 t14 t15 t16 t17 t18 t19 t20 t21 t22 t23 t24 t25 t26 t27 t28 t29 t30 t31 t32 t33 t34 t35 t36 t37 t38 t39 t40 t41 t42 t43 t44 t45 t46 t47 t48 t49 t50 t51 t52 t53 t54 t55 t56 t57 t58 t59 t60 t61 t62 t63 t64 t65 t66 t67 t68 t69 t70 t71 t72 t73 t74 t75 t76 t77 t78 t79 t80 t81 t82 t83 t84 t85 t86 t87 t88 t89 t90 t91 t92 t93 t94 t95 t96 t97 t98 t99 t100 t101 t102 t103 t104 t105 t106 t107 t108 t109 t110 t111 t112 t113 t114 t115 t116 t117 t118 t119 t120 t121 t122 t123 t124 t125 t126 t127 t128 t129 t130 t131 t132 t133 t134 t135 t136 t137 t138 t139 t140 : Value) : Ok tab R5 [.code (tl 6 B5)] #[s, .int .i64 n, so, t3, t4, t5, t6, ptr p, .int .i64 ((n + 7) / 8 : Nat), t9, t10, t11, t12, t13, t14, t15, t16, t17, t18, t19, t20, t21, t22, t23, t24, t25, t26, t27, t28, t29, t30, t31, t32, t33, t34, t35, t36, t37, t38, t39, t40, t41, t42, t43, t44, t45, t46, t47, t48, t49, t50, t51, t52, t53, t54, t55, t56, t57, t58, t59, t60, t61, t62, t63, t64, t65, t66, t67, t68, t69, t70, t71, t72, t73, t74, t75, t76, t77, t78, t79, t80, t81, t82, t83, t84, t85, t86, t87, t88, t89, t90, t91, t92, t93, t94, t95, t96, t97, t98, t99, t100, t101, t102, t103, t104, t105, t106, t107, t108, t109, t110, t111, t112, t113, t114, t115, t116, t117, t118, t119, t120, t121, t122, t123, t124, t125, t126, t127, t128, t129, t130, t131, t132, t133, t134, t135, t136, t137, t138, t139, t140] h (fun v _ => v = .bool true) := by
  have hel := endAt_le bs bs.length
  have hsg := seg_len hbits
  have htr := trim_end hbits
  obtain ⟨t, h2, e2, sl2, p2, l2, f2, i2⟩ := term18 w.pw (by omega)
  have hBl := w.len
  have hBp := w.bp
  have hs2 : Sl h2 1 s bs.length (i64s bs) := hs.of_sid fun id b hid hb => by
    have := hsB id hid
    rw [f2 id (by omega), w.low id this]; exact hb
  obtain ⟨h3, e3, l3, f3⟩ := gets31 (z := 20) sl2 (seg_lt hbits) (by omega) hs2 (fun id hid => by have := hsB id hid; omega) hn (by omega) (fun i hi => by rw [segOf_bit hbits]) (fun i hi _ => by rw [segOf_bit hbits, getD_out hi])
  have e3 : ∀ R : Value → Heap → Prop, Ret tab 31 [t, s, .int .i64 20] h2 R ↔ R (.bool true) h3 := e3
  have w3 : PInv B h0 h3 p (.slice none 0 0) [] :=
    ⟨p2.keep fun id hid hlt => f3 id hlt, hBp, fun id hid => by simp [sid] at hid, fun id hid => by rw [f3 id (by omega), f2 id (by omega), w.low id hid], by omega⟩
  have hsl3 : Sl h3 1 t (segOf bs).length (u8s (segOf bs)) := sl2.of_sid fun id b hid hb => by rw [f3 id (blk?_lt hb)]; exact hb
  have hst := fun h s1 (w : PInv B h0 h p s1 []) t1 t2 t3 t4 t5 t6 t8 t9 t10 t11 t12 t13 t14 t15 t16 t17 t18 t19 t20 t21 t22 t23 t24 t25 t26 t27 t28 t29 t30 t31 t32 t33 t34 t35 t36 t37 t38 t39 t40 t41 t42 t43 t44 t45 t46 t47 t48 t49 t50 t51 t52 t53 t54 t55 t56 t57 t58 t59 t60 t61 t62 t63 t64 t65 t66 t67 t68 t69 t70 t71 t72 t73 t74 t75 t76 t77 t78 t79 t80 t81 t82 t83 t84 t85 t86 t87 t88 t89 t90 t91 t92 t93 t94 t95 t96 t97 t98 t99 t100 t101 t102 t103 t104 t105 t106 t107 t108 t109 t110 t111 t112 t113 t114 t115 t116 t117 t118 t119 t120 t121 t122 t123 t124 t125 t126 t127 t128 t129 t130 t131 t132 t133 t134 t135 t136 t137 t138 t139 t140 => stage10 hs hsB hn hbits w t1 t2 t3 t4 t5 t6 t8 t9 t10 t11 t12 t13 t14 t15 t16 t17 t18 t19 t20 t21 t22 t23 t24 t25 t26 t27 t28 t29 t30 t31 t32 t33 t34 t35 t36 t37 t38 t39 t40 t41 t42 t43 t44 t45 t46 t47 t48 t49 t50 t51 t52 t53 t54 t55 t56 t57 t58 t59 t60 t61 t62 t63 t64 t65 t66 t67 t68 t69 t70 t71 t72 t73 t74 t75 t76 t77 t78 t79 t80 t81 t82 t83 t84 t85 t86 t87 t88 t89 t90 t91 t92 t93 t94 t95 t96 t97 t98 t99 t100 t101 t102 t103 t104 t105 t106 t107 t108 t109 t110 t111 t112 t113 t114 t115 t116 t117 t118 t119 t120 t121 t122 t123 t124 t125 t126 t127 t128 t129 t130 t131 t132 t133 t134 t135 t136 t137 t138 t139 t140
  have hsz := fun R => size22 w.pw R
  generalize hz : (n + 7) / 8 = z
  generalize hmm : (bs.length + 7) / 8 = most at hsz hel
  have hzm : z ≤ most := by omega
  have g1 : ¬ ((most : Int) < (segOf bs).length) := by omega
  have g2 : ¬ ((z : Int) < 0) := by omega
  have he : tl 6 B5 = .seq (fstC (tl 6 B5)) (.seq (fstC (tl 7 B5)) (.seq (fstC (tl 8 B5)) (.seq (fstC (tl 9 B5)) (tl 10 B5)))) := rfl
  rw [he]
  generalize tl 10 B5 = T at hst ⊢
  simp only [fstC, tl, sndC, B5]
  obtain ⟨a, c, et⟩ := sl2.shape
  by_cases h0l : (segOf bs).length = 0
  · have g3 : ¬ ((0 : Int) < ((segOf bs).length : Int)) := by omega
    have g4 : ¬ ((z : Int) < ((segOf bs).length : Int)) := by omega
    simp only [et] at e2 e3
    simp only [h0l] at e2 e3 g1 g3 g4
    have g5 : ¬ ((most : Int) < 0) := by omega
    simp [k_guard, hsz, e2, e3, g1, g2, g3, g4, g5]
    exact hst h3 _ w3 _ _ _ _ _ _ _ _ _ _ _ _ _ _ _ _ _ _ _ _ _ _ _ _ _ _ _ _ _ _ _ _ _ _ _ _ _ _ _ _ _ _ _ _ _ _ _ _ _ _ _ _ _ _ _ _ _ _ _ _ _ _ _ _ _ _ _ _ _ _ _ _ _ _ _ _ _ _ _ _ _ _ _ _ _ _ _ _ _ _ _ _ _ _ _ _ _ _ _ _ _ _ _ _ _ _ _ _ _ _ _ _ _ _ _ _ _ _ _ _ _ _ _ _ _ _ _ _ _ _ _ _ _ _ _ _ _ _ _
  · obtain ⟨id, off, b, e5, hb, hcell⟩ := hsl3.get (i := (segOf bs).length - 1) (by omega)
    have c0 := hcell 0 (by omega)
    have hlast : (segOf bs).getD ((segOf bs).length - 1) 0 ≠ 0 := by
      have h1 := htr.2.2.resolve_left (by omega)
      have h2 : (segOf bs).getD ((segOf bs).length - 1) 0 = (pack bs).getD ((segOf bs).length - 1) 0 := by
        simp only [List.getD_eq_getElem?_getD]
        rw [seg_get (by omega)]
      rw [h2, hsg]; exact h1
    have c1 : b.cells[off + ((segOf bs).length - 1)]? = some (.int .u8 ((segOf bs).getD ((segOf bs).length - 1) 0 : Nat)) := by
      have : (segOf bs).length - 1 < (segOf bs).length := by omega
      simpa [u8s, this] using c0
    generalize (segOf bs).getD ((segOf bs).length - 1) 0 = last at hlast c1
    have g3 : (0 : Int) < ((segOf bs).length : Int) := by omega
    have g3' : 0 < (segOf bs).length := by omega
    have g6 : IntKind.i64.wrap (((segOf bs).length : Int) - 1) = (((segOf bs).length - 1 : Nat) : Int) := by rw [wrapI (by omega) (by omega)]; omega
    have g7 : (0 : Int) ≤ (((segOf bs).length - 1 : Nat) : Int) ∧ (((segOf bs).length - 1 : Nat) : Int) < ((segOf bs).length : Int) := by omega
    have g8 : ((last : Int) == 0) = false := by simpa using hlast
    have g9 : ¬ (most < (segOf bs).length) := by omega
    generalize hm1 : (segOf bs).length - 1 = m1 at g6 g7 c1
    by_cases hzl : z < (segOf bs).length
    · have g4 : (z : Int) < ((segOf bs).length : Int) := by omega
      have l3' := w3.len
      obtain ⟨t', et', st', it'⟩ := Sl.take (hsl3.push (some ⟨false, []⟩)) (Nat.le_of_lt hzl)
      have et' := et' none rfl
      obtain ⟨H2, a2, b2, k2, f2'⟩ := app_some (h := h3 ++ [some ⟨false, []⟩]) (id := h3.length) (n := 0) rfl blk?_push_eq st' (by unfold roomCells; omega)
      simp only [List.length_append, List.length_singleton, Nat.zero_add] at a2 b2 k2 f2'
      have hlow2 : ∀ id, id < h3.length → blk? H2 id = blk? h3 id := fun id hid => by rw [f2' id (by omega) (by omega), blk?_push_lt hid]
      have hso3 : Sl h3 1 so ys.length (u8s ys) := hso.of_sid fun id b hid hb => by rw [w3.low id (hsoB id hid)]; exact hb
      have hs3 : Sl h3 1 s bs.length (i64s bs) := hs.of_sid fun id b hid hb => by rw [w3.low id (hsB id hid)]; exact hb
      have hso2 : Sl H2 1 so ys.length (u8s ys) := hso3.of_sid fun id b hid hb => by rw [hlow2 id (blk?_lt hb)]; exact hb
      obtain ⟨H3, a3, b3, k3, f3'⟩ := app_some (h := H2) (id := h3.length + 1) (n := z) (by simp [u8s]; omega) b2 hso2 (by unfold roomCells; omega)
      have hlow3 : ∀ id, id < h3.length → blk? H3 id = blk? h3 id := fun id hid => by rw [f3' id (by omega) (by omega), hlow2 id hid]
      have hs4 : Sl H3 1 s bs.length (i64s bs) := hs3.of_sid fun id b hid hb => by rw [hlow3 id (blk?_lt hb)]; exact hb
      obtain ⟨sl', es', ss', is'⟩ := Sl.take hs4 hnl
      have es' := es' none rfl
      have htk : (i64s bs).take n = i64s (bs.take n) := by simp [i64s, List.map_take]
      have hcc : (u8s (segOf bs)).take z ++ u8s ys = u8s ((segOf bs).take z ++ ys) := by simp [u8s, List.map_take]
      rw [List.nil_append, hcc] at b3
      have hbn : (bs.take n).length = n := by simp; omega
      have hxl : ((segOf bs).take z ++ ys).length = z + ys.length := by simp; omega
      have sx : Sl H3 1 (.slice (some ⟨H2.length, 0, none⟩) (z + ys.length) 1) ((segOf bs).take z ++ ys).length (u8s ((segOf bs).take z ++ ys)) :=
        ⟨by simp [u8s], .inr ⟨H2.length, 0, by rw [hxl], .inr ⟨_, b3, by simp [u8s], by rw [List.drop_zero]; exact List.take_of_length_le (by simp [u8s])⟩⟩⟩
      obtain ⟨h4, e4, k4, f4⟩ := gets31 (z := 0) (bs := bs.take n) sx
        (fun x hx => by
          rcases List.mem_append.1 hx with hx | hx
          · exact seg_lt hbits x (List.mem_of_mem_take hx)
          · exact hy x hx) (by omega) (by rw [hbn, ← htk]; exact ss') (fun id hid => by have := hsB id (is' id hid); omega) (by omega) (by omega)
        (fun i hi => by
          rw [bit_prefix (by omega) (by omega), segOf_bit hbits]
          simp only [List.getD_eq_getElem?_getD]
          rw [List.getElem?_take, if_pos (by omega)])
        (fun i h1 h2 => by omega)
      have e4 : ∀ R : Value → Heap → Prop, Ret tab 31 [.slice (some ⟨H2.length, 0, none⟩) (z + ys.length) 1, sl', .int .i64 0] H3 R ↔ R (.bool true) h4 := e4
      have w4 : PInv B h0 h4 p (.slice none 0 0) [] :=
        ⟨w3.pw.keep fun id hid hlt => by rw [f4 id (by omega), hlow3 id hlt], hBp, w3.i1, fun id hid => by rw [f4 id (by omega), hlow3 id (by omega), w3.low id hid], by omega⟩
      simp only [e5] at e2 e3 et'
      simp [k_guard, hsz, e2, e3, g1, g2, g3, g3', g4, g6, g7, g8, g9, hb, c1, hzl, et', a2, a3, es', e4]
      exact hst h4 _ w4 _ _ _ _ _ _ _ _ _ _ _ _ _ _ _ _ _ _ _ _ _ _ _ _ _ _ _ _ _ _ _ _ _ _ _ _ _ _ _ _ _ _ _ _ _ _ _ _ _ _ _ _ _ _ _ _ _ _ _ _ _ _ _ _ _ _ _ _ _ _ _ _ _ _ _ _ _ _ _ _ _ _ _ _ _ _ _ _ _ _ _ _ _ _ _ _ _ _ _ _ _ _ _ _ _ _ _ _ _ _ _ _ _ _ _ _ _ _ _ _ _ _ _ _ _ _ _ _ _ _ _ _ _ _ _ _ _ _ _
    · have g4 : ¬ ((z : Int) < ((segOf bs).length : Int)) := by omega
      simp only [e5] at e2 e3
      simp [k_guard, hsz, e2, e3, g1, g2, g3, g3', g4, g6, g7, g8, g9, hb, c1, hzl]
      exact hst h3 _ w3 _ _ _ _ _ _ _ _ _ _ _ _ _ _ _ _ _ _ _ _ _ _ _ _ _ _ _ _ _ _ _ _ _ _ _ _ _ _ _ _ _ _ _ _ _ _ _ _ _ _ _ _ _ _ _ _ _ _ _ _ _ _ _ _ _ _ _ _ _ _ _ _ _ _ _ _ _ _ _ _ _ _ _ _ _ _ _ _ _ _ _ _ _ _ _ _ _ _ _ _ _ _ _ _ _ _ _ _ _ _ _ _ _ _ _ _ _ _ _ _ _ _ _ _ _ _ _ _ _ _ _ _ _ _ _ _ _ _ _
end Go.Proofs.Ytlflfkdnpalhlaa
