import Derived.Test.YtlflfkdnpalhlaaBld
/-! 'build'. -/
namespace Go.Proofs.Ytlflfkdnpalhlaa
open Go.Sim
open Go.RowKit
set_option linter.unusedVariables false
set_option linter.unusedSimpArgs false

theorem newHeap_two (h : Heap) {w hh : Nat} (w1 : 1 ≤ w) (w2 : w ≤ 64) (h1 : 1 ≤ hh) (h2 : hh ≤ 64) :
    TwoB h (newHeap (newHeap h w hh) w hh) (h.length + 1) h.length (h.length + 3) (h.length + 2) w hh (newBS w hh) := by
  have a := newHeap_cb h w1 w2 h1 h2
  have b := newHeap_cb (newHeap h w hh) w1 w2 h1 h2
  rw [newHeap_len] at b
  have l1 := newHeap_len h w hh
  have lo := newHeap_low (newHeap h w hh) w hh
  refine ⟨⟨by rw [lo _ (by omega)]; exact a.blkp, by rw [lo _ (by omega)]; exact a.blkc, a.ok⟩, b, newBS_good w1 w2 h1 h2, rfl, rfl, by omega, by omega, by omega, ⟨by omega, by omega⟩, fun id hid => ?_, by rw [newHeap_len]; omega⟩
  rw [lo id (by omega), newHeap_low h w hh id hid]
section
variable {h : Heap}
set_option maxRecDepth 10000 in
set_option maxHeartbeats 1000000 in
theorem build_eq {w hh : Nat} {s t : Value} {o : Int} {m : MD} {xs zs : List Int} (hi : Ints h s xs) (ht : Sl h 1 t zs.length (zs.map fun z => .int .u8 z))
    (w1 : 1 ≤ w) (w2 : w ≤ 64) (h1 : 1 ≤ hh) (hh2 : hh ≤ 64) (hl : xs.length = w * hh) (hr : ∀ v ∈ xs, inR v) :
    ∃ p c p' c' b H, (∀ R, Ret tab 34 [.agg #[.int .i64 w, .int .i64 hh, s, t, .int .i64 o, .bool m.byp, .bool m.res, .bool m.rst, .bool m.cz, .bool m.sy]] h R = R (.tuple #[ptr p, ptr p']) H) ∧ TwoB h H p c p' c' w hh b := by
  have key : Ret tab 34 [.agg #[.int .i64 w, .int .i64 hh, s, t, .int .i64 o, .bool m.byp, .bool m.res, .bool m.rst, .bool m.cz, .bool m.sy]] h fun v H => ∃ p c p' c' b, v = .tuple #[ptr p, ptr p'] ∧ TwoB h H p c p' c' w hh b := by
    obtain ⟨a0, c0, hs0⟩ := hi.sl.shape
    generalize hH : h ++ [some (⟨false, [.int .i64 w, .int .i64 hh, s, t, .int .i64 o, .bool m.byp, .bool m.res, .bool m.rst, .bool m.cz, .bool m.sy]⟩ : Blk)] = H
    have hbox : blk? H h.length = some ⟨false, [.int .i64 w, .int .i64 hh, s, t, .int .i64 o, .bool m.byp, .bool m.res, .bool m.rst, .bool m.cz, .bool m.sy]⟩ := by rw [← hH]; exact blk?_push_eq
    have hlow : ∀ id, id < h.length → blk? H id = blk? h id := fun id hid => by rw [← hH]; exact blk?_push_lt hid
    have hlen : H.length = h.length + 1 := by rw [← hH]; simp
    have hiH : Ints H s xs := hi.keep (by omega) (fun id hid _ => hlow id hid)
    have htH : Sl H 1 t zs.length (zs.map fun z => .int .u8 z) := by rw [← hH]; exact ht.push _
    have en := fun R => new_c (h := H) (R := R) w1 w2 h1 hh2
    have er := fun R => new_r (h := newHeap H w hh) (R := R) w1 w2 h1 hh2
    rw [newHeap_len] at er
    have tb := newHeap_two H w1 w2 h1 hh2
    have hbox1 : blk? (newHeap H w hh) h.length = _ := (newHeap_low H w hh h.length (by omega)).trans hbox
    have hbox2 := (tb.low h.length (by omega)).trans hbox
    rw [enter34, B34]
    rw [hs0] at hH hbox hbox1 hbox2 hiH
    simp [hs0, hH, hbox, hbox1, hbox2, en, er]
    refine build_loop hiH htH hbox w1 w2 hh2 hl hr ?_ _ 0 _ _ _ _ _ _ _ _ _ _ _ _ _ _ _ _ _ _ _ _ _ _ _ _ _ _ _ _ _ _ _ _ _ _ _ _ _ _ _ _ _ _ _ _ _ _ _ _ _ _ _ _ _ _ _ _ _ _ _ _ _ _ _ _ _ _ _ _ _ _ _ _ _ _ _ _ _ _ _ _ _ _ _ _ _ _ _ _ _ _ _ _ _ _ _ _ _ _ _ _ _ _ _ rfl (Nat.zero_le _) tb
    intro H' b t0 t5 t7 t8 t9 t10 t11 t12 t13 t14 t15 t16 t17 t18 t19 t20 t21 t22 t23 t24 t25 t26 t27 t28 t29 t30 t31 t32 t33 t34 t35 t36 t37 t38 t39 t40 t41 t42 t43 t44 t45 t46 t47 t48 t49 t50 t51 t52 t53 t54 t55 t56 t57 t58 t59 t60 t61 t62 t63 t64 t65 t66 t67 t68 t69 t70 t71 t72 t73 t74 t75 t76 t77 t78 t79 t80 t81 t82 t83 t84 t85 t86 t87 t88 t89 t90 t91 t92 t93 t94 t95 t96 t97 t98 t99 t100 t101 t102 t103 t104 t105 t106 t107 t108 tb'
    simp [ptr, fin34]
    refine ⟨_, _, _, ⟨rfl, rfl⟩, _, b, tb'.cb, tb'.cb', tb'.good, tb'.bw, tb'.bh, tb'.d1, tb'.d2, tb'.d3, ⟨by have := tb'.far; omega, by have := tb'.far; omega⟩, fun id hid => ?_, by have := tb'.len; omega⟩
    rw [tb'.low id (by omega)]
    exact hlow id hid
  obtain ⟨v, H, e, p, c, p', c', b, rfl, tb⟩ := ret_ex key
  exact ⟨p, c, p', c', b, H, e, tb⟩
end
end Go.Proofs.Ytlflfkdnpalhlaa
