import Derived.Test.YtlflfkdnpalhlaaSha
/-! EncpassShape. -/
namespace Go.Proofs.Ytlflfkdnpalhlaa
open Go.Sim
open Go.RowKit
set_option linter.unusedVariables false
set_option linter.unusedSimpArgs false

set_option maxRecDepth 10000 in
set_option maxHeartbeats 1000000 in
theorem ret_shape {h : Heap} {i : Inp} {s t : Value} (hi : Ints h s i.xs) (tb : below h.length t = true) (ct : Sim.isCell t = true) : Ret tab 10 [i.val s t] h fun v _ => v = .bool true := by
  obtain ⟨w, hh, xs, fl, o, ⟨byp, res, rst, cz, sy⟩⟩ := i
  simp only at hi
  generalize hH : h ++ [some (⟨false, [.int .i64 w, .int .i64 hh, s, t, .int .i64 o, .bool byp, .bool res, .bool rst, .bool cz, .bool sy]⟩ : Blk)] = H
  have hbox : blk? H h.length = some ⟨false, [.int .i64 w, .int .i64 hh, s, t, .int .i64 o, .bool byp, .bool res, .bool rst, .bool cz, .bool sy]⟩ := by rw [← hH]; exact blk?_push_eq
  have hlow : ∀ id, id < h.length → blk? H id = blk? h id := fun id hid => by rw [← hH]; exact blk?_push_lt hid
  have hlen : H.length = h.length + 1 := by rw [← hH]; simp
  have hiH : Ints H s xs := hi.keep (by omega) (fun id hid _ => hlow id hid)
  have hsm := fun R => small_eq (R := R) (i := ⟨w, hh, xs, fl, o, ⟨byp, res, rst, cz, sy⟩⟩) hiH (below_mono (by omega) t tb) ct
  have hvo := fun R => validOrient_r (h := H) (R := R) (o := o)
  simp only [Inp.val] at hsm ⊢
  rw [enter10, B10]
  by_cases hS : Small ⟨w, hh, xs, fl, o, ⟨byp, res, rst, cz, sy⟩⟩
  · by_cases hO : 0 ≤ o ∧ o ≤ 3
    · rw [decide_eq_true hO] at hvo
      rw [decide_eq_true hS] at hsm
      obtain ⟨hl1, hl2⟩ := small_len hS
      have hr := symRes_of_small hS hO
      have hpl60 : planesOf xs ≤ 60 := hS.2.2
      simp only at hl1 hl2 hr
      obtain ⟨s1, H1, e1, o1⟩ := symbols_c hiH (by omega) w hh o ⟨byp, res, rst, cz, sy⟩
      have hsmall := (symRes_small (xs := xs) (w := w) (hh := hh) (o := o) (m := ⟨byp, res, rst, cz, sy⟩)).2
      rw [hr] at e1 o1 hsmall
      obtain ⟨vs1, p1⟩ := o1.pss
      have hln : (passesOf ⟨byp, res, rst, cz, sy⟩ (planesOf xs) o.toNat (3 * planesOf xs - 2) 0 (fillTo w.toNat hh.toNat xs xs.length)).length = 3 * planesOf xs - 2 := passesOf_len _ _ _ _ _ _
      have hok : ∀ (i : Nat) (hi : i < (passesOf ⟨byp, res, rst, cz, sy⟩ (planesOf xs) o.toNat (3 * planesOf xs - 2) 0 (fillTo w.toNat hh.toNat xs xs.length)).length),
          (∀ p ∈ (passesOf ⟨byp, res, rst, cz, sy⟩ (planesOf xs) o.toNat (3 * planesOf xs - 2) 0 (fillTo w.toNat hh.toNat xs xs.length))[i], SymOk (rawOf ⟨byp, res, rst, cz, sy⟩ i) p) ∧ (kindOf i = 2 → sy = true → ∃ l, (passesOf ⟨byp, res, rst, cz, sy⟩ (planesOf xs) o.toNat (3 * planesOf xs - 2) 0 (fillTo w.toNat hh.toNat xs xs.length))[i] = l ++ chk) := by
        intro i hi
        obtain ⟨b', hb'⟩ := passesOf_get _ _ _ _ _ _ i hi
        rw [hb', Nat.zero_add]
        exact ⟨ok_runSt _ _ _ _ _, fun h2 hs => end_runSt _ _ _ h2 hs⟩
      generalize passesOf ⟨byp, res, rst, cz, sy⟩ (planesOf xs) o.toNat (3 * planesOf xs - 2) 0 (fillTo w.toNat hh.toNat xs xs.length) = ls at *
      have hbox1 : blk? H1 h.length = some ⟨false, [.int .i64 w, .int .i64 hh, s, t, .int .i64 o, .bool byp, .bool res, .bool rst, .bool cz, .bool sy]⟩ := by rw [o1.low _ (by omega)]; exact hbox
      have hi1 : Ints H1 s xs := hiH.keep o1.len (fun id hid _ => o1.low id hid)
      have hpr := fun R => planes_r (R := R) hi1 (by omega)
      obtain ⟨a1, c1, hs1⟩ := p1.sl.shape
      have hpl := p1.len
      simp only [MD.val] at e1
      rw [hpl] at hs1
      subst hs1
      simp only at p1 hpl hsmall
      generalize planesOf xs = p at *
      have m1 : IntKind.i64.wrap (3 * (p : Int)) = 3 * (p : Int) := wrapI (by omega) (by omega)
      have m2 : IntKind.i64.wrap (3 * (p : Int) - 2) = 3 * (p : Int) - 2 := wrapI (by omega) (by omega)
      have hmax : fold1 max2V [.int .i64 0, .int .i64 (3 * (p : Int) - 2)] = some (.int .i64 (ls.length : Int)) := by
        simp [fold1, foldO, max2V]; omega
      simp [hH, hbox, hbox1, hsm, hvo, e1, hpr, m1, m2, hmax, k_guard, k_guardU, fin10]
      refine shape_loop (m := ⟨byp, res, rst, cz, sy⟩) p1 hsmall (by omega) hbox1 hok ?_ _ 0 H1 _ _ _ _ _ _ _ _ _ _ _ _ _ _ _ _ _ _ _ _ _ _ _ _ _ _ _ _ _ _ _ _ _ _ _ _ _ _ _ _ _ _ _ _ _ _ _ _ _ _ _ _ _ _ _ _ _ _ _ _ _ _ _ _ _ _ _ _ _ _ _ _ _ _ _ _ _ _ _ _ _ _ _ _ _ _ _ _ _ _ _ _ _ _ _ _ _ _ _ _ _ _ _ _ _ _ _ _ _ _ _ _ _ _ _ _ _ _ _ _ _ _ _ rfl (Nat.zero_le _) (Low.refl _)
      intro h' t0 t3 t4 t5 t6 t7 t8 t9 t10 t11 t12 t13 t14 t15 t16 t17 t18 t19 t20 t21 t22 t23 t24 t25 t26 t27 t28 t29 t30 t31 t32 t33 t34 t35 t36 t37 t38 t39 t40 t41 t42 t43 t44 t45 t46 t47 t48 t49 t50 t51 t52 t53 t54 t55 t56 t57 t58 t59 t60 t61 t62 t63 t64 t65 t66 t67 t68 t69 t70 t71 t72 t73 t74 t75 t76 t77 t78 t79 t80 t81 t82 t83 t84 t85 t86 t87 t88 t89 t90 t91 t92 t93 t94 t95 t96 t97 t98 t99 t100 t101 t102 t103 t104 t105 t106 t107 t108 t109 t110 t111 t112 t113 t114 t115 t116 t117 t118 t119 t120 t121 t122 t123 t124 t125 t126 t127 _
      simp [example_eq, fin10]
    · rw [decide_eq_false hO] at hvo
      rw [decide_eq_true hS] at hsm
      simp [hH, hbox, hsm, hvo, example_eq, k_guard, k_guardU, fin10]
  · rw [decide_eq_false hS] at hsm
    simp [hH, hbox, hsm, example_eq, k_guard, k_guardU, fin10]
end Go.Proofs.Ytlflfkdnpalhlaa
