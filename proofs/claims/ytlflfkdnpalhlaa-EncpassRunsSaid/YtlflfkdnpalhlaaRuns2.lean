import Derived.Test.YtlflfkdnpalhlaaRuns
/-! EncpassRuns. -/
namespace Go.Proofs.Ytlflfkdnpalhlaa
open Go.Sim
open Go.RowKit
set_option linter.unusedVariables false
set_option linter.unusedSimpArgs false
set_option maxRecDepth 10000 in
set_option maxHeartbeats 1000000 in
theorem ret_runs {h : Heap} {i : Inp} {s t u1 u2 : Value} {ps qs zs : List Int} (hi : Ints h s i.xs) (ht : Sl h 1 t zs.length (zs.map fun z => .int .u8 z)) (tb : below h.length t = true) (ct : Sim.isCell t = true) (hp : Ints h u1 ps) (hq : Ints h u2 qs) :
    Ret tab 7 [i.val s t, u1, u2] h fun v _ => v = .bool true := by
  obtain ⟨w, hh, xs, fl, o, ⟨byp, res, rst, cz, sy⟩⟩ := i
  simp only at hi
  obtain ⟨pa, pc, hps⟩ := hp.sl.shape
  obtain ⟨qa, qc, hqs⟩ := hq.sl.shape
  generalize hH : h ++ [some (⟨false, [.int .i64 w, .int .i64 hh, s, t, .int .i64 o, .bool byp, .bool res, .bool rst, .bool cz, .bool sy]⟩ : Blk)] = H
  have hbox : blk? H h.length = some ⟨false, [.int .i64 w, .int .i64 hh, s, t, .int .i64 o, .bool byp, .bool res, .bool rst, .bool cz, .bool sy]⟩ := by rw [← hH]; exact blk?_push_eq
  have hlow : ∀ id, id < h.length → blk? H id = blk? h id := fun id hid => by rw [← hH]; exact blk?_push_lt hid
  have hlen : H.length = h.length + 1 := by rw [← hH]; simp
  have hiH : Ints H s xs := hi.keep (by omega) (fun id hid _ => hlow id hid)
  have hpH : Ints H u1 ps := hp.keep (by omega) (fun id hid _ => hlow id hid)
  have hqH : Ints H u2 qs := hq.keep (by omega) (fun id hid _ => hlow id hid)
  have htH : Sl H 1 t zs.length (zs.map fun z => .int .u8 z) := by rw [← hH]; exact ht.push _
  have hsm := fun R => small_eq (R := R) (i := ⟨w, hh, xs, fl, o, ⟨byp, res, rst, cz, sy⟩⟩) hiH (below_mono (by omega) t tb) ct
  simp only [Inp.val] at hsm ⊢
  rw [enter7, B7]
  by_cases hS : Small ⟨w, hh, xs, fl, o, ⟨byp, res, rst, cz, sy⟩⟩
  · rw [decide_eq_true hS] at hsm
    by_cases q1 : 12 < ps.length
    · have q1' : (12 : Int) < ps.length := by omega
      simp [hH, hbox, hsm, hps, hqs, q1, q1', example_eq, k_guard, k_guardU, fin7]
    · have q1' : ¬ (12 : Int) < ps.length := by omega
      by_cases q2 : qs.length = ps.length
      · have q2' : ((qs.length : Int) != ps.length) = false := by simp [q2]
        obtain ⟨hl1, hl2⟩ := small_len hS
        have hrr := inR_planes.2 hS.2.2
        obtain ⟨⟨⟨w1, w2⟩, h1, h2⟩, _, _⟩ := hS
        simp only at hl1 hl2 hrr w1 w2 h1 h2
        obtain ⟨wn, rfl⟩ := Int.eq_ofNat_of_zero_le (show 0 ≤ w by omega)
        obtain ⟨hn, rfl⟩ := Int.eq_ofNat_of_zero_le (show 0 ≤ hh by omega)
        rw [Int.toNat_natCast, Int.toNat_natCast] at hl1
        obtain ⟨p, c, p', c', b, H1, e1, tw⟩ := build_eq (m := ⟨byp, res, rst, cz, sy⟩) (o := o) hiH htH (by omega) (by omega) (by omega) (by omega) hl1 hrr
        simp only at e1
        simp [hH, hbox, hsm, hps, hqs, q1, q1', q2, q2', e1, k_guard, k_guardU, fin7]
        rw [← q2, ← hqs, q2, ← hps]
        refine runs_loop (m := ⟨byp, res, rst, cz, sy⟩) hpH hqH q2 (by omega) hbox (by omega) (by omega) ?_ _ 0 H1 b _ _ _ _ _ _ _ _ _ _ _ _ _ _ _ _ _ _ _ _ _ _ _ _ _ _ _ _ _ _ _ _ _ _ _ _ _ _ _ _ _ _ _ _ _ _ _ _ _ _ _ _ _ _ _ _ _ _ _ _ _ _ _ _ _ _ _ _ _ _ _ _ _ _ _ _ _ _ _ _ _ _ _ _ _ _ _ rfl (Nat.zero_le _) tw
        intro H' b' t0 t4 t5 t9 t10 t11 t12 t13 t14 t15 t16 t17 t18 t19 t20 t21 t22 t23 t24 t25 t26 t27 t28 t29 t30 t31 t32 t33 t34 t35 t36 t37 t38 t39 t40 t41 t42 t43 t44 t45 t46 t47 t48 t49 t50 t51 t52 t53 t54 t55 t56 t57 t58 t59 t60 t61 t62 t63 t64 t65 t66 t67 t68 t69 t70 t71 t72 t73 t74 t75 t76 t77 t78 t79 t80 t81 t82 t83 t84 t85 t86 t87 t88 t89 t90 t91 t92 t93 t94 _
        simp [example_eq, fin7]
      · have q2' : ((qs.length : Int) != ps.length) = true := by simp; omega
        simp [hH, hbox, hsm, hps, hqs, q1, q1', q2, q2', example_eq, k_guard, k_guardU, fin7]
  · rw [decide_eq_false hS] at hsm
    simp [hH, hbox, hsm, example_eq, k_guard, k_guardU, fin7]
end Go.Proofs.Ytlflfkdnpalhlaa
