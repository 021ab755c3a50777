import Derived.Test.YtlflfkdnpalhlaaPre
/-! EncpassPrefix. -/
namespace Go.Proofs.Ytlflfkdnpalhlaa
open Go.Sim
open Go.RowKit
set_option linter.unusedVariables false
set_option linter.unusedSimpArgs false

theorem cut_pure {w h p kn n o : Nat} {xs : List Int} {m : MD} (hg : (fillTo w h xs xs.length).Good) (hg' : (fillTo w h (xs.map (cutv kn)) (xs.map (cutv kn)).length).Good) (hk : kn < p) (hn : n = 3 * (p - kn) - 2) :
    (passesOf m p o (3 * p - 2) 0 (fillTo w h xs xs.length)).take n = (passesOf m p o (3 * p - 2) 0 (fillTo w h (xs.map (cutv kn)) (xs.map (cutv kn)).length)).take n := by
  rw [passesOf_take _ _ _ _ _ _ _ (by omega), passesOf_take _ _ _ _ _ _ _ (by omega)]
  rw [List.length_map] at hg' ⊢
  refine (passes_cut n 0 _ _ (rb_fill _ rfl) hg hg' fun i _ hi => ?_).symm
  unfold planeOf
  split <;> omega

theorem repL_cut (k : Nat) (xs : List Int) : repL [.int .i64 0] xs.length = cutc k xs 0 := by
  unfold cutc
  simp only [List.take_zero, List.map_nil, List.nil_append, Nat.sub_zero]
  generalize xs.length = n
  induction n with
  | zero => rfl
  | succ n ih => rw [repL, ih, List.replicate_succ]; rfl
section
variable {h : Heap}
set_option maxRecDepth 10000 in
set_option maxHeartbeats 1000000 in
theorem ret_prefix {i : Inp} {s t : Value} {kk : Int} (hi : Ints h s i.xs) (hlen0 : i.xs.length < 9223372036854775808) (tb : below h.length t = true) (ct : Sim.isCell t = true) : Ret tab 11 [i.val s t, .int .i64 kk] h fun v _ => v = .bool true := by
  obtain ⟨w, hh, xs, fl, o, ⟨byp, res, rst, cz, sy⟩⟩ := i
  simp only at hi hlen0
  obtain ⟨a0, c0, hs0⟩ := hi.sl.shape
  generalize hH : h ++ [some (⟨false, [.int .i64 w, .int .i64 hh, s, t, .int .i64 o, .bool byp, .bool res, .bool rst, .bool cz, .bool sy]⟩ : Blk)] = H
  have hbox : blk? H h.length = some ⟨false, [.int .i64 w, .int .i64 hh, s, t, .int .i64 o, .bool byp, .bool res, .bool rst, .bool cz, .bool sy]⟩ := by rw [← hH]; exact blk?_push_eq
  have hlow : ∀ id, id < h.length → blk? H id = blk? h id := fun id hid => by rw [← hH]; exact blk?_push_lt hid
  have hlen : H.length = h.length + 1 := by rw [← hH]; simp
  have hiH : Ints H s xs := hi.keep (by omega) (fun id hid _ => hlow id hid)
  have hsm := fun R => small_eq (R := R) (i := ⟨w, hh, xs, fl, o, ⟨byp, res, rst, cz, sy⟩⟩) hiH (below_mono (by omega) t tb) ct
  have hvo := fun R => validOrient_r (h := H) (R := R) (o := o)
  have hpr := fun R => planes_r2 (R := R) hiH hlen0
  simp only [Inp.val] at hsm ⊢
  rw [enter11, B11]
  by_cases hS : Small ⟨w, hh, xs, fl, o, ⟨byp, res, rst, cz, sy⟩⟩
  · rw [decide_eq_true hS] at hsm
    by_cases hO : 0 ≤ o ∧ o ≤ 3
    · rw [decide_eq_true hO] at hvo
      by_cases q1 : kk < 0
      · simp [hH, hbox, hsm, hvo, hpr, q1, example_eq, k_guard, k_guardU, fin11]
      · by_cases q2 : (planesOf xs : Int) ≤ kk
        · simp [hH, hbox, hsm, hvo, hpr, q1, q2, example_eq, k_guard, k_guardU, fin11]
        · obtain ⟨kn, rfl⟩ := Int.eq_ofNat_of_zero_le (show 0 ≤ kk by omega)
          obtain ⟨hl1, hl2⟩ := small_len hS
          have hpl60 : planesOf xs ≤ 60 := hS.2.2
          simp only at hl1 hl2
          rw [hs0] at hH hbox hsm hpr
          have hroom : xs.length ≤ roomCells := by unfold roomCells; omega
          have hbox0 : blk? (H ++ [some ⟨false, cutc kn xs 0⟩]) h.length = _ := blk?_push hbox
          simp [-List.cons_append, -List.append_assoc, hs0, hH, hbox, hsm, hvo, hpr, q1, q2, hl2, hroom, repL_cut kn, hbox0, k_guard, k_guardU, fin11]
          have hrr := inR_planes.2 hpl60
          rw [hs0] at hiH
          refine cut_loop hiH hrr (by omega) hl2 ?_ _ 0 _ _ _ _ _ _ _ _ _ _ _ _ _ _ _ _ _ _ _ _ _ _ _ _ _ _ _ _ _ _ _ _ _ _ _ _ _ _ _ _ _ _ _ _ _ _ _ _ _ _ _ _ _ _ _ _ _ _ _ _ _ _ _ _ _ _ _ _ _ _ _ _ _ _ _ _ _ _ _ _ _ _ _ _ _ _ _ _ _ _ _ _ _ _ _ _ _ _ _ _ _ _ _ _ _ _ _ _ _ _ _ _ _ _ _ _ _ _ _ _ _ _ _ _ _ rfl (Nat.zero_le _)
          intro t0 t3 t7 t8 t9 t10 t11 t12 t13 t14 t15 t16 t17 t18 t19 t20 t21 t22 t23 t24 t25 t26 t27 t28 t29 t30 t31 t32 t33 t34 t35 t36 t37 t38 t39 t40 t41 t42 t43 t44 t45 t46 t47 t48 t49 t50 t51 t52 t53 t54 t55 t56 t57 t58 t59 t60 t61 t62 t63 t64 t65 t66 t67 t68 t69 t70 t71 t72 t73 t74 t75 t76 t77 t78 t79 t80 t81 t82 t83 t84 t85 t86 t87 t88 t89 t90 t91 t92 t93 t94 t95 t96 t97 t98 t99 t100 t101 t102 t103 t104 t105 t106 t107 t108 t109 t110 t111 t112 t113 t114 t115 t116 t117 t118 t119 t120 t121 t122 t123 t124 t125 t126 t127 t128 t129 t130 t131 t132
          have hbox2 : blk? (H ++ [some ⟨false, cutc kn xs xs.length⟩]) h.length = _ := blk?_push hbox
          have hi2 : Ints (H ++ [some ⟨false, cutc kn xs xs.length⟩]) (.slice a0 xs.length c0) xs := hiH.keep (by simp) (fun id hid _ => blk?_push_lt hid)
          have hcl : (xs.map (cutv kn)).length = xs.length := List.length_map _
          have hic : Ints (H ++ [some ⟨false, cutc kn xs xs.length⟩]) (.slice (some ⟨H.length, 0, none⟩) xs.length 1) (xs.map (cutv kn)) := by
            refine ints_own ⟨by simp [i64s], .inr ⟨H.length, by rw [hcl], ?_⟩⟩ ?_
            · rw [blk?_push_eq]; simp [cutc]
            · intro v hv
              rw [List.mem_map] at hv
              obtain ⟨x, hx, rfl⟩ := hv
              have := hrr x hx
              have hle := cutN_le kn x.natAbs
              unfold inR at this
              unfold cutv
              split <;> omega
          generalize H ++ [some ⟨false, cutc kn xs xs.length⟩] = H2 at *
          have hlt2 := blk?_lt hbox2
          have hpc : planesOf (xs.map (cutv kn)) = planesOf xs := planes_cut (by omega)
          have hS' : Small ⟨w, hh, xs.map (cutv kn), fl, o, ⟨byp, res, rst, cz, sy⟩⟩ := ⟨hS.1, by have := hS.2.1; simp only at this ⊢; rw [hcl]; exact this, by simp only; rw [hpc]; exact hpl60⟩
          have hr1 := symRes_of_small hS hO
          have hr2 := symRes_of_small hS' hO
          have hg1 := small_good hS
          have hg2 := small_good hS'
          simp only at hr1 hr2 hg1 hg2
          rw [hpc] at hr2
          have hpure := cut_pure (m := ⟨byp, res, rst, cz, sy⟩) (o := o.toNat) (p := planesOf xs) (kn := kn) (n := 3 * (planesOf xs - kn) - 2) hg1 hg2 (by omega) rfl
          have hn1 := passesOf_len ⟨byp, res, rst, cz, sy⟩ (planesOf xs) o.toNat (3 * planesOf xs - 2) 0 (fillTo w.toNat hh.toNat xs xs.length)
          have hn2 := passesOf_len ⟨byp, res, rst, cz, sy⟩ (planesOf xs) o.toNat (3 * planesOf xs - 2) 0 (fillTo w.toNat hh.toNat (xs.map (cutv kn)) (xs.map (cutv kn)).length)
          obtain ⟨s1, H3, e1, o1⟩ := symbols_c hi2 (by omega) w hh o ⟨byp, res, rst, cz, sy⟩
          have hic3 : Ints H3 _ (xs.map (cutv kn)) := hic.keep o1.len (fun id hid _ => o1.low id hid)
          have hbox3 := (o1.low _ hlt2).trans hbox2
          obtain ⟨s2, H4, e2, o2⟩ := symbols_c hic3 (by omega) w hh o ⟨byp, res, rst, cz, sy⟩
          have hsm1 := (symRes_small (xs := xs) (w := w) (hh := hh) (o := o) (m := ⟨byp, res, rst, cz, sy⟩)).2
          rw [hr1] at e1 o1 hsm1
          rw [hr2] at e2 o2
          obtain ⟨vs1, p1⟩ := o1.pss
          obtain ⟨vs2, p2⟩ := o2.pss
          have p1' := p1.keep o2.len o2.low
          have hbox4 := (o2.low _ (blk?_lt hbox3)).trans hbox3
          simp only at p1' p2 hsm1
          generalize passesOf ⟨byp, res, rst, cz, sy⟩ (planesOf xs) o.toNat (3 * planesOf xs - 2) 0 (fillTo w.toNat hh.toNat xs xs.length) = L1 at *
          generalize passesOf ⟨byp, res, rst, cz, sy⟩ (planesOf xs) o.toNat (3 * planesOf xs - 2) 0 (fillTo w.toNat hh.toNat (xs.map (cutv kn)) (xs.map (cutv kn)).length) = L2 at *
          generalize planesOf xs = p at *
          obtain ⟨L, hL⟩ : ∃ L, L = 3 * p - 2 := ⟨_, rfl⟩
          obtain ⟨n, hn⟩ : ∃ n, n = 3 * (p - kn) - 2 := ⟨_, rfl⟩
          rw [← hL] at hn1 hn2
          rw [← hn] at hpure
          have u1 := p1'.len
          have u2 := p2.len
          obtain ⟨id1, off1, b1, hs1, _, _⟩ := p1'.get (i := 0) (by omega)
          obtain ⟨id2, off2, b2, hs2, _, _⟩ := p2.get (i := 0) (by omega)
          rw [u1, hn1] at hs1
          rw [u2, hn2] at hs2
          subst hs1
          subst hs2
          have hnL : n ≤ L := by omega
          have hsame := fun R => samePasses_r (R := R) (p1'.take (j := n) (by omega)) (p2.take (j := n) (by omega)) (by simp; omega) (fun l hl => hsm1 l (List.mem_of_mem_take hl))
          rw [decide_eq_true hpure] at hsame
          have m1 : IntKind.i64.wrap ((p : Int) - kn) = (p : Int) - kn := wrapI (by omega) (by omega)
          have m2 : IntKind.i64.wrap (3 * ((p : Int) - kn)) = 3 * ((p : Int) - kn) := wrapI (by omega) (by omega)
          have m3 : IntKind.i64.wrap (3 * ((p : Int) - kn) - 2) = (n : Int) := by rw [wrapI (by omega) (by omega)]; omega
          have hlt1 : ¬ ((L : Int) < n) := by omega
          have hsl1 : ∀ id off, sliceV 1 (.slice (some ⟨id, off, none⟩) L 1) none (some (.int .i64 (n : Int))) = some (.slice (some ⟨id, off, none⟩) n 1) := by
            intro id off
            simp [sliceV, bndO, bnd, hnL]
          simp only [MD.val] at e1 e2
          simp [hbox2, hbox3, hbox4, e1, e2, m1, m2, m3, hlt1, hnL, hsl1, hsame, example_eq, k_guard, k_guardU, fin11]
    · rw [decide_eq_false hO] at hvo
      simp [hH, hbox, hsm, hvo, hpr, example_eq, k_guard, k_guardU, fin11]
  · rw [decide_eq_false hS] at hsm
    simp [hH, hbox, hsm, hpr, example_eq, k_guard, k_guardU, fin11]
end
end Go.Proofs.Ytlflfkdnpalhlaa
