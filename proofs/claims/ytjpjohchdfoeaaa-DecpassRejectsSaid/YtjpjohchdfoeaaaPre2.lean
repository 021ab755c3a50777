/-
  DecpassPrefix returns true at every block.
-/
import Derived.Test.YtjpjohchdfoeaaaPre
namespace Go.Proofs.Ytjpjohchdfoeaaa
open Go Go.Sim
set_option linter.unusedSimpArgs false
set_option linter.unusedVariables false

theorem Pss.cut {h : Heap} {s : Value} {vs : List Value} {ls : List (List (Int × Nat))} (hp : Pss h s vs ls) {j : Nat} (hj : j ≤ ls.length) : ∃ s', sliceV 1 s none (some (.int .i64 (j : Int))) = some s' ∧ Pss h s' (vs.take j) (ls.take j) := by
  have hv := hp.len
  rcases hp.sl.2 with ⟨rfl, h0⟩ | ⟨id, off, rfl, _⟩
  · have hj0 : j = 0 := by omega
    subst hj0
    have e1 : vs = [] := List.eq_nil_of_length_eq_zero h0
    have e2 : ls = [] := List.eq_nil_of_length_eq_zero (by omega)
    subst e1; subst e2
    exact ⟨.slice none 0 0, by simp [sliceV, bndO, bnd], hp⟩
  · exact ⟨_, by simp [sliceV, bndO, bnd, show j ≤ vs.length by omega], hp.take hj⟩
theorem max_planes (P : Int) : fold1 max2V [.int .i64 0, .int .i64 (3 * P - 2)] = some (.int .i64 (max 0 (3 * P - 2))) := by
  simp only [fold1, foldO, max2V]
  congr 2
  split <;> omega

section
variable {h : Heap} {R : Value → Heap → Prop}
/-- Pass of the number before n. -/
theorem pass_before {n : Nat} (hn : n ≤ 1000) : ∃ pl kd : Int, (∀ R, Ret tab 38 [.int .i64 ((n : Int) - 1)] h R = R (.tuple #[.int .i64 pl, .int .i64 kd]) h) ∧ (-1 ≤ pl ∧ pl ≤ 1000) ∧ (0 < n → pl = planeOf (n - 1) ∧ kd = kindOf (n - 1)) ∧ (n = 0 → pl = -1) := by
  by_cases h0 : n = 0
  · subst h0
    exact ⟨-1, -1, fun R => pass_neg_r, by omega, fun h => by omega, fun _ => rfl⟩
  · have hp : planeOf (n - 1) ≤ 1000 := by unfold planeOf; split <;> omega
    refine ⟨planeOf (n - 1), kindOf (n - 1), fun R => ?_, by omega, fun _ => ⟨rfl, rfl⟩, fun h => by omega⟩
    rw [show ((n : Int) - 1) = ((n - 1 : Nat) : Int) by omega]
    exact pass_r (by omega)
set_option maxRecDepth 10000 in
set_option maxHeartbeats 1000000 in
theorem ret_prefix {i : Inp} {s t : Value} {kk : Int} (hi : Ints h s i.xs) (hlen0 : i.xs.length < 9223372036854775808) (tb : below h.length t = true) (ct : Sim.isCell t = true) : Ret tab 7 [i.val s t, .int .i64 kk] h fun v _ => v = .bool true := by
  obtain ⟨w, hh, xs, fl, o, ⟨byp, res, rst, cz, sy⟩⟩ := i
  simp only at hi hlen0
  obtain ⟨sa, sc, hss⟩ := hi.sl.shape
  generalize hH : h ++ [some (⟨false, [.int .i64 w, .int .i64 hh, s, t, .int .i64 o, .bool byp, .bool res, .bool rst, .bool cz, .bool sy]⟩ : Blk)] = H
  have hbox : blk? H h.length = some ⟨false, [.int .i64 w, .int .i64 hh, s, t, .int .i64 o, .bool byp, .bool res, .bool rst, .bool cz, .bool sy]⟩ := by rw [← hH]; exact blk?_push_eq
  have hlow : ∀ id, id < h.length → blk? H id = blk? h id := fun id hid => by rw [← hH]; exact blk?_push_lt hid
  have hlen : H.length = h.length + 1 := by rw [← hH]; simp
  have hiH : Ints H s xs := hi.keep (by omega) (fun id hid _ => hlow id hid)
  have hsm := fun R => small_eq (R := R) (i := ⟨w, hh, xs, fl, o, ⟨byp, res, rst, cz, sy⟩⟩) hiH (below_mono (by omega) t tb) ct
  have hvo := fun R => validOrient_r (h := H) (R := R) (o := o)
  have hpr := fun R => planes_r2 (R := R) hiH hlen0
  simp only [Inp.val] at hsm ⊢
  rw [enter7, B7]
  by_cases hS : Small ⟨w, hh, xs, fl, o, ⟨byp, res, rst, cz, sy⟩⟩
  · rw [decide_eq_true hS] at hsm
    by_cases hO : 0 ≤ o ∧ o ≤ 3
    · rw [decide_eq_true hO] at hvo
      have hpl60 : planesOf xs ≤ 60 := hS.2.2
      have m1 : IntKind.i64.wrap (3 * (planesOf xs : Int)) = 3 * (planesOf xs : Int) := wrapI (by omega) (by omega)
      have m2 : IntKind.i64.wrap (3 * (planesOf xs : Int) - 2) = 3 * (planesOf xs : Int) - 2 := wrapI (by omega) (by omega)
      have m3 := max_planes (planesOf xs)
      by_cases q1 : kk < 0
      · simp [hss ▸ hH, hH, hbox, hsm, hvo, hpr, m1, m2, m3, q1, example_eq, k_guard, k_guardU, fin7]
      · by_cases q2 : max 0 (3 * (planesOf xs : Int) - 2) < kk
        · simp [hH, hbox, hsm, hvo, hpr, m1, m2, m3, q1, q2, example_eq, k_guard, k_guardU, fin7]
        · obtain ⟨n, rfl⟩ := Int.eq_ofNat_of_zero_le (show 0 ≤ kk by omega)
          have hn : n ≤ 3 * planesOf xs - 2 := by omega
          have hsy := symRes_of_small hS hO
          obtain ⟨hl1, hl2⟩ := small_len hS
          obtain ⟨⟨⟨w1, w2⟩, h1, h2⟩, _, hp60⟩ := hS
          simp only at hl1 hl2 w1 w2 h1 h2 hp60 hsy
          obtain ⟨sv, H1, e1, o1⟩ := symbols_c hiH (by omega) w hh o ⟨byp, res, rst, cz, sy⟩
          rw [hsy] at e1 o1
          obtain ⟨vs, ps⟩ := o1.pss
          simp only at ps
          have hlen1 := o1.len
          have hiH1 : Ints H1 s xs := hiH.keep (by omega) (fun id hid _ => o1.low id hid)
          have hbox1 : blk? H1 h.length = some ⟨false, [.int .i64 w, .int .i64 hh, s, t, .int .i64 o, .bool byp, .bool res, .bool rst, .bool cz, .bool sy]⟩ := by rw [o1.low _ (by omega)]; exact hbox
          have hlps := ps.len
          rw [passesOf_len] at hlps
          obtain ⟨s', hsl, ps'⟩ := ps.cut (j := n) (by rw [passesOf_len]; exact hn)
          rw [passesOf_take _ _ _ _ _ _ _ hn] at ps'
          obtain ⟨d, hlaw, hdl, hd⟩ := prefix_law (m := ⟨byp, res, rst, cz, sy⟩) (xs := xs) (w := w.toNat) (h := hh.toNat) (o := o) (by omega) (by omega) (by omega) (by omega) hl1 hp60 hO hn
          rw [Int.toNat_of_nonneg (by omega), Int.toNat_of_nonneg (by omega)] at hlaw
          obtain ⟨v1, v2, H2, e2, o2⟩ := values_d (psI_of ps') (by simp [stdI, passesOf_len]; omega) (planesOf xs) w hh o (by omega) ⟨byp, res, rst, cz, sy⟩
          rw [hlaw] at e2 o2
          have hlen2 := o2.len
          have hbox2 : blk? H2 h.length = some ⟨false, [.int .i64 w, .int .i64 hh, s, t, .int .i64 o, .bool byp, .bool res, .bool rst, .bool cz, .bool sy]⟩ := by rw [o2.low _ (by omega)]; exact hbox1
          have hiH2 : Iw H2 s xs := (hiH1.keep (h' := H2) (by omega) (fun id hid _ => o2.low id hid)).iw
          have i1 := iw_own o2.o1
          have i2 := iw_own o2.o2
          obtain ⟨pl, kd, hps, hpl, hpk, hp0⟩ := pass_before (h := H2) (n := n) (by omega)
          have hplp : planeOf (n - 1) ≤ 60 := by unfold planeOf; split <;> omega
          have hall : ∀ i (h1 : i < xs.length) (h2 : i < (d.cs.map (·.v)).length) (h3 : i < (d.cs.map fun c => leftOf (planesOf xs) n c.t).length), KeptOk (planesOf xs) n pl kd xs[i] (d.cs.map (·.v))[i] (d.cs.map fun c => leftOf (planesOf xs) n c.t)[i] := by
            intro i g1 g2 g3
            have g4 : i < d.cs.length := by simpa using g2
            obtain ⟨r1, r2, r3⟩ := hd i g1 g4
            rw [List.getElem_map, List.getElem_map]
            refine ⟨r1, r2, r3, fun hn0 => by unfold leftOf; rw [if_pos hn0], fun hn0 => ?_⟩
            obtain ⟨k1, k2⟩ := hpk hn0
            unfold leftOf
            rw [if_neg (by omega), k1, k2]
            split
            · rename_i hq
              right
              simp at hq
              exact ⟨by have := hq.1; omega, by omega⟩
            · left; omega
          have t1 : (d.cs.map (·.v)).length = xs.length := by simp [hdl]
          have t2 : (d.cs.map fun c => leftOf (planesOf xs) n c.t).length = xs.length := by simp [hdl]
          have hb1 := o2.o1.sl.shape
          have hb2 := o2.o2.sl.shape
          simp only at hb1 hb2 i1 i2
          clear o2
          generalize d.cs.map (·.v) = ys at *
          generalize (d.cs.map fun c => leftOf (planesOf xs) n c.t) = ms at *
          obtain ⟨b1, c1, rfl⟩ := hb1
          obtain ⟨b2, c2, rfl⟩ := hb2
          obtain ⟨sa1, sc1, rfl⟩ := ps.sl.shape
          have hpl2 : -1 ≤ pl ∧ pl ≤ 60 := by
            by_cases hn0 : n = 0
            · rw [hp0 hn0]; omega
            · rw [(hpk (by omega)).1]; omega
          have hrr := inR_planes.2 hp60
          rw [hlps] at e1 hsl
          have wn : IntKind.i64.wrap ((n : Int) - 1) = (n : Int) - 1 := wrapI (by omega) (by omega)
          have hq3 : ¬ ((3 * planesOf xs - 2 : Nat) : Int) < n := by omega
          have tt1 : ((ys.length : Int) != (xs.length : Int)) = false := by simp; omega
          have tt2 : ((ms.length : Int) != (xs.length : Int)) = false := by simp; omega
          simp only [MD.val] at e1 e2
          rw [hss] at *
          have hloop := fun (v4 v6 v7 v10 v102 : Value) (k : List RItem) hk => pre_loop (v4 := v4) (v6 := v6) (v7 := v7) (v10 := v10) (v102 := v102) (R := fun v _ => v = .bool true) (B := h.length) (P := planesOf xs) (n := n) (pl := pl) (kd := kd) (k := k) hiH2 i1 i2 hbox2 t1 t2 hl2 hp60 hpl2 hrr hall hk xs.length 0
          rw [t1, t2] at hloop
          rw [t1, t2] at e2
          simp [k_guard, k_guardU, hH, hbox, hsm, hvo, hpr, m1, m2, m3, q1, q2, e1, hbox1, hq3, hsl, e2, hbox2, wn, hps, book, logOf, addLog, chk1, lookL, reload]
          refine hloop _ _ _ _ _ _ ?_ _ _ _ _ _ _ _ _ _ _ _ _ _ _ _ _ _ _ _ _ _ _ _ _ _ _ _ _ _ _ _ _ _ _ _ _ _ _ _ _ _ _ _ _ _ _ _ _ _ _ _ _ _ _ _ _ _ _ _ _ _ _ _ _ _ _ _ _ _ _ _ _ _ _ _ _ _ _ _ _ _ _ _ _ _ _ _ _ _ _ _ _ _ _ _ _ _ _ _ _ _ _ _ _ _ _ _ _ _ _ _ _ _ _ _ _ _ _ _ _ _ _ _ _ _ _ _ _ _ _ _ _ _ _ _ _ _ _ _ _ _ _ _ _ _ _ _ _ _ _ _ _ _ _ _ _ _ _ _ _ _ _ _ _ rfl (Nat.zero_le _)
          intro t0 t3 t13 t14 t15 t16 t17 t18 t19 t20 t21 t22 t23 t24 t25 t26 t27 t28 t29 t30 t31 t32 t33 t34 t35 t36 t37 t38 t39 t40 t41 t42 t43 t44 t45 t46 t47 t48 t49 t50 t51 t52 t53 t54 t55 t56 t57 t58 t59 t60 t61 t62 t63 t64 t65 t66 t67 t68 t69 t70 t71 t72 t73 t74 t75 t76 t77 t78 t79 t80 t81 t82 t83 t84 t85 t86 t87 t88 t89 t90 t91 t92 t93 t94 t95 t96 t97 t98 t99 t100 t101 t102 t103 t104 t105 t106 t107 t108 t109 t110 t111 t112 t113 t114 t115 t116 t117 t118 t119 t120 t121 t122 t123 t124 t125 t126 t127 t128 t129 t130 t131 t132 t133 t134 t135 t136 t137 t138 t139 t140 t141 t142 t143 t144 t145 t146 t147 t148 t149 t150 t151 t152 t153 t154 t155 t156 t157 t158 t159 t160 t161 t162 t163 t164 t165 t166 t167 t168 t169 t170 t171 t172 t173 t174 t175 t176 t177
          simp [example_eq, fin7]
    · rw [decide_eq_false hO] at hvo
      simp [hH, hbox, hsm, hvo, hpr, example_eq, k_guard, k_guardU, fin7]
  · rw [decide_eq_false hS] at hsm
    simp [hH, hbox, hsm, hpr, example_eq, k_guard, k_guardU, fin7]
end
end Go.Proofs.Ytjpjohchdfoeaaa
