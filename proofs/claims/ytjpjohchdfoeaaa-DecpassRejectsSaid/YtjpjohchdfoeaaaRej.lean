/-
  DecpassRejects: the walk.
-/
import Derived.Test.YtjpjohchdfoeaaaPre2
namespace Go.Proofs.Ytjpjohchdfoeaaa
open Go Go.Sim
set_option linter.unusedSimpArgs false
set_option linter.unusedVariables false

theorem encP_set1 : ∀ (l : List (Int × Int)) (j : Nat) (v : Int), (encP l).set (j * 2) (.int .i64 v) = encP (l.set j (v, (l.getD j (0, 0)).2))
  | [], j, v => by simp [encP]
  | p :: l, 0, v => by simp [encP]
  | p :: l, j + 1, v => by
    rw [show (j + 1) * 2 = (j * 2 + 1) + 1 by omega, encP, List.set_cons_succ, List.set_cons_succ, encP_set1 l j v, List.set_cons_succ, encP]
    simp
theorem encP_set2 : ∀ (l : List (Int × Int)) (j : Nat) (v : Int), (encP l).set (j * 2 + 1) (.int .i64 v) = encP (l.set j ((l.getD j (0, 0)).1, v))
  | [], j, v => by simp [encP]
  | p :: l, 0, v => by simp [encP]
  | p :: l, j + 1, v => by
    rw [show (j + 1) * 2 + 1 = (j * 2 + 1 + 1) + 1 by omega, encP, List.set_cons_succ, List.set_cons_succ, encP_set2 l j v, List.set_cons_succ, encP]
    simp
theorem encP_take : ∀ (l : List (Int × Int)) (j : Nat), (encP l).take (j * 2) = encP (l.take j)
  | [], j => by simp [encP]
  | p :: l, 0 => by simp [encP]
  | p :: l, j + 1 => by
    rw [show (j + 1) * 2 = j * 2 + 1 + 1 by omega, encP, List.take_succ_cons, List.take_succ_cons, encP_take l j, List.take_succ_cons, encP]
theorem and3 (x : Int) : ∃ n : Nat, andI .i64 x 3 = (n : Int) ∧ n ≤ 3 := by
  have hle : (BitVec.ofInt 64 x &&& BitVec.ofInt 64 3).toNat ≤ 3 := by
    rw [BitVec.toNat_and]
    exact Nat.and_le_right
  refine ⟨_, ?_, hle⟩
  unfold andI
  exact wrapN (by show (BitVec.ofInt 64 x &&& BitVec.ofInt 64 3).toNat < _; omega)

/-- The passes before the one that is changed, and the changed one. -/
structure Rj (H : Heap) (base : Nat) (c : Value) (vs : List Value) (ls : List (List (Int × Int))) : Prop where
  own : OwnS H 1 c vs.length vs
  far : ∀ id, sid c = some id → base ≤ id
  len : vs.length = ls.length
  each : ∀ i (h1 : i < vs.length) (h2 : i < ls.length), Sl H 2 vs[i] ls[i].length (encP ls[i])
  lt : ∀ i (h1 : i < vs.length) id, sid vs[i] = some id → id < base
  le : base ≤ H.length
theorem Rj.keep {H H' : Heap} {base : Nat} {c : Value} {vs : List Value} {ls : List (List (Int × Int))} (r : Rj H base c vs ls) (hl : H.length ≤ H'.length) (hk : ∀ id, id < base → blk? H' id = blk? H id) (hc : ∀ id, sid c = some id → blk? H' id = blk? H id) : Rj H' base c vs ls :=
  ⟨r.own.of_blk fun id hid hb => by rw [hc id hid]; exact hb, r.far, r.len, fun i h1 h2 => (r.each i h1 h2).of_sid fun id b hid hb => by rw [hk id (r.lt i h1 id hid)]; exact hb, r.lt, by have := r.le; omega⟩

theorem Rj.add {H : Heap} {base : Nat} {c sv : Value} {vs : List Value} {ls : List (List (Int × Int))} {l : List (Int × Int)} (r : Rj H base c vs ls) (hl : ls.length < 1000) (sl : Sl H 2 sv l.length (encP l)) (svl : ∀ id, sid sv = some id → id < H.length ∧ sid c ≠ some id) :
    ∃ H', appendV (H ++ [some ⟨false, [sv]⟩]) 1 24 c (.slice (some ⟨H.length, 0, none⟩) 1 1) = some (.slice (some ⟨H.length + 1, 0, none⟩) (vs.length + 1) 1, H') ∧ PsI H' (.slice (some ⟨H.length + 1, 0, none⟩) (vs.length + 1) 1) (vs ++ [sv]) (ls ++ [l]) ∧ H'.length = H.length + 2 ∧ ∀ id, id < base → blk? H' id = blk? H id := by
  have hsl : Sl (H ++ [some ⟨false, [sv]⟩]) 1 (.slice (some ⟨H.length, 0, none⟩) 1 1) 1 [sv] := ⟨by simp, .inr ⟨H.length, 0, rfl, .inr ⟨_, blk?_push_eq, by simp, by simp⟩⟩⟩
  have own2 : OwnS (H ++ [some ⟨false, [sv]⟩]) 1 c vs.length vs := r.own.of_blk fun id _ hb => blk?_push hb
  have hlv := r.len
  obtain ⟨H', ha, hK, hHl, hHs⟩ := own_append (bytes := 24) own2 hsl (by unfold roomCells; omega) (by omega) (by omega)
  simp only [List.length_append, List.length_singleton] at ha hK hHl hHs
  have hk : ∀ id, id < H.length → sid c ≠ some id → blk? H' id = blk? H id := fun id hid hne => by rw [hHs id (by omega) hne, blk?_push_lt hid]
  have hle := r.le
  refine ⟨H', ha, ⟨⟨by simp, .inr ⟨_, 0, by simp, .inr ⟨_, hK, by simp, by rw [List.drop_zero]; exact List.take_of_length_le (by simp)⟩⟩⟩, by simp [hlv], fun i h1 h2 => ?_, fun i h1 id hid => ?_⟩, by omega, fun id hid => hk id (by omega) fun e => by have := r.far id e; omega⟩
  · by_cases hi : i < vs.length
    · have e := List.getElem_append_left (bs := [sv]) (h' := h1) hi
      have e2 := List.getElem_append_left (bs := [l]) (h' := h2) (hlv ▸ hi)
      rw [e, e2]
      refine (r.each i hi (hlv ▸ hi)).of_sid fun id b hid hb => ?_
      have hlt := r.lt i hi id hid
      rw [hk id (by omega) fun e => by have := r.far id e; omega]; exact hb
    · have hi' : i = vs.length := by simp at h1; omega
      subst hi'
      have e : (vs ++ [sv])[vs.length] = sv := by simp
      have e2 : (ls ++ [l])[vs.length]'h2 = l := by simp [hlv]
      rw [e, e2]
      exact sl.of_sid fun id b hid hb => by rw [hk id (svl id hid).1 (svl id hid).2]; exact hb
  · by_cases hi : i < vs.length
    · have e := List.getElem_append_left (bs := [sv]) (h' := h1) hi
      rw [e] at hid
      have hlt := r.lt i hi id hid
      omega
    · have hi' : i = vs.length := by simp at h1; omega
      subst hi'
      have e : (vs ++ [sv])[vs.length] = sv := by simp
      rw [e] at hid
      have := (svl id hid).1
      omega

section
set_option maxRecDepth 10000
set_option maxHeartbeats 1000000
theorem rej_tail {H : Heap} {B base P : Nat} {w hh o : Int} {m : MD} {s t c sv : Value} {vs : List Value} {ls : List (List (Int × Int))} {l : List (Int × Int)} (r : Rj H base c vs ls) (hl : ls.length < 1000) (hP : P ≤ 60)
    (hbox : blk? H B = some ⟨false, [.int .i64 w, .int .i64 hh, s, t, .int .i64 o, .bool m.byp, .bool m.res, .bool m.rst, .bool m.cz, .bool m.sy]⟩) (hB : B < base)
    (sl : Sl H 2 sv l.length (encP l)) (svl : ∀ id, sid sv = some id → id < H.length ∧ sid c ≠ some id) (law : valRes (ls ++ [l]) P w hh o m = (8, [], [])) (t0 t1 t2 t3 t5 t6 t7 t8 t10 t11 t14 t15 t16 t17 t18 t19 t20 t21 t22 t23 t24 t25 t26 t27 t28 t29 t30 t31 t32 t33 t34 t35 t36 t37 t38 t39 t40 t41 t42 t43 t44 t45 t46 t47 t48 t49 t50 t51 t52 t53 t54 t55 t56 t57 t58 t59 t60 t61 t62 t63 t64 t65 t66 t67 t68 t69 t70 t71 t72 t73 t74 t75 t76 t77 t78 t79 t80 t81 t82 t83 t84 t85 t86 t87 t88 t89 t90 t91 t92 t93 t94 t95 t96 t97 t98 t99 t100 t101 t102 t103 t104 t105 t106 t107 t108 t109 t110 t111 t112 t113 t114 t115 t116 t117 t118 t119 t120 t121 t122 t123 t124 t125 t126 t127 t128 t129 t130 t131 t132 t133 t134 t135 t136 t137 t138 t139 t140 t141 t142 t143 t144 t145 t146 t147 t148 t149 t150 : Value) :
    Ok tab R8 [.code (tlC 10 B8)] #[t0, t1, t2, t3, ptr B, t5, t6, t7, t8, .int .i64 P, t10, t11, c, sv, t14, t15, t16, t17, t18, t19, t20, t21, t22, t23, t24, t25, t26, t27, t28, t29, t30, t31, t32, t33, t34, t35, t36, t37, t38, t39, t40, t41, t42, t43, t44, t45, t46, t47, t48, t49, t50, t51, t52, t53, t54, t55, t56, t57, t58, t59, t60, t61, t62, t63, t64, t65, t66, t67, t68, t69, t70, t71, t72, t73, t74, t75, t76, t77, t78, t79, t80, t81, t82, t83, t84, t85, t86, t87, t88, t89, t90, t91, t92, t93, t94, t95, t96, t97, t98, t99, t100, t101, t102, t103, t104, t105, t106, t107, t108, t109, t110, t111, t112, t113, t114, t115, t116, t117, t118, t119, t120, t121, t122, t123, t124, t125, t126, t127, t128, t129, t130, t131, t132, t133, t134, t135, t136, t137, t138, t139, t140, t141, t142, t143, t144, t145, t146, t147, t148, t149, t150] H fun v _ => v = .bool true := by
  obtain ⟨H', ha, ps, hlen, hlow⟩ := r.add hl sl svl
  obtain ⟨v1, v2, H2, e2, o2⟩ := values_d ps (by simp; omega) P w hh o (by omega) m
  rw [law] at e2 o2
  have hbox' := (hlow B hB).trans hbox
  obtain ⟨a1, c1, h1⟩ := o2.o1.sl.shape
  obtain ⟨a2, c2, h2⟩ := o2.o2.sl.shape
  obtain ⟨a3, c3, h3⟩ := sl.shape
  simp only [List.length_nil] at h1 h2
  obtain ⟨byp, res, rst, cz, sy⟩ := m
  simp only [MD.val] at e2
  subst h1 h2 h3
  simp only [tlC, B8]
  simp [k_guard, k_guardU, repL, ha, hbox', e2, example_eq, fin8]

theorem rej_switch {H : Heap} {B base Z P j : Nat} {w hh o how : Int} {m : MD} {s t c : Value} {vs : List Value} {ls : List (List (Int × Int))} {l : List (Int × Int)} (r : Rj H base c vs ls) (hl : ls.length < 1000) (hP : P ≤ 60)
    (hbox : blk? H B = some ⟨false, [.int .i64 w, .int .i64 hh, s, t, .int .i64 o, .bool m.byp, .bool m.res, .bool m.rst, .bool m.cz, .bool m.sy]⟩) (hB : B < base)
    (hZ : blk? H Z = some ⟨false, encP l⟩) (hZb : base ≤ Z) (hZc : sid c ≠ some Z) (hj : j < l.length) (hl2 : l.length < 1000000) (law : ∀ k, valRes (ls ++ [spoil l j k]) P w hh o m = (8, [], [])) (t0 t1 t5 t6 t7 t8 t10 t11 t14 t15 t16 t17 t18 t19 t20 t21 t22 t23 t24 t25 t26 t27 t28 t29 t30 t31 t32 t33 t34 t35 t36 t37 t38 t39 t40 t41 t42 t43 t44 t45 t46 t47 t48 t49 t50 t51 t52 t53 t54 t55 t56 t57 t58 t59 t60 t61 t62 t63 t64 t65 t66 t67 t68 t69 t70 t71 t72 t73 t74 t75 t76 t77 t78 t79 t80 t81 t82 t83 t84 t85 t86 t87 t88 t89 t90 t91 t92 t93 t94 t95 t96 t97 t98 t99 t100 t101 t102 t103 t104 t105 t106 t107 t108 t109 t110 t111 t112 t113 t114 t115 t116 t117 t118 t119 t120 t121 t122 t123 t124 t125 t126 t127 t128 t129 t130 t131 t132 t133 t134 t135 t136 t137 t138 t139 t140 t141 t142 t143 t144 t145 t146 t147 t148 t149 t150 : Value) :
    Ok tab R8 [.code (tlC 9 B8)] #[t0, t1, .int .i64 j, .int .i64 how, ptr B, t5, t6, t7, t8, .int .i64 P, t10, t11, c, .slice (some ⟨Z, 0, none⟩) l.length 2, t14, t15, t16, t17, t18, t19, t20, t21, t22, t23, t24, t25, t26, t27, t28, t29, t30, t31, t32, t33, t34, t35, t36, t37, t38, t39, t40, t41, t42, t43, t44, t45, t46, t47, t48, t49, t50, t51, t52, t53, t54, t55, t56, t57, t58, t59, t60, t61, t62, t63, t64, t65, t66, t67, t68, t69, t70, t71, t72, t73, t74, t75, t76, t77, t78, t79, t80, t81, t82, t83, t84, t85, t86, t87, t88, t89, t90, t91, t92, t93, t94, t95, t96, t97, t98, t99, t100, t101, t102, t103, t104, t105, t106, t107, t108, t109, t110, t111, t112, t113, t114, t115, t116, t117, t118, t119, t120, t121, t122, t123, t124, t125, t126, t127, t128, t129, t130, t131, t132, t133, t134, t135, t136, t137, t138, t139, t140, t141, t142, t143, t144, t145, t146, t147, t148, t149, t150] H fun v _ => v = .bool true := by
  have hZl := blk?_lt hZ
  have hjl : (j : Int) < l.length := by omega
  have hce := encP_len l
  rw [show tlC 9 B8 = .seq (nthC 9 B8) (tlC 10 B8) from rfl]
  -- a list in the block of its own
  have own : ∀ (cs : List (Int × Int)) (n : Nat), cs.length = n → (∀ v, Rj (H.set Z (some v)) base c vs ls) := fun cs n hn v =>
    r.keep (by simp) (fun id hid => blk?_set_ne (by omega)) (fun id hid => blk?_set_ne (fun e => hZc (by rw [hid, e])))
  have hset : ∀ cs : List (Int × Int), Sl (H.set Z (some ⟨false, encP cs⟩)) 2 (.slice (some ⟨Z, 0, none⟩) cs.length 2) cs.length (encP cs) := fun cs => sl_new (blk?_set_eq hZl)
  have hbs : ∀ v, blk? (H.set Z (some v)) B = blk? H B := fun v => blk?_set_ne (by omega)
  obtain ⟨a, ha, ha3⟩ := and3 how
  generalize hT : tlC 10 B8 = tl
  simp only [nthC, fstC, tlC, B8]
  have hcase : a = 0 ∨ a = 1 ∨ a = 2 ∨ a = 3 := by omega
  rcases hcase with rfl | rfl | rfl | rfl
  · have h1 := encP_set1 l j 30
    have hlw : valRes (ls ++ [l.set j (30, (l.getD j (0, 0)).2)]) P w hh o m = (8, [], []) := law 0
    have hsl := hset (l.set j (30, (l.getD j (0, 0)).2))
    generalize hcs : l.set j (30, (l.getD j (0, 0)).2) = cs at *
    have hcl : cs.length = l.length := by rw [← hcs]; simp
    rw [hcl] at hsl
    rw [← hcl] at hsl
    simp [k_guard, k_guardU, ha, hjl, hj, hZ, hce, h1, show j * 2 + 1 ≤ l.length * 2 by omega]
    rw [← hT]
    rw [hcl] at hsl
    refine rej_tail (l := cs) (own cs _ rfl _) hl hP ((hbs _).trans hbox) hB ?_ (fun id hid => ?_) hlw _ _ _ _ _ _ _ _ _ _ _ _ _ _ _ _ _ _ _ _ _ _ _ _ _ _ _ _ _ _ _ _ _ _ _ _ _ _ _ _ _ _ _ _ _ _ _ _ _ _ _ _ _ _ _ _ _ _ _ _ _ _ _ _ _ _ _ _ _ _ _ _ _ _ _ _ _ _ _ _ _ _ _ _ _ _ _ _ _ _ _ _ _ _ _ _ _ _ _ _ _ _ _ _ _ _ _ _ _ _ _ _ _ _ _ _ _ _ _ _ _ _ _ _ _ _ _ _ _ _ _ _ _ _ _ _ _ _ _ _ _ _ _ _ _ _ _
    · rw [hcl]; exact hsl
    · simp [sid] at hid; subst hid; exact ⟨by simpa using hZl, hZc⟩
  · have h1 := encP_set2 l j 2
    have hlw : valRes (ls ++ [l.set j ((l.getD j (0, 0)).1, 2)]) P w hh o m = (8, [], []) := law 1
    have hsl := hset (l.set j ((l.getD j (0, 0)).1, 2))
    generalize hcs : l.set j ((l.getD j (0, 0)).1, 2) = cs at *
    have hcl : cs.length = l.length := by rw [← hcs]; simp
    simp [k_guard, k_guardU, ha, hjl, hj, hZ, hce, h1, show j * 2 + 1 + 1 ≤ l.length * 2 by omega]
    rw [← hT]
    refine rej_tail (l := cs) (own cs _ rfl _) hl hP ((hbs _).trans hbox) hB ?_ (fun id hid => ?_) hlw _ _ _ _ _ _ _ _ _ _ _ _ _ _ _ _ _ _ _ _ _ _ _ _ _ _ _ _ _ _ _ _ _ _ _ _ _ _ _ _ _ _ _ _ _ _ _ _ _ _ _ _ _ _ _ _ _ _ _ _ _ _ _ _ _ _ _ _ _ _ _ _ _ _ _ _ _ _ _ _ _ _ _ _ _ _ _ _ _ _ _ _ _ _ _ _ _ _ _ _ _ _ _ _ _ _ _ _ _ _ _ _ _ _ _ _ _ _ _ _ _ _ _ _ _ _ _ _ _ _ _ _ _ _ _ _ _ _ _ _ _ _ _ _ _ _ _
    · rw [← hcl]; exact hsl
    · simp [sid] at hid; subst hid; exact ⟨by simpa using hZl, hZc⟩
  · have hlw : valRes (ls ++ [l.take (l.length - 1)]) P w hh o m = (8, [], []) := law 2
    have hcl : (l.take (l.length - 1)).length = l.length - 1 := by simp
    have hsl : Sl H 2 (.slice (some ⟨Z, 0, none⟩) (l.length - 1) 2) (l.take (l.length - 1)).length (encP (l.take (l.length - 1))) := by
      refine ⟨encP_len _, .inr ⟨Z, 0, by rw [hcl], .inr ⟨_, hZ, by rw [hcl]; show 0 + (l.length - 1) * 2 ≤ (encP l).length; omega, ?_⟩⟩⟩
      rw [List.drop_zero, hcl]; exact encP_take _ _
    have hw : IntKind.i64.wrap ((l.length : Int) - 1) = ((l.length - 1 : Nat) : Int) := by rw [wrapI (by omega) (by omega)]; omega
    have hsv : sliceV 2 (.slice (some ⟨Z, 0, none⟩) l.length 2) none (some (.int .i64 ((l.length - 1 : Nat) : Int))) = some (.slice (some ⟨Z, 0, none⟩) (l.length - 1) 2) := by simp [sliceV, bndO, bnd]
    generalize l.length - 1 = n1 at *
    simp [k_guard, k_guardU, ha, hw, hsv]
    rw [← hT]
    refine rej_tail (l := l.take n1) r hl hP hbox hB hsl (fun id hid => ?_) hlw _ _ _ _ _ _ _ _ _ _ _ _ _ _ _ _ _ _ _ _ _ _ _ _ _ _ _ _ _ _ _ _ _ _ _ _ _ _ _ _ _ _ _ _ _ _ _ _ _ _ _ _ _ _ _ _ _ _ _ _ _ _ _ _ _ _ _ _ _ _ _ _ _ _ _ _ _ _ _ _ _ _ _ _ _ _ _ _ _ _ _ _ _ _ _ _ _ _ _ _ _ _ _ _ _ _ _ _ _ _ _ _ _ _ _ _ _ _ _ _ _ _ _ _ _ _ _ _ _ _ _ _ _ _ _ _ _ _ _ _ _ _ _ _ _ _ _
    simp [sid] at hid; subst hid; exact ⟨hZl, hZc⟩
  · have hlw : valRes (ls ++ [l ++ [l.getD j (0, 0)]]) P w hh o m = (8, [], []) := law 3
    obtain ⟨g1, g2⟩ := encP_get l j hj
    obtain ⟨g3, g4⟩ := two g1 g2
    have hg : l.getD j (0, 0) = l[j] := by simp [List.getD_eq_getElem?_getD, List.getElem?_eq_getElem hj]
    rw [hg] at hlw
    generalize l[j] = q at *
    have hK0 : blk? (H ++ [some ⟨false, [.int .i64 q.1, .int .i64 q.2]⟩]) H.length = some ⟨false, [.int .i64 q.1, .int .i64 q.2]⟩ := blk?_push_eq
    have hsl0 : Sl (H ++ [some ⟨false, [.int .i64 q.1, .int .i64 q.2]⟩]) 2 (.slice (some ⟨H.length, 0, none⟩) 1 2) 1 [.int .i64 q.1, .int .i64 q.2] := sl_new (l := [q]) blk?_push_eq
    have hown : OwnS (H ++ [some ⟨false, [.int .i64 q.1, .int .i64 q.2]⟩]) 2 (.slice (some ⟨Z, 0, none⟩) l.length 2) l.length (encP l) := ⟨encP_len l, .inr ⟨Z, rfl, blk?_push hZ⟩⟩
    obtain ⟨H', hap, hK, hHl, hHs⟩ := own_append (bytes := 16) hown hsl0 (by unfold roomCells; omega) (by omega) (by omega)
    simp only [List.length_append, List.length_singleton] at hap hK hHl hHs
    have hk : ∀ id, id < H.length → id ≠ Z → blk? H' id = blk? H id := fun id hid hne => by rw [hHs id (by omega) (fun e => hne (by simp [sid] at e; omega)), blk?_push_lt hid]
    have hle := r.le
    have r' : Rj H' base c vs ls := r.keep (by omega) (fun id hid => hk id (by omega) (by omega)) (fun id hid => hk id (r.own.lt hid) (fun e => hZc (by rw [hid, e])))
    simp [k_guard, k_guardU, ha, hjl, hj, hZ, hce, g3, show j * 2 + 2 ≤ l.length * 2 by omega, repL, hap]
    rw [← hT]
    refine rej_tail (l := l ++ [q]) r' hl hP ((hk B (by omega) (by omega)).trans hbox) hB ?_ (fun id hid => ?_) hlw _ _ _ _ _ _ _ _ _ _ _ _ _ _ _ _ _ _ _ _ _ _ _ _ _ _ _ _ _ _ _ _ _ _ _ _ _ _ _ _ _ _ _ _ _ _ _ _ _ _ _ _ _ _ _ _ _ _ _ _ _ _ _ _ _ _ _ _ _ _ _ _ _ _ _ _ _ _ _ _ _ _ _ _ _ _ _ _ _ _ _ _ _ _ _ _ _ _ _ _ _ _ _ _ _ _ _ _ _ _ _ _ _ _ _ _ _ _ _ _ _ _ _ _ _ _ _ _ _ _ _ _ _ _ _ _ _ _ _ _ _ _ _ _ _ _ _
    · have e : encP (l ++ [q]) = encP l ++ [.int .i64 q.1, .int .i64 q.2] := by rw [encP_append]; rfl
      have := sl_new (H := H') (z := H.length + 1) (l := l ++ [q]) (by rw [hK, e])
      simpa using this
    · simp [sid] at hid; subst hid
      exact ⟨by omega, fun e => by have := r.own.lt e; omega⟩
end
end Go.Proofs.Ytjpjohchdfoeaaa
