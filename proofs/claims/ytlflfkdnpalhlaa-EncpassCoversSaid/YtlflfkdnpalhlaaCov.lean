import Derived.Test.YtlflfkdnpalhlaaCovP
/-! 'covered' and EncpassCovers. -/
namespace Go.Proofs.Ytlflfkdnpalhlaa
open Go.Sim
open Go.RowKit
set_option linter.unusedVariables false
set_option linter.unusedSimpArgs false

theorem Syms.all {h : Heap} {s : Value} {l : List (Int × Nat)} (hf : Syms h s l) (h0 : 0 < l.length) :
    ∃ id off b, s = .slice (some ⟨id, off, none⟩) l.length 2 ∧ blk? h id = some b ∧ ∀ i (hi : i < l.length), b.cells[off + i * 2]? = some (.int .i64 l[i].1) ∧ b.cells[off + i * 2 + 1]? = some (.int .i64 l[i].2) := by
  obtain ⟨id, off, b, rfl, hb, _⟩ := hf.sl.get h0
  refine ⟨id, off, b, rfl, hb, fun i hi => ?_⟩
  obtain ⟨id', off', b', e, hb', hc⟩ := hf.sl.get hi
  simp only [Value.slice.injEq, Option.some.injEq, Addr.mk.injEq, and_true] at e
  obtain ⟨rfl, rfl⟩ := e
  rw [hb] at hb'; injection hb' with hb'; subst hb'
  obtain ⟨g0, g1⟩ := encS_get l i hi
  have c0 := hc 0 (by omega)
  have c1 := hc 1 (by omega)
  rw [Nat.add_zero, Nat.add_zero, g0] at c0
  rw [g1] at c1
  exact ⟨c0, c1⟩

section
variable {h : Heap} {R : Value → Heap → Prop}
theorem covered_loop {s v2 : Value} {l : List (Int × Nat)} (hs : Syms h s l) (hl : l.length < 9000000000) {k : List RItem} (N : Nat) (hN : N < 1000000000)
    (hk : ∀ t1 t4 t5 t6 t7 t8 t9 t10 t11 t12 t13 t14 t15 t16 t17 t18 t19 t20 t21 t22 t23 t24 t25 t26 t27 t28 t29 t30 t31 t32 t33 t34 t35 t36 t37 t38 t39 t40 t41 t42 t43 t44 t45 t46 t47 t48 t49 t50 t51 t52 t53 t54 t55 t56 t57 t58 t59 t60 t61 t62 t63 t64 t65 t66 t67 t68 t69 t70 : Value, Ok tab R47 k #[s, t1, v2, .int .i64 N, t4, t5, t6, t7, t8, t9, t10, t11, t12, t13, t14, t15, t16, t17, t18, t19, t20, t21, t22, t23, t24, t25, t26, t27, t28, t29, t30, t31, t32, t33, t34, t35, t36, t37, t38, t39, t40, t41, t42, t43, t44, t45, t46, t47, t48, t49, t50, t51, t52, t53, t54, t55, t56, t57, t58, t59, t60, t61, t62, t63, t64, t65, t66, t67, t68, t69, t70] h R = R (.int .i64 N) h) :
    ∀ (m i n : Nat) (t1 t5 t6 t7 t8 t9 t10 t11 t12 t13 t14 t15 t16 t17 t18 t19 t20 t21 t22 t23 t24 t25 t26 t27 t28 t29 t30 t31 t32 t33 t34 t35 t36 t37 t38 t39 t40 t41 t42 t43 t44 t45 t46 t47 t48 t49 t50 t51 t52 t53 t54 t55 t56 t57 t58 t59 t60 t61 t62 t63 t64 t65 t66 t67 t68 t69 t70 : Value), l.length - i ≤ m → i ≤ l.length → fin 0 (l.drop i) = 0 → n + cov 0 (l.drop i) = N →
      Ok tab R47 (.inLoop L47_0 :: .inBlock 0 :: k) #[s, t1, v2, .int .i64 n, .int .i64 i, t5, t6, t7, t8, t9, t10, t11, t12, t13, t14, t15, t16, t17, t18, t19, t20, t21, t22, t23, t24, t25, t26, t27, t28, t29, t30, t31, t32, t33, t34, t35, t36, t37, t38, t39, t40, t41, t42, t43, t44, t45, t46, t47, t48, t49, t50, t51, t52, t53, t54, t55, t56, t57, t58, t59, t60, t61, t62, t63, t64, t65, t66, t67, t68, t69, t70] h R = R (.int .i64 N) h := by
  obtain ⟨a, c, hsh⟩ := hs.sl.shape
  intro m
  induction m with
  | zero =>
    intro i n t1 t5 t6 t7 t8 t9 t10 t11 t12 t13 t14 t15 t16 t17 t18 t19 t20 t21 t22 t23 t24 t25 t26 t27 t28 t29 t30 t31 t32 t33 t34 t35 t36 t37 t38 t39 t40 t41 t42 t43 t44 t45 t46 t47 t48 t49 t50 t51 t52 t53 t54 t55 t56 t57 t58 t59 t60 t61 t62 t63 t64 t65 t66 t67 t68 t69 t70 hn hi hf hc
    have hlt : ¬ ((i : Int) < l.length) := by omega
    rw [List.drop_of_length_le (by omega)] at hc
    simp only [cov, Nat.add_zero] at hc
    subst hc
    rw [ok_round, l47_0, L47_0a, L47_0b]
    rw [hsh] at hk ⊢
    simp [hlt, hk]
  | succ m ih =>
    intro i n t1 t5 t6 t7 t8 t9 t10 t11 t12 t13 t14 t15 t16 t17 t18 t19 t20 t21 t22 t23 t24 t25 t26 t27 t28 t29 t30 t31 t32 t33 t34 t35 t36 t37 t38 t39 t40 t41 t42 t43 t44 t45 t46 t47 t48 t49 t50 t51 t52 t53 t54 t55 t56 t57 t58 t59 t60 t61 t62 t63 t64 t65 t66 t67 t68 t69 t70 hn hi hf hc
    by_cases hil : i = l.length
    · have hlt : ¬ ((i : Int) < l.length) := by omega
      rw [List.drop_of_length_le (by omega)] at hc
      simp only [cov, Nat.add_zero] at hc
      subst hc
      rw [ok_round, l47_0, L47_0a, L47_0b]
      rw [hsh] at hk ⊢
      simp [hlt, hk]
    have hia : i < l.length := by omega
    have hlt : ((i : Int) < l.length) := by omega
    have hw1 : IntKind.i64.wrap ((i : Int) + 1) = ((i + 1 : Nat) : Int) := wrapN (n := i + 1) (by omega)
    have hw2 : IntKind.i64.wrap ((i : Int) + 2) = ((i + 2 : Nat) : Int) := wrapN (n := i + 2) (by omega)
    have hw3 : IntKind.i64.wrap (((i + 2 : Nat) : Int) + 1) = ((i + 3 : Nat) : Int) := wrapN (n := i + 3) (by omega)
    obtain ⟨id, off, b, rfl, hb, hcell⟩ := hs.all (by omega)
    obtain ⟨c0, c1⟩ := hcell i hia
    have hda : l.drop i = l[i] :: l.drop (i + 1) := List.drop_eq_getElem_cons hia
    rw [hda] at hf hc
    have ih1 := fun n' t1 t5 t6 t7 t8 t9 t10 t11 t12 t13 t14 t15 t16 t17 t18 t19 t20 t21 t22 t23 t24 t25 t26 t27 t28 t29 t30 t31 t32 t33 t34 t35 t36 t37 t38 t39 t40 t41 t42 t43 t44 t45 t46 t47 t48 t49 t50 t51 t52 t53 t54 t55 t56 t57 t58 t59 t60 t61 t62 t63 t64 t65 t66 t67 t68 t69 t70 => ih (i + 1) n' t1 t5 t6 t7 t8 t9 t10 t11 t12 t13 t14 t15 t16 t17 t18 t19 t20 t21 t22 t23 t24 t25 t26 t27 t28 t29 t30 t31 t32 t33 t34 t35 t36 t37 t38 t39 t40 t41 t42 t43 t44 t45 t46 t47 t48 t49 t50 t51 t52 t53 t54 t55 t56 t57 t58 t59 t60 t61 t62 t63 t64 t65 t66 t67 t68 t69 t70 (by omega) (by omega)
    have ih3 := fun n' t1 t5 t6 t7 t8 t9 t10 t11 t12 t13 t14 t15 t16 t17 t18 t19 t20 t21 t22 t23 t24 t25 t26 t27 t28 t29 t30 t31 t32 t33 t34 t35 t36 t37 t38 t39 t40 t41 t42 t43 t44 t45 t46 t47 t48 t49 t50 t51 t52 t53 t54 t55 t56 t57 t58 t59 t60 t61 t62 t63 t64 t65 t66 t67 t68 t69 t70 => ih (i + 3) n' t1 t5 t6 t7 t8 t9 t10 t11 t12 t13 t14 t15 t16 t17 t18 t19 t20 t21 t22 t23 t24 t25 t26 t27 t28 t29 t30 t31 t32 t33 t34 t35 t36 t37 t38 t39 t40 t41 t42 t43 t44 t45 t46 t47 t48 t49 t50 t51 t52 t53 t54 t55 t56 t57 t58 t59 t60 t61 t62 t63 t64 t65 t66 t67 t68 t69 t70 (by omega)
    have hq : ∀ (q r : Int × Nat) (l' : List (Int × Nat)), l.drop (i + 1) = q :: r :: l' → i + 2 < l.length ∧ l.drop (i + 3) = l' ∧ b.cells[off + (i + 1) * 2 + 1]? = some (.int .i64 q.2) ∧ b.cells[off + (i + 2) * 2 + 1]? = some (.int .i64 r.2) := by
      intro q r l' e
      have hlen : l.length - (i + 1) = l'.length + 2 := by have := congrArg List.length e; simpa using this
      have e1 : l[i + 1]? = some q := by rw [← List.getElem?_drop (i := i + 1) (j := 0) (xs := l), e]; rfl
      have e2 : l[i + 2]? = some r := by rw [show i + 2 = i + 1 + 1 by omega, ← List.getElem?_drop (xs := l), e]; rfl
      have e3 : l.drop (i + 3) = l' := by rw [show i + 3 = i + 1 + 2 by omega, ← List.drop_drop, e]; rfl
      obtain ⟨d1, d1'⟩ := hcell (i + 1) (by omega)
      obtain ⟨d2, d2'⟩ := hcell (i + 2) (by omega)
      rw [List.getElem?_eq_getElem (by omega)] at e1 e2
      injection e1 with e1
      injection e2 with e2
      rw [e1] at d1'
      rw [e2] at d2'
      exact ⟨by omega, e3, d1', d2'⟩
    rw [ok_round, l47_0, L47_0a, L47_0b]
    generalize l[i] = p at *
    obtain ⟨p1, p2⟩ := p
    simp only at c0 c1
    rw [fin] at hf
    rw [cov] at hc
    simp only [show ¬ ((0 : Nat) = 1) by omega, show ¬ ((0 : Nat) = 2) by omega, if_false] at hf hc
    have hw : ∀ j : Nat, n + j ≤ N → IntKind.i64.wrap ((n : Int) + j) = ((n + j : Nat) : Int) := fun j hj => wrapN (n := n + j) (by omega)
    generalize hi1 : ((i + 1 : Nat) : Int) = w1 at *
    by_cases q1 : p1 ≤ 8
    · rw [if_pos (Or.inl q1)] at hf hc
      have hw' := hw 1 (by omega)
      have ih1' := fun t1 t5 t6 t7 t8 t9 t10 t11 t12 t13 t14 t15 t16 t17 t18 t19 t20 t21 t22 t23 t24 t25 t26 t27 t28 t29 t30 t31 t32 t33 t34 t35 t36 t37 t38 t39 t40 t41 t42 t43 t44 t45 t46 t47 t48 t49 t50 t51 t52 t53 t54 t55 t56 t57 t58 t59 t60 t61 t62 t63 t64 t65 t66 t67 t68 t69 t70 => ih1 (n + 1) t1 t5 t6 t7 t8 t9 t10 t11 t12 t13 t14 t15 t16 t17 t18 t19 t20 t21 t22 t23 t24 t25 t26 t27 t28 t29 t30 t31 t32 t33 t34 t35 t36 t37 t38 t39 t40 t41 t42 t43 t44 t45 t46 t47 t48 t49 t50 t51 t52 t53 t54 t55 t56 t57 t58 t59 t60 t61 t62 t63 t64 t65 t66 t67 t68 t69 t70 hf (by omega)
      generalize hn1 : ((n + 1 : Nat) : Int) = w2 at *
      simp at hw'
      simp [hlt, hb, c0, c1, q1, hw', hw1, ih1', k_guard, k_guardU]
    · by_cases q2 : 14 ≤ p1 ∧ p1 ≤ 16
      · rw [if_pos (Or.inr q2)] at hf hc
        obtain ⟨q2, q3⟩ := q2
        have hw' := hw 1 (by omega)
        have ih1' := fun t1 t5 t6 t7 t8 t9 t10 t11 t12 t13 t14 t15 t16 t17 t18 t19 t20 t21 t22 t23 t24 t25 t26 t27 t28 t29 t30 t31 t32 t33 t34 t35 t36 t37 t38 t39 t40 t41 t42 t43 t44 t45 t46 t47 t48 t49 t50 t51 t52 t53 t54 t55 t56 t57 t58 t59 t60 t61 t62 t63 t64 t65 t66 t67 t68 t69 t70 => ih1 (n + 1) t1 t5 t6 t7 t8 t9 t10 t11 t12 t13 t14 t15 t16 t17 t18 t19 t20 t21 t22 t23 t24 t25 t26 t27 t28 t29 t30 t31 t32 t33 t34 t35 t36 t37 t38 t39 t40 t41 t42 t43 t44 t45 t46 t47 t48 t49 t50 t51 t52 t53 t54 t55 t56 t57 t58 t59 t60 t61 t62 t63 t64 t65 t66 t67 t68 t69 t70 hf (by omega)
        generalize hn1 : ((n + 1 : Nat) : Int) = w2 at *
        simp at hw'
        simp [hlt, hb, c0, c1, q1, q2, q3, hw', hw1, ih1', k_guard, k_guardU]
      · rw [if_neg (by omega)] at hf hc
        by_cases q4 : p1 = 17
        · subst q4
          rw [if_pos rfl] at hf hc
          by_cases q5 : p2 = 0
          · rw [if_pos q5] at hf hc
            subst q5
            have hw' := hw 4 (by omega)
            have ih1' := fun t1 t5 t6 t7 t8 t9 t10 t11 t12 t13 t14 t15 t16 t17 t18 t19 t20 t21 t22 t23 t24 t25 t26 t27 t28 t29 t30 t31 t32 t33 t34 t35 t36 t37 t38 t39 t40 t41 t42 t43 t44 t45 t46 t47 t48 t49 t50 t51 t52 t53 t54 t55 t56 t57 t58 t59 t60 t61 t62 t63 t64 t65 t66 t67 t68 t69 t70 => ih1 (n + 4) t1 t5 t6 t7 t8 t9 t10 t11 t12 t13 t14 t15 t16 t17 t18 t19 t20 t21 t22 t23 t24 t25 t26 t27 t28 t29 t30 t31 t32 t33 t34 t35 t36 t37 t38 t39 t40 t41 t42 t43 t44 t45 t46 t47 t48 t49 t50 t51 t52 t53 t54 t55 t56 t57 t58 t59 t60 t61 t62 t63 t64 t65 t66 t67 t68 t69 t70 hf (by omega)
            generalize hn1 : ((n + 4 : Nat) : Int) = w2 at *
            simp at hw' c1
            simp [hlt, hb, c0, c1, hw', hw1, ih1', k_guard, k_guardU]
          · rw [if_neg q5] at hf hc
            match hm : l.drop (i + 1), hf, hc with
            | [], hf, hc => simp [fin] at hf
            | [q], hf, hc => simp [fin] at hf
            | q :: r :: l', hf, hc =>
              obtain ⟨h1, h2, d1, d2⟩ := hq q r l' hm
              simp only [fin, cov, if_pos, if_neg, show ¬ ((2 : Nat) = 1) by omega, if_false] at hf hc
              obtain ⟨qa, qb⟩ := q
              obtain ⟨ra, rb⟩ := r
              simp only at d1 d2 hc
              have ih3' := fun t1 t5 t6 t7 t8 t9 t10 t11 t12 t13 t14 t15 t16 t17 t18 t19 t20 t21 t22 t23 t24 t25 t26 t27 t28 t29 t30 t31 t32 t33 t34 t35 t36 t37 t38 t39 t40 t41 t42 t43 t44 t45 t46 t47 t48 t49 t50 t51 t52 t53 t54 t55 t56 t57 t58 t59 t60 t61 t62 t63 t64 t65 t66 t67 t68 t69 t70 => ih3 (n + (2 * qb + rb + 1)) t1 t5 t6 t7 t8 t9 t10 t11 t12 t13 t14 t15 t16 t17 t18 t19 t20 t21 t22 t23 t24 t25 t26 t27 t28 t29 t30 t31 t32 t33 t34 t35 t36 t37 t38 t39 t40 t41 t42 t43 t44 t45 t46 t47 t48 t49 t50 t51 t52 t53 t54 t55 t56 t57 t58 t59 t60 t61 t62 t63 t64 t65 t66 t67 t68 t69 t70 (by omega) (by rw [h2]; exact hf) (by rw [h2]; omega)
              have hw' := hw (2 * qb + rb + 1) (by omega)
              have v1 : IntKind.i64.wrap (2 * (qb : Int)) = ((2 * qb : Nat) : Int) := by rw [show (2 * (qb : Int)) = ((2 * qb : Nat) : Int) by omega]; exact wrapN (by omega)
              have v2 : IntKind.i64.wrap (((2 * qb : Nat) : Int) + rb) = ((2 * qb + rb : Nat) : Int) := wrapN (n := 2 * qb + rb) (by omega)
              have v3 : IntKind.i64.wrap (((2 * qb + rb : Nat) : Int) + 1) = ((2 * qb + rb + 1 : Nat) : Int) := wrapN (n := 2 * qb + rb + 1) (by omega)
              have hlt1 : (w1 < l.length) := by omega
              have hlt2 : (((i + 2 : Nat) : Int) < l.length) := by omega
              have hge : ¬ ((l.length : Int) ≤ ((i + 2 : Nat) : Int)) := by omega
              have hp2 : ((p2 : Int) == 0) = false := by simpa using q5
              have z1 : 0 ≤ w1 := by omega
              have z2 : (0 : Int) ≤ ((i + 2 : Nat) : Int) := by omega
              have n1 : w1.toNat = i + 1 := by omega
              have n2 : ((i + 2 : Nat) : Int).toNat = i + 2 := by omega
              generalize hn1 : ((n + (2 * qb + rb + 1) : Nat) : Int) = w2 at *
              generalize hn2 : ((i + 3 : Nat) : Int) = w3 at *
              generalize hn3 : ((i + 2 : Nat) : Int) = w4 at *
              generalize hn4 : ((2 * qb : Nat) : Int) = w5 at *
              generalize hn5 : ((2 * qb + rb : Nat) : Int) = w6 at *
              generalize hn6 : ((2 * qb + rb + 1 : Nat) : Int) = w7 at *
              simp [hlt, hb, c0, c1, q5, hp2, hw', hw1, hw2, hw3, hlt1, hlt2, hge, d1, d2, v1, v2, v3, n1, n2, z1, z2, ih3', k_guard, k_guardU]
        · rw [if_neg q4] at hf hc
          have ih1' := fun t1 t5 t6 t7 t8 t9 t10 t11 t12 t13 t14 t15 t16 t17 t18 t19 t20 t21 t22 t23 t24 t25 t26 t27 t28 t29 t30 t31 t32 t33 t34 t35 t36 t37 t38 t39 t40 t41 t42 t43 t44 t45 t46 t47 t48 t49 t50 t51 t52 t53 t54 t55 t56 t57 t58 t59 t60 t61 t62 t63 t64 t65 t66 t67 t68 t69 t70 => ih1 n t1 t5 t6 t7 t8 t9 t10 t11 t12 t13 t14 t15 t16 t17 t18 t19 t20 t21 t22 t23 t24 t25 t26 t27 t28 t29 t30 t31 t32 t33 t34 t35 t36 t37 t38 t39 t40 t41 t42 t43 t44 t45 t46 t47 t48 t49 t50 t51 t52 t53 t54 t55 t56 t57 t58 t59 t60 t61 t62 t63 t64 t65 t66 t67 t68 t69 t70 hf (by omega)
          have q4' : (p1 == 17) = false := by simpa using q4
          by_cases q2' : 14 ≤ p1
          · have q3 : ¬ p1 ≤ 16 := by omega
            simp [hlt, hb, c0, c1, q1, q2', q3, q4, q4', hw1, ih1', k_guard, k_guardU]
          · simp [hlt, hb, c0, c1, q1, q2', q4, q4', hw1, ih1', k_guard, k_guardU]

theorem covered_eq {s : Value} {l : List (Int × Nat)} (hs : Syms h s l) (hl : l.length < 9000000000) (hf : fin 0 l = 0) (hN : cov 0 l < 1000000000) : Ret tab 47 [s] h R = R (.int .i64 (cov 0 l)) h := by
  obtain ⟨a, c, hsh⟩ := hs.sl.shape
  have hc := covered_loop hs.frz hl (v2 := .int .i64 0) (cov 0 l) hN (k := [.code ((RCode.region [⟨some 70, .mov (.tmp 3), none⟩, ⟨some 2, .mov (.tmp 70), none⟩] []).seq .ret)]) (R := fun v _ => below h.length v = true ∧ R v h)
    (fun t1 t4 t5 t6 t7 t8 t9 t10 t11 t12 t13 t14 t15 t16 t17 t18 t19 t20 t21 t22 t23 t24 t25 t26 t27 t28 t29 t30 t31 t32 t33 t34 t35 t36 t37 t38 t39 t40 t41 t42 t43 t44 t45 t46 t47 t48 t49 t50 t51 t52 t53 t54 t55 t56 t57 t58 t59 t60 t61 t62 t63 t64 t65 t66 t67 t68 t69 t70 => by simp [fin47])
  have hc' := fun t1 t5 t6 t7 t8 t9 t10 t11 t12 t13 t14 t15 t16 t17 t18 t19 t20 t21 t22 t23 t24 t25 t26 t27 t28 t29 t30 t31 t32 t33 t34 t35 t36 t37 t38 t39 t40 t41 t42 t43 t44 t45 t46 t47 t48 t49 t50 t51 t52 t53 t54 t55 t56 t57 t58 t59 t60 t61 t62 t63 t64 t65 t66 t67 t68 t69 t70 => hc l.length 0 0 t1 t5 t6 t7 t8 t9 t10 t11 t12 t13 t14 t15 t16 t17 t18 t19 t20 t21 t22 t23 t24 t25 t26 t27 t28 t29 t30 t31 t32 t33 t34 t35 t36 t37 t38 t39 t40 t41 t42 t43 t44 t45 t46 t47 t48 t49 t50 t51 t52 t53 t54 t55 t56 t57 t58 t59 t60 t61 t62 t63 t64 t65 t66 t67 t68 t69 t70 (by omega) (by omega) (by simpa using hf) (by simp)
  have hsb := hs.sb
  rw [enter47, B47]
  simp [hsb]
  simp at hc'
  rw [hc']
theorem CovOk.le {len : Nat} : ∀ {ls : List (List (Int × Nat))} {k n : Nat}, CovOk len k n ls → n ≤ len
  | [], _, _, h => by have h : _ = 0 := h; omega
  | l :: ls, k, n, h => by
    obtain ⟨_, h1, h2⟩ := h
    by_cases hk : kindOf k = 2
    · have := (h1 hk).1; omega
    · have := CovOk.le (h2 hk); omega

theorem covers_loop {B len : Nat} {sv : Value} {vs : List Value} {ls : List (List (Int × Nat))} {w hh o : Int} {s t : Value} {m : MD} (hp : Pss h sv vs ls) (hsm : ∀ l ∈ ls, l.length < 9000000000) (hlen : ls.length < 1000) (hwl : w * hh = len) (hl144 : len ≤ 144)
    (hbox : blk? h B = some ⟨false, [.int .i64 w, .int .i64 hh, s, t, .int .i64 o, .bool m.byp, .bool m.res, .bool m.rst, .bool m.cz, .bool m.sy]⟩) {k : List RItem}
    (hk : ∀ t0 t3 t4 t6 t7 t8 t9 t10 t11 t12 t13 t14 t15 t16 t17 t18 t19 t20 t21 t22 t23 t24 t25 t26 t27 t28 t29 t30 t31 t32 t33 t34 t35 t36 t37 t38 t39 t40 t41 t42 t43 t44 t45 t46 t47 t48 t49 t50 t51 t52 t53 t54 t55 t56 t57 t58 t59 t60 t61 t62 t63 t64 t65 t66 t67 t68 t69 t70 t71 t72 t73 t74 t75 t76 t77 t78 t79 t80 : Value, Ok tab R12 k #[t0, ptr B, .bool false, t3, t4, .int .i64 0, t6, t7, t8, t9, t10, t11, t12, t13, t14, t15, t16, t17, t18, t19, t20, t21, t22, t23, t24, t25, t26, t27, t28, t29, t30, t31, t32, t33, t34, t35, t36, t37, t38, t39, t40, t41, t42, t43, t44, t45, t46, t47, t48, t49, t50, t51, t52, t53, t54, t55, t56, t57, t58, t59, t60, t61, t62, t63, t64, t65, t66, t67, t68, t69, t70, t71, t72, t73, t74, t75, t76, t77, t78, t79, t80] h R) :
    ∀ (m' i n : Nat) (t0 t3 t4 t6 t7 t8 t9 t10 t11 t12 t13 t14 t15 t16 t17 t18 t19 t20 t21 t22 t23 t24 t25 t26 t27 t28 t29 t30 t31 t32 t33 t34 t35 t36 t37 t38 t39 t40 t41 t42 t43 t44 t45 t46 t50 t51 t52 t53 t54 t55 t56 t57 t58 t59 t60 t61 t62 t63 t64 t65 t66 t67 t68 t69 t70 t71 t72 t73 t74 t75 t76 t77 t78 t79 t80 : Value), ls.length - i ≤ m' → i ≤ ls.length → CovOk len i n (ls.drop i) →
      Ok tab R12 (.inLoop L12_0 :: .inBlock 0 :: k) #[t0, ptr B, .bool false, t3, t4, .int .i64 n, t6, t7, t8, t9, t10, t11, t12, t13, t14, t15, t16, t17, t18, t19, t20, t21, t22, t23, t24, t25, t26, t27, t28, t29, t30, t31, t32, t33, t34, t35, t36, t37, t38, t39, t40, t41, t42, t43, t44, t45, t46, sv, .int .i64 ls.length, .int .i64 i, t50, t51, t52, t53, t54, t55, t56, t57, t58, t59, t60, t61, t62, t63, t64, t65, t66, t67, t68, t69, t70, t71, t72, t73, t74, t75, t76, t77, t78, t79, t80] h R := by
  intro m'
  induction m' with
  | zero =>
    intro i n t0 t3 t4 t6 t7 t8 t9 t10 t11 t12 t13 t14 t15 t16 t17 t18 t19 t20 t21 t22 t23 t24 t25 t26 t27 t28 t29 t30 t31 t32 t33 t34 t35 t36 t37 t38 t39 t40 t41 t42 t43 t44 t45 t46 t50 t51 t52 t53 t54 t55 t56 t57 t58 t59 t60 t61 t62 t63 t64 t65 t66 t67 t68 t69 t70 t71 t72 t73 t74 t75 t76 t77 t78 t79 t80 hn hi hc
    have hlt : ¬ ((i : Int) < ls.length) := by omega
    rw [List.drop_of_length_le (by omega)] at hc
    have hc : n = 0 := hc
    subst hc
    rw [ok_round, l12_0, L12_0a, L12_0b]
    simp at hk
    simp [hlt, hk]
  | succ m' ih =>
    intro i n t0 t3 t4 t6 t7 t8 t9 t10 t11 t12 t13 t14 t15 t16 t17 t18 t19 t20 t21 t22 t23 t24 t25 t26 t27 t28 t29 t30 t31 t32 t33 t34 t35 t36 t37 t38 t39 t40 t41 t42 t43 t44 t45 t46 t50 t51 t52 t53 t54 t55 t56 t57 t58 t59 t60 t61 t62 t63 t64 t65 t66 t67 t68 t69 t70 t71 t72 t73 t74 t75 t76 t77 t78 t79 t80 hn hi hc
    by_cases hil : i = ls.length
    · have hlt : ¬ ((i : Int) < ls.length) := by omega
      rw [List.drop_of_length_le (by omega)] at hc
      have hc : n = 0 := hc
      subst hc
      rw [ok_round, l12_0, L12_0a, L12_0b]
      simp at hk
      simp [hlt, hk]
    have hia : i < ls.length := by omega
    have hiv : i < vs.length := by rw [hp.len]; exact hia
    have hlt : ((i : Int) < ls.length) := by omega
    have hltv : ((i : Int) < vs.length) := by omega
    have hw1 : IntKind.i64.wrap ((i : Int) + 1) = ((i + 1 : Nat) : Int) := wrapN (n := i + 1) (by omega)
    obtain ⟨id, off, b, rfl, hb, hcell⟩ := hp.get hiv
    have hsy := hp.each i hiv hia
    have hl := hsm _ (List.getElem_mem hia)
    have hda : ls.drop i = ls[i] :: ls.drop (i + 1) := List.drop_eq_getElem_cons hia
    rw [hda] at hc
    obtain ⟨hf, hc1, hc2⟩ := hc
    have ih1 := fun n' t0 t3 t4 t6 t7 t8 t9 t10 t11 t12 t13 t14 t15 t16 t17 t18 t19 t20 t21 t22 t23 t24 t25 t26 t27 t28 t29 t30 t31 t32 t33 t34 t35 t36 t37 t38 t39 t40 t41 t42 t43 t44 t45 t46 t50 t51 t52 t53 t54 t55 t56 t57 t58 t59 t60 t61 t62 t63 t64 t65 t66 t67 t68 t69 t70 t71 t72 t73 t74 t75 t76 t77 t78 t79 t80 => ih (i + 1) n' t0 t3 t4 t6 t7 t8 t9 t10 t11 t12 t13 t14 t15 t16 t17 t18 t19 t20 t21 t22 t23 t24 t25 t26 t27 t28 t29 t30 t31 t32 t33 t34 t35 t36 t37 t38 t39 t40 t41 t42 t43 t44 t45 t46 t50 t51 t52 t53 t54 t55 t56 t57 t58 t59 t60 t61 t62 t63 t64 t65 t66 t67 t68 t69 t70 t71 t72 t73 t74 t75 t76 t77 t78 t79 t80 (by omega) (by omega)
    have hcl : n + cov 0 ls[i] ≤ len := by
      by_cases hk2 : kindOf i = 2
      · exact Nat.le_of_eq (hc1 hk2).1
      · exact (hc2 hk2).le
    have hcv := fun R => covered_eq (R := R) hsy hl hf (by omega)
    have hpass := fun R => pass_r (h := h) (R := R) (n := i) (by omega)
    have hadd : IntKind.i64.wrap ((n : Int) + (cov 0 ls[i] : Nat)) = ((n + cov 0 ls[i] : Nat) : Int) := wrapN (n := n + cov 0 ls[i]) (by omega)
    have hmul : IntKind.i64.wrap (w * hh) = len := by rw [hwl]; exact wrapN (by omega)
    have hneg : ¬ ((cov 0 ls[i] : Nat) : Int) < 0 := by omega
    rw [ok_round, l12_0, L12_0a, L12_0b]
    generalize cov 0 ls[i] = cv at *
    generalize vs[i] = v at *
    by_cases hk2 : kindOf i = 2
    · obtain ⟨e1, e2⟩ := hc1 hk2
      have ih1' := fun t0 t3 t4 t6 t7 t8 t9 t10 t11 t12 t13 t14 t15 t16 t17 t18 t19 t20 t21 t22 t23 t24 t25 t26 t27 t28 t29 t30 t31 t32 t33 t34 t35 t36 t37 t38 t39 t40 t41 t42 t43 t44 t45 t46 t50 t51 t52 t53 t54 t55 t56 t57 t58 t59 t60 t61 t62 t63 t64 t65 t66 t67 t68 t69 t70 t71 t72 t73 t74 t75 t76 t77 t78 t79 t80 => ih1 0 t0 t3 t4 t6 t7 t8 t9 t10 t11 t12 t13 t14 t15 t16 t17 t18 t19 t20 t21 t22 t23 t24 t25 t26 t27 t28 t29 t30 t31 t32 t33 t34 t35 t36 t37 t38 t39 t40 t41 t42 t43 t44 t45 t46 t50 t51 t52 t53 t54 t55 t56 t57 t58 t59 t60 t61 t62 t63 t64 t65 t66 t67 t68 t69 t70 t71 t72 t73 t74 t75 t76 t77 t78 t79 t80 e2
      rw [hk2] at hpass
      subst e1
      have hk2' : ((2 : Nat) : Int) = 2 := rfl
      generalize ((n + cv : Nat) : Int) = w3 at *
      generalize ((i + 1 : Nat) : Int) = w2 at *
      simp [hlt, hltv, hb, hcell, hcv, hpass, hneg, hadd, hmul, hbox, hw1, ih1', k_guard, k_guardU, fin12]
      exact ih1' _ _ _ _ _ _ _ _ _ _ _ _ _ _ _ _ _ _ _ _ _ _ _ _ _ _ _ _ _ _ _ _ _ _ _ _ _ _ _ _ _ _ _ _ _ _ _ _ _ _ _ _ _ _ _ _ _ _ _ _ _ _ _ _ _ _ _ _ _ _ _ _ _ _ _
    · have ih1' := fun t0 t3 t4 t6 t7 t8 t9 t10 t11 t12 t13 t14 t15 t16 t17 t18 t19 t20 t21 t22 t23 t24 t25 t26 t27 t28 t29 t30 t31 t32 t33 t34 t35 t36 t37 t38 t39 t40 t41 t42 t43 t44 t45 t46 t50 t51 t52 t53 t54 t55 t56 t57 t58 t59 t60 t61 t62 t63 t64 t65 t66 t67 t68 t69 t70 t71 t72 t73 t74 t75 t76 t77 t78 t79 t80 => ih1 (n + cv) t0 t3 t4 t6 t7 t8 t9 t10 t11 t12 t13 t14 t15 t16 t17 t18 t19 t20 t21 t22 t23 t24 t25 t26 t27 t28 t29 t30 t31 t32 t33 t34 t35 t36 t37 t38 t39 t40 t41 t42 t43 t44 t45 t46 t50 t51 t52 t53 t54 t55 t56 t57 t58 t59 t60 t61 t62 t63 t64 t65 t66 t67 t68 t69 t70 t71 t72 t73 t74 t75 t76 t77 t78 t79 t80 (hc2 hk2)
      have hk2' : (((kindOf i : Nat) : Int) == 2) = false := by simp; omega
      generalize kindOf i = kd at *
      generalize ((n + cv : Nat) : Int) = w3 at *
      generalize ((i + 1 : Nat) : Int) = w2 at *
      simp [hlt, hltv, hb, hcell, hcv, hpass, hneg, hadd, hbox, hk2', hw1, ih1', k_guard, k_guardU, fin12]

theorem ret_covers {i : Inp} {s t : Value} (hi : Ints h s i.xs) (tb : below h.length t = true) (ct : Sim.isCell t = true) : Ret tab 12 [i.val s t] h fun v _ => v = .bool true := by
  obtain ⟨w, hh, xs, fl, o, ⟨byp, res, rst, cz, sy⟩⟩ := i
  simp only at hi
  generalize hH : h ++ [some (⟨false, [.int .i64 w, .int .i64 hh, s, t, .int .i64 o, .bool byp, .bool res, .bool rst, .bool cz, .bool sy]⟩ : Blk)] = H
  have hbox : blk? H h.length = some ⟨false, [.int .i64 w, .int .i64 hh, s, t, .int .i64 o, .bool byp, .bool res, .bool rst, .bool cz, .bool sy]⟩ := by rw [← hH]; exact blk?_push_eq
  have hlow : ∀ id, id < h.length → blk? H id = blk? h id := fun id hid => by rw [← hH]; exact blk?_push_lt hid
  have hlen : H.length = h.length + 1 := by rw [← hH]; simp
  have hiH : Ints H s xs := hi.keep (by omega) (fun id hid _ => hlow id hid)
  have hsm := fun R => small_eq (R := R) (i := ⟨w, hh, xs, fl, o, ⟨byp, res, rst, cz, sy⟩⟩) hiH (below_mono (by omega) t tb) ct
  have hvo := fun R => validOrient_r (h := H) (R := R) (o := o)
  simp only [Inp.val] at hsm ⊢
  rw [enter12, B12]
  by_cases hS : Small ⟨w, hh, xs, fl, o, ⟨byp, res, rst, cz, sy⟩⟩
  · by_cases hO : 0 ≤ o ∧ o ≤ 3
    · rw [decide_eq_true hO] at hvo
      rw [decide_eq_true hS] at hsm
      cases byp
      · cases sy
        · obtain ⟨hl1, hl2⟩ := small_len hS
          have hgd := small_good hS
          have hr := symRes_of_small hS hO
          have hpl : planesOf xs ≤ 60 := hS.2.2
          have hwl : w * hh = ((w.toNat * hh.toNat : Nat) : Int) := by have := hS.2.1; simp only at this hl1; omega
          simp only at hl1 hl2 hgd hr
          obtain ⟨s1, H1, e1, o1⟩ := symbols_c hiH (by omega) w hh o ⟨false, res, rst, cz, false⟩
          have hsmall := (symRes_small (xs := xs) (w := w) (hh := hh) (o := o) (m := ⟨false, res, rst, cz, false⟩)).2
          have hcov := covOk_all (m := ⟨false, res, rst, cz, false⟩) (planes := planesOf xs) (o := o.toNat) rfl rfl hgd (fill_fresh _ _ _ _)
          rw [hr] at e1 o1 hsmall
          obtain ⟨vs1, p1⟩ := o1.pss
          have hln : (passesOf ⟨false, res, rst, cz, false⟩ (planesOf xs) o.toNat (3 * planesOf xs - 2) 0 (fillTo w.toNat hh.toNat xs xs.length)).length < 1000 := by rw [passesOf_len]; omega
          generalize passesOf ⟨false, res, rst, cz, false⟩ (planesOf xs) o.toNat (3 * planesOf xs - 2) 0 (fillTo w.toNat hh.toNat xs xs.length) = ls at *
          have hbox1 : blk? H1 h.length = some ⟨false, [.int .i64 w, .int .i64 hh, s, t, .int .i64 o, .bool false, .bool res, .bool rst, .bool cz, .bool false]⟩ := by rw [o1.low _ (by omega)]; exact hbox
          obtain ⟨a1, c1, hs1⟩ := p1.sl.shape
          have hpl := p1.len
          simp only [MD.val] at e1
          rw [hpl] at hs1
          subst hs1
          simp [hH, hbox, hsm, hvo, e1, k_guard, k_guardU, fin12]
          refine covers_loop (m := ⟨false, res, rst, cz, false⟩) p1 hsmall hln hwl (by omega) hbox1 ?_ _ 0 0 _ _ _ _ _ _ _ _ _ _ _ _ _ _ _ _ _ _ _ _ _ _ _ _ _ _ _ _ _ _ _ _ _ _ _ _ _ _ _ _ _ _ _ _ _ _ _ _ _ _ _ _ _ _ _ _ _ _ _ _ _ _ _ _ _ _ _ _ _ _ _ _ _ _ _ (Nat.le_refl _) (Nat.zero_le _) hcov
          intro t0 t3 t4 t6 t7 t8 t9 t10 t11 t12 t13 t14 t15 t16 t17 t18 t19 t20 t21 t22 t23 t24 t25 t26 t27 t28 t29 t30 t31 t32 t33 t34 t35 t36 t37 t38 t39 t40 t41 t42 t43 t44 t45 t46 t47 t48 t49 t50 t51 t52 t53 t54 t55 t56 t57 t58 t59 t60 t61 t62 t63 t64 t65 t66 t67 t68 t69 t70 t71 t72 t73 t74 t75 t76 t77 t78 t79 t80
          simp [example_eq, k_guard, fin12]
        · simp [hH, hbox, hsm, hvo, example_eq, k_guard, k_guardU, fin12]
      · simp [hH, hbox, hsm, hvo, example_eq, k_guard, k_guardU, fin12]
    · rw [decide_eq_false hO] at hvo
      rw [decide_eq_true hS] at hsm
      simp [hH, hbox, hsm, hvo, example_eq, k_guard, k_guardU, fin12]
  · rw [decide_eq_false hS] at hsm
    simp [hH, hbox, hsm, example_eq, k_guard, k_guardU, fin12]
end
end Go.Proofs.Ytlflfkdnpalhlaa
