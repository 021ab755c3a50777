/-
  RawbitsReads: the walk. Both readers answer alike, so the law returns true.
-/
import Derived.Test.YtlflfkdnpalhlaaRd
namespace Go.Proofs.Ytlflfkdnpalhlaa
open Go Go.Sim

theorem awake_ran : (run tab 3000 R14 [.code R14.body] (mkEnv R14 []) []).map (·.1) = some (.bool true) := by kernel_rfl
theorem awake_eq (h : Heap) (R : Value → Heap → Prop) : Ret tab 14 [] h R = R (.bool true) h := iso_eq rfl rfl rfl awake_ran rfl

theorem loop4 {p q : Nat} {s1 s2 : Value} {xs : List Nat} {n : Int} {s : Value} (hn : n ≤ 5000) (hpq : p ≠ q)
    (h1 : ∀ id off n c, s1 = .slice (some ⟨id, off, none⟩) n c → id ≠ q) (h2 : ∀ id off n c, s2 = .slice (some ⟨id, off, none⟩) n c → id ≠ p) {k : List RItem}
    {R : Value → Heap → Prop} (hk : ∀ (i : Nat) (h : Heap) (t2 t3 t4 t8 t9 t10 t11 t12 t13 t14 t15 t16 t17 t18 t19 t20 t21 t22 t23 t24 t25 t26 t27 t28 t29 t30 t31 t32 t33 t34 t35 t36 t37 : Value), Ok tab R4 k #[s, .int .i64 n, t2, t3, t4, ptr p, ptr q, .int .i64 i, t8, t9, t10, t11, t12, t13, t14, t15, t16, t17, t18, t19, t20, t21, t22, t23, t24, t25, t26, t27, t28, t29, t30, t31, t32, t33, t34, t35, t36, t37] h R) :
    ∀ (m i : Nat) (h : Heap) (t2 t3 t4 t8 t9 t10 t11 t12 t13 t14 t15 t16 t17 t18 t19 t20 t21 t22 t23 t24 t25 t26 t27 t28 t29 t30 t31 t32 t33 t34 t35 t36 t37 : Value), m = n.toNat - i → i ≤ 5000 → Bits h p s1 xs i → Bits h q s2 xs i → Ok tab R4 (.inLoop L4_0 :: .inBlock 0 :: k) #[s, .int .i64 n, t2, t3, t4, ptr p, ptr q, .int .i64 i, t8, t9, t10, t11, t12, t13, t14, t15, t16, t17, t18, t19, t20, t21, t22, t23, t24, t25, t26, t27, t28, t29, t30, t31, t32, t33, t34, t35, t36, t37] h R := by
  intro m
  induction m with
  | zero =>
    intro i h t2 t3 t4 t8 t9 t10 t11 t12 t13 t14 t15 t16 t17 t18 t19 t20 t21 t22 t23 t24 t25 t26 t27 t28 t29 t30 t31 t32 t33 t34 t35 t36 t37 hm hi b1 b2
    rw [ok_round, l4_0, L4_0a, L4_0b]
    have hlt : ¬ ((i : Int) < n) := by omega
    simp [hlt]
    apply hk
  | succ m ih =>
    intro i h t2 t3 t4 t8 t9 t10 t11 t12 t13 t14 t15 t16 t17 t18 t19 t20 t21 t22 t23 t24 t25 t26 t27 t28 t29 t30 t31 t32 t33 t34 t35 t36 t37 hm hi b1 b2
    rw [ok_round, l4_0, L4_0a, L4_0b]
    have hlt : ((i : Int) < n) := by omega
    have hw : IntKind.i64.wrap ((i : Int) + 1) = (i : Int) + 1 := wrapN (n := i + 1) (by omega)
    have c1 := b1.next
    have c2 := b2.other hpq h2 (some ⟨false, [.bool true, s1, .int .i64 ((i : Int) + 1)]⟩)
    have d2 := c2.next
    have d1 := c1.other (Ne.symm hpq) h1 (some ⟨false, [.bool true, s2, .int .i64 ((i : Int) + 1)]⟩)
    simp [hlt, k_guard, get26 b1 (by omega), get27 c2 (by omega), at28 d1, at29 d2, hw]
    exact ih (i + 1) _ _ _ _ _ _ _ _ _ _ _ _ _ _ _ _ _ _ _ _ _ _ _ _ _ _ _ _ _ _ _ _ _ _ (by omega) (by omega) d1 d2

theorem ret4 {h : Heap} {s : Value} {xs : List Nat} {n : Int} (hs : Sl h 1 s xs.length (xs.map fun (x : Nat) => .int .u8 x)) (hx : ∀ x ∈ xs, x < 256) :
    Ret tab 4 [s, .int .i64 n] h (fun v _ => v = .bool true) := by
  obtain ⟨a, c, hsv⟩ : ∃ a c, s = .slice a xs.length c := by
    rcases hs.2 with ⟨rfl, h0⟩ | ⟨id, off, rfl, _⟩
    · exact ⟨none, 0, by rw [h0]⟩
    · exact ⟨_, _, rfl⟩
  rw [enter4, B4]
  by_cases hl : 300 < xs.length
  · have h1 : (300 : Int) < xs.length := by omega
    simp [hsv, k_guard, h1, awake_eq, fin4]
  · have h1 : ¬ (300 : Int) < xs.length := by omega
    by_cases hn : 5000 < n
    · simp [hsv, k_guard, h1, hn, awake_eq, fin4]
    · obtain ⟨p, s1, h', e1, b1, l1, l2, l3, l4⟩ := new24 hs hx (by omega)
      have hs' : Sl h' 1 s xs.length (xs.map fun (x : Nat) => .int .u8 x) := hs.of_blk fun id off b _ hb _ => by rw [l3 id (blk?_lt hb)]; exact hb
      obtain ⟨q, s2, h'', e2, b2, m1, m2, m3, m4⟩ := new25 hs' hx (by omega)
      have hp' := blk?_lt b1.1
      have hk1 : Bits h'' p s1 xs 0 := by
        refine ⟨by rw [m3 p hp']; exact b1.1, b1.2.1.of_blk fun id off b _ hb _ => by rw [m3 id (blk?_lt hb)]; exact hb, b1.2.2⟩
      have hpq : p ≠ q := by omega
      have n1 : ∀ id off n c, s1 = .slice (some ⟨id, off, none⟩) n c → id ≠ q := by
        intro id off n c e he
        have := l4 id off n c e; omega
      have n2 : ∀ id off n c, s2 = .slice (some ⟨id, off, none⟩) n c → id ≠ p := fun id off n c e he => by have := m4 id off n c e; omega
      subst hsv
      simp [k_guard, h1, hn, e1, e2]
      refine loop4 (xs := xs) (by omega) hpq n1 n2 ?_ n.toNat 0 h'' _ _ _ _ _ _ _ _ _ _ _ _ _ _ _ _ _ _ _ _ _ _ _ _ _ _ _ _ _ _ _ _ _ (by omega) (by omega) hk1 b2
      intro i h t2 t3 t4 t8 t9 t10 t11 t12 t13 t14 t15 t16 t17 t18 t19 t20 t21 t22 t23 t24 t25 t26 t27 t28 t29 t30 t31 t32 t33 t34 t35 t36 t37
      simp [awake_eq, fin4]
end Go.Proofs.Ytlflfkdnpalhlaa
