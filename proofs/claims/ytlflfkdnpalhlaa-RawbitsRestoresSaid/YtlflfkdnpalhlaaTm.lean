/-
  The writers: what Terminate gives back, the program's and the reference's; and when two byte strings are the same.
-/
import Derived.Test.YtlflfkdnpalhlaaWr
namespace Go.Proofs.Ytlflfkdnpalhlaa
open Go Go.Sim
set_option linter.unusedSimpArgs false

theorem loop17 {h : Heap} {a b : Value} {xs : List Nat} (ha : Sl h 1 a xs.length (u8s xs)) (hb : Sl h 1 b xs.length (u8s xs)) (hl : xs.length < 1000000) {k : List RItem} {R : Value → Heap → Prop} {X : Prop}
    (hk : ∀ (t2 t3 t4 t5 t6 t7 t8 t9 t10 t11 t12 t13 t14 t15 t16 t17 t18 t19 t20 t21 t22 t23 t24 t25 : Value), (Ok tab R17 k #[a, b, t2, t3, t4, t5, t6, t7, t8, t9, t10, t11, t12, t13, t14, t15, t16, t17, t18, t19, t20, t21, t22, t23, t24, t25] h R ↔ X)) :
    ∀ (m i : Nat) (t2 t3 t4 t5 t6 t7 t8 t9 t10 t11 t14 t15 t16 t17 t18 t19 t20 t21 t22 t23 t24 t25 : Value), m = xs.length - i → i ≤ xs.length → (Ok tab R17 (.inLoop L17_0 :: .inBlock 0 :: k) #[a, b, t2, t3, t4, t5, t6, t7, t8, t9, t10, t11, .int .i64 xs.length, .int .i64 i, t14, t15, t16, t17, t18, t19, t20, t21, t22, t23, t24, t25] h R ↔ X) := by
  intro m
  induction m with
  | zero =>
    intro i t2 t3 t4 t5 t6 t7 t8 t9 t10 t11 t14 t15 t16 t17 t18 t19 t20 t21 t22 t23 t24 t25 hm hi
    have hlt : ¬ ((i : Int) < xs.length) := by omega
    rw [ok_round, l17_0, L17_0a, L17_0b]
    simp [hlt]
    apply hk
  | succ m ih =>
    intro i t2 t3 t4 t5 t6 t7 t8 t9 t10 t11 t14 t15 t16 t17 t18 t19 t20 t21 t22 t23 t24 t25 hm hi
    have hlt : ((i : Int) < xs.length) := by omega
    have hw : IntKind.i64.wrap ((i : Int) + 1) = (i : Int) + 1 := wrapN (n := i + 1) (by omega)
    obtain ⟨ida, offa, ba, rfl, hba, hca⟩ := ha.get (i := i) (by omega)
    obtain ⟨idb, offb, bb, rfl, hbb, hcb⟩ := hb.get (i := i) (by omega)
    have h1 := hca 0 (by omega)
    have h2 := hcb 0 (by omega)
    have hi' : i < xs.length := by omega
    simp [u8s, hi'] at h1 h2
    rw [ok_round, l17_0, L17_0a, L17_0b]
    simp [hlt, hw, hba, hbb, h1, h2]
    exact ih (i + 1) _ _ _ _ _ _ _ _ _ _ _ _ _ _ _ _ _ _ _ _ _ _ (by omega) (by omega)

theorem same17 {h : Heap} {a b : Value} {xs : List Nat} (ha : Sl h 1 a xs.length (u8s xs)) (hb : Sl h 1 b xs.length (u8s xs)) (hl : xs.length < 1000000) (R : Value → Heap → Prop) :
    Ret tab 17 [a, b] h R = R (.bool true) h := by
  obtain ⟨a1, c1, e1⟩ := ha.shape
  obtain ⟨a2, c2, e2⟩ := hb.shape
  rw [enter17, B17]
  simp [e1, e2]
  rw [← e1, ← e2]
  have := loop17 (k := [.code (.seq (.region [⟨some 4, .mov (.const (.bool true)), none⟩] []) .ret)]) (R := R) (X := R (.bool true) h) ha hb hl (fun t2 t3 t4 t5 t6 t7 t8 t9 t10 t11 t12 t13 t14 t15 t16 t17 t18 t19 t20 t21 t22 t23 t24 t25 => by simp [fin17])
  exact this xs.length 0 _ _ _ _ _ _ _ _ _ _ _ _ _ _ _ _ _ _ _ _ _ _ (by omega) (by omega)

/-- The end of the bytes goes down to the last that is not zero. -/
theorem loop18 {h : Heap} {id e p : Nat} {xs : List Nat} (hid : blk? h id = some ⟨false, u8s xs⟩) (ht : Trim xs e) (hl : xs.length < 1000000) {k : List RItem} {R : Value → Heap → Prop} {X : Prop}
    (hk : ∀ (t1 t2 t4 t5 t6 t7 t8 t9 t10 t11 t12 t13 t14 t15 t16 t17 t18 t19 t20 t21 t22 t23 t24 t25 t26 t27 t28 t29 t30 t31 t32 t33 t34 t35 t36 t37 t38 t39 t40 t41 t42 t43 t44 : Value), (Ok tab R18 k #[ptr p, t1, t2, .slice (some ⟨id, 0, none⟩) e 1, t4, t5, t6, t7, t8, t9, t10, t11, t12, t13, t14, t15, t16, t17, t18, t19, t20, t21, t22, t23, t24, t25, t26, t27, t28, t29, t30, t31, t32, t33, t34, t35, t36, t37, t38, t39, t40, t41, t42, t43, t44] h R ↔ X)) :
    ∀ (d m : Nat) (t1 t2 t4 t5 t6 t7 t8 t9 t10 t11 t12 t13 t14 t15 t16 t17 t18 t19 t20 t21 t22 t23 t24 t25 t26 t27 t28 t29 t30 t31 t32 t33 t34 t35 t36 t37 t38 t39 t40 t41 t42 t43 t44 : Value), m = e + d → m ≤ xs.length → (Ok tab R18 (.inLoop L18_0 :: .inBlock 0 :: k) #[ptr p, t1, t2, .slice (some ⟨id, 0, none⟩) m 1, t4, t5, t6, t7, t8, t9, t10, t11, t12, t13, t14, t15, t16, t17, t18, t19, t20, t21, t22, t23, t24, t25, t26, t27, t28, t29, t30, t31, t32, t33, t34, t35, t36, t37, t38, t39, t40, t41, t42, t43, t44] h R ↔ X) := by
  intro d
  have hw : ∀ m : Nat, 0 < m → m ≤ xs.length → IntKind.i64.wrap ((m : Int) - 1) = ((m - 1 : Nat) : Int) := fun m h0 h1 => by rw [wrapI (by omega) (by omega)]; omega
  have hg : ∀ m : Nat, m < xs.length → (u8s xs)[m]? = some (.int .u8 (xs.getD m 0 : Nat)) := fun m hm => by
    simp [u8s, hm]
  induction d with
  | zero =>
    intro m t1 t2 t4 t5 t6 t7 t8 t9 t10 t11 t12 t13 t14 t15 t16 t17 t18 t19 t20 t21 t22 t23 t24 t25 t26 t27 t28 t29 t30 t31 t32 t33 t34 t35 t36 t37 t38 t39 t40 t41 t42 t43 t44 hm hi
    obtain rfl : m = e := by omega
    rw [ok_round, l18_0, L18_0a, L18_0b]
    rcases Nat.eq_zero_or_pos m with h0 | h0
    · subst h0
      simp [k_guard]
      apply hk
    · have h1 : (0 : Int) < m := by omega
      have h2 : (0 : Int) ≤ ((m - 1 : Nat) : Int) ∧ ((m - 1 : Nat) : Int) < m := by omega
      have h3 := ht.2.2.resolve_left (by omega)
      have h4 : (((xs.getD (m - 1) 0 : Nat) : Int) == 0) = false := by simpa using h3
      generalize hv : ((xs.getD (m - 1) 0 : Nat) : Int) = v at h4
      have hg' := hg (m - 1) (by omega)
      rw [hv] at hg'
      simp [k_guard, h0, h1, hw m h0 hi, h2, hid, hg', h4]
      apply hk
  | succ d ih =>
    intro m t1 t2 t4 t5 t6 t7 t8 t9 t10 t11 t12 t13 t14 t15 t16 t17 t18 t19 t20 t21 t22 t23 t24 t25 t26 t27 t28 t29 t30 t31 t32 t33 t34 t35 t36 t37 t38 t39 t40 t41 t42 t43 t44 hm hi
    rw [ok_round, l18_0, L18_0a, L18_0b]
    have h0 : 0 < m := by omega
    have h1 : (0 : Int) < m := by omega
    have h2 : (0 : Int) ≤ ((m - 1 : Nat) : Int) ∧ ((m - 1 : Nat) : Int) < m := by omega
    have h3 := ht.2.1 (m - 1) (by omega)
    have hg' := hg (m - 1) (by omega)
    rw [h3] at hg'
    have h5 : ((m - 1 : Nat) : Int) ≤ (m : Int) := by omega
    simp [k_guard, h0, h1, hw m h0 hi, h2, hid, hg', sliceV, bndO, bnd, h5]
    exact ih (m - 1) _ _ _ _ _ _ _ _ _ _ _ _ _ _ _ _ _ _ _ _ _ _ _ _ _ _ _ _ _ _ _ _ _ _ _ _ _ _ _ _ _ _ _ (by omega) (by omega)

theorem term18 {h : Heap} {p : Nat} {s : Value} {bs : List Nat} (hw : PW h p s bs) (hl : bs.length < 1000000) :
    ∃ t h', (∀ R : Value → Heap → Prop, Ret tab 18 [ptr p] h R = R t h') ∧ Sl h' 1 t (segOf bs).length (u8s (segOf bs)) ∧ PW h' p (.slice none 0 0) [] ∧ h'.length = h.length ∧ (∀ id, id ≠ p → blk? h' id = blk? h id) ∧ (∀ id, sid t = some id → sid s = some id) := by
  obtain ⟨hp, ho, hne, hbits⟩ := hw
  have hlp := blk?_lt hp
  have hpl := pack_length bs
  have hsl : (segOf bs).length = endAt bs bs.length := by
    rw [segOf, List.length_take]; have := (trim_end hbits).1; omega
  rcases ho.2 with ⟨rfl, h0⟩ | ⟨id, rfl, hid⟩
  · -- nothing was written
    have he : (segOf bs).length = 0 := by rw [hsl]; have := (trim_end hbits).1; omega
    have he' : segOf bs = [] := List.eq_nil_of_length_eq_zero he
    refine ⟨.slice none 0 0, h.set p (some ⟨false, [.bool true, .slice none 0 0, .int .i64 0]⟩), fun R => ?_, ?_, ⟨?_, OwnS.nil _ _, by simp [sid], fun b hb => by cases hb⟩, by simp, fun id hid => blk?_set_ne (Ne.symm hid), fun id h => h⟩
    · rw [enter18, B18]
      simp [k_guard, hp]
      rw [ok_round, l18_0, L18_0a, L18_0b]
      simp [k_guard, hp, hlp, blk?_set_eq, fin18]
    · rw [he']; exact (OwnS.nil _ _).sl
    · rw [blk?_set_eq hlp]; rfl
  · have hne' : p ≠ id := fun e => hne (by rw [e]; rfl)
    refine ⟨.slice (some ⟨id, 0, none⟩) (endAt bs bs.length) 1, h.set p (some ⟨false, [.bool true, .slice none 0 0, .int .i64 0]⟩), fun R => ?_, ?_, ⟨?_, OwnS.nil _ _, by simp [sid], fun b hb => by cases hb⟩, by simp, fun id hid => blk?_set_ne (Ne.symm hid), fun id h => h⟩
    · rw [enter18, B18]
      simp [k_guard, hp]
      have ht := trim_end hbits
      refine loop18 (p := p) (e := endAt bs bs.length) hid ht (by omega) ?_ ((pack bs).length - endAt bs bs.length) (pack bs).length _ _ _ _ _ _ _ _ _ _ _ _ _ _ _ _ _ _ _ _ _ _ _ _ _ _ _ _ _ _ _ _ _ _ _ _ _ _ _ _ _ _ _ (by have := ht.1; omega) (Nat.le_refl _)
      intro t1 t2 t4 t5 t6 t7 t8 t9 t10 t11 t12 t13 t14 t15 t16 t17 t18 t19 t20 t21 t22 t23 t24 t25 t26 t27 t28 t29 t30 t31 t32 t33 t34 t35 t36 t37 t38 t39 t40 t41 t42 t43 t44
      simp [hp, hlp, blk?_set_eq, fin18]
    · refine ⟨by simp [u8s], .inr ⟨id, 0, by rw [hsl], .inr ⟨⟨false, u8s (pack bs)⟩, by rw [blk?_set_ne hne']; exact hid, ?_, ?_⟩⟩⟩
      · have := (trim_end hbits).1
        show 0 + (segOf bs).length * 1 ≤ (u8s (pack bs)).length
        simp [u8s]; omega
      · rw [List.drop_zero, Nat.mul_one, hsl]
        show List.take (endAt bs bs.length) (u8s (pack bs)) = u8s ((pack bs).take (endAt bs bs.length))
        simp [u8s, List.map_take]
    · rw [blk?_set_eq hlp]; rfl

theorem add_bit : ∀ (x : Fin 256) (j : Fin 8), x.1 % 2 ^ (j.1 + 1) = 0 → IntKind.u8.wrap ((x.1 : Int) + shlI .u8 1 (j.1 : Int)) = ((x.1 + 2 ^ j.1 : Nat) : Int) := by decide +kernel

theorem take_bits {bs : List Nat} (h : AreBits bs) (i : Nat) : AreBits (bs.take i) := fun b hb => h b (List.mem_of_mem_take hb)

/-- One bit more, in whole bytes. -/
theorem bytesOf_next {bs : List Nat} {i m : Nat} (hi : i < bs.length) (hm : i / 8 < m) : bytesOf (bs.take (i + 1)) m = (bytesOf (bs.take i) m).set (i / 8) (byteAt (bs.take i) (i / 8) + bs.getD i 0 * 2 ^ (7 - i % 8)) := by
  have ht : bs.take (i + 1) = bs.take i ++ [bs.getD i 0] := by
    rw [List.take_add_one, List.getD_eq_getElem?_getD]
    simp [hi]
  have hl : (bs.take i).length = i := by simp; omega
  apply List.ext_getElem?
  intro j
  rw [List.getElem?_set, bytesOf_length]
  by_cases hj : j < m
  · rw [bytesOf_get hj, ht, byteAt_push, hl]
    by_cases he : j = i / 8
    · subst he; rw [if_pos rfl, if_pos rfl, if_pos hj]
    · rw [if_neg he, if_neg (Ne.symm he), bytesOf_get hj]
  · rw [List.getElem?_eq_none (by rw [bytesOf_length]; omega), if_neg (by omega), List.getElem?_eq_none (by rw [bytesOf_length]; omega)]

theorem loop19 {p K : Nat} {s : Value} {bs : List Nat} {L : Nat} (hL : L = (bs.length + 7) / 8) (hbits : AreBits bs) (hl : bs.length < 1000000) {k : List RItem} {R : Value → Heap → Prop} {X : Prop} {h0 : Heap}
    (hp : blk? h0 p = some ⟨false, [.bool true, s]⟩) (ho : OwnS h0 1 s bs.length (i64s bs)) (hK : K < h0.length) (hpK : K ≠ p) (hsK : sid s ≠ some K)
    (hk : ∀ (t1 t2 t5 t6 t7 t8 t9 t10 t11 t12 t13 t14 t15 t16 t17 t18 t19 t20 t21 t22 t23 t24 t25 t26 t27 t28 t29 t30 t31 t32 t33 t34 t35 t36 t37 t38 t39 t40 t41 t42 t43 t44 t45 t46 t47 t48 t49 t50 t51 t52 t53 t54 t55 : Value), (Ok tab R19 k #[ptr p, t1, t2, .slice (some ⟨K, 0, none⟩) L 1, .int .i64 (endAt bs bs.length), t5, t6, t7, t8, t9, t10, t11, t12, t13, t14, t15, t16, t17, t18, t19, t20, t21, t22, t23, t24, t25, t26, t27, t28, t29, t30, t31, t32, t33, t34, t35, t36, t37, t38, t39, t40, t41, t42, t43, t44, t45, t46, t47, t48, t49, t50, t51, t52, t53, t54, t55] (h0.set K (some ⟨false, u8s (bytesOf bs L)⟩)) R ↔ X)) :
    ∀ (m i : Nat) (t1 t2 t6 t7 t8 t9 t10 t11 t12 t13 t14 t15 t16 t17 t18 t19 t20 t21 t22 t23 t24 t25 t26 t27 t28 t29 t30 t31 t32 t33 t34 t35 t36 t37 t38 t39 t40 t41 t42 t43 t44 t45 t46 t47 t48 t49 t50 t51 t52 t53 t54 t55 : Value), m = bs.length - i → i ≤ bs.length → (Ok tab R19 (.inLoop L19_0 :: .inBlock 0 :: k) #[ptr p, t1, t2, .slice (some ⟨K, 0, none⟩) L 1, .int .i64 (endAt bs i), .int .i64 i, t6, t7, t8, t9, t10, t11, t12, t13, t14, t15, t16, t17, t18, t19, t20, t21, t22, t23, t24, t25, t26, t27, t28, t29, t30, t31, t32, t33, t34, t35, t36, t37, t38, t39, t40, t41, t42, t43, t44, t45, t46, t47, t48, t49, t50, t51, t52, t53, t54, t55] (h0.set K (some ⟨false, u8s (bytesOf (bs.take i) L)⟩)) R ↔ X) := by
  intro m
  induction m with
  | zero =>
    intro i t1 t2 t6 t7 t8 t9 t10 t11 t12 t13 t14 t15 t16 t17 t18 t19 t20 t21 t22 t23 t24 t25 t26 t27 t28 t29 t30 t31 t32 t33 t34 t35 t36 t37 t38 t39 t40 t41 t42 t43 t44 t45 t46 t47 t48 t49 t50 t51 t52 t53 t54 t55 hm hi
    obtain rfl : i = bs.length := by omega
    obtain ⟨a, c, rfl⟩ := ho.sl.shape
    rw [ok_round, l19_0, L19_0a, L19_0b, List.take_length]
    simp [blk?_set_ne hpK, hp]
    apply hk
  | succ m ih =>
    intro i t1 t2 t6 t7 t8 t9 t10 t11 t12 t13 t14 t15 t16 t17 t18 t19 t20 t21 t22 t23 t24 t25 t26 t27 t28 t29 t30 t31 t32 t33 t34 t35 t36 t37 t38 t39 t40 t41 t42 t43 t44 t45 t46 t47 t48 t49 t50 t51 t52 t53 t54 t55 hm hi
    obtain ⟨id, rfl, hid⟩ := ho.ne_nil (by omega)
    have hiK : K ≠ id := fun e => hsK (by rw [e]; rfl)
    have hlt : ((i : Int) < bs.length) := by omega
    have hil : i < bs.length := by omega
    have hw : IntKind.i64.wrap ((i : Int) + 1) = (i : Int) + 1 := wrapN (n := i + 1) (by omega)
    have hg : (i64s bs)[i]? = some (.int .i64 (bs.getD i 0 : Nat)) := by simp [i64s, hil]
    have hn := bytesOf_next (m := L) hil (by omega)
    have he : endAt bs (i + 1) = if bs.getD i 0 = 1 then i / 8 + 1 else endAt bs i := rfl
    have hle := hbits.getD i
    have hcase : bs.getD i 0 = 0 ∨ bs.getD i 0 = 1 := by omega
    rw [ok_round, l19_0, L19_0a, L19_0b]
    rcases hcase with h1 | h1
    · rw [h1] at hg hn he
      have hn' : bytesOf (bs.take (i + 1)) L = bytesOf (bs.take i) L := by
        rw [hn]
        apply List.ext_getElem?
        intro j
        rw [List.getElem?_set]
        by_cases hj : i / 8 = j
        · subst hj
          rw [if_pos rfl, bytesOf_length, if_pos (by omega), bytesOf_get (by omega)]; simp
        · rw [if_neg hj]
      rw [if_neg (by omega)] at he
      have h2 := fun t1 t2 t6 t7 t8 t9 t10 t11 t12 t13 t14 t15 t16 t17 t18 t19 t20 t21 t22 t23 t24 t25 t26 t27 t28 t29 t30 t31 t32 t33 t34 t35 t36 t37 t38 t39 t40 t41 t42 t43 t44 t45 t46 t47 t48 t49 t50 t51 t52 t53 t54 t55 => ih (i + 1) t1 t2 t6 t7 t8 t9 t10 t11 t12 t13 t14 t15 t16 t17 t18 t19 t20 t21 t22 t23 t24 t25 t26 t27 t28 t29 t30 t31 t32 t33 t34 t35 t36 t37 t38 t39 t40 t41 t42 t43 t44 t45 t46 t47 t48 t49 t50 t51 t52 t53 t54 t55 (by omega) (by omega)
      simp only [hn', he] at h2
      simp [hlt, blk?_set_ne hpK, blk?_set_ne hiK, hp, hid, hg, hw]
      apply h2
    · rw [h1] at hg hn he
      have h8 : i / 8 < L := by omega
      have hq : IntKind.i64.wrap ((i : Int) / 8) = (i : Int) / 8 := wrapN (n := i / 8) (by omega)
      have hq1 : IntKind.i64.wrap ((i : Int) / 8 + 1) = (i : Int) / 8 + 1 := wrapN (n := i / 8 + 1) (by omega)
      have h2 : (0 : Int) ≤ (i : Int) / 8 ∧ (i : Int) / 8 < L := by omega
      have h3 : ((i : Int) / 8).toNat = i / 8 := by omega
      have h5 : (IntKind.i64.wrap (7 - (i : Int).tmod 8)) = ((7 - i % 8 : Nat) : Int) := by
        rw [show (i : Int).tmod 8 = ((i % 8 : Nat) : Int) from rfl, wrapI (by omega) (by omega)]; omega
      have h6 : ¬ ((7 - i % 8 : Nat) : Int) < 0 := by omega
      have htl : (bs.take i).length = i := by simp; omega
      have hz := byteAt_mod (bs.take i)
      rw [htl] at hz
      have h7 := add_bit ⟨byteAt (bs.take i) (i / 8), byteAt_lt (take_bits hbits i) _⟩ ⟨7 - i % 8, by omega⟩ (by simp only; rw [show 7 - i % 8 + 1 = 8 - i % 8 by omega]; exact hz)
      simp only at h7
      have hbg : (u8s (bytesOf (bs.take i) L))[i / 8]? = some (.int .u8 (byteAt (bs.take i) (i / 8) : Nat)) := by
        simp [u8s, bytesOf, h8]
      have hlen : (u8s (bytesOf (bs.take i) L)).length = L := by simp [u8s, bytesOf]
      have hset : ∀ y : Nat, (u8s (bytesOf (bs.take i) L)).set (i / 8) (.int .u8 y) = u8s ((bytesOf (bs.take i) L).set (i / 8) y) := fun y => by simp [u8s, List.map_set]
      rw [Nat.one_mul] at hn
      generalize byteAt (bs.take i) (i / 8) + 2 ^ (7 - i % 8) = y at h7 hn
      rw [if_pos rfl] at he
      have h9 : i / 8 + 1 ≤ L := h8
      have h10 := fun t1 t2 t6 t7 t8 t9 t10 t11 t12 t13 t14 t15 t16 t17 t18 t19 t20 t21 t22 t23 t24 t25 t26 t27 t28 t29 t30 t31 t32 t33 t34 t35 t36 t37 t38 t39 t40 t41 t42 t43 t44 t45 t46 t47 t48 t49 t50 t51 t52 t53 t54 t55 => ih (i + 1) t1 t2 t6 t7 t8 t9 t10 t11 t12 t13 t14 t15 t16 t17 t18 t19 t20 t21 t22 t23 t24 t25 t26 t27 t28 t29 t30 t31 t32 t33 t34 t35 t36 t37 t38 t39 t40 t41 t42 t43 t44 t45 t46 t47 t48 t49 t50 t51 t52 t53 t54 t55 (by omega) (by omega)
      simp only [hn, he] at h10
      simp [hlt, blk?_set_ne hpK, blk?_set_ne hiK, blk?_set_eq hK, hp, hid, hg, hw, hq, hq1, h2, h3, h5, h6, h7, hbg, hlen, hset, h9]
      apply h10

theorem repL_bytes (L : Nat) : repL [.int .u8 0] L = u8s (bytesOf [] L) := by
  have : ∀ L, repL [.int .u8 0] L = List.replicate L (.int .u8 0) := by
    intro L
    induction L with
    | zero => rfl
    | succ n ih => rw [repL, ih]; rfl
  rw [this]
  apply List.ext_getElem?
  intro j
  by_cases hj : j < L
  · simp [u8s, bytesOf, hj, byteAt]
  · rw [List.getElem?_eq_none (by simpa using hj), List.getElem?_eq_none (by simp [u8s, bytesOf]; omega)]

theorem term19 {h : Heap} {p : Nat} {s : Value} {bs : List Nat} (hw : QW h p s bs) (hl : bs.length < 1000000) :
    ∃ t h', (∀ R : Value → Heap → Prop, Ret tab 19 [ptr p] h R = R t h') ∧ Sl h' 1 t (segOf bs).length (u8s (segOf bs)) ∧ QW h' p (.slice none 0 0) [] ∧ h.length ≤ h'.length ∧ (∀ id, id < h.length → id ≠ p → blk? h' id = blk? h id) ∧ (∀ id, sid t = some id → h.length ≤ id ∧ id < h'.length) := by
  obtain ⟨hp, ho, hne, hbits⟩ := hw
  have hlp := blk?_lt hp
  have ht := trim_end hbits
  have hel := ht.1
  rw [pack_length] at hel
  have hsl : (segOf bs).length = endAt bs bs.length := by
    rw [segOf, List.length_take, pack_length]; omega
  obtain ⟨a, c, e⟩ := ho.sl.shape
  generalize hL : (bs.length + 7) / 8 = L at hel
  have hpack : pack bs = bytesOf bs L := by rw [pack, hL]
  have h1 : IntKind.i64.wrap ((bs.length : Int) + 7) = (bs.length : Int) + 7 := wrapN (n := bs.length + 7) (by omega)
  have h2 : ((bs.length : Int) + 7).tdiv 8 = (L : Int) := by rw [Int.tdiv_eq_ediv_of_nonneg (by omega)]; omega
  have h3 : IntKind.i64.wrap (L : Int) = (L : Int) := wrapN (by omega)
  have h4 : (L : Int) ≤ (roomCells : Int) := by unfold roomCells; omega
  have hpush : blk? (h ++ [some ⟨false, u8s (bytesOf [] L)⟩]) p = some ⟨false, [.bool true, s]⟩ := by rw [blk?_push_lt hlp]; exact hp
  have hself : (h ++ [some (⟨false, u8s (bytesOf [] L)⟩ : Blk)]).set h.length (some ⟨false, u8s (bytesOf [] L)⟩) = h ++ [some ⟨false, u8s (bytesOf [] L)⟩] := by
    rw [List.set_append_right _ _ (Nat.le_refl _)]; simp
  have hset2 : (h ++ [some (⟨false, u8s (bytesOf [] L)⟩ : Blk)]).set h.length (some ⟨false, u8s (bytesOf bs L)⟩) = h ++ [some ⟨false, u8s (bytesOf bs L)⟩] := by
    rw [List.set_append_right _ _ (Nat.le_refl _)]; simp
  have hpush2 : blk? (h ++ [some ⟨false, u8s (bytesOf bs L)⟩]) p = some ⟨false, [.bool true, s]⟩ := by rw [blk?_push_lt hlp]; exact hp
  have hnK : sid s ≠ some h.length := fun e => by have := ho.lt e; omega
  refine ⟨.slice (some ⟨h.length, 0, none⟩) (endAt bs bs.length) 1, (h ++ [some (⟨false, u8s (bytesOf bs L)⟩ : Blk)]).set p (some ⟨false, [.bool true, .slice none 0 0]⟩), fun R => ?_, ?_, ⟨?_, OwnS.nil _ _, by simp [sid], fun b hb => by cases hb⟩, by simp, fun id hid hidp => ?_, fun id hid => ?_⟩
  · rw [enter19, B19]
    simp [hp, e, h1, h2, h3, h4, repL_bytes]
    rw [← e]
    have hlo := fun (k : List RItem) (X : Prop) => loop19 (k := k) (X := X) (R := R) (h0 := h ++ [some (⟨false, u8s (bytesOf [] L)⟩ : Blk)]) hL.symm hbits hl hpush (ho.of_blk fun id _ hb => blk?_push hb) (by simp) (by omega) hnK
    rw [hset2] at hlo
    have hst := fun k X hk t1 t2 t6 t7 t8 t9 t10 t11 t12 t13 t14 t15 t16 t17 t18 t19 t20 t21 t22 t23 t24 t25 t26 t27 t28 t29 t30 t31 t32 t33 t34 t35 t36 t37 t38 t39 t40 t41 t42 t43 t44 t45 t46 t47 t48 t49 t50 t51 t52 t53 t54 t55 => hlo k X hk bs.length 0 t1 t2 t6 t7 t8 t9 t10 t11 t12 t13 t14 t15 t16 t17 t18 t19 t20 t21 t22 t23 t24 t25 t26 t27 t28 t29 t30 t31 t32 t33 t34 t35 t36 t37 t38 t39 t40 t41 t42 t43 t44 t45 t46 t47 t48 t49 t50 t51 t52 t53 t54 t55 (by omega) (by omega)
    simp only [List.take_zero, hself, endAt] at hst
    apply hst
    intro t1 t2 t5 t6 t7 t8 t9 t10 t11 t12 t13 t14 t15 t16 t17 t18 t19 t20 t21 t22 t23 t24 t25 t26 t27 t28 t29 t30 t31 t32 t33 t34 t35 t36 t37 t38 t39 t40 t41 t42 t43 t44 t45 t46 t47 t48 t49 t50 t51 t52 t53 t54 t55
    have h5 : ((endAt bs bs.length : Nat) : Int) ≤ (L : Int) := by omega
    simp [hpush2, sliceV, bndO, bnd, h5, fin19]
  · refine ⟨by simp [u8s], .inr ⟨h.length, 0, by rw [hsl], .inr ⟨⟨false, u8s (bytesOf bs L)⟩, ?_, ?_, ?_⟩⟩⟩
    · rw [blk?_set_ne (by omega)]; exact blk?_push_eq
    · show 0 + (segOf bs).length * 1 ≤ (u8s (bytesOf bs L)).length
      simp [u8s, bytesOf]; omega
    · rw [List.drop_zero, Nat.mul_one, hsl]
      show List.take (endAt bs bs.length) (u8s (bytesOf bs L)) = u8s ((pack bs).take (endAt bs bs.length))
      rw [hpack]; simp [u8s, List.map_take]
  · rw [blk?_set_eq (by simp; omega)]
  · rw [blk?_set_ne (Ne.symm hidp), blk?_push_lt hid]
  · simp [sid] at hid; subst hid; simp
end Go.Proofs.Ytlflfkdnpalhlaa
