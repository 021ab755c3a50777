/-
  The law's own helpers: bits, and gets.
-/
import Derived.Test.YtlflfkdnpalhlaaWrites
namespace Go.Proofs.Ytlflfkdnpalhlaa
open Go Go.Sim
set_option linter.unusedSimpArgs false

def ints (zs : List Int) : List Value := zs.map fun z => .int .i64 z
def goodBit (zs : List Int) (j : Nat) : Prop := 0 ≤ zs.getD j 0 ∧ zs.getD j 0 ≤ 1

open Classical in
noncomputable def bitsT (zs : List Int) : Bool := decide (∀ j, j < zs.length → j < 2000 → goodBit zs j) && decide (zs.length ≤ 2000)

theorem loop30 {h : Heap} {s : Value} {zs : List Int} (hs : Sl h 1 s zs.length (ints zs)) {k : List RItem} {R : Value → Heap → Prop}
    (hk : (∀ j, j < zs.length → j < 2000 → goodBit zs j) → ∀ (t1 t2 t3 t4 t5 t6 t7 t8 t9 t10 t11 t12 t13 t14 t15 t16 t17 t18 t19 t20 t21 t22 t23 t24 t25 t26 t27 t28 : Value), (Ok tab R30 k #[s, t1, t2, t3, t4, t5, t6, t7, t8, t9, t10, t11, t12, t13, t14, t15, t16, t17, t18, t19, t20, t21, t22, t23, t24, t25, t26, t27, t28] h R ↔ R (.bool (bitsT zs)) h)) :
    ∀ (m i : Nat) (t1 t2 t4 t5 t6 t7 t8 t9 t10 t11 t12 t13 t14 t15 t16 t17 t18 t19 t20 t21 t22 t23 t24 t25 t26 t27 t28 : Value), m = 2000 - i → i ≤ 2000 → i ≤ zs.length → (∀ j, j < i → goodBit zs j) →
      (Ok tab R30 (.inLoop L30_0 :: .inBlock 0 :: k) #[s, t1, t2, .int .i64 i, t4, t5, t6, t7, t8, t9, t10, t11, t12, t13, t14, t15, t16, t17, t18, t19, t20, t21, t22, t23, t24, t25, t26, t27, t28] h R ↔ R (.bool (bitsT zs)) h) := by
  intro m
  induction m with
  | zero =>
    intro i t1 t2 t4 t5 t6 t7 t8 t9 t10 t11 t12 t13 t14 t15 t16 t17 t18 t19 t20 t21 t22 t23 t24 t25 t26 t27 t28 hm hi hl hg
    obtain ⟨a, c, rfl⟩ := hs.shape
    have h2 : ¬ ((i : Int) < 2000) := by omega
    rw [ok_round, l30_0, L30_0a, L30_0b]
    by_cases hlt : i < zs.length
    · have h1 : ((i : Int) < zs.length) := by omega
      simp [k_guard, hlt, h1, h2]
      exact hk (fun j _ hj => hg j (by omega)) ..
    · have h1 : ¬ ((i : Int) < zs.length) := by omega
      simp [k_guard, hlt, h1, h2]
      exact hk (fun j _ hj => hg j (by omega)) ..
  | succ m ih =>
    intro i t1 t2 t4 t5 t6 t7 t8 t9 t10 t11 t12 t13 t14 t15 t16 t17 t18 t19 t20 t21 t22 t23 t24 t25 t26 t27 t28 hm hi hl hg
    have h2 : ((i : Int) < 2000) := by omega
    have hw : IntKind.i64.wrap ((i : Int) + 1) = (i : Int) + 1 := wrapN (n := i + 1) (by omega)
    rw [ok_round, l30_0, L30_0a, L30_0b]
    by_cases hlt : i < zs.length
    · have h1 : ((i : Int) < zs.length) := by omega
      obtain ⟨id, off, b, rfl, hb, hc⟩ := hs.get hlt
      have c0 := hc 0 (by omega)
      simp [ints, hlt] at c0
      have hz : zs.getD i 0 = zs[i] := by simp [hlt]
      by_cases hlo : zs[i] < 0
      · have hT : bitsT zs = false := by
          unfold bitsT
          rw [Bool.and_eq_false_iff]; left
          rw [decide_eq_false_iff_not]
          intro hall
          have := (hall i hlt (by omega)).1
          omega
        simp [k_guard, hlt, h1, h2, hb, c0, hlo, hT, fin30]
      · by_cases hhi : 1 < zs[i]
        · have hT : bitsT zs = false := by
            unfold bitsT
            rw [Bool.and_eq_false_iff]; left
            rw [decide_eq_false_iff_not]
            intro hall
            have := (hall i hlt (by omega)).2
            omega
          simp [k_guard, hlt, h1, h2, hb, c0, hlo, hhi, hT, fin30]
        · simp [k_guard, hlt, h1, h2, hb, c0, hlo, hhi, hw]
          refine ih (i + 1) _ _ _ _ _ _ _ _ _ _ _ _ _ _ _ _ _ _ _ _ _ _ _ _ _ _ _ (by omega) (by omega) (by omega) fun j hj => ?_
          by_cases hji : j = i
          · subst hji; exact ⟨by omega, by omega⟩
          · exact hg j (by omega)
    · obtain ⟨a, c, rfl⟩ := hs.shape
      have h1 : ¬ ((i : Int) < zs.length) := by omega
      simp [k_guard, hlt, h1, h2]
      exact hk (fun j hj _ => hg j (by omega)) ..

open Classical in
theorem bits30 {h : Heap} {s : Value} {zs : List Int} (hs : Sl h 1 s zs.length (ints zs)) (R : Value → Heap → Prop) : Ret tab 30 [s] h R ↔ R (.bool (bitsT zs)) h := by
  rw [enter30, B30]
  simp
  refine loop30 hs ?_ 2000 0 _ _ _ _ _ _ _ _ _ _ _ _ _ _ _ _ _ _ _ _ _ _ _ _ _ _ _ (by omega) (by omega) (by omega) (fun j hj => by omega)
  intro hg t1 t2 t3 t4 t5 t6 t7 t8 t9 t10 t11 t12 t13 t14 t15 t16 t17 t18 t19 t20 t21 t22 t23 t24 t25 t26 t27 t28
  have hT : bitsT zs = decide ((zs.length : Int) ≤ 2000) := by
    unfold bitsT
    rw [decide_eq_true hg, Bool.true_and]
    rw [decide_eq_decide]; omega
  obtain ⟨a, c, rfl⟩ := hs.shape
  simp [hT, fin30]

open Classical in
theorem bitsT_true {zs : List Int} (h : bitsT zs = true) : zs.length ≤ 2000 ∧ ∃ bs : List Nat, AreBits bs ∧ zs = bs.map fun (b : Nat) => (b : Int) := by
  unfold bitsT at h
  rw [Bool.and_eq_true, decide_eq_true_iff, decide_eq_true_iff] at h
  obtain ⟨h1, h2⟩ := h
  have hz : ∀ z ∈ zs, 0 ≤ z ∧ z ≤ 1 := by
    intro z hz
    obtain ⟨j, hj⟩ := List.getElem?_of_mem hz
    have hl := (List.getElem?_eq_some_iff.1 hj).1
    have := h1 j hl (by omega)
    unfold goodBit at this
    rw [List.getD_eq_getElem?_getD, hj] at this
    exact this
  refine ⟨h2, zs.map Int.toNat, fun b hb => ?_, ?_⟩
  · obtain ⟨z, hz', rfl⟩ := List.mem_map.1 hb
    have := hz z hz'; omega
  · rw [List.map_map]
    conv => lhs; rw [← List.map_id zs]
    apply List.map_congr_left
    intro z hz'
    have := hz z hz'
    simp only [Function.comp, id]; omega

theorem blk?_set_self {h : Heap} {p : Nat} {b : Blk} (hb : blk? h p = some b) : h.set p (some b) = h := by
  apply List.ext_getElem?
  intro j
  rw [List.getElem?_set]
  by_cases hj : p = j
  · subst hj
    rw [if_pos rfl, if_pos (blk?_lt hb)]
    unfold blk? at hb
    split at hb
    · rename_i x hx; rw [hx]; injection hb with hb; rw [hb]
    · cases hb
  · rw [if_neg hj]

/-- A reader at bit i. -/
abbrev rcell (s : Value) (i : Nat) : Option Blk := some ⟨false, [.bool true, s, .int .i64 i]⟩

theorem Bits.at {h : Heap} {p : Nat} {s : Value} {xs : List Nat} {n : Nat} (hb : Bits h p s xs n) (i : Nat) : Bits (h.set p (rcell s i)) p s xs i := by
  obtain ⟨hp, hs, hne, hx⟩ := hb
  exact ⟨blk?_set_eq (blk?_lt hp), hs.of_blk fun id off b e hb _ => by rw [blk?_set_ne (fun e' => hne id off _ _ e e'.symm)]; exact hb, hne, hx⟩

theorem loop31a {h : Heap} {p : Nat} {sb s sl v2 : Value} {xs bs : List Nat} (hr : Bits h p s xs 0) (hl : Sl h 1 sl bs.length (i64s bs)) (hlp : ∀ id, sid sl = some id → id ≠ p) (hn : bs.length ≤ 2000)
    (hbits : ∀ i, i < bs.length → bitAt xs i = bs.getD i 0) {k : List RItem} {R : Value → Heap → Prop} {X : Prop}
    (hk : ∀ (t3 t4 t5 t6 t8 t9 t10 t11 t12 t13 t14 t15 t16 t17 t18 t19 t20 t21 t22 t23 t24 t25 t26 t27 t28 t29 t30 t31 t32 t33 t34 t35 t36 t37 : Value), (Ok tab R31 k #[sb, sl, v2, t3, t4, t5, t6, ptr p, t8, t9, t10, t11, t12, t13, t14, t15, t16, t17, t18, t19, t20, t21, t22, t23, t24, t25, t26, t27, t28, t29, t30, t31, t32, t33, t34, t35, t36, t37] (h.set p (rcell s bs.length)) R ↔ X)) :
    ∀ (m i : Nat) (t3 t4 t5 t6 t8 t9 t10 t11 t14 t15 t16 t17 t18 t19 t20 t21 t22 t23 t24 t25 t26 t27 t28 t29 t30 t31 t32 t33 t34 t35 t36 t37 : Value), m = bs.length - i → i ≤ bs.length →
      (Ok tab R31 (.inLoop L31_0 :: .inBlock 0 :: k) #[sb, sl, v2, t3, t4, t5, t6, ptr p, t8, t9, t10, t11, .int .i64 bs.length, .int .i64 i, t14, t15, t16, t17, t18, t19, t20, t21, t22, t23, t24, t25, t26, t27, t28, t29, t30, t31, t32, t33, t34, t35, t36, t37] (h.set p (rcell s i)) R ↔ X) := by
  intro m
  induction m with
  | zero =>
    intro i t3 t4 t5 t6 t8 t9 t10 t11 t14 t15 t16 t17 t18 t19 t20 t21 t22 t23 t24 t25 t26 t27 t28 t29 t30 t31 t32 t33 t34 t35 t36 t37 hm hi
    obtain rfl : i = bs.length := by omega
    rw [ok_round, l31_0, L31_0a, L31_0b]
    simp
    apply hk
  | succ m ih =>
    intro i t3 t4 t5 t6 t8 t9 t10 t11 t14 t15 t16 t17 t18 t19 t20 t21 t22 t23 t24 t25 t26 t27 t28 t29 t30 t31 t32 t33 t34 t35 t36 t37 hm hi
    have hlt : ((i : Int) < bs.length) := by omega
    have hil : i < bs.length := by omega
    have hw : IntKind.i64.wrap ((i : Int) + 1) = (i : Int) + 1 := wrapN (n := i + 1) (by omega)
    obtain ⟨id, off, b, rfl, hb, hc⟩ := hl.get hil
    have hid : p ≠ id := fun e => hlp id rfl e.symm
    have c0 := hc 0 (by omega)
    have hz : bitAt xs i = bs[i] := by rw [hbits i hil]; simp [hil]
    simp [i64s, hil] at c0
    have hr' := hr.at i
    have hg := fun R => get26 hr' (by omega) R
    have hb1 : ∀ x, blk? (h.set p x) id = some b := fun x => by rw [blk?_set_ne hid]; exact hb
    rw [ok_round, l31_0, L31_0a, L31_0b]
    simp [hlt, hw, hil, hg, hb1, c0, hz, book, logOf, addLog, chk1, lookL, reload, veq, List.set_set]
    exact ih (i + 1) _ _ _ _ _ _ _ _ _ _ _ _ _ _ _ _ _ _ _ _ _ _ _ _ _ _ _ _ _ _ _ _ (by omega) (by omega)

theorem loop31b {h : Heap} {p : Nat} {sb s sl : Value} {xs : List Nat} {n z : Nat} (hr : Bits h p s xs 0) (hn : n ≤ 2000) (hz : z ≤ 100)
    (hbits : ∀ i, n ≤ i → i < n + z → bitAt xs i = 0) {k : List RItem} {R : Value → Heap → Prop} {X : Prop}
    (hk : ∀ (t3 t4 t5 t6 t8 t9 t10 t11 t12 t13 t14 t15 t16 t17 t18 t19 t20 t21 t22 t23 t24 t25 t26 t27 t28 t29 t30 t31 t32 t33 t34 t35 t36 t37 : Value), (Ok tab R31 k #[sb, sl, .int .i64 z, t3, t4, t5, t6, ptr p, t8, t9, t10, t11, t12, t13, t14, t15, t16, t17, t18, t19, t20, t21, t22, t23, t24, t25, t26, t27, t28, t29, t30, t31, t32, t33, t34, t35, t36, t37] (h.set p (rcell s (n + z))) R ↔ X)) :
    ∀ (m i : Nat) (t3 t4 t5 t6 t8 t9 t10 t11 t12 t13 t14 t15 t16 t17 t18 t19 t20 t21 t22 t23 t26 t27 t28 t29 t30 t31 t32 t33 t34 t35 t36 t37 : Value), m = z - i → i ≤ z →
      (Ok tab R31 (.inLoop L31_1 :: .inBlock 2 :: k) #[sb, sl, .int .i64 z, t3, t4, t5, t6, ptr p, t8, t9, t10, t11, t12, t13, t14, t15, t16, t17, t18, t19, t20, t21, t22, t23, .int .i64 z, .int .i64 i, t26, t27, t28, t29, t30, t31, t32, t33, t34, t35, t36, t37] (h.set p (rcell s (n + i))) R ↔ X) := by
  intro m
  induction m with
  | zero =>
    intro i t3 t4 t5 t6 t8 t9 t10 t11 t12 t13 t14 t15 t16 t17 t18 t19 t20 t21 t22 t23 t26 t27 t28 t29 t30 t31 t32 t33 t34 t35 t36 t37 hm hi
    obtain rfl : i = z := by omega
    rw [ok_round, l31_1, L31_1a, L31_1b]
    simp
    have := hk
    simp at this
    apply this
  | succ m ih =>
    intro i t3 t4 t5 t6 t8 t9 t10 t11 t12 t13 t14 t15 t16 t17 t18 t19 t20 t21 t22 t23 t26 t27 t28 t29 t30 t31 t32 t33 t34 t35 t36 t37 hm hi
    have hlt : ((i : Int) < z) := by omega
    have hil : i < z := by omega
    have hw : IntKind.i64.wrap ((i : Int) + 1) = (i : Int) + 1 := wrapN (n := i + 1) (by omega)
    have hz0 := hbits (n + i) (by omega) (by omega)
    have hr' := hr.at (n + i)
    have hg := fun R => get26 hr' (by omega) R
    have ih' := fun t3 t4 t5 t6 t8 t9 t10 t11 t12 t13 t14 t15 t16 t17 t18 t19 t20 t21 t22 t23 t26 t27 t28 t29 t30 t31 t32 t33 t34 t35 t36 t37 => ih (i + 1) t3 t4 t5 t6 t8 t9 t10 t11 t12 t13 t14 t15 t16 t17 t18 t19 t20 t21 t22 t23 t26 t27 t28 t29 t30 t31 t32 t33 t34 t35 t36 t37 (by omega) (by omega)
    rw [ok_round, l31_1, L31_1a, L31_1b]
    simp only [rcell] at hg ih' ⊢
    generalize hc : ((n + i : Nat) : Int) = c at hg ⊢
    have hc1 : ((n + (i + 1) : Nat) : Int) = c + 1 := by omega
    rw [hc1] at ih'
    simp [hlt, hw, hil, hg, hz0, List.set_set]
    apply ih'

theorem gets31 {h : Heap} {sb sl : Value} {xs bs : List Nat} {z : Nat} (hx : Sl h 1 sb xs.length (u8s xs)) (hx256 : ∀ x ∈ xs, x < 256) (hxl : xs.length < 1000000) (hl : Sl h 1 sl bs.length (i64s bs))
    (hlo : ∀ id, sid sl = some id → id < h.length) (hn : bs.length ≤ 2000) (hz : z ≤ 100) (h1 : ∀ i, i < bs.length → bitAt xs i = bs.getD i 0) (h2 : ∀ i, bs.length ≤ i → i < bs.length + z → bitAt xs i = 0) :
    ∃ h', (∀ R : Value → Heap → Prop, Ret tab 31 [sb, sl, .int .i64 z] h R ↔ R (.bool true) h') ∧ h.length ≤ h'.length ∧ ∀ id, id < h.length → blk? h' id = blk? h id := by
  obtain ⟨p, s, h', e, hr, l1, l2, l3, l4⟩ := new24 hx hx256 hxl
  refine ⟨h'.set p (rcell s (bs.length + z)), fun R => ?_, by simpa using l2, fun id hid => by rw [blk?_set_ne (by omega)]; exact l3 id hid⟩
  obtain ⟨a, c, hsl⟩ := hl.shape
  have hl' : Sl h' 1 sl bs.length (i64s bs) := hl.of_sid fun id b hid hb => by rw [l3 id (blk?_lt hb)]; exact hb
  have hself : h'.set p (rcell s 0) = h' := blk?_set_self hr.1
  rw [enter31, B31]
  simp [e, hsl]
  rw [← hsl]
  have ha := fun (k : List RItem) (X : Prop) hk t3 t4 t5 t6 t8 t9 t10 t11 t14 t15 t16 t17 t18 t19 t20 t21 t22 t23 t24 t25 t26 t27 t28 t29 t30 t31 t32 t33 t34 t35 t36 t37 => loop31a (sb := sb) (v2 := .int .i64 z) (k := k) (R := R) (X := X) hr hl' (fun id hid e => by have := hlo id hid; omega) hn h1 hk bs.length 0 t3 t4 t5 t6 t8 t9 t10 t11 t14 t15 t16 t17 t18 t19 t20 t21 t22 t23 t24 t25 t26 t27 t28 t29 t30 t31 t32 t33 t34 t35 t36 t37 (by omega) (by omega)
  rw [hself] at ha
  apply ha
  intro t3 t4 t5 t6 t8 t9 t10 t11 t12 t13 t14 t15 t16 t17 t18 t19 t20 t21 t22 t23 t24 t25 t26 t27 t28 t29 t30 t31 t32 t33 t34 t35 t36 t37
  simp
  have hb := fun (k : List RItem) (X : Prop) hk t3 t4 t5 t6 t8 t9 t10 t11 t12 t13 t14 t15 t16 t17 t18 t19 t20 t21 t22 t23 t26 t27 t28 t29 t30 t31 t32 t33 t34 t35 t36 t37 => loop31b (sb := sb) (sl := sl) (n := bs.length) (z := z) (k := k) (R := R) (X := X) hr hn hz h2 hk z 0 t3 t4 t5 t6 t8 t9 t10 t11 t12 t13 t14 t15 t16 t17 t18 t19 t20 t21 t22 t23 t26 t27 t28 t29 t30 t31 t32 t33 t34 t35 t36 t37 (by omega) (by omega)
  apply hb
  intro t3 t4 t5 t6 t8 t9 t10 t11 t12 t13 t14 t15 t16 t17 t18 t19 t20 t21 t22 t23 t24 t25 t26 t27 t28 t29 t30 t31 t32 t33 t34 t35 t36 t37
  have hr' := hr.at (bs.length + z)
  have hat := fun R => at28 hr' R
  have hw : IntKind.i64.wrap ((bs.length : Int) + (z : Int)) = (bs.length : Int) + (z : Int) := wrapN (n := bs.length + z) (by omega)
  simp only [rcell, Int.natCast_add] at hat ⊢
  simp [hat, hsl, hw, fin31]
end Go.Proofs.Ytlflfkdnpalhlaa
