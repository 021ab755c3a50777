import Derived.Test.YtjpjohchdfoeaaaInp
/-! 'small': a block of at most 12 by 12 coefficients. -/
namespace Go.Proofs.Ytjpjohchdfoeaaa
open Go.Sim
open Go.RowKit
set_option linter.unusedVariables false
set_option linter.unusedSimpArgs false

def Small (i : Inp) : Prop := ((1 ≤ i.w ∧ i.w ≤ 12) ∧ 1 ≤ i.h ∧ i.h ≤ 12) ∧ (i.xs.length : Int) = i.w * i.h ∧ planesOf i.xs ≤ 60
instance (i : Inp) : Decidable (Small i) := by unfold Small; exact inferInstance
/-- What Symbols returns for a small block. -/
theorem symRes_of_small {i : Inp} (hS : Small i) (ho : 0 ≤ i.o ∧ i.o ≤ 3) :
    symRes i.xs i.w i.h i.o i.m = (0, passesOf i.m (planesOf i.xs) i.o.toNat (3 * planesOf i.xs - 2) 0 (fillTo i.w.toNat i.h.toNat i.xs i.xs.length)) := by
  obtain ⟨⟨⟨w1, w2⟩, h1, h2⟩, hl, hp⟩ := hS
  unfold symRes
  rw [if_neg (by simp [sized]; omega), if_neg (by omega), if_neg (by omega), if_pos (inR_planes.2 hp)]
theorem small_len {i : Inp} (hS : Small i) : i.xs.length = i.w.toNat * i.h.toNat ∧ i.xs.length ≤ 144 := by
  obtain ⟨⟨⟨w1, w2⟩, h1, h2⟩, hl, hp⟩ := hS
  obtain ⟨w, hw⟩ := Int.eq_ofNat_of_zero_le (show 0 ≤ i.w by omega)
  obtain ⟨hh, hh'⟩ := Int.eq_ofNat_of_zero_le (show 0 ≤ i.h by omega)
  rw [hw, hh'] at hl
  rw [hw, hh', Int.toNat_natCast, Int.toNat_natCast]
  rw [← Int.natCast_mul] at hl
  have : w * hh ≤ 12 * 12 := Nat.mul_le_mul (by omega) (by omega)
  omega
theorem small_good {i : Inp} (hS : Small i) : (fillTo i.w.toNat i.h.toNat i.xs i.xs.length).Good := by
  have hl := (small_len hS).1
  obtain ⟨⟨⟨w1, w2⟩, h1, h2⟩, _, hp⟩ := hS
  refine fillTo_good (newBS_good (by omega) (by omega) (by omega) (by omega)) hl _ (Nat.le_refl _) ?_
  rw [List.take_of_length_le (Nat.le_refl _)]
  exact inR_planes.2 hp
theorem fill_fresh (w h : Nat) (xs : List Int) (n : Nat) (x y : Int) : ((fillTo w h xs n).get x y).s = false ∧ ((fillTo w h xs n).get x y).t = false := by
  unfold BS.get
  split
  · simp only [fillTo, List.getD_eq_getElem?_getD]
    generalize BS.idx _ x y = j
    by_cases hj : j < ((xs.take n).map cellOf).length
    · rw [List.getElem?_append_left hj, List.getElem?_map]
      cases (xs.take n)[j]? <;> simp [cellOf, Cell.zero]
    · rw [List.getElem?_append_right (by omega)]
      simp only [blank, List.getElem?_replicate]
      split <;> simp [Cell.zero]
  · simp [Cell.zero]
section
variable {h : Heap} {R : Value → Heap → Prop}
theorem small_eq {i : Inp} {s t : Value} (hi : Ints h s i.xs) (tb : below h.length t = true) (ct : Sim.isCell t = true) : Ret tab 20 [i.val s t] h R = R (.bool (decide (Small i))) h := by
  obtain ⟨a, c, hs⟩ := hi.sl.shape
  have hsb := hi.sb
  have hff := hi.frz
  obtain ⟨w, hh, xs, fl, o, m⟩ := i
  simp only at hi hs hff
  generalize hH : frz h ++ [some (⟨false, [.int .i64 w, .int .i64 hh, s, t, .int .i64 o, .bool m.byp, .bool m.res, .bool m.rst, .bool m.cz, .bool m.sy]⟩ : Blk)] = H
  have hbox : blk? H h.length = some ⟨false, [.int .i64 w, .int .i64 hh, s, t, .int .i64 o, .bool m.byp, .bool m.res, .bool m.rst, .bool m.cz, .bool m.sy]⟩ := by
    rw [← hH, ← len_frz (h := h)]; exact blk?_push_eq
  have hiH : Ints H s xs := hff.keep (by rw [← hH]; simp) (fun id hid _ => by rw [← hH]; exact blk?_push_lt hid)
  rw [enter20, B20]
  simp only [Inp.val, Small]
  by_cases a1 : 1 ≤ w
  · by_cases a2 : w ≤ 12
    · by_cases a3 : 1 ≤ hh
      · by_cases a4 : hh ≤ 12
        · have hm : w * hh ≤ 12 * 12 := Int.mul_le_mul a2 a4 (by omega) (by omega)
          have hm0 : 0 ≤ w * hh := Int.mul_nonneg (by omega) (by omega)
          have hw : IntKind.i64.wrap (w * hh) = w * hh := wrapI (by omega) (by omega)
          by_cases a5 : (xs.length : Int) = w * hh
          · have hl : xs.length < 9000000000 := by omega
            have hfw := fun R => fewValues_r (R := R) hiH hl (n := 60)
            rw [hs] at hH hbox hfw hsb
            simp [hs, tb, hsb, hH, hbox, a1, a2, a3, a4, hw, a5, hfw, -bl_slice, k_guard, fin20]
            rw [show decide ((planesOf xs : Int) ≤ 60) = decide (planesOf xs ≤ 60) from decide_eq_decide.2 (by omega)]
          · have a6 : ((xs.length : Int) == w * hh) = false := by simpa using a5
            rw [hs] at hH hbox hsb
            simp [hs, tb, hsb, hH, hbox, a1, a2, a3, a4, hw, a5, a6, -bl_slice, k_guard, fin20]
        · rw [hs] at hH hbox hsb
          simp [hs, tb, hsb, hH, hbox, a1, a2, a3, a4, -bl_slice, k_guard, fin20]
      · rw [hs] at hH hbox hsb
        simp [hs, tb, hsb, hH, hbox, a1, a2, a3, -bl_slice, k_guard, fin20]
    · rw [hs] at hH hbox hsb
      simp [hs, tb, hsb, hH, hbox, a1, a2, -bl_slice, k_guard, fin20]
  · rw [hs] at hH hbox hsb
    simp [hs, tb, hsb, hH, hbox, a1, -bl_slice, k_guard, fin20]
end
end Go.Proofs.Ytjpjohchdfoeaaa
