/-
  The examples of the chapter hold.
-/
import Derived.Test.YtjpjohchdfoeaaaEx
namespace Go.Proofs.Ytjpjohchdfoeaaa
open Go Go.Sim
set_option linter.unusedSimpArgs false
set_option linter.unusedVariables false

def md0 : MD := ⟨false, false, false, false, false⟩
def md1 : MD := ⟨false, false, false, false, true⟩
def exA : List (List (Int × Int)) := [[(17, 1), (18, 1), (18, 0), (9, 0), (3, 0)], [(3, 0), (3, 1), (10, 0)]]
def exB : List (List (Int × Int)) := [[(0, 1), (9, 1)]]
set_option maxRecDepth 100000 in
theorem exA_eq : valRes exA 2 1 4 0 md0 = (0, [0, 0, 2, 1], [1, 0, 1, 0]) := by decide +kernel
set_option maxRecDepth 100000 in
theorem exB_eq : valRes exB 1 1 1 0 md1 = (8, [], []) := by decide +kernel

theorem sl_new {H : Heap} {z : Nat} {l : List (Int × Int)} (hb : blk? H z = some ⟨false, encP l⟩) : Sl H 2 (.slice (some ⟨z, 0, none⟩) l.length 2) l.length (encP l) :=
  ⟨encP_len l, .inr ⟨z, 0, rfl, .inr ⟨_, hb, by show 0 + l.length * 2 ≤ (encP l).length; rw [encP_len]; exact Nat.le_of_eq (Nat.zero_add _), by simp only [List.drop_zero]; exact List.take_of_length_le (by rw [encP_len]; exact Nat.le_refl _)⟩⟩⟩
theorem iw_new (H : Heap) (xs : List Int) : Iw (H ++ [some ⟨false, i64s xs⟩]) (.slice (some ⟨H.length, 0, none⟩) xs.length 1) xs :=
  iw_own ⟨by simp [i64s], .inr ⟨H.length, rfl, blk?_push_eq⟩⟩

theorem example_eq {h : Heap} {R : Value → Heap → Prop} : Ret tab 21 [] h R = R (.bool true) h := by
  have key : Ret tab 21 [] h fun v h' => v = .bool true ∧ h' = h := by
    rw [enter21, B21]
    refine ⟨by simp, ?_⟩
    generalize Go.Sim.frz h = H0
    generalize hHA : H0 ++ [some (⟨false, encP [(17, 1), (18, 1), (18, 0), (9, 0), (3, 0)]⟩ : Blk), some ⟨false, encP [(3, 0), (3, 1), (10, 0)]⟩, some ⟨false, [.slice (some ⟨H0.length, 0, none⟩) 5 2, .slice (some ⟨H0.length + 1, 0, none⟩) 3 2]⟩] = HA
    have hlA : HA.length = H0.length + 3 := by rw [← hHA]; simp
    have pA : PsI HA (.slice (some ⟨H0.length + 2, 0, none⟩) 2 1) [.slice (some ⟨H0.length, 0, none⟩) 5 2, .slice (some ⟨H0.length + 1, 0, none⟩) 3 2] exA := by
      have y0 : Sl HA 2 (.slice (some ⟨H0.length, 0, none⟩) 5 2) 5 (encP [(17, 1), (18, 1), (18, 0), (9, 0), (3, 0)]) := sl_new (z := H0.length) (l := [(17, 1), (18, 1), (18, 0), (9, 0), (3, 0)]) (by rw [← hHA, app_len]; rfl)
      have y1 : Sl HA 2 (.slice (some ⟨H0.length + 1, 0, none⟩) 3 2) 3 (encP [(3, 0), (3, 1), (10, 0)]) := sl_new (z := H0.length + 1) (l := [(3, 0), (3, 1), (10, 0)]) (by rw [← hHA, app_add]; rfl)
      refine ⟨⟨rfl, .inr ⟨_, 0, rfl, .inr ⟨_, by rw [← hHA, app_add]; rfl, by simp, by simp⟩⟩⟩, rfl, fun i h1 h2 => ?_, fun i h1 id hid => ?_⟩
      · match i, h1 with
        | 0, _ => exact y0
        | 1, _ => exact y1
      · match i, h1 with
        | 0, _ => simp [sid] at hid; omega
        | 1, _ => simp [sid] at hid; omega
    obtain ⟨u1, u2, H1, e1, o1⟩ := values_d pA (by decide) 2 1 4 0 (by omega) md0
    rw [exA_eq] at e1 o1
    generalize hHB : H1 ++ [some (⟨false, encP [(0, 1), (9, 1)]⟩ : Blk), some ⟨false, [.slice (some ⟨H1.length, 0, none⟩) 2 2]⟩] = HB
    have hlB : HB.length = H1.length + 2 := by rw [← hHB]; simp
    have pB : PsI HB (.slice (some ⟨H1.length + 1, 0, none⟩) 1 1) [.slice (some ⟨H1.length, 0, none⟩) 2 2] exB := by
      have y0 : Sl HB 2 (.slice (some ⟨H1.length, 0, none⟩) 2 2) 2 (encP [(0, 1), (9, 1)]) := sl_new (z := H1.length) (l := [(0, 1), (9, 1)]) (by rw [← hHB, app_len]; rfl)
      refine ⟨⟨rfl, .inr ⟨_, 0, rfl, .inr ⟨_, by rw [← hHB, app_add]; rfl, by simp, by simp⟩⟩⟩, rfl, fun i h1 h2 => ?_, fun i h1 id hid => ?_⟩
      · match i, h1 with
        | 0, _ => exact y0
      · match i, h1 with
        | 0, _ => simp [sid] at hid; omega
    obtain ⟨w1, w2, H2, e2, o2⟩ := values_d pB (by decide) 1 1 1 0 (by omega) md1
    rw [exB_eq] at e2 o2
    have hl1 := o1.len
    have hl2 := o2.len
    have lowB : ∀ id, id < H1.length → blk? HB id = blk? H1 id := fun id hid => by rw [← hHB]; exact app_lt hid
    have low2 : ∀ id, id < H1.length → blk? H2 id = blk? H1 id := fun id hid => by rw [o2.low id (by omega), lowB id hid]
    have i1 : Iw H2 u1 [0, 0, 2, 1] := (iw_own o1.o1).keep (by omega) low2
    have i2 : Iw H2 u2 [1, 0, 1, 0] := (iw_own o1.o2).keep (by omega) low2
    have hs1 := fun R => sameInts_r (R := R) (i1.keep (h' := H2 ++ [some ⟨false, i64s [0, 0, 2, 1]⟩]) (by simp) (fun id hid => blk?_push_lt hid)) (iw_new H2 [0, 0, 2, 1]) (by simp) (by simp)
    have i2' : Iw (H2 ++ [some ⟨false, i64s [0, 0, 2, 1]⟩]) u2 [1, 0, 1, 0] := i2.keep (by simp) (fun id hid => blk?_push_lt hid)
    have hs2 := fun R => sameInts_r (R := R) (i2'.keep (h' := (H2 ++ [some ⟨false, i64s [0, 0, 2, 1]⟩]) ++ [some ⟨false, i64s [1, 0, 1, 0]⟩]) (by simp) (fun id hid => blk?_push_lt hid)) (iw_new _ [1, 0, 1, 0]) (by simp) (by simp)
    simp [i64s] at hs1 hs2
    simp only [encP] at hHA hHB
    simp only [MD.val, md0, md1] at e1 e2
    simp at e1 e2
    simp [k_guard, repL, hHA, e1, hHB, e2, hs1, hs2, fin21]
  obtain ⟨v, h', e, rfl, rfl⟩ := ret_ex key
  exact e R
end Go.Proofs.Ytjpjohchdfoeaaa
