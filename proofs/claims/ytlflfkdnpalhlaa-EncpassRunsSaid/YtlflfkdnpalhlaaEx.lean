/-
  The examples of the chapter hold.
-/
import Derived.Test.YtlflfkdnpalhlaaSym7
namespace Go.Proofs.Ytlflfkdnpalhlaa
open Go Go.Sim
set_option linter.unusedSimpArgs false
set_option linter.unusedVariables false

def md0 : MD := ⟨false, false, false, false, false⟩
def want0 : List (List (Int × Nat)) := [[(17, 1), (18, 1), (18, 0), (9, 0), (3, 0)], [(3, 0), (3, 1), (10, 0)], [(15, 1)], [(0, 0)]]
set_option maxRecDepth 100000 in
theorem ex1 : symRes [0, 0, 3, 1] 1 4 0 md0 = (0, want0) := by decide +kernel
theorem ex2 : symRes [0, 0] 2 1 0 md0 = (0, []) := by decide +kernel
theorem ex3 : symRes [0] 2 1 0 md0 = (4, []) := by decide +kernel
theorem ex4 : planesOf [5, -8] = 4 := by decide +kernel

theorem ints_new (H : Heap) (xs : List Int) (hr : ∀ v ∈ xs, -9223372036854775808 ≤ v ∧ v < 9223372036854775808) : Ints (H ++ [some ⟨false, i64s xs⟩]) (.slice (some ⟨H.length, 0, none⟩) xs.length 1) xs := by
  refine ⟨⟨by simp [i64s], .inr ⟨H.length, 0, rfl, .inr ⟨_, blk?_push_eq, by simp [i64s], by simp only [List.drop_zero]; exact List.take_of_length_le (by simp [i64s])⟩⟩⟩, by simp, fun id b hid hb n => ?_, hr⟩
  simp [sid] at hid
  subst hid
  rw [blk?_push_eq] at hb
  injection hb with hb; subst hb
  rw [belowL_iff]
  intro v hv
  simp only [i64s, List.mem_map] at hv
  obtain ⟨x, _, rfl⟩ := hv
  simp

theorem syms_new {H : Heap} {z : Nat} {l : List (Int × Nat)} (hb : blk? H z = some ⟨false, encS l⟩) : Syms H (.slice (some ⟨z, 0, none⟩) l.length 2) l :=
  syms_own ⟨encS_len l, .inr ⟨z, rfl, hb⟩⟩

theorem example_eq {h : Heap} {R : Value → Heap → Prop} : Ret tab 33 [] h R = R (.bool true) h := by
  have key : Ret tab 33 [] h fun v h' => v = .bool true ∧ h' = h := by
    rw [enter33, B33]
    refine ⟨by simp, ?_⟩
    generalize Go.Sim.frz h = H0
    obtain ⟨s1, H1, e1, o1⟩ := symbols_c (ints_new H0 [0, 0, 3, 1] (by simp)) (by simp) 1 4 0 md0
    rw [ex1] at e1 o1
    obtain ⟨s2, H2, e2, o2⟩ := symbols_c (ints_new H1 [0, 0] (by simp)) (by simp) 2 1 0 md0
    rw [ex2] at e2 o2
    obtain ⟨s3, H3, e3, o3⟩ := symbols_c (ints_new H2 [0] (by simp)) (by simp) 2 1 0 md0
    rw [ex3] at e3 o3
    obtain ⟨vs1, p1⟩ := o1.pss
    obtain ⟨vs2, p2⟩ := o2.pss
    obtain ⟨a2, c2, hs2⟩ := p2.sl.shape
    have hl2 : vs2.length = 0 := by rw [p2.len]; rfl
    rw [hl2] at hs2
    simp only [i64s, List.map_cons, List.map_nil, List.length_cons, List.length_nil, Nat.zero_add, MD.val, md0] at e1 e2 e3
    simp only at p1
    -- what is compared
    generalize hW : H3 ++ [some (⟨false, encS [(17, 1), (18, 1), (18, 0), (9, 0), (3, 0)]⟩ : Blk), some ⟨false, encS [(3, 0), (3, 1), (10, 0)]⟩, some ⟨false, encS [(15, 1)]⟩, some ⟨false, encS [(0, 0)]⟩,
      some ⟨false, [.slice (some ⟨H3.length, 0, none⟩) 5 2, .slice (some ⟨H3.length + 1, 0, none⟩) 3 2, .slice (some ⟨H3.length + 2, 0, none⟩) 1 2, .slice (some ⟨H3.length + 3, 0, none⟩) 1 2]⟩] = W
    have pw : Pss W (.slice (some ⟨H3.length + 4, 0, none⟩) 4 1) [.slice (some ⟨H3.length, 0, none⟩) 5 2, .slice (some ⟨H3.length + 1, 0, none⟩) 3 2, .slice (some ⟨H3.length + 2, 0, none⟩) 1 2, .slice (some ⟨H3.length + 3, 0, none⟩) 1 2] want0 := by
      have hb4 : blk? W (H3.length + 4) = some ⟨false, [.slice (some ⟨H3.length, 0, none⟩) 5 2, .slice (some ⟨H3.length + 1, 0, none⟩) 3 2, .slice (some ⟨H3.length + 2, 0, none⟩) 1 2, .slice (some ⟨H3.length + 3, 0, none⟩) 1 2]⟩ := by rw [← hW, app_add]; rfl
      have hWl : W.length = H3.length + 5 := by rw [← hW]; simp
      have y0 : Syms W (.slice (some ⟨H3.length, 0, none⟩) 5 2) [(17, 1), (18, 1), (18, 0), (9, 0), (3, 0)] := syms_new (z := H3.length) (l := [(17, 1), (18, 1), (18, 0), (9, 0), (3, 0)]) (by rw [← hW, app_len]; rfl)
      have y1 : Syms W (.slice (some ⟨H3.length + 1, 0, none⟩) 3 2) [(3, 0), (3, 1), (10, 0)] := syms_new (z := H3.length + 1) (l := [(3, 0), (3, 1), (10, 0)]) (by rw [← hW, app_add]; rfl)
      have y2 : Syms W (.slice (some ⟨H3.length + 2, 0, none⟩) 1 2) [(15, 1)] := syms_new (z := H3.length + 2) (l := [(15, 1)]) (by rw [← hW, app_add]; rfl)
      have y3 : Syms W (.slice (some ⟨H3.length + 3, 0, none⟩) 1 2) [(0, 0)] := syms_new (z := H3.length + 3) (l := [(0, 0)]) (by rw [← hW, app_add]; rfl)
      refine ⟨⟨rfl, .inr ⟨_, 0, rfl, .inr ⟨_, hb4, by simp, by simp⟩⟩⟩, by simp [hWl], fun id b hid hb => ?_, rfl, fun i h1 h2 => ?_⟩
      · simp [sid] at hid
        subst hid
        rw [hb4] at hb; injection hb with hb; subst hb
        simp [hWl]
      · match i, h1 with
        | 0, _ => exact y0
        | 1, _ => exact y1
        | 2, _ => exact y2
        | 3, _ => exact y3
    have p1' : Pss W s1 vs1 want0 := by
      refine p1.keep ?_ ?_
      · have := o2.len; have := o3.len; simp at *; rw [← hW]; simp; omega
      · intro id hid
        have l2 := o2.len
        have l3 := o3.len
        simp only [List.length_append, List.length_singleton] at l2 l3
        rw [← hW, app_lt (by omega), o3.low id (by simp; omega), blk?_push_lt (by omega), o2.low id (by simp; omega), blk?_push_lt hid]
    have hsp := fun R => samePasses_r (R := R) p1' pw (by decide) (by decide)
    have hpl := fun R => planes_c (R := R) (ints_new W [5, -8] (by simp)) (by simp)
    rw [ex4] at hpl
    simp only [i64s, List.map_cons, List.map_nil, List.length_cons, List.length_nil, Nat.zero_add] at hpl
    simp only [encS] at hW
    have hWl : W.length = H3.length + 5 := by rw [← hW]; simp
    rw [hWl] at hpl
    rw [← hW] at hsp hpl
    simp only [List.append_assoc, List.cons_append, List.nil_append] at hpl
    simp at e1 e2 e3 hsp hpl
    simp [k_guard, repL, e1, e2, e3, hs2, hsp, hpl, fin33]
  obtain ⟨v, h', e, rfl, rfl⟩ := ret_ex key
  exact e R
end Go.Proofs.Ytlflfkdnpalhlaa
