/-
  EncpassPlanes, EncpassNobody, EncpassSymbols: the walks.
-/
import Derived.Test.YtlflfkdnpalhlaaEx
namespace Go.Proofs.Ytlflfkdnpalhlaa
open Go Go.Sim
set_option linter.unusedSimpArgs false
set_option linter.unusedVariables false

theorem ints_row {w : World} {a : Option Addr} {len cap : Nat} {zs : List Int} (hr : IsRow .i64 w a len cap zs) {rs : List Row} {id : Nat} (hid : rs[id]? = some (rowOf .i64 a len cap zs)) :
    Ints (heapOf rs) ((rowOf .i64 a len cap zs).val id) (zs.take len) := by
  have hl : (zs.take len).length = len := by have := hr.le; simp; omega
  have hlt := (List.getElem?_eq_some_iff.1 hid).1
  refine ⟨by rw [hl]; exact hr.sl hid, ?_, fun j b hj hb n => ?_, fun v hv => wf_i64 (hr.wf v (List.mem_of_mem_take hv))⟩
  · unfold Row.val
    split
    · simp
    · simp [heapOf]; exact hlt
  · obtain ⟨r, h1, _, rfl⟩ := blk_heapOf hb
    have : j = id := by
      unfold Row.val at hj
      split at hj
      · simp [sid] at hj
      · simp [sid] at hj; exact hj.symm
    subst this
    rw [hid] at h1; injection h1 with h1; subst h1
    rw [belowL_iff]
    intro v hv
    simp only [rowOf, List.mem_map] at hv
    obtain ⟨x, _, rfl⟩ := hv
    simp

section
variable {h : Heap}
theorem ret_planes {s : Value} {xs : List Int} (hi : Ints h s xs) : Ret tab 9 [s] h fun v _ => v = .bool true := by
  obtain ⟨a, c, hs⟩ := hi.sl.shape
  rw [enter9, B9]
  by_cases hl : 1000 < xs.length
  · have h1 : (1000 : Int) < xs.length := by omega
    simp [hs, h1, example_eq, fin9]
  · have h1 : ¬ (1000 : Int) < xs.length := by omega
    have e1 := fun R => planes_c (R := R) hi (by omega)
    have e2 := fun R => planes_r (R := R) hi (by omega)
    rw [hs] at e1 e2
    simp [k_guard, hs, h1, e1, e2, example_eq, fin9]

/-- Run of no block. -/
theorem run_nil {n planes o : Int} {m : MD} {R : Value → Heap → Prop} : ∃ h', Ret tab 35 [.pointer none, .int .i64 n, .int .i64 planes, .int .i64 o, m.val] h R = R (.tuple #[.slice none 0 0, .int .i64 6]) h' := by
  have hsz : ∀ H R, Ret tab 61 [.pointer none] H R = R (.tuple #[.int .i64 0, .int .i64 0]) H := by
    intro H R
    rw [enter61, B61]
    simp [fin61]
  refine ⟨h ++ [some ⟨false, [.bool m.byp, .bool m.res, .bool m.rst, .bool m.cz, .bool m.sy]⟩], ?_⟩
  rw [enter35, B35]
  simp [MD.val, hsz, fin35]
theorem run_zero {z : Nat} (hz : blk? h z = some ⟨false, [.int .i64 0, .int .i64 0, .slice none 0 0]⟩) {n planes o : Int} {m : MD} {R : Value → Heap → Prop} : ∃ h', Ret tab 35 [ptr z, .int .i64 n, .int .i64 planes, .int .i64 o, m.val] h R = R (.tuple #[.slice none 0 0, .int .i64 6]) h' := by
  have hz1 : blk? (h ++ [some (⟨false, [.bool m.byp, .bool m.res, .bool m.rst, .bool m.cz, .bool m.sy]⟩ : Blk)]) z = some ⟨false, [.int .i64 0, .int .i64 0, .slice none 0 0]⟩ := blk?_push hz
  have hsz : ∀ R, Ret tab 61 [ptr z] (h ++ [some (⟨false, [.bool m.byp, .bool m.res, .bool m.rst, .bool m.cz, .bool m.sy]⟩ : Blk)]) R = R (.tuple #[.int .i64 0, .int .i64 0]) (h ++ [some (⟨false, [.bool m.byp, .bool m.res, .bool m.rst, .bool m.cz, .bool m.sy]⟩ : Blk)]) := by
    intro R
    have hf := blk_frz hz1 (by simp)
    have hlt := blk?_lt hz
    rw [enter61, B61]
    simp [hf, hlt, show z < h.length + 1 by omega, fin61]
  refine ⟨h ++ [some ⟨false, [.bool m.byp, .bool m.res, .bool m.rst, .bool m.cz, .bool m.sy]⟩], ?_⟩
  rw [enter35, B35]
  simp [MD.val, hsz, fin35]
theorem ret_nobody {p n o : Int} {zero : Bool} : Ret tab 13 [.int .i64 p, .int .i64 n, .int .i64 o, .bool zero] h fun v _ => v = .bool true := by
  rw [enter13, B13]
  cases zero
  · have e := fun R => run_nil (h := h) (n := p) (planes := n) (o := o) (m := md0) (R := R)
    simp only [MD.val, md0] at e
    simp [k_guard]
    obtain ⟨h', e'⟩ := e _
    rw [e']
    simp [k_guard, example_eq, fin13]
  · have e := fun R => run_zero (h := h ++ [some ⟨false, [.int .i64 0, .int .i64 0, .slice none 0 0]⟩]) (z := h.length) blk?_push_eq (n := p) (planes := n) (o := o) (m := md0) (R := R)
    simp only [MD.val, md0] at e
    simp [k_guard]
    obtain ⟨h', e'⟩ := e _
    rw [e']
    simp [k_guard, example_eq, fin13]

/-- The input of the laws. -/
structure Inp where
  w : Int
  h : Int
  xs : List Int
  fl : Nat
  o : Int
  m : MD
def Inp.val (i : Inp) (s t : Value) : Value := .agg #[.int .i64 i.w, .int .i64 i.h, s, t, .int .i64 i.o, .bool i.m.byp, .bool i.m.res, .bool i.m.rst, .bool i.m.cz, .bool i.m.sy]

theorem out_le {m : MD} {b : BS} (hg : b.Good) {k planes o : Nat} : (ES.mk b []).Le (runSt m b k planes o) 60000 := by
  have hsl := scan_len hg.ok.w2 hg.ok.h2
  have hst : 12 * b.w * stripesOf b.h ≤ 12 * 64 * 16 := Nat.mul_le_mul (by have := hg.ok.w2; omega) (by have := hg.ok.h2; unfold stripesOf; omega)
  unfold runSt
  split
  · exact (le_sigs (σ := ⟨b, []⟩) hg (scanIn b)).mono (by omega)
  · split
    · exact (le_refs (σ := ⟨b, []⟩) hg (scanIn b)).mono (by omega)
    · have h1 := le_stripes (P := runPP m k planes o) (σ := ⟨b, []⟩) (n := stripesOf b.h) hg (top := 0) (by omega) (by show (0 : Int) + 4 * (stripesOf b.h : Nat) ≤ b.h + 3; unfold stripesOf; omega)
      have hall : AllIn (ES.stripes (runPP m k planes o) ⟨b, []⟩ 0 (stripesOf b.h)).b (scan b.w b.h) := by have := scanIn (ES.stripes (runPP m k planes o) ⟨b, []⟩ 0 (stripesOf b.h)).b; rwa [h1.w, h1.h] at this
      have h2 := le_clear h1.good hall
      have h3 := h1.trans h2
      have h4 : ∀ τ : ES, τ.b.Good → τ.Le (τ.check (runPP m k planes o) m.sy) 4 := by
        intro τ hτ
        unfold ES.check
        split
        · exact ⟨rfl, rfl, hτ, by simp [ES.emit]⟩
        · exact ES.Le.refl hτ 4
      exact (h3.trans (h4 _ h3.good)).mono (by show 12 * b.w * stripesOf b.h + 0 + 4 ≤ 60000; omega)
theorem passesOf_le {m : MD} {planes o : Nat} : ∀ (n k : Nat) (b : BS), b.Good → ∀ l ∈ passesOf m planes o n k b, l.length < 9000000000
  | 0, _, _, _, l, hl => by simp [passesOf] at hl
  | n + 1, k, b, hg, l, hl => by
    have h1 := out_le (m := m) hg (k := k) (planes := planes) (o := o)
    rw [passesOf, List.mem_cons] at hl
    rcases hl with rfl | hl
    · have := h1.len
      simp at this; omega
    · exact passesOf_le n (k + 1) _ h1.good l hl
theorem symRes_small {xs : List Int} {w hh o : Int} {m : MD} : (symRes xs w hh o m).2.length < 9000000000 ∧ ∀ l ∈ (symRes xs w hh o m).2, l.length < 9000000000 := by
  unfold symRes
  split
  · simp
  · rename_i hsz
    split
    · simp
    · rename_i hln
      split
      · simp
      · split
        · rename_i hb
          have hp := inR_planes.1 hb
          simp only [Bool.not_eq_false, sized, decide_eq_true_eq] at hsz
          obtain ⟨w, rfl⟩ := Int.eq_ofNat_of_zero_le (show 0 ≤ w by omega)
          obtain ⟨hh, rfl⟩ := Int.eq_ofNat_of_zero_le (show 0 ≤ hh by omega)
          refine ⟨by rw [passesOf_len]; omega, passesOf_le _ _ _ (fillTo_good (newBS_good (by omega) (by omega) (by omega) (by omega)) ?_ _ (Nat.le_refl _) (by rw [List.take_of_length_le (Nat.le_refl _)]; exact hb))⟩
          simp only [ne_eq, Decidable.not_not] at hln
          rw [← Int.natCast_mul] at hln
          simp only [Int.toNat_natCast]; omega
        · simp

theorem ret_symbols {i : Inp} {s t : Value} (hi : Ints h s i.xs) (ht : ∃ a c, t = .slice a i.fl c) : Ret tab 8 [i.val s t] h fun v _ => v = .bool true := by
  obtain ⟨a, c, hs⟩ := hi.sl.shape
  obtain ⟨ta, tc, ht⟩ := ht
  obtain ⟨w, hh, xs, fl, o, m⟩ := i
  simp only at hi hs ht
  generalize hH : h ++ [some (⟨false, [.int .i64 w, .int .i64 hh, s, t, .int .i64 o, .bool m.byp, .bool m.res, .bool m.rst, .bool m.cz, .bool m.sy]⟩ : Blk)] = H
  have hbox : blk? H h.length = some ⟨false, [.int .i64 w, .int .i64 hh, s, t, .int .i64 o, .bool m.byp, .bool m.res, .bool m.rst, .bool m.cz, .bool m.sy]⟩ := by rw [← hH]; exact blk?_push_eq
  have hlow : ∀ id, id < h.length → blk? H id = blk? h id := fun id hid => by rw [← hH]; exact blk?_push_lt hid
  have hlen : H.length = h.length + 1 := by rw [← hH]; simp
  have hiH : Ints H s xs := hi.keep (by omega) (fun id hid _ => hlow id hid)
  rw [enter8, B8]
  simp only [Inp.val]
  by_cases hl : 144 < xs.length
  · have h1 : (144 : Int) < xs.length := by omega
    rw [hs, ht] at hH hbox
    simp [hs, ht, hH, hbox, h1, hl, example_eq, fin8]
  · have h1 : ¬ (144 : Int) < xs.length := by omega
    obtain ⟨s1, H1, e1, o1⟩ := symbols_c hiH (by omega) w hh o m
    have hi1 : Ints H1 s xs := hiH.keep o1.len (fun id hid _ => o1.low id hid)
    have hbox1 : blk? H1 h.length = some ⟨false, [.int .i64 w, .int .i64 hh, s, t, .int .i64 o, .bool m.byp, .bool m.res, .bool m.rst, .bool m.cz, .bool m.sy]⟩ := by rw [o1.low _ (by omega)]; exact hbox
    obtain ⟨s2, H2, e2, o2⟩ := symbols_r hi1 (by omega) w hh o m
    obtain ⟨vs1, p1⟩ := o1.pss
    obtain ⟨vs2, p2⟩ := o2.pss
    have p1' := p1.keep o2.len o2.low
    have hsm := symRes_small (xs := xs) (w := w) (hh := hh) (o := o) (m := m)
    have hsp := fun R => samePasses_r (R := R) p1' p2 hsm.1 hsm.2
    simp only [MD.val] at e1 e2
    rw [hs, ht] at hH hbox hbox1
    rw [hs] at e1 e2
    simp [k_guard, hs, ht, hH, hbox, h1, hl, e1, hbox1, e2, hsp, example_eq, fin8]
end
end Go.Proofs.Ytlflfkdnpalhlaa
