/-
  DecpassNobody, DecpassReturns: the walks.
-/
import Derived.Test.YtjpjohchdfoeaaaEx2
import Derived.Test.YtjpjohchdfoeaaaSm
namespace Go.Proofs.Ytjpjohchdfoeaaa
open Go Go.Sim
set_option linter.unusedSimpArgs false
set_option linter.unusedVariables false

section
variable {h : Heap} {R : Value → Heap → Prop}
/-- Run of no block. -/
theorem run_nil {n planes o : Int} {m : MD} {fv : Value} (h1 : Sim.isVar fv = true) (h2 : fv.cells = #[fv]) : ∃ h', ∀ R, Ret tab 23 [.pointer none, .int .i64 n, .int .i64 planes, .int .i64 o, m.val, fv] h R = R (.int .i64 6) h' := by
  have hsz : ∀ H R, Ret tab 73 [.pointer none] H R = R (.tuple #[.int .i64 0, .int .i64 0]) H := by
    intro H R
    rw [enter73, B73]
    simp [fin73]
  refine ⟨h ++ [some ⟨false, [.bool m.byp, .bool m.res, .bool m.rst, .bool m.cz, .bool m.sy]⟩, some ⟨false, [fv]⟩], fun R => ?_⟩
  rw [enter23, B23]
  simp [MD.val, hsz, h1, h2, fin23]
theorem run_zero {z : Nat} (hz : blk? h z = some ⟨false, [.int .i64 0, .int .i64 0, .slice none 0 0]⟩) {n planes o : Int} {m : MD} {fv : Value} (h1 : Sim.isVar fv = true) (h2 : fv.cells = #[fv]) :
    ∃ h', (∀ R, Ret tab 23 [ptr z, .int .i64 n, .int .i64 planes, .int .i64 o, m.val, fv] h R = R (.int .i64 6) h') ∧ (∀ id, id < h.length → blk? h' id = blk? h id) ∧ h.length ≤ h'.length := by
  have hz1 : blk? (h ++ [some (⟨false, [.bool m.byp, .bool m.res, .bool m.rst, .bool m.cz, .bool m.sy]⟩ : Blk), some ⟨false, [fv]⟩]) z = some ⟨false, [.int .i64 0, .int .i64 0, .slice none 0 0]⟩ := by rw [app_lt (blk?_lt hz)]; exact hz
  have hsz : ∀ R, Ret tab 73 [ptr z] (h ++ [some (⟨false, [.bool m.byp, .bool m.res, .bool m.rst, .bool m.cz, .bool m.sy]⟩ : Blk), some ⟨false, [fv]⟩]) R = R (.tuple #[.int .i64 0, .int .i64 0]) (h ++ [some (⟨false, [.bool m.byp, .bool m.res, .bool m.rst, .bool m.cz, .bool m.sy]⟩ : Blk), some ⟨false, [fv]⟩]) := by
    intro R
    have hf := blk_frz hz1 (by simp)
    have hlt := blk?_lt hz1
    have hlt2 := blk?_lt hz
    rw [enter73, B73]
    simp [hf, show z < h.length + 1 + 1 by omega, show z < h.length + 2 by omega, fin73]
  refine ⟨h ++ [some ⟨false, [.bool m.byp, .bool m.res, .bool m.rst, .bool m.cz, .bool m.sy]⟩, some ⟨false, [fv]⟩], fun R => ?_, fun id hid => app_lt hid, by simp⟩
  rw [enter23, B23]
  simp [MD.val, hsz, h1, h2, fin23]
theorem eq_nilF : eqV .func .nilFunc .nilFunc = some true := by simp [eqV]
/-- Run without a source. -/
theorem run_none {p c : Nat} {b : BS} (hb : CB h false p c b) {n planes o : Int} {m : MD} : ∃ h', ∀ R, Ret tab 23 [ptr p, .int .i64 n, .int .i64 planes, .int .i64 o, m.val, .nilFunc] h R = R (.int .i64 1) h' := by
  have hb1 : CB (h ++ [some ⟨false, [.bool m.byp, .bool m.res, .bool m.rst, .bool m.cz, .bool m.sy]⟩, some ⟨false, [.nilFunc]⟩]) false p c b := ⟨by rw [app_lt (blk?_lt hb.blkp)]; exact hb.blkp, by rw [app_lt (blk?_lt hb.blkc)]; exact hb.blkc, hb.ok⟩
  have hsz := fun R => size_c (R := R) hb1
  have hw0 := hb.ok.w1
  have hw0' : ((b.w : Int) == 0) = false := by simp; omega
  refine ⟨h ++ [some ⟨false, [.bool m.byp, .bool m.res, .bool m.rst, .bool m.cz, .bool m.sy]⟩, some ⟨false, [.nilFunc]⟩], fun R => ?_⟩
  rw [enter23, B23]
  simp [MD.val, hsz, hw0', app_len, app_add, app_zero, app_succ, eq_nilF, fin23]
theorem ret_nobody {p n o : Int} {zero : Bool} : Ret tab 5 [.int .i64 p, .int .i64 n, .int .i64 o, .bool zero] h fun v _ => v = .bool true := by
  rw [enter5, B5]
  have hnew := fun H R => new_c (w := 2) (hh := 2) (h := H) (R := R) (by omega) (by omega) (by omega) (by omega)
  have hcb := fun H => newHeap_cb H (w := 2) (hh := 2) (by omega) (by omega) (by omega) (by omega)
  have hfin : ∀ (H : Heap) (R : Value → Heap → Prop), ∃ h', ∀ R, Ret tab 23 [ptr (H.length + 1), .int .i64 p, .int .i64 n, .int .i64 o, .agg #[.bool false, .bool false, .bool false, .bool false, .bool false], .nilFunc] (newHeap H 2 2) R = R (.int .i64 1) h' := by
    intro H R
    obtain ⟨h', e⟩ := run_none (hcb H) (n := p) (planes := n) (o := o) (m := md0)
    exact ⟨h', e⟩
  cases zero
  · obtain ⟨h1, e1⟩ := run_nil (h := h) (n := p) (planes := n) (o := o) (m := md0) (fv := .func (.func 32) #[] #[]) rfl rfl
    obtain ⟨h2, e2⟩ := run_nil (h := h1) (n := p) (planes := n) (o := o) (m := md0) (fv := .nilFunc) rfl rfl
    obtain ⟨h3, e3⟩ := hfin h2 (fun _ _ => True)
    simp only [MD.val, md0] at e1 e2
    simp at hnew
    simp [k_guard, e1, e2, hnew, e3, example_eq, fin5]
  · have hz0 : blk? (h ++ [some ⟨false, [.int .i64 0, .int .i64 0, .slice none 0 0]⟩]) h.length = some ⟨false, [.int .i64 0, .int .i64 0, .slice none 0 0]⟩ := blk?_push_eq
    obtain ⟨h1, e1, l1, _⟩ := run_zero hz0 (n := p) (planes := n) (o := o) (m := md0) (fv := .func (.func 32) #[] #[]) rfl rfl
    obtain ⟨h2, e2, _⟩ := run_zero (h := h1) (z := h.length) (by rw [l1 _ (by simp)]; exact hz0) (n := p) (planes := n) (o := o) (m := md0) (fv := .nilFunc) rfl rfl
    obtain ⟨h3, e3⟩ := hfin h2 (fun _ _ => True)
    simp only [MD.val, md0] at e1 e2
    simp at hnew
    simp [k_guard, e1, e2, hnew, e3, example_eq, fin5]
end

/-- The symbols that the encoder made, as rows of integers. -/
theorem encS_symI : ∀ l : List (Int × Nat), encP (l.map symI) = encS l
  | [] => rfl
  | p :: l => by rw [List.map_cons, encP, encS, encS_symI l]; rfl
theorem psI_of {h : Heap} {s : Value} {vs : List Value} {ls : List (List (Int × Nat))} (hp : Pss h s vs ls) : PsI h s vs (stdI ls) := by
  have hlen : vs.length = (stdI ls).length := by rw [hp.len]; simp [stdI]
  refine ⟨hp.sl, hlen, fun i h1 h2 => ?_, fun i h1 id hid => ?_⟩
  · have h3 : i < ls.length := by rw [hp.len] at h1; exact h1
    have := (hp.each i h1 h3).sl
    have e : (stdI ls)[i] = ls[i].map symI := by simp [stdI]
    rw [e, encS_symI]; simpa using this
  · have h3 : i < ls.length := by rw [hp.len] at h1; exact h1
    have hb := (hp.each i h1 h3).sb
    obtain ⟨a, c, hs⟩ := (hp.each i h1 h3).sl.shape
    rw [hs] at hb hid
    cases a with
    | none => simp [sid] at hid
    | some a => simp [sid] at hid hb; omega

theorem ret_returns {h : Heap} {i : Inp} {s t : Value} (hi : Ints h s i.xs) (tb : below h.length t = true) (ct : Sim.isCell t = true) : Ret tab 6 [i.val s t] h fun v _ => v = .bool true := by
  obtain ⟨w, hh, xs, fl, o, ⟨byp, res, rst, cz, sy⟩⟩ := i
  simp only at hi
  obtain ⟨sa, sc, hss⟩ := hi.sl.shape
  generalize hH : h ++ [some (⟨false, [.int .i64 w, .int .i64 hh, s, t, .int .i64 o, .bool byp, .bool res, .bool rst, .bool cz, .bool sy]⟩ : Blk)] = H
  have hbox : blk? H h.length = some ⟨false, [.int .i64 w, .int .i64 hh, s, t, .int .i64 o, .bool byp, .bool res, .bool rst, .bool cz, .bool sy]⟩ := by rw [← hH]; exact blk?_push_eq
  have hlow : ∀ id, id < h.length → blk? H id = blk? h id := fun id hid => by rw [← hH]; exact blk?_push_lt hid
  have hlen : H.length = h.length + 1 := by rw [← hH]; simp
  have hiH : Ints H s xs := hi.keep (by omega) (fun id hid _ => hlow id hid)
  have hsm := fun R => small_eq (R := R) (i := ⟨w, hh, xs, fl, o, ⟨byp, res, rst, cz, sy⟩⟩) hiH (below_mono (by omega) t tb) ct
  simp only [Inp.val] at hsm ⊢
  rw [enter6, B6]
  by_cases hS : Small ⟨w, hh, xs, fl, o, ⟨byp, res, rst, cz, sy⟩⟩
  · rw [decide_eq_true hS] at hsm
    by_cases ho : 0 ≤ o ∧ o ≤ 3
    · have hvo := fun h R => validOrient_r (o := o) (h := h) (R := R)
      rw [decide_eq_true ho] at hvo
      have hsy := symRes_of_small hS ho
      obtain ⟨hl1, hl2⟩ := small_len hS
      obtain ⟨⟨⟨w1, w2⟩, h1, h2⟩, _, hp60⟩ := hS
      simp only at hl1 hl2 w1 w2 h1 h2 hp60 hsy
      obtain ⟨sv, H1, e1, o1⟩ := symbols_c hiH (by omega) w hh o ⟨byp, res, rst, cz, sy⟩
      rw [hsy] at e1 o1
      obtain ⟨vs, ps⟩ := o1.pss
      simp only at ps
      have hlen1 := o1.len
      have hiH1 : Ints H1 s xs := hiH.keep (by omega) (fun id hid _ => o1.low id hid)
      have hbox1 : blk? H1 h.length = some ⟨false, [.int .i64 w, .int .i64 hh, s, t, .int .i64 o, .bool byp, .bool res, .bool rst, .bool cz, .bool sy]⟩ := by rw [o1.low _ (by omega)]; exact hbox
      have hpl := fun R => planes_c (R := R) hiH1 (by omega)
      have hlaw := returns_law (m := ⟨byp, res, rst, cz, sy⟩) (xs := xs) (w := w.toNat) (h := hh.toNat) (o := o) (by omega) (by omega) (by omega) (by omega) hl1 hp60 ho
      rw [Int.toNat_of_nonneg (by omega), Int.toNat_of_nonneg (by omega)] at hlaw
      obtain ⟨v1, v2, H2, e2, o2⟩ := values_d (psI_of ps) (by simp [stdI, passesOf_len]; omega) (planesOf xs) w hh o (by omega) ⟨byp, res, rst, cz, sy⟩
      rw [hlaw] at e2 o2
      have hlen2 := o2.len
      have hbox2 : blk? H2 h.length = some ⟨false, [.int .i64 w, .int .i64 hh, s, t, .int .i64 o, .bool byp, .bool res, .bool rst, .bool cz, .bool sy]⟩ := by rw [o2.low _ (by omega)]; exact hbox1
      have hiH2 : Iw H2 s xs := (hiH1.keep (h' := H2) (by omega) (fun id hid _ => o2.low id hid)).iw
      have hs1 := fun R => sameInts_r (R := R) (iw_own o2.o1) hiH2 (by simp only; omega) (by omega)
      have i2 : Iw (H2 ++ [some ⟨false, repL [.int .i64 0] xs.length⟩]) v2 (List.replicate xs.length 0) := (iw_own o2.o2).keep (by simp) (fun id hid => blk?_push_lt hid)
      have hrep : repL [.int .i64 0] xs.length = i64s (List.replicate xs.length 0) := by
        generalize xs.length = n
        induction n with
        | zero => rfl
        | succ n ih => rw [repL, ih]; rfl
      have i3 : Iw (H2 ++ [some ⟨false, repL [.int .i64 0] xs.length⟩]) (.slice (some ⟨H2.length, 0, none⟩) xs.length 1) (List.replicate xs.length 0) := by
        rw [hrep]
        have := iw_new H2 (List.replicate xs.length 0)
        simpa using this
      have hs2 := fun R => sameInts_r (R := R) i2 i3 (by simp; omega) (by simp; omega)
      have hroom : ((xs.length : Nat) : Int) ≤ (roomCells : Int) := by unfold roomCells; omega
      have hroom0 : (0 : Int) ≤ ((xs.length : Nat) : Int) := by omega
      simp only [MD.val] at e1 e2
      rw [hss] at *
      simp only [decide_true] at hs1 hs2
      simp [k_guard, hH, hbox, hsm, hvo, e1, hbox1, hpl, e2, hbox2, hs1, hroom, hroom0, hs2, example_eq, fin6, book, logOf, addLog, chk1, lookL, reload]
    · have hvo := fun h R => validOrient_r (o := o) (h := h) (R := R)
      rw [decide_eq_false ho] at hvo
      simp [k_guard, hH, hbox, hsm, hvo, example_eq, fin6]
  · rw [decide_eq_false hS] at hsm
    simp [k_guard, k_guardU, hH, hbox, hsm, example_eq, fin6]
end Go.Proofs.Ytjpjohchdfoeaaa
