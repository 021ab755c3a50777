/-
  DecpassRejects returns true at every block.
-/
import Derived.Test.YtjpjohchdfoeaaaRej
namespace Go.Proofs.Ytjpjohchdfoeaaa
open Go Go.Sim
set_option linter.unusedSimpArgs false
set_option linter.unusedVariables false

theorem out_le60 {m : MD} {b : BS} (hg : b.Good) {k planes o : Nat} : (ES.mk b []).Le (runSt m b k planes o) 60000 := by
  have hsl := scan_len hg.ok.w2 hg.ok.h2
  have hst : 12 * b.w * stripesOf b.h ≤ 12 * 64 * 16 := Nat.mul_le_mul (by have := hg.ok.w2; omega) (by have := hg.ok.h2; unfold stripesOf; omega)
  unfold runSt
  split
  · exact (le_sigs (σ := ⟨b, []⟩) hg (scanIn b)).mono (by omega)
  · split
    · exact (le_refs (σ := ⟨b, []⟩) hg (scanIn b)).mono (by omega)
    · have h1 := le_stripes (P := runPP m k planes o) (σ := ⟨b, []⟩) (n := stripesOf b.h) hg (top := 0) (by omega) (by show (0 : Int) + 4 * (stripesOf b.h : Nat) ≤ b.h + 3; unfold stripesOf; omega)
      have hall : AllIn (ES.stripes (runPP m k planes o) ⟨b, []⟩ 0 (stripesOf b.h)).b (scan b.w b.h) := by have := scanIn (ES.stripes (runPP m k planes o) ⟨b, []⟩ 0 (stripesOf b.h)).b; rwa [h1.w, h1.h] at this
      have h2 := le_clear h1.good hall
      have h3 := h1.trans h2
      have h4 : ∀ τ : ES, τ.b.Good → τ.Le (τ.check (runPP m k planes o) m.sy) 4 := by
        intro τ hτ
        unfold ES.check
        split
        · exact ⟨rfl, rfl, hτ, by simp [ES.emit], fun _ _ => rfl⟩
        · exact ES.Le.refl hτ 4
      exact (h3.trans (h4 _ h3.good)).mono (by show 12 * b.w * stripesOf b.h + 0 + 4 ≤ 60000; omega)
theorem passesOf_le60 {m : MD} {planes o : Nat} : ∀ (n k : Nat) (b : BS), b.Good → ∀ l ∈ passesOf m planes o n k b, l.length ≤ 60000
  | 0, _, _, _, l, hl => by simp [passesOf] at hl
  | n + 1, k, b, hg, l, hl => by
    have h1 := out_le60 (m := m) hg (k := k) (planes := planes) (o := o)
    rw [passesOf, List.mem_cons] at hl
    rcases hl with rfl | hl
    · have := h1.len
      simp at this; omega
    · exact passesOf_le60 n (k + 1) _ h1.good l hl

theorem app_first {H : Heap} {t : Value} {n : Nat} {cs : List Value} (ht : Sl H 1 t n cs) (hn : n ≤ 1000) :
    ∃ c H', appendV H 1 24 (.slice none 0 0) t = some (c, H') ∧ OwnS H' 1 c n cs ∧ (∀ id, sid c = some id → H.length ≤ id) ∧ H.length ≤ H'.length ∧ ∀ id, id < H.length → blk? H' id = blk? H id := by
  by_cases h0 : n = 0
  · subst h0
    have hc : cs = [] := List.eq_nil_of_length_eq_zero (by have := ht.1; omega)
    subst hc
    refine ⟨.slice none 0 0, H, ?_, OwnS.nil _ _, fun id hid => by simp [sid] at hid, Nat.le_refl _, fun id _ => rfl⟩
    simp only [appendV, ht.lenV, ht.firstC, if_pos]
  · obtain ⟨H', ha, hK, hHl, hHs⟩ := own_append (bytes := 24) (OwnS.nil H 1) ht (by unfold roomCells; omega) (by omega) h0
    rw [Nat.zero_add] at ha
    exact ⟨_, H', ha, ⟨ht.1, .inr ⟨_, rfl, by rw [hK]; rfl⟩⟩, fun id hid => by simp [sid] at hid; omega, by omega, fun id hid => hHs id hid (by simp [sid])⟩

section
variable {h : Heap}
set_option maxRecDepth 10000 in
set_option maxHeartbeats 2000000 in
theorem ret_rejects {i : Inp} {s t : Value} {kk jj how : Int} (hi : Ints h s i.xs) (hlen0 : i.xs.length < 9223372036854775808) (tb : below h.length t = true) (ct : Sim.isCell t = true) : Ret tab 8 [i.val s t, .int .i64 kk, .int .i64 jj, .int .i64 how] h fun v _ => v = .bool true := by
  obtain ⟨w, hh, xs, fl, o, ⟨byp, res, rst, cz, sy⟩⟩ := i
  simp only at hi hlen0
  obtain ⟨sa, sc, hss⟩ := hi.sl.shape
  generalize hH : h ++ [some (⟨false, [.int .i64 w, .int .i64 hh, s, t, .int .i64 o, .bool byp, .bool res, .bool rst, .bool cz, .bool sy]⟩ : Blk)] = H
  have hbox : blk? H h.length = some ⟨false, [.int .i64 w, .int .i64 hh, s, t, .int .i64 o, .bool byp, .bool res, .bool rst, .bool cz, .bool sy]⟩ := by rw [← hH]; exact blk?_push_eq
  have hlow : ∀ id, id < h.length → blk? H id = blk? h id := fun id hid => by rw [← hH]; exact blk?_push_lt hid
  have hlen : H.length = h.length + 1 := by rw [← hH]; simp
  have hiH : Ints H s xs := hi.keep (by omega) (fun id hid _ => hlow id hid)
  have hsm := fun R => small_eq (R := R) (i := ⟨w, hh, xs, fl, o, ⟨byp, res, rst, cz, sy⟩⟩) hiH (below_mono (by omega) t tb) ct
  have hvo := fun R => validOrient_r (h := H) (R := R) (o := o)
  have hpr := fun R => planes_r2 (R := R) hiH hlen0
  simp only [Inp.val] at hsm ⊢
  rw [enter8, show B8 = .seq (nthC 0 B8) (.seq (nthC 1 B8) (.seq (nthC 2 B8) (.seq (nthC 3 B8) (.seq (nthC 4 B8) (.seq (nthC 5 B8) (.seq (nthC 6 B8) (.seq (nthC 7 B8) (.seq (nthC 8 B8) (tlC 9 B8))))))))) from rfl]
  generalize hT : tlC 9 B8 = tl
  simp only [nthC, tlC, fstC, B8]
  by_cases hS : Small ⟨w, hh, xs, fl, o, ⟨byp, res, rst, cz, sy⟩⟩
  · rw [decide_eq_true hS] at hsm
    by_cases hO : 0 ≤ o ∧ o ≤ 3
    · rw [decide_eq_true hO] at hvo
      have hpl60 : planesOf xs ≤ 60 := hS.2.2
      have m1 : IntKind.i64.wrap (3 * (planesOf xs : Int)) = 3 * (planesOf xs : Int) := wrapI (by omega) (by omega)
      have m2 : IntKind.i64.wrap (3 * (planesOf xs : Int) - 2) = 3 * (planesOf xs : Int) - 2 := wrapI (by omega) (by omega)
      have m3 := max_planes (planesOf xs)
      by_cases q1 : kk < 0
      · simp [hH, hbox, hsm, hvo, hpr, m1, m2, m3, q1, example_eq, k_guard, k_guardU, fin8]
      · by_cases q2 : max 0 (3 * (planesOf xs : Int) - 2) ≤ kk
        · simp [hH, hbox, hsm, hvo, hpr, m1, m2, m3, q1, q2, example_eq, k_guard, k_guardU, fin8]
        · by_cases q3 : jj < 0
          · simp [hH, hbox, hsm, hvo, hpr, m1, m2, m3, q1, q2, q3, example_eq, k_guard, k_guardU, fin8]
          · obtain ⟨n, rfl⟩ := Int.eq_ofNat_of_zero_le (show 0 ≤ kk by omega)
            obtain ⟨j, rfl⟩ := Int.eq_ofNat_of_zero_le (show 0 ≤ jj by omega)
            have hn : n < 3 * planesOf xs - 2 := by omega
            have hsy := symRes_of_small hS hO
            have hgood := small_good hS
            obtain ⟨hl1, hl2⟩ := small_len hS
            obtain ⟨⟨⟨w1, w2⟩, h1, h2⟩, _, hp60⟩ := hS
            simp only at hl1 hl2 w1 w2 h1 h2 hp60 hsy hgood
            obtain ⟨sv, H1, e1, o1⟩ := symbols_c hiH (by omega) w hh o ⟨byp, res, rst, cz, sy⟩
            rw [hsy] at e1 o1
            obtain ⟨vs, ps⟩ := o1.pss
            simp only at ps
            have hlen1 := o1.len
            have hbox1 : blk? H1 h.length = some ⟨false, [.int .i64 w, .int .i64 hh, s, t, .int .i64 o, .bool byp, .bool res, .bool rst, .bool cz, .bool sy]⟩ := by rw [o1.low _ (by omega)]; exact hbox
            have hlps := ps.len
            have hlaw := fun (l : List (Int × Int)) (hl : (stdI (passesOf ⟨byp, res, rst, cz, sy⟩ (planesOf xs) o.toNat (3 * planesOf xs - 2) 0 (fillTo w.toNat hh.toNat xs xs.length)))[n]? = some l) (hj : j < l.length) (k : Nat) => rejects_law (m := ⟨byp, res, rst, cz, sy⟩) (xs := xs) (w := w.toNat) (h := hh.toNat) (o := o) (by omega) (by omega) (by omega) (by omega) hl1 hp60 hO hn hl (i := j) (how := k) hj
            rw [Int.toNat_of_nonneg (by omega), Int.toNat_of_nonneg (by omega)] at hlaw
            have h60 := passesOf_le60 (m := ⟨byp, res, rst, cz, sy⟩) (planes := planesOf xs) (o := o.toNat) (3 * planesOf xs - 2) 0 _ hgood
            have hpl := passesOf_len ⟨byp, res, rst, cz, sy⟩ (planesOf xs) o.toNat (3 * planesOf xs - 2) 0 (fillTo w.toNat hh.toNat xs xs.length)
            generalize passesOf ⟨byp, res, rst, cz, sy⟩ (planesOf xs) o.toNat (3 * planesOf xs - 2) 0 (fillTo w.toNat hh.toNat xs xs.length) = L at *
            have hnv : n < vs.length := by omega
            have hnl : n < L.length := by omega
            obtain ⟨id, off, b, hsv, hbk, hc⟩ := ps.get hnv
            obtain ⟨s', hsl, ps'⟩ := ps.cut (j := n) (by omega)
            have hsy2 := ps.each n hnv hnl
            have h60n := h60 _ (List.getElem_mem hnl)
            have hlaw' := hlaw (L[n].map symI) (by simp [stdI, hnl])
            obtain ⟨a3, c3, hs3⟩ := hsy2.sl.shape
            have hsl3 := hsy2.sl
            rw [← encS_symI] at hsl3
            rw [List.length_map] at hlaw'
            generalize hl0 : L[n].map symI = l at *
            have hll : l.length = L[n].length := by rw [← hl0]; simp
            generalize L[n].length = ln at *
            have hn64 : ((n : Nat) : Int) < vs.length := by omega
            have hq5 : ¬ ((vs.length : Int) ≤ (n : Int)) := by omega
            simp only [MD.val] at e1
            subst hsv
            rw [hss] at *
            rw [hs3] at hc hsl3
            by_cases q4 : (ln : Int) ≤ j
            · simp [k_guard, k_guardU, hH, hbox, hsm, hvo, hpr, m1, m2, m3, q1, q2, q3, e1, hbox1, hq5, hn64, hnv, hbk, hc, q4, example_eq, fin8]
            · obtain ⟨c, Hc, hap, hown, hfar, hle, hlow2⟩ := app_first ps'.sl (by rw [ps'.len, List.length_take]; omega)
              have hsl4 : Sl (Hc ++ [some ⟨false, []⟩]) 2 (.slice a3 ln c3) ln (encP l) := hsl3.of_sid fun id b hid hb => by rw [app_lt (by have := blk?_lt hb; omega), hlow2 _ (blk?_lt hb)]; exact hb
              have hown4 : OwnS (Hc ++ [some ⟨false, []⟩]) 2 (.slice (some ⟨Hc.length, 0, none⟩) 0 2) 0 [] := ⟨rfl, .inr ⟨_, rfl, blk?_push_eq⟩⟩
              obtain ⟨Hd, hap2, hK, hHl, hHs⟩ := own_append (bytes := 16) hown4 hsl4 (by unfold roomCells; omega) (by omega) (by omega)
              simp only [List.length_append, List.length_singleton, Nat.zero_add, List.nil_append] at hap2 hK hHl hHs
              have hk : ∀ id, id < Hc.length → blk? Hd id = blk? Hc id := fun id hid => by rw [hHs id (by omega) (fun e => by simp [sid] at e; omega), blk?_push_lt hid]
              have hvt : (vs.take n).length = n := by simp; omega
              have pI := psI_of ps'
              have rj : Rj Hd H1.length c (vs.take n) ((stdI L).take n) := by
                have e : (stdI L).take n = stdI (L.take n) := by unfold stdI; rw [List.map_take]
                rw [e]
                exact ⟨hown.of_blk fun id hid hb => by rw [hk id (blk?_lt hb)]; exact hb, hfar, pI.len, fun i h1 h2 => (pI.each i h1 h2).of_sid fun id b hid hb => by have := blk?_lt hb; rw [hk id (by omega), hlow2 id this]; exact hb, fun i h1 id hid => pI.lt i h1 id hid, by omega⟩
              have hboxd : blk? Hd h.length = some ⟨false, [.int .i64 w, .int .i64 hh, .slice sa xs.length sc, t, .int .i64 o, .bool byp, .bool res, .bool rst, .bool cz, .bool sy]⟩ := by rw [hk _ (by omega), hlow2 _ (by omega)]; exact hbox1
              have hbk4 : blk? (Hc ++ [some ⟨false, []⟩]) id = some b := by have := blk?_lt hbk; rw [app_lt (by omega), hlow2 _ this]; exact hbk
              simp [k_guard, k_guardU, repL, hbk4, hH, hbox, hsm, hvo, hpr, m1, m2, m3, q1, q2, q3, e1, hbox1, hq5, hn64, hnv, hbk, hc, q4, hsl, hap, hap2]
              rw [← hT, ← hll]
              exact rej_switch (m := ⟨byp, res, rst, cz, sy⟩) rj (by simp [stdI]; omega) hpl60 hboxd (by omega) hK (by omega) (fun e => by have := hown.lt e; omega) (by omega) (by omega) (fun k => hlaw' (by omega) k) _ _ _ _ _ _ _ _ _ _ _ _ _ _ _ _ _ _ _ _ _ _ _ _ _ _ _ _ _ _ _ _ _ _ _ _ _ _ _ _ _ _ _ _ _ _ _ _ _ _ _ _ _ _ _ _ _ _ _ _ _ _ _ _ _ _ _ _ _ _ _ _ _ _ _ _ _ _ _ _ _ _ _ _ _ _ _ _ _ _ _ _ _ _ _ _ _ _ _ _ _ _ _ _ _ _ _ _ _ _ _ _ _ _ _ _ _ _ _ _ _ _ _ _ _ _ _ _ _ _ _ _ _ _ _ _ _ _ _ _ _ _ _ _ _
    · rw [decide_eq_false hO] at hvo
      simp [hH, hbox, hsm, hvo, hpr, example_eq, k_guard, k_guardU, fin8]
  · rw [decide_eq_false hS] at hsm
    simp [hH, hbox, hsm, hpr, example_eq, k_guard, k_guardU, fin8]
end
end Go.Proofs.Ytjpjohchdfoeaaa
