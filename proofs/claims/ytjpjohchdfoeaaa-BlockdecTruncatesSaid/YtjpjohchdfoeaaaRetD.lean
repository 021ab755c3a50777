/-
  The block decoder: the contracts of Decode and Sound.
  Truncated blocks, plain.
  Truncated blocks are decoded alike: the plain law.
  The examples of the block decoder, plain.
  Whether two lists are the same (law 18's own).
  The examples of the chapter.
  Law 18's examples, followed.
  Law 18's examples, followed.
  Law 18's few.
  How much Decode answers.
  BlockdecTruncates: the walk.
-/
import Derived.Test.YtjpjohchdfoeaaaVals2
namespace Go.Proofs.Ytjpjohchdfoeaaa
open Go Go.Sim
set_option linter.unusedSimpArgs false
set_option linter.unusedVariables false
set_option maxRecDepth 10000

def toI (l : List (Int × Nat)) : List (Int × Int) := l.map fun p => (p.1, (p.2 : Int))
theorem encP_toI : ∀ l : List (Int × Nat), encP (toI l) = encS l
  | [] => rfl
  | p :: l => by
    have := encP_toI l
    simp only [toI, List.map_cons] at this ⊢
    simp only [encP, encS, this]
theorem RdV.psI {B : Nat} {h : Heap} {lv : Value} {ls : List (List (Int × Nat))} (r : RdV B h lv ls) : ∃ vs, PsI h lv vs (ls.map toI) := by
  obtain ⟨vs, a, b, c, _⟩ := r.ex
  refine ⟨vs, a.sl, by simp [b], fun i h1 h2 => ?_, fun i h1 id hid => (c i h1 (by omega)).lt hid⟩
  have h3 : i < ls.length := by simpa using h2
  have e : (ls.map toI)[i] = toI ls[i] := by simp
  rw [e, encP_toI, show (toI ls[i]).length = ls[i].length by simp [toI]]
  exact (c i h1 h3).sl
/-- What Decode answers: the error, the values, the missing planes. -/
def decP (m : MD) (pl : Int) (ps : List Int) (ds : List Nat) (n w hh o : Int) : Int × List Int × List Int :=
  if checkP pl ps (ds.map Int.ofNat) n w hh o ≠ 0 then (checkP pl ps (ds.map Int.ofNat) n w hh o, [], [])
  else valRes ((readP m pl o ps ds n.toNat w.toNat hh.toNat).ls.map toI) pl w hh o m

theorem passesR_len (m : MD) (pl o : Int) : ∀ (q i : Nat) (s : Rdg), (passesR m pl o q i s).ls.length = s.ls.length + q
  | 0, _, s => rfl
  | q + 1, i, s => by simp only [passesR]; rw [passesR_len m pl o q]; simp; omega
theorem segsR_len (m : MD) (pl o : Int) (ps : List Int) (ds : List Nat) : ∀ (gs : List Nat) (beg : Nat) (s : Rdg), (segsR m pl o ps ds gs beg s).ls.length = s.ls.length + sumL gs
  | [], _, s => rfl
  | c :: cs, beg, s => by
    simp only [segsR, sumL]
    rw [segsR_len m pl o ps ds cs, passesR_len]
    split <;> simp <;> omega
theorem readP_len (m : MD) (pl o : Int) (ps : List Int) (ds : List Nat) {n w hh : Nat} (hn : n ≤ 178) : (readP m pl o ps ds n w hh).ls.length = n := by
  unfold readP
  rw [segsR_len, (segs_sum hn).1]; simp
section
variable {h : Heap} {pv dv : Value} {pl : Int} {ps : List Int} {ds : List Nat} {m : MD}
theorem check_ok {n w hh o : Int} (hc : checkP pl ps (ds.map Int.ofNat) n w hh o = 0) : validP pl ps (ds.map Int.ofNat) = 0 ∧ 0 ≤ n ∧ n ≤ ps.length ∧ 1 ≤ w ∧ w ≤ 64 ∧ 1 ≤ hh ∧ hh ≤ 64 ∧ 0 ≤ o ∧ o ≤ 3 := by
  unfold checkP at hc
  split at hc
  · rename_i h1; exact absurd hc h1
  · rename_i h1
    split at hc
    · cases hc
    · split at hc
      · cases hc
      · refine ⟨by simpa using h1, ?_⟩; omega
/-- What is read of a block that passed the check. -/
theorem readC {n w hh o : Int} (hp : Rk .i64 h pv ps) (hd : Rk .u8 h dv (ds.map Int.ofNat)) (hds : ∀ x ∈ ds, x < 256) (hc : checkP pl ps (ds.map Int.ofNat) n w hh o = 0) :
    ∃ lv h', (∀ R : Value → Heap → Prop, Ret tab 102 [.agg #[.int .i64 pl, pv, dv], .int .i64 n, .int .i64 w, .int .i64 hh, .int .i64 o, m.val] h R = R (.tuple #[lv, .int .i64 (readP m pl o ps ds n.toNat w.toNat hh.toNat).snd, .int .i64 0]) h') ∧
      RdV h.length h' lv (readP m pl o ps ds n.toNat w.toNat hh.toNat).ls ∧ (∀ id, id < h.length → blk? h' id = blk? h id) ∧ h.length ≤ h'.length := by
  obtain ⟨hv, n0, n1, w1, w2, h1, h2, o0, o1⟩ := check_ok hc
  obtain ⟨p0, p1, p2, _, p4⟩ := valid_ends hv
  obtain ⟨z0, z1⟩ := valid_zE hv
  simp only [List.length_map] at z1 p4
  obtain ⟨n, rfl⟩ := Int.eq_ofNat_of_zero_le n0
  obtain ⟨w, rfl⟩ := Int.eq_ofNat_of_zero_le (show 0 ≤ w by omega)
  obtain ⟨hh, rfl⟩ := Int.eq_ofNat_of_zero_le (show 0 ≤ hh by omega)
  simp only [Int.toNat_natCast]
  exact read_c m hp hd z0 z1 (by omega) hds (by omega) (by omega) (by omega) (by omega) (by omega) (by omega)
set_option maxHeartbeats 1000000 in
theorem decode_c {n w hh o : Int} (hp : Rk .i64 h pv ps) (hd : Rk .u8 h dv (ds.map Int.ofNat)) (hds : ∀ x ∈ ds, x < 256) (hl : ps.length < 1000000) (hdl : ds.length < 1000000000) :
    ∃ v1 v2 h', (∀ R : Value → Heap → Prop, Ret tab 43 [.agg #[.int .i64 pl, pv, dv], .int .i64 n, .int .i64 w, .int .i64 hh, .int .i64 o, m.val] h R = R (.tuple #[v1, v2, .int .i64 (decP m pl ps ds n w hh o).1]) h') ∧ VOut h h' v1 v2 (decP m pl ps ds n w hh o) := by
  have key : ∀ R0 : Value → Heap → Prop, (∀ v1 v2 h', VOut h h' v1 v2 (decP m pl ps ds n w hh o) → R0 (.tuple #[v1, v2, .int .i64 (decP m pl ps ds n w hh o).1]) h') → Ret tab 43 [.agg #[.int .i64 pl, pv, dv], .int .i64 n, .int .i64 w, .int .i64 hh, .int .i64 o, m.val] h R0 := by
    intro R0 hR
    generalize hH : h ++ [some (⟨false, [.int .i64 pl, pv, dv]⟩ : Blk), some ⟨false, [.bool m.byp, .bool m.res, .bool m.rst, .bool m.cz, .bool m.sy]⟩] = H
    have lH : H.length = h.length + 2 := by rw [← hH]; simp
    have kH : ∀ id, id < h.length → blk? H id = blk? h id := fun id hid => by rw [← hH]; exact app_lt hid
    have b0 : blk? H h.length = some ⟨false, [.int .i64 pl, pv, dv]⟩ := by rw [← hH, app_len]; rfl
    have b1 : blk? H (h.length + 1) = some ⟨false, [.bool m.byp, .bool m.res, .bool m.rst, .bool m.cz, .bool m.sy]⟩ := by rw [← hH, app_add]; rfl
    have hpH : Rk .i64 H pv ps := by rw [← hH]; exact hp.push _
    have hdH : Rk .u8 H dv (ds.map Int.ofNat) := by rw [← hH]; exact hd.push _
    obtain ⟨H1, e1, k1, l1⟩ := check_c (m := m) (pl := pl) hpH hdH hl (by rw [List.length_map]; exact hdl) n w hh o
    have b01 : blk? H1 h.length = some ⟨false, [.int .i64 pl, pv, dv]⟩ := by rw [k1 _ (by omega)]; exact b0
    have b11 : blk? H1 (h.length + 1) = some ⟨false, [.bool m.byp, .bool m.res, .bool m.rst, .bool m.cz, .bool m.sy]⟩ := by rw [k1 _ (by omega)]; exact b1
    simp only [MD.val] at e1
    rw [enter43, B43]
    by_cases hc : checkP pl ps (ds.map Int.ofNat) n w hh o = 0
    case neg =>
      have hc' : (checkP pl ps (ds.map Int.ofNat) n w hh o != 0) = true := by simpa using hc
      have e : decP m pl ps ds n w hh o = (checkP pl ps (ds.map Int.ofNat) n w hh o, [], []) := by unfold decP; rw [if_pos hc]
      rw [e] at hR
      simp [MD.val, hH, b0, b1, e1, hc', fin43]
      exact hR _ _ _ (VOut.bad (fun id hid => by rw [k1 id (by omega), kH id hid]) (by omega) _)
    have hc' : (checkP pl ps (ds.map Int.ofNat) n w hh o != 0) = false := by simpa using hc
    have e : decP m pl ps ds n w hh o = valRes ((readP m pl o ps ds n.toNat w.toNat hh.toNat).ls.map toI) pl w hh o m := by unfold decP; rw [if_neg (by simp [hc])]
    rw [e] at hR
    obtain ⟨hv, _⟩ := check_ok hc
    obtain ⟨p0, p1, p2, _, p4⟩ := valid_ends hv
    have hp1 : Rk .i64 H1 pv ps := hpH.keep l1 fun id hid _ => k1 id hid
    have hd1 : Rk .u8 H1 dv (ds.map Int.ofNat) := hdH.keep l1 fun id hid _ => k1 id hid
    obtain ⟨lv, H2, e2, r2, k2, l2⟩ := readC (m := m) hp1 hd1 hds hc
    obtain ⟨vs, q2⟩ := r2.psI
    have b02 : blk? H2 h.length = some ⟨false, [.int .i64 pl, pv, dv]⟩ := by rw [k2 _ (by omega)]; exact b01
    have b12 : blk? H2 (h.length + 1) = some ⟨false, [.bool m.byp, .bool m.res, .bool m.rst, .bool m.cz, .bool m.sy]⟩ := by rw [k2 _ (by omega)]; exact b11
    have hlen : (readP m pl o ps ds n.toNat w.toNat hh.toNat).ls.length < 100000 := by
      obtain ⟨_, c1, c2, _⟩ := check_ok hc
      rw [readP_len m pl o ps ds (by omega)]; omega
    obtain ⟨v1, v2, H3, e3, V3⟩ := values_d q2 (by simpa using hlen) pl w hh o (by omega) m
    simp only [MD.val] at e2 e3
    simp [MD.val, hH, b0, b1, e1, hc', b01, b11, e2, b02, b12, e3, fin43]
    exact hR _ _ _ ⟨V3.o1, V3.o2, fun id hid => by rw [V3.low id (by omega), k2 id (by omega), k1 id (by omega), kH id hid], by have := V3.len; omega⟩
  obtain ⟨v, h', e, v1, v2, rfl, a⟩ := ret_ex (key (fun v h' => ∃ v1 v2, v = .tuple #[v1, v2, .int .i64 (decP m pl ps ds n w hh o).1] ∧ VOut h h' v1 v2 (decP m pl ps ds n w hh o)) fun v1 v2 h' a => ⟨v1, v2, rfl, a⟩)
  exact ⟨v1, v2, h', e, a⟩

/-- What Sound answers: the number, the error. -/
def sndP (m : MD) (pl : Int) (ps : List Int) (ds : List Nat) (n w hh o : Int) : Int × Int :=
  if checkP pl ps (ds.map Int.ofNat) n w hh o ≠ 0 then (0, checkP pl ps (ds.map Int.ofNat) n w hh o)
  else if m.sy = false then (n, 0) else ((readP m pl o ps ds n.toNat w.toNat hh.toNat).snd, 0)
set_option maxHeartbeats 1000000 in
theorem sound_c {n w hh o : Int} (hp : Rk .i64 h pv ps) (hd : Rk .u8 h dv (ds.map Int.ofNat)) (hds : ∀ x ∈ ds, x < 256) (hl : ps.length < 1000000) (hdl : ds.length < 1000000000) :
    Gives 44 [.agg #[.int .i64 pl, pv, dv], .int .i64 n, .int .i64 w, .int .i64 hh, .int .i64 o, m.val] h (.tuple #[.int .i64 (sndP m pl ps ds n w hh o).1, .int .i64 (sndP m pl ps ds n w hh o).2]) := by
  refine Gives.mk fun R0 hR => ?_
  generalize hH : h ++ [some (⟨false, [.int .i64 pl, pv, dv]⟩ : Blk), some ⟨false, [.bool m.byp, .bool m.res, .bool m.rst, .bool m.cz, .bool m.sy]⟩] = H
  have lH : H.length = h.length + 2 := by rw [← hH]; simp
  have kH : ∀ id, id < h.length → blk? H id = blk? h id := fun id hid => by rw [← hH]; exact app_lt hid
  have b0 : blk? H h.length = some ⟨false, [.int .i64 pl, pv, dv]⟩ := by rw [← hH, app_len]; rfl
  have b1 : blk? H (h.length + 1) = some ⟨false, [.bool m.byp, .bool m.res, .bool m.rst, .bool m.cz, .bool m.sy]⟩ := by rw [← hH, app_add]; rfl
  have hpH : Rk .i64 H pv ps := by rw [← hH]; exact hp.push _
  have hdH : Rk .u8 H dv (ds.map Int.ofNat) := by rw [← hH]; exact hd.push _
  obtain ⟨H1, e1, k1, l1⟩ := check_c (m := m) (pl := pl) hpH hdH hl (by rw [List.length_map]; exact hdl) n w hh o
  have b01 : blk? H1 h.length = some ⟨false, [.int .i64 pl, pv, dv]⟩ := by rw [k1 _ (by omega)]; exact b0
  have b11 : blk? H1 (h.length + 1) = some ⟨false, [.bool m.byp, .bool m.res, .bool m.rst, .bool m.cz, .bool m.sy]⟩ := by rw [k1 _ (by omega)]; exact b1
  simp only [MD.val] at e1
  rw [enter44, B44]
  unfold sndP at hR
  by_cases hc : checkP pl ps (ds.map Int.ofNat) n w hh o = 0
  case neg =>
    have hc' : (checkP pl ps (ds.map Int.ofNat) n w hh o != 0) = true := by simpa using hc
    rw [if_pos hc] at hR
    simp [MD.val, hH, b0, b1, e1, hc', fin44]
    exact hR _ (fun id hid => by rw [k1 id (by omega), kH id hid]) (by omega)
  have hc' : (checkP pl ps (ds.map Int.ofNat) n w hh o != 0) = false := by simpa using hc
  rw [if_neg (by simp [hc])] at hR
  cases hsy : m.sy with
  | false =>
    rw [hsy] at hH b1 b11 e1 hR
    simp only [if_true] at hR
    simp [MD.val, hsy, hH, b0, b1, e1, hc', b01, b11, fin44]
    exact hR _ (fun id hid => by rw [k1 id (by omega), kH id hid]) (by omega)
  | true =>
    have hp1 : Rk .i64 H1 pv ps := hpH.keep l1 fun id hid _ => k1 id hid
    have hd1 : Rk .u8 H1 dv (ds.map Int.ofNat) := hdH.keep l1 fun id hid _ => k1 id hid
    obtain ⟨lv, H2, e2, r2, k2, l2⟩ := readC (m := m) hp1 hd1 hds hc
    simp only [MD.val] at e2
    rw [hsy] at hH b1 b11 e1 hR e2
    simp only [Bool.true_eq_false, if_false] at hR
    simp [MD.val, hsy, hH, b0, b1, e1, hc', b01, b11, e2, fin44]
    exact hR _ (fun id hid => by rw [k2 id (by omega), k1 id (by omega), kH id hid]) (by omega)
end
/-! ### Truncated blocks, plain -/
def zEnd (ps : List Int) : Nat → Nat
  | 0 => 0
  | a + 1 => (ps.getD a 0).toNat
theorem truncD_eq (ps ds : List Int) (a : Nat) : truncD ps ds a = ds.take (zEnd ps a) := by
  cases a with
  | zero => simp [truncD, zEnd]
  | succ a => simp [truncD, zEnd]
theorem vgo_take : ∀ (ps : List Int) (l r : Int), vgo ps l = some r → ∀ a, a ≤ ps.length → vgo (ps.take a) l = some (if a = 0 then l else ps.getD (a - 1) 0)
  | ps, l, r, hv, 0, _ => by simp [vgo]
  | [], l, r, hv, a + 1, h => by simp at h
  | x :: xs, l, r, hv, a + 1, h => by
    unfold vgo at hv
    split at hv
    · cases hv
    · rename_i hx
      have := vgo_take xs x r hv a (by simpa using h)
      rw [List.take_succ_cons, vgo, if_neg hx, this]
      cases a with
      | zero => simp
      | succ a => simp
section
variable {pl : Int} {ps ds : List Int} {a b : Nat}
theorem zEnd_le (hv : validP pl ps ds = 0) (ha : a ≤ ps.length) : zEnd ps a ≤ ds.length := by
  obtain ⟨_, _, _, hg, _⟩ := valid_ends hv
  cases a with
  | zero => simp [zEnd]
  | succ a => have := vgo_get ps 0 _ hg a (by omega); simp only [zEnd]; omega
theorem zEnd_mono (hv : validP pl ps ds = 0) (ha : a ≤ ps.length) (hb : b ≤ a) : zEnd ps b ≤ zEnd ps a := by
  obtain ⟨_, _, _, hg, _⟩ := valid_ends hv
  cases b with
  | zero => simp [zEnd]
  | succ b =>
    cases a with
    | zero => omega
    | succ a =>
      have h1 := vgo_take ps 0 _ hg (a + 1) ha
      rw [if_neg (by omega)] at h1
      have h2 := vgo_get _ 0 _ h1 b (by rw [List.length_take]; omega)
      have e : (ps.take (a + 1)).getD b 0 = ps.getD b 0 := by rw [List.getD_eq_getElem?_getD, List.getD_eq_getElem?_getD, List.getElem?_take, if_pos (by omega)]
      rw [e] at h2
      simp only [zEnd, Nat.add_sub_cancel] at h2 ⊢; omega
theorem cut_valid (hv : validP pl ps ds = 0) (ha : a ≤ ps.length) : validP pl (ps.take a) (truncD ps ds a) = 0 := by
  obtain ⟨h1, h2, h3, hg, h5⟩ := valid_ends hv
  have hz := zEnd_le hv ha
  have ht := vgo_take ps 0 _ hg a ha
  have hl : (truncD ps ds a).length = zEnd ps a := by rw [truncD_eq, List.length_take]; omega
  have e : (if a = 0 then (0 : Int) else ps.getD (a - 1) 0) = (zEnd ps a : Int) := by
    cases a with
    | zero => simp [zEnd]
    | succ a => have := vgo_get ps 0 _ hg a (by omega); simp only [zEnd, Nat.add_sub_cancel, Nat.succ_ne_zero, if_false]; omega
  rw [e] at ht
  unfold validP
  rw [if_neg (by omega), if_neg (by rw [List.length_take]; omega), ht]
  simp only [hl]
  rw [if_neg (by simp), if_neg (by omega)]
end
theorem segsR_congr (m : MD) (pl o : Int) {ps ps' : List Int} {ds ds' : List Nat} {N : Nat} (h1 : ∀ i, i < N → ps.getD i 0 = ps'.getD i 0) (h2 : ∀ beg i, i < N → segD ds beg (ps.getD i 0).toNat = segD ds' beg (ps.getD i 0).toNat) :
    ∀ (gs : List Nat) (beg : Nat) (s : Rdg), (∀ c ∈ gs, 1 ≤ c) → s.ls.length + sumL gs ≤ N → segsR m pl o ps ds gs beg s = segsR m pl o ps' ds' gs beg s
  | [], _, _, _, _ => rfl
  | c :: cs, beg, s, hc, hn => by
    have hc1 := hc c (List.mem_cons_self ..)
    simp only [sumL] at hn
    simp only [segsR]
    rw [← h1 _ (show s.ls.length + c - 1 < N by omega), ← h2 beg _ (show s.ls.length + c - 1 < N by omega)]
    refine segsR_congr m pl o h1 h2 cs _ _ (fun x hx => hc x (List.mem_cons_of_mem _ hx)) ?_
    rw [passesR_len]
    split <;> simp <;> omega
theorem readP_congr (m : MD) (pl o : Int) {ps ps' : List Int} {ds ds' : List Nat} {n w hh : Nat} (hn : n ≤ 178) (h1 : ∀ i, i < n → ps.getD i 0 = ps'.getD i 0) (h2 : ∀ beg i, i < n → segD ds beg (ps.getD i 0).toNat = segD ds' beg (ps.getD i 0).toNat) :
    readP m pl o ps ds n w hh = readP m pl o ps' ds' n w hh := by
  obtain ⟨sg1, sg2, sg3⟩ := segs_sum (m := m) hn
  unfold readP
  exact segsR_congr m pl o h1 h2 _ _ _ (fun c hc => (sg3 c hc).1) (by simp; omega)
theorem segD_take (ds : List Nat) {beg e z : Nat} (h : e ≤ z) : segD (ds.take z) beg e = segD ds beg e := by
  unfold segD; rw [List.take_take, Nat.min_eq_left h]

section
variable {pl : Int} {ps : List Int} {ds : List Nat} {m : MD} {a : Nat} {n w hh o : Int}
theorem truncD_nat (ps : List Int) (ds : List Nat) (a : Nat) : truncD ps (ds.map Int.ofNat) a = (ds.take (zEnd ps a)).map Int.ofNat := by rw [truncD_eq, List.map_take]
theorem checkP_cut (hv : validP pl ps (ds.map Int.ofNat) = 0) (ha : a ≤ ps.length) (hn : n ≤ a) : checkP pl (ps.take a) ((ds.take (zEnd ps a)).map Int.ofNat) n w hh o = checkP pl ps (ds.map Int.ofNat) n w hh o := by
  have hc := cut_valid hv ha
  rw [truncD_nat] at hc
  have hl : (ps.take a).length = a := by rw [List.length_take]; omega
  unfold checkP
  simp only [hc, hv, hl, ne_eq, not_true_eq_false, if_false]
  by_cases h0 : n < 0
  · rw [if_pos (.inl h0), if_pos (.inl h0)]
  · have e : (n < 0 ∨ (a : Int) < n ∨ w < 1 ∨ 64 < w ∨ hh < 1 ∨ 64 < hh) ↔ (n < 0 ∨ (ps.length : Int) < n ∨ w < 1 ∨ 64 < w ∨ hh < 1 ∨ 64 < hh) := by omega
    simp only [e]
theorem readP_cut (hv : validP pl ps (ds.map Int.ofNat) = 0) (ha : a ≤ ps.length) {k w hh : Nat} (hk : k ≤ a) (hp : ps.length ≤ 178) : readP m pl o (ps.take a) (ds.take (zEnd ps a)) k w hh = readP m pl o ps ds k w hh := by
  refine readP_congr m pl o (by omega) (fun i hi => ?_) (fun beg i hi => ?_)
  · rw [List.getD_eq_getElem?_getD, List.getD_eq_getElem?_getD, List.getElem?_take, if_pos (by omega)]
  · have e : (ps.take a).getD i 0 = ps.getD i 0 := by rw [List.getD_eq_getElem?_getD, List.getD_eq_getElem?_getD, List.getElem?_take, if_pos (by omega)]
    rw [e]
    refine segD_take ds ?_
    have := zEnd_mono hv ha (show i + 1 ≤ a by omega)
    simpa [zEnd] using this
theorem decP_cut (hv : validP pl ps (ds.map Int.ofNat) = 0) (ha : a ≤ ps.length) (hn : n ≤ a) : decP m pl (ps.take a) (ds.take (zEnd ps a)) n w hh o = decP m pl ps ds n w hh o := by
  obtain ⟨p0, p1, p2, _, _⟩ := valid_ends hv
  unfold decP
  rw [checkP_cut hv ha hn, readP_cut hv ha (by omega) (by omega)]
theorem sndP_cut (hv : validP pl ps (ds.map Int.ofNat) = 0) (ha : a ≤ ps.length) (hn : n ≤ a) : sndP m pl (ps.take a) (ds.take (zEnd ps a)) n w hh o = sndP m pl ps ds n w hh o := by
  obtain ⟨p0, p1, p2, _, _⟩ := valid_ends hv
  unfold sndP
  rw [checkP_cut hv ha hn, readP_cut hv ha (by omega) (by omega)]
end
theorem dx1 : decP ⟨false, false, false, false, false⟩ 1 [1] [192] 1 1 1 0 = (0, [-1], [0]) := by decide +kernel
theorem dx2 : decP ⟨false, false, false, false, false⟩ 1 [1] [192] 0 1 1 0 = (0, [0], [1]) := by decide +kernel
theorem dx3 : sndP ⟨false, false, false, false, true⟩ 1 [0] [] 1 1 1 0 = (0, 0) := by decide +kernel
set_option maxRecDepth 10000
theorem sl_int {h : Heap} {s : Value} {xs : List Int} (hs : Sl h 1 s xs.length (i64s xs)) {i : Nat} (hi : i < xs.length) : ∃ id off b, s = .slice (some ⟨id, off, none⟩) xs.length 1 ∧ blk? h id = some b ∧ b.cells[off + i]? = some (.int .i64 xs[i]) := by
  obtain ⟨id, off, b, e, hb, hc⟩ := hs.get hi
  have := hc 0 (by omega)
  refine ⟨id, off, b, e, hb, ?_⟩
  rw [Nat.mul_one, Nat.add_zero, Nat.add_zero] at this
  rw [this]; simp [i64s, hi]
section
variable {h : Heap} {R : Value → Heap → Prop} {s t : Value} {xs ys : List Int}
theorem same_loop_18 {k : List RItem} (hs : Sl h 1 s xs.length (i64s xs)) (ht : Sl h 1 t ys.length (i64s ys)) (he : xs.length = ys.length) (hl : xs.length < 1000000)
    (hk : ∀ (K0 K1 K2 K3 K5 K6 K7 K8 K9 Ka Kb Kc Kd Ke Kf Kg Kh Ki Kj Kk Kl Km Kn Ko Kp : Value), xs = ys → Ok tab R45 k #[K0,K1,K2,K3,.bool false,K5,K6,K7,K8,K9,Ka,Kb,Kc,Kd,Ke,Kf,Kg,Kh,Ki,Kj,Kk,Kl,Km,Kn,Ko,Kp] h R) (hb : xs ≠ ys → R (.bool false) h) :
    ∀ (d i : Nat) (K2 K3 K5 K6 K7 K8 K9 Ka Kb Ke Kf Kg Kh Ki Kj Kk Kl Km Kn Ko Kp : Value), i + d = xs.length → xs.take i = ys.take i → Ok tab R45 (.inLoop L45_0 :: .inBlock 0 :: k) #[s,t,K2,K3,.bool false,K5,K6,K7,K8,K9,Ka,Kb,.int .i64 (xs.length : Nat),.int .i64 (i : Nat),Ke,Kf,Kg,Kh,Ki,Kj,Kk,Kl,Km,Kn,Ko,Kp] h R := by
  intro d
  induction d with
  | zero =>
    intro i K2 K3 K5 K6 K7 K8 K9 Ka Kb Ke Kf Kg Kh Ki Kj Kk Kl Km Kn Ko Kp hd hv
    obtain rfl : i = xs.length := by omega
    rw [List.take_of_length_le (Nat.le_refl _), he, List.take_of_length_le (Nat.le_refl _)] at hv
    rw [ok_round, l45_0, L45_0a, L45_0b]
    simp
    exact hk _ _ _ _ _ _ _ _ _ _ _ _ _ _ _ _ _ _ _ _ _ _ _ _ _ hv
  | succ d ih =>
    intro i K2 K3 K5 K6 K7 K8 K9 Ka Kb Ke Kf Kg Kh Ki Kj Kk Kl Km Kn Ko Kp hd hv
    have hi : i < xs.length := by omega
    have hi' : i < ys.length := by omega
    have hlt : (i : Int) < (xs.length : Int) := by omega
    have hlt' : (i : Int) < (ys.length : Int) := by omega
    obtain ⟨id, off, b, e, hbk, hc⟩ := sl_int hs hi
    obtain ⟨id', off', b', e', hbk', hc'⟩ := sl_int ht hi'
    have hw : IntKind.i64.wrap ((i : Int) + 1) = ((i + 1 : Nat) : Int) := wrapN (n := i + 1) (by omega)
    have ih' := fun K2 K3 K5 K6 K7 K8 K9 Ka Kb Ke Kf Kg Kh Ki Kj Kk Kl Km Kn Ko Kp => ih (i + 1) K2 K3 K5 K6 K7 K8 K9 Ka Kb Ke Kf Kg Kh Ki Kj Kk Kl Km Kn Ko Kp (by omega)
    generalize hi1 : ((i + 1 : Nat) : Int) = i1 at *
    rw [e, e'] at ih' ⊢
    rw [ok_round, l45_0, L45_0a, L45_0b]
    by_cases hx : xs[i] = ys[i]
    · have hx' : (xs[i] != ys[i]) = false := by simp [hx]
      have ee : xs.take (i + 1) = ys.take (i + 1) := by
        rw [List.take_succ_eq_append_getElem hi, List.take_succ_eq_append_getElem hi', hv, hx]
      simp [hlt, hlt', hbk, hbk', hc, hc', hx', hw]
      exact ih' _ _ _ _ _ _ _ _ _ _ _ _ _ _ _ _ _ _ _ _ _ ee
    · have hx' : (xs[i] != ys[i]) = true := by simpa using hx
      simp [hlt, hlt', hbk, hbk', hc, hc', hx', fin45]
      exact hb fun e => hx (by simp [e])
theorem same_18 (hs : Sl h 1 s xs.length (i64s xs)) (ht : Sl h 1 t ys.length (i64s ys)) (hl : xs.length < 1000000) : Ret tab 45 [s, t] h R = R (.bool (decide (xs = ys))) h := by
  have key : Ret tab 45 [s, t] h fun v h' => v = .bool (decide (xs = ys)) ∧ h' = h := by
    obtain ⟨sa, sc, hss⟩ := hs.shape
    obtain ⟨ta, tc, hts⟩ := ht.shape
    rw [enter45, B45]
    by_cases he : xs.length = ys.length
    · have he' : ((xs.length : Int) != (ys.length : Int)) = false := by simp [he]
      have hL := fun K2 K3 K5 K6 K7 K8 K9 Ka Kb Ke Kf Kg Kh Ki Kj Kk Kl Km Kn Ko Kp => same_loop_18 (R := fun v h' => v = .bool (decide (xs = ys)) ∧ h' = h) (k := [.code (tlC 3 B45)]) hs ht he hl
        (fun K0 K1 K2 K3 K5 K6 K7 K8 K9 Ka Kb Kc Kd Ke Kf Kg Kh Ki Kj Kk Kl Km Kn Ko Kp hxy => by
          simp only [nthC, tlC, fstC, B45]
          simp [hxy, fin45]) (fun hxy => by simp [hxy]) xs.length 0 K2 K3 K5 K6 K7 K8 K9 Ka Kb Ke Kf Kg Kh Ki Kj Kk Kl Km Kn Ko Kp (by omega) rfl
      simp only [tlC, B45] at hL
      rw [hss, hts] at hL ⊢
      simp [he']
      exact hL _ _ _ _ _ _ _ _ _ _ _ _ _ _ _ _ _ _ _ _ _
    · have he' : ((xs.length : Int) != (ys.length : Int)) = true := by simp only [bne_iff_ne, ne_eq]; omega
      have hne : ¬ xs = ys := fun x => he (by rw [x])
      rw [hss, hts]
      simp [he', hne, fin45]
  obtain ⟨v, h', e, rfl, rfl⟩ := ret_ex key
  exact e R
end
set_option maxRecDepth 10000

deriving instance DecidableEq for Cd
theorem Sl.lit1 {h : Heap} {id : Nat} {v : Value} (hb : blk? h id = some ⟨false, [v]⟩) : Sl h 1 (.slice (some ⟨id, 0, none⟩) 1 1) 1 [v] := ⟨rfl, .inr ⟨id, 0, rfl, .inr ⟨_, hb, by simp, by simp⟩⟩⟩
theorem Ints.lit1 {h : Heap} {id : Nat} {v : Int} (hb : blk? h id = some ⟨false, [.int .i64 v]⟩) (hv : -9223372036854775808 ≤ v ∧ v < 9223372036854775808) : Ints h (.slice (some ⟨id, 0, none⟩) 1 1) [v] := by
  refine ⟨Sl.lit1 hb, by simp; exact blk?_lt hb, fun j b hj hb' n => ?_, fun w hw => by simp at hw; subst hw; exact hv⟩
  simp [sid] at hj; subst hj
  rw [hb] at hb'; injection hb' with hb'; subst hb'
  simp [belowL]
section
variable {h : Heap} {R : Value → Heap → Prop} {k : List RItem}
end
set_option maxRecDepth 10000
theorem rk_lit {k : IntKind} {h : Heap} {id : Nat} {v : Int} (hb : blk? h id = some ⟨false, [.int k v]⟩) (hv : (Lit.int k v).wf = true) : Rk k h (.slice (some ⟨id, 0, none⟩) 1 1) [v] :=
  Rk.own ⟨rfl, .inr ⟨id, rfl, hb⟩⟩ (by simp; exact blk?_lt hb) (fun w hw => by simp at hw; subst hw; exact hv)
theorem lit_sl {h : Heap} {id : Nat} {v : Int} (hb : blk? h id = some ⟨false, [.int .i64 v]⟩) : Sl h 1 (.slice (some ⟨id, 0, none⟩) 1 1) [v].length (i64s [v]) := Sl.lit1 hb
set_option maxRecDepth 10000

set_option maxHeartbeats 4000000 in
theorem awake18_c {h : Heap} : Gives 41 [] h (.bool true) := by
  refine Gives.mk fun R0 hR => ?_
  have bZ : blk? (h ++ [some (⟨false, [.int .i64 1]⟩ : Blk), some ⟨false, [.int .u8 192]⟩, some ⟨false, [.int .i64 0, .slice none 0 0, .slice none 0 0]⟩]) (h.length + 2) = some ⟨false, [.int .i64 0, .slice none 0 0, .slice none 0 0]⟩ := by rw [app_add]; rfl
  generalize hG : h ++ [some (⟨false, [.int .i64 1]⟩ : Blk), some ⟨false, [.int .u8 192]⟩, some ⟨false, [.int .i64 1, .slice (some ⟨h.length, 0, none⟩) 1 1, .slice (some ⟨h.length + 1, 0, none⟩) 1 1]⟩] = G
  have lG : G.length = h.length + 3 := by rw [← hG]; simp
  have kG : ∀ id, id < h.length → blk? G id = blk? h id := fun id hid => by rw [← hG]; exact app_lt hid
  have g0 : blk? G h.length = some ⟨false, [.int .i64 1]⟩ := by rw [← hG, app_len]; rfl
  have g1 : blk? G (h.length + 1) = some ⟨false, [.int .u8 192]⟩ := by rw [← hG, app_add]; rfl
  have g2 : blk? G (h.length + 2) = some ⟨false, [.int .i64 1, .slice (some ⟨h.length, 0, none⟩) 1 1, .slice (some ⟨h.length + 1, 0, none⟩) 1 1]⟩ := by rw [← hG, app_add]; rfl
  have P1 : Rk .i64 G (.slice (some ⟨h.length, 0, none⟩) 1 1) [1] := rk_lit g0 (by decide)
  have D1 : Rk .u8 G (.slice (some ⟨h.length + 1, 0, none⟩) 1 1) ([192].map Int.ofNat) := rk_lit g1 (by decide)
  -- all of it, and nothing of it
  obtain ⟨v1, y1, H1, e1, V1⟩ := decode_c (m := ⟨false, false, false, false, false⟩) (pl := 1) (n := 1) (w := 1) (hh := 1) (o := 0) P1 D1 (by simp) (by simp) (by simp)
  rw [dx1] at e1 V1
  have k1 := V1.low
  have l1 := V1.len
  have P2 : Rk .i64 H1 (.slice (some ⟨h.length, 0, none⟩) 1 1) [1] := P1.keep l1 fun id hid _ => k1 id hid
  have D2 : Rk .u8 H1 (.slice (some ⟨h.length + 1, 0, none⟩) 1 1) ([192].map Int.ofNat) := D1.keep l1 fun id hid _ => k1 id hid
  have g21 : blk? H1 (h.length + 2) = some ⟨false, [.int .i64 1, .slice (some ⟨h.length, 0, none⟩) 1 1, .slice (some ⟨h.length + 1, 0, none⟩) 1 1]⟩ := by rw [k1 _ (by omega)]; exact g2
  obtain ⟨v2, y2, H2, e2, V2⟩ := decode_c (m := ⟨false, false, false, false, false⟩) (pl := 1) (n := 0) (w := 1) (hh := 1) (o := 0) P2 D2 (by simp) (by simp) (by simp)
  rw [dx2] at e2 V2
  have k2 := V2.low
  have l2 := V2.len
  -- the check symbols
  generalize hA : H2 ++ [some (⟨false, [.int .i64 0]⟩ : Blk)] = A
  have lA : A.length = H2.length + 1 := by rw [← hA]; simp
  have kA : ∀ id, id < H2.length → blk? A id = blk? H2 id := fun id hid => by rw [← hA]; exact blk?_push_lt hid
  have bA : blk? A H2.length = some ⟨false, [.int .i64 0]⟩ := by rw [← hA]; exact blk?_push_eq
  have PA : Rk .i64 A (.slice (some ⟨H2.length, 0, none⟩) 1 1) [0] := rk_lit bA (by decide)
  obtain ⟨H3, e3, k3, l3⟩ := sound_c (m := ⟨false, false, false, false, true⟩) (pl := 1) (n := 1) (w := 1) (hh := 1) (o := 0) (ds := []) PA (Rk.none .u8 A) (by simp) (by simp) (by simp)
  rw [dx3] at e3
  -- what is compared
  have o1 : OwnS H3 1 v1 [(-1 : Int)].length (i64s [-1]) := V1.o1.of_blk fun id hid hb => by have := V1.o1.lt hid; rw [k3 id (by omega), kA id (by omega), k2 id (by omega)]; exact hb
  have q1 : OwnS H3 1 y1 [(0 : Int)].length (i64s [0]) := V1.o2.of_blk fun id hid hb => by have := V1.o2.lt hid; rw [k3 id (by omega), kA id (by omega), k2 id (by omega)]; exact hb
  have o2 : OwnS H3 1 v2 [(0 : Int)].length (i64s [0]) := V2.o1.of_blk fun id hid hb => by have := V2.o1.lt hid; rw [k3 id (by omega), kA id (by omega)]; exact hb
  have q2 : OwnS H3 1 y2 [(1 : Int)].length (i64s [1]) := V2.o2.of_blk fun id hid hb => by have := V2.o2.lt hid; rw [k3 id (by omega), kA id (by omega)]; exact hb
  -- four comparisons, each with a list of its own
  have cmp : ∀ (F : Heap) (v : Value) (x : Int), OwnS F 1 v [x].length (i64s [x]) → ∀ R, Ret tab 45 [v, .slice (some ⟨F.length, 0, none⟩) 1 1] (F ++ [some ⟨false, [.int .i64 x]⟩]) R = R (.bool true) (F ++ [some ⟨false, [.int .i64 x]⟩]) := by
    intro F v x hv R
    have hv' : OwnS (F ++ [some ⟨false, [.int .i64 x]⟩]) 1 v [x].length (i64s [x]) := hv.of_blk fun id hid hb => by rw [blk?_push_lt (hv.lt hid)]; exact hb
    have := same_18 (R := R) hv'.sl (lit_sl (h := F ++ [some ⟨false, [.int .i64 x]⟩]) (id := F.length) (v := x) blk?_push_eq) (by simp)
    simpa using this
  have push : ∀ (F : Heap) (v : Value) (x y : Int), OwnS F 1 v [x].length (i64s [x]) → OwnS (F ++ [some ⟨false, [.int .i64 y]⟩]) 1 v [x].length (i64s [x]) := fun F v x y hv => hv.of_blk fun id hid hb => by rw [blk?_push_lt (hv.lt hid)]; exact hb
  generalize hF1 : H3 ++ [some (⟨false, [.int .i64 (-1)]⟩ : Blk)] = F1
  have s1 := cmp H3 v1 (-1) o1
  rw [hF1] at s1
  have q1' : OwnS F1 1 y1 [(0 : Int)].length (i64s [0]) := by rw [← hF1]; exact push _ _ _ _ q1
  have o2' : OwnS F1 1 v2 [(0 : Int)].length (i64s [0]) := by rw [← hF1]; exact push _ _ _ _ o2
  have q2' : OwnS F1 1 y2 [(1 : Int)].length (i64s [1]) := by rw [← hF1]; exact push _ _ _ _ q2
  generalize hF2 : F1 ++ [some (⟨false, [.int .i64 0]⟩ : Blk)] = F2
  have s2 := cmp F1 y1 0 q1'
  rw [hF2] at s2
  have o2'' : OwnS F2 1 v2 [(0 : Int)].length (i64s [0]) := by rw [← hF2]; exact push _ _ _ _ o2'
  have q2'' : OwnS F2 1 y2 [(1 : Int)].length (i64s [1]) := by rw [← hF2]; exact push _ _ _ _ q2'
  generalize hF3 : F2 ++ [some (⟨false, [.int .i64 0]⟩ : Blk)] = F3
  have s3 := cmp F2 v2 0 o2''
  rw [hF3] at s3
  have q3 : OwnS F3 1 y2 [(1 : Int)].length (i64s [1]) := by rw [← hF3]; exact push _ _ _ _ q2''
  generalize hF4 : F3 ++ [some (⟨false, [.int .i64 1]⟩ : Blk)] = F4
  have s4 := cmp F3 y2 1 q3
  rw [hF4] at s4
  have lF1 : F1.length = H3.length + 1 := by rw [← hF1]; simp
  have lF2 : F2.length = F1.length + 1 := by rw [← hF2]; simp
  have lF3 : F3.length = F2.length + 1 := by rw [← hF3]; simp
  have lF4 : F4.length = F3.length + 1 := by rw [← hF4]; simp
  have hR' := hR F4 (fun id hid => by rw [← hF4, blk?_push_lt (by omega), ← hF3, blk?_push_lt (by omega), ← hF2, blk?_push_lt (by omega), ← hF1, blk?_push_lt (by omega), k3 id (by omega), kA id (by omega), k2 id (by omega), k1 id (by omega), kG id hid]) (by omega)
  clear hR
  obtain ⟨va1, vc1, hv1⟩ := o1.sl.shape
  obtain ⟨ya1, yc1, hy1⟩ := q1.sl.shape
  obtain ⟨va2, vc2, hv2⟩ := o2.sl.shape
  obtain ⟨ya2, yc2, hy2⟩ := q2.sl.shape
  simp only [MD.val] at e1 e2 e3
  rw [hv1, hy1] at e1
  rw [hv2, hy2] at e2
  rw [hv1] at s1
  rw [hy1] at s2
  rw [hv2] at s3
  rw [hy2] at s4
  simp only [List.length_cons, List.length_nil, Nat.zero_add] at e1 e2 s1 s2 s3 s4
  rw [enter41, show B41 = .seq (nthC 0 B41) (.seq (nthC 1 B41) (.seq (nthC 2 B41) (.seq (nthC 3 B41) (.seq (nthC 4 B41) (tlC 5 B41))))) from rfl]
  generalize hT : tlC 5 B41 = tl
  simp only [nthC, tlC, fstC, B41]
  simp [repL, blk?_push_eq, bZ, hG, g2, e1, g21, e2, hA, e3]
  rw [← hT]
  simp only [nthC, tlC, fstC, B41]
  simp [repL, k_guard, k_guardU, blk?_push_eq, hF1, s1, hF2, s2, hF3, s3, hF4, s4, fin41]
  exact hR'
set_option maxRecDepth 10000
def few18P (np nd : Nat) (w hh : Int) : Bool := decide (np ≤ 300 ∧ nd ≤ 20000 ∧ (w < 1 ∨ 64 < w ∨ hh < 1 ∨ 64 < hh ∨ w * hh ≤ 144))
section
variable {h : Heap} {pv dv : Value} {pl w hh o : Int} {ps ds : List Int} {x1 x2 x3 x4 x5 : Bool}
set_option maxHeartbeats 1000000 in
theorem few18_c (hp : Rk .i64 h pv ps) (hd : Rk .u8 h dv ds) : Gives 40 [.agg #[.int .i64 pl, pv, dv], .agg #[.int .i64 w, .int .i64 hh, .int .i64 o, .bool x1, .bool x2, .bool x3, .bool x4, .bool x5]] h (.bool (few18P ps.length ds.length w hh)) := by
  refine Gives.mk fun R0 hR => ?_
  obtain ⟨pa, pc, hpv⟩ := hp.sl.shape
  obtain ⟨da, dc, hdv⟩ := hd.sl.shape
  generalize hH : h ++ [some (⟨false, [.int .i64 pl, pv, dv]⟩ : Blk), some ⟨false, [.int .i64 w, .int .i64 hh, .int .i64 o, .bool x1, .bool x2, .bool x3, .bool x4, .bool x5]⟩] = H
  have b0 : blk? H h.length = some ⟨false, [.int .i64 pl, pv, dv]⟩ := by rw [← hH, app_len]; rfl
  have b1 : blk? H (h.length + 1) = some ⟨false, [.int .i64 w, .int .i64 hh, .int .i64 o, .bool x1, .bool x2, .bool x3, .bool x4, .bool x5]⟩ := by rw [← hH, app_add]; rfl
  have hR' := hR H (fun id hid => by rw [← hH]; exact app_lt hid) (by rw [← hH]; simp)
  clear hR
  rw [hpv, hdv] at hH b0
  rw [hpv, hdv, enter40, B40]
  unfold few18P at hR'
  by_cases c1 : ps.length ≤ 300
  case neg =>
    have c1' : ¬ (ps.length : Int) ≤ 300 := by omega
    simp [c1] at hR'
    simp [k_guard, k_guardU, hH, b0, b1, c1', fin40]
    exact hR'
  have c1' : (ps.length : Int) ≤ 300 := by omega
  by_cases c2 : ds.length ≤ 20000
  case neg =>
    have c2' : ¬ (ds.length : Int) ≤ 20000 := by omega
    simp [c2] at hR'
    simp [k_guard, k_guardU, hH, b0, b1, c1', c2', fin40]
    exact hR'
  have c2' : (ds.length : Int) ≤ 20000 := by omega
  by_cases c3 : w < 1
  · simp [c1, c2, c3] at hR'
    simp [k_guard, k_guardU, hH, b0, b1, c1', c2', c3, fin40]
    exact hR'
  by_cases c4 : 64 < w
  · simp [c1, c2, c3, c4] at hR'
    simp [k_guard, k_guardU, hH, b0, b1, c1', c2', c3, c4, fin40]
    exact hR'
  by_cases c5 : hh < 1
  · simp [c1, c2, c3, c4, c5] at hR'
    simp [k_guard, k_guardU, hH, b0, b1, c1', c2', c3, c4, c5, fin40]
    exact hR'
  by_cases c6 : 64 < hh
  · simp [c1, c2, c3, c4, c5, c6] at hR'
    simp [k_guard, k_guardU, hH, b0, b1, c1', c2', c3, c4, c5, c6, fin40]
    exact hR'
  have hm : w * hh ≤ 64 * 64 := Int.mul_le_mul (by omega) (by omega) (by omega) (by omega)
  have hm0 : 0 ≤ w * hh := Int.mul_nonneg (by omega) (by omega)
  have hw : IntKind.i64.wrap (w * hh) = w * hh := by rw [wrapI (by omega) (by omega)]
  by_cases c7 : w * hh ≤ 144
  · simp [c1, c2, c3, c4, c5, c6, c7] at hR'
    simp [k_guard, k_guardU, hH, b0, b1, c1', c2', c3, c4, c5, c6, hw, c7, fin40]
    exact hR'
  · simp [c1, c2, c3, c4, c5, c6, c7] at hR'
    simp [k_guard, k_guardU, hH, b0, b1, c1', c2', c3, c4, c5, c6, hw, c7, fin40]
    exact hR'
end
theorem lv_play {α : Type} {Q : α → Prop} : ∀ {t : Tr α} {n : Nat} {l l' : List (Int × Int)} {a : α}, t.Lv Q n → t.play l = some (a, l') → Q a
  | .ret a, n, l, l', a', h, hp => by
    simp only [Tr.play, Option.some.injEq, Prod.mk.injEq] at hp
    unfold Tr.Lv at h
    rw [← hp.1]; exact h
  | .ask c k, 0, l, l', a, h, hp => by simp [Tr.Lv] at h
  | .ask c k, n + 1, [], l', a, h, hp => by simp [Tr.play] at hp
  | .ask c k, n + 1, p :: l, l', a, h, hp => by
    unfold Tr.Lv at h
    rw [Tr.play] at hp
    split at hp
    · exact lv_play (h _) hp
    · cases hp
theorem vLoop_le {m : MD} {planes o : Nat} (hpl : planes ≤ 60) (h1 : 1 ≤ planes) (ho : o ≤ 3) : ∀ (ls : List (List (Int × Int))) (n : Nat) (b : BS), b.Good → b.Le (vLoop m planes o n b ls).1
  | [], n, b, hg => BS.Le.refl hg
  | l :: ls, n, b, hg => by
    rw [vLoop]
    cases hp : (dRun m b n planes o).play l with
    | none => exact BS.Le.refl hg
    | some r =>
      obtain ⟨r, l'⟩ := r
      have hle : b.Le r.1 := lv_play (Q := fun r : BS × Bool => b.Le r.1) (lv_dRun (m := m) (n := n) hg (runPP_ok hpl h1 ho)) hp
      simp only
      split
      · exact hle
      · cases l' with
        | nil => exact hle.trans (vLoop_le hpl h1 ho ls (n + 1) r.1 hle.good)
        | cons x l' => exact hle
theorem decP_len (m : MD) (pl : Int) (ps : List Int) (ds : List Nat) (n w hh o : Int) : (decP m pl ps ds n w hh o).2.1.length ≤ 4096 ∧ (decP m pl ps ds n w hh o).2.2.length ≤ 4096 := by
  unfold decP
  split
  · simp
  rename_i hc
  have hc : checkP pl ps (ds.map Int.ofNat) n w hh o = 0 := by simpa using hc
  obtain ⟨hv, n0, n1, w1, w2, h1, h2, o0, o1⟩ := check_ok hc
  obtain ⟨p0, p1, p2, _, p4⟩ := valid_ends hv
  generalize hls : (readP m pl o ps ds n.toNat w.toNat hh.toNat).ls.map toI = ls
  have hlen : ls.length = n.toNat := by rw [← hls, List.length_map, readP_len m pl o ps ds (by omega)]
  unfold valRes
  split
  · simp
  · have hg : (newBS w.toNat hh.toNat).Good := newBS_good (by omega) (by omega) (by omega) (by omega)
    have hle : (newBS w.toNat hh.toNat).Le (vLoop m pl.toNat o.toNat 0 (newBS w.toNat hh.toNat) ls).1 := by
      by_cases hp : pl = 0
      · have : ls = [] := List.length_eq_zero_iff.1 (by omega)
        rw [this]; exact BS.Le.refl hg
      · exact vLoop_le (by omega) (by omega) (by omega) ls 0 _ hg
    have hcl := hle.good.ok.len
    rw [hle.w, hle.h] at hcl
    have hm : w.toNat * hh.toNat ≤ 64 * 64 := Nat.mul_le_mul (by omega) (by omega)
    have e : (newBS w.toNat hh.toNat).w * (newBS w.toNat hh.toNat).h = w.toNat * hh.toNat := rfl
    simp only
    split
    · simp
    · simp only [List.length_map]
      constructor <;> omega
/-- A list of bytes, as natural numbers. -/
theorem Rk.nat {h : Heap} {s : Value} {ds : List Int} (hd : Rk .u8 h s ds) : ∃ dn : List Nat, ds = dn.map Int.ofNat ∧ ∀ x ∈ dn, x < 256 := by
  have hr : ∀ v ∈ ds, 0 ≤ v ∧ v < 256 := fun v hv => by
    have := hd.rng v hv
    simp [Lit.wf, IntKind.min, IntKind.max, IntKind.signed, IntKind.bits] at this
    omega
  refine ⟨ds.map Int.toNat, ?_, fun x hx => ?_⟩
  · rw [List.map_map]
    have : ds.map (Int.ofNat ∘ Int.toNat) = ds.map id := List.map_congr_left fun v hv => by
      have := hr v hv
      simp; omega
    rw [this, List.map_id]
  · obtain ⟨v, hv, rfl⟩ := List.mem_map.1 hx
    have := hr v hv
    omega
set_option maxRecDepth 10000

section
variable {h : Heap} {pv dv : Value} {pl : Int} {ps ds : List Int} {x1 x2 x3 x4 x5 : Bool}

set_option maxHeartbeats 4000000 in
theorem ret_truncates18 {a b w hh o : Int} (hp : Rk .i64 h pv ps) (hd : Rk .u8 h dv ds) :
    Ret tab 9 [.agg #[.int .i64 pl, pv, dv], .agg #[.int .i64 a, .int .i64 b], .agg #[.int .i64 w, .int .i64 hh, .int .i64 o, .bool x1, .bool x2, .bool x3, .bool x4, .bool x5]] h fun v _ => v = .bool true := by
  obtain ⟨dn, rfl, hdn⟩ := Rk.nat hd
  obtain ⟨pa, pc, hpv⟩ := hp.sl.shape
  obtain ⟨da, dc, hdv⟩ := hd.sl.shape
  rw [List.length_map] at hdv
  generalize hH : h ++ [some (⟨false, [.int .i64 pl, pv, dv]⟩ : Blk), some ⟨false, [.int .i64 a, .int .i64 b]⟩, some ⟨false, [.int .i64 w, .int .i64 hh, .int .i64 o, .bool x1, .bool x2, .bool x3, .bool x4, .bool x5]⟩] = H
  have b0 : blk? H h.length = some ⟨false, [.int .i64 pl, pv, dv]⟩ := by rw [← hH, app_len]; rfl
  have b1 : blk? H (h.length + 1) = some ⟨false, [.int .i64 a, .int .i64 b]⟩ := by rw [← hH, app_add]; rfl
  have b2 : blk? H (h.length + 2) = some ⟨false, [.int .i64 w, .int .i64 hh, .int .i64 o, .bool x1, .bool x2, .bool x3, .bool x4, .bool x5]⟩ := by rw [← hH, app_add]; rfl
  have lH : H.length = h.length + 3 := by rw [← hH]; simp
  have hpH : Rk .i64 H pv ps := by rw [← hH]; exact hp.push _
  have hdH : Rk .u8 H dv (dn.map Int.ofNat) := by rw [← hH]; exact hd.push _
  obtain ⟨H1, e1, k1, l1⟩ := few18_c (pl := pl) (w := w) (hh := hh) (o := o) (x1 := x1) (x2 := x2) (x3 := x3) (x4 := x4) (x5 := x5) hpH hdH
  have low : ∀ {G : Heap}, (∀ id, id < H.length → blk? G id = blk? H id) → H.length ≤ G.length → blk? G h.length = some ⟨false, [.int .i64 pl, pv, dv]⟩ ∧ blk? G (h.length + 1) = some ⟨false, [.int .i64 a, .int .i64 b]⟩ ∧ blk? G (h.length + 2) = some ⟨false, [.int .i64 w, .int .i64 hh, .int .i64 o, .bool x1, .bool x2, .bool x3, .bool x4, .bool x5]⟩ ∧ Rk .i64 G pv ps ∧ Rk .u8 G dv (dn.map Int.ofNat) := fun kG lG =>
    ⟨by rw [kG _ (by omega)]; exact b0, by rw [kG _ (by omega)]; exact b1, by rw [kG _ (by omega)]; exact b2, hpH.keep lG fun id hid _ => kG id hid, hdH.keep lG fun id hid _ => kG id hid⟩
  rw [enter9, show B9 = .seq (nthC 0 B9) (.seq (nthC 1 B9) (.seq (nthC 2 B9) (.seq (nthC 3 B9) (tlC 4 B9)))) from rfl]
  generalize hT : tlC 4 B9 = tl
  simp only [nthC, tlC, fstC, B9]
  cases hf : few18P ps.length (dn.map Int.ofNat).length w hh with
  | false =>
    obtain ⟨H2, e2, k2, l2⟩ := awake18_c (h := H1)
    rw [hf] at e1
    rw [hpv, hdv] at hH b0 e1
    rw [hpv, hdv]
    simp [hH, b0, b1, b2, e1, e2, fin9]
  | true =>
  rw [hf] at e1
  obtain ⟨f1, f2, _⟩ : ps.length ≤ 300 ∧ (dn.map Int.ofNat).length ≤ 20000 ∧ (w < 1 ∨ 64 < w ∨ hh < 1 ∨ 64 < hh ∨ w * hh ≤ 144) := by simpa only [few18P, decide_eq_true_eq] using hf
  obtain ⟨b01, b11, b21, hp1, hd1⟩ := low k1 l1
  obtain ⟨v2, H2, e2, c2n, c2, k2, l2⟩ := trunc_c (m := ⟨x1, x2, x3, x4, x5⟩) (pl := pl) hp1 hd1 (by omega) (by omega) b
  simp only [MD.val] at e2
  by_cases ht : truncE pl ps (dn.map Int.ofNat) b = 0
  case neg =>
    obtain ⟨p2, d2, rfl, P2, D2, _, _⟩ := (c2n ht).ex
    obtain ⟨pa2, pc2, rfl⟩ := P2.sl.shape
    obtain ⟨da2, dc2, rfl⟩ := D2.sl.shape
    have ht' : (truncE pl ps (dn.map Int.ofNat) b != 0) = true := by simpa using ht
    obtain ⟨H3, e3, _, _⟩ := awake18_c (h := H2 ++ [some ⟨false, [.int .i64 0, .slice pa2 0 pc2, .slice da2 0 dc2]⟩])
    simp only [List.length_nil] at e2
    rw [hpv, hdv] at hH b0 e1 b01 e2
    rw [hpv, hdv]
    simp [k_guard, k_guardU, hH, b0, b1, b2, e1, b01, b11, b21, e2, blk?_push_eq, ht', e3, fin9]
  have ht' : (truncE pl ps (dn.map Int.ofNat) b != 0) = false := by simpa using ht
  rw [ht] at e2
  have hv : validP pl ps (dn.map Int.ofNat) = 0 ∧ 0 ≤ b ∧ b ≤ (ps.length : Int) := by
    unfold truncE at ht
    split at ht
    · rename_i h1; exact absurd ht h1
    · rename_i h1
      split at ht
      · cases ht
      · exact ⟨by simpa using h1, by omega, by omega⟩
  obtain ⟨hv, hb0, hb1⟩ := hv
  obtain ⟨b, rfl⟩ := Int.eq_ofNat_of_zero_le hb0
  have hbl : b ≤ ps.length := by omega
  have hca := c2 ht
  rw [Int.toNat_natCast, truncD_nat] at hca
  obtain ⟨p2, d2, rfl, P2, D2, _, _⟩ := hca.ex
  have hla : (ps.take b).length ≤ 300 := by rw [List.length_take]; omega
  have hlz : (dn.take (zEnd ps b)).length ≤ 20000 := by rw [List.length_take]; rw [List.length_map] at f2; omega
  generalize hA : H2 ++ [some (⟨false, [.int .i64 pl, p2, d2]⟩ : Blk)] = A
  have lA : A.length = H2.length + 1 := by rw [← hA]; simp
  have kA : ∀ id, id < H2.length → blk? A id = blk? H2 id := fun id hid => by rw [← hA]; exact blk?_push_lt hid
  have kHA : ∀ id, id < H.length → blk? A id = blk? H id := fun id hid => by rw [kA id (by omega), k2 id (by omega), k1 id hid]
  obtain ⟨b0A, b1A, b2A, hpA, hdA⟩ := low kHA (by omega)
  have bxA : blk? A H2.length = some ⟨false, [.int .i64 pl, p2, d2]⟩ := by rw [← hA]; exact blk?_push_eq
  have P2A : Rk .i64 A p2 (ps.take b) := P2.keep (by omega) fun id hid _ => kA id hid
  have D2A : Rk .u8 A d2 ((dn.take (zEnd ps b)).map Int.ofNat) := D2.keep (by omega) fun id hid _ => kA id hid
  obtain ⟨pa2, pc2, hp2⟩ := P2.sl.shape
  obtain ⟨da2, dc2, hd2⟩ := D2.sl.shape
  generalize (List.map Int.ofNat (List.take (zEnd ps b) dn)).length = n2 at hd2
  generalize (List.take b ps).length = n1 at hp2
  by_cases hab : (b : Int) < a
  · obtain ⟨H3, e3, _, _⟩ := awake18_c (h := A)
    rw [hp2, hd2] at e2 hA
    rw [hpv, hdv] at hH b0 e1 b01 e2
    rw [hpv, hdv]
    simp [k_guard, k_guardU, hH, b0, b1, b2, e1, b01, b11, b21, e2, blk?_push_eq, hA, b1A, hab, e3, fin9]
  have hna : a ≤ (b : Int) := by omega
  have hds2 : ∀ x ∈ dn.take (zEnd ps b), x < 256 := fun x hx => hdn x (List.mem_of_mem_take hx)
  rw [List.length_map] at f2
  -- both are decoded
  obtain ⟨v3, y3, H3, e3, V3⟩ := decode_c (m := ⟨x1, x2, x3, x4, x5⟩) (pl := pl) (n := a) (w := w) (hh := hh) (o := o) hpA hdA hdn (by omega) (by omega)
  have k3 := V3.low
  have l3 := V3.len
  have P23 : Rk .i64 H3 p2 (ps.take b) := P2A.keep l3 fun id hid _ => k3 id hid
  have D23 : Rk .u8 H3 d2 ((dn.take (zEnd ps b)).map Int.ofNat) := D2A.keep l3 fun id hid _ => k3 id hid
  obtain ⟨v4, y4, H4, e4, V4⟩ := decode_c (m := ⟨x1, x2, x3, x4, x5⟩) (pl := pl) (n := a) (w := w) (hh := hh) (o := o) P23 D23 hds2 (by omega) (by omega)
  rw [decP_cut hv hbl hna] at e4 V4
  have k4 := V4.low
  have l4 := V4.len
  obtain ⟨dl1, dl2⟩ := decP_len ⟨x1, x2, x3, x4, x5⟩ pl ps dn a w hh o
  generalize decP ⟨x1, x2, x3, x4, x5⟩ pl ps dn a w hh o = X at *
  obtain ⟨X0, X1, X2⟩ := X
  have low3 := low (G := H3) (fun id hid => by rw [k3 id (by omega), kHA id hid]) (by omega)
  obtain ⟨b03, b13, b23, hp3, hd3⟩ := low3
  have bx3 : blk? H3 H2.length = some ⟨false, [.int .i64 pl, p2, d2]⟩ := by rw [k3 _ (by omega)]; exact bxA
  obtain ⟨b04, b14, b24, hp4, hd4⟩ := low (G := H4) (fun id hid => by rw [k4 id (by omega), k3 id (by omega), kHA id hid]) (by omega)
  have bx4 : blk? H4 H2.length = some ⟨false, [.int .i64 pl, p2, d2]⟩ := by rw [k4 _ (by omega)]; exact bx3
  -- both are checked
  obtain ⟨H5, e5, k5, l5⟩ := sound_c (m := ⟨x1, x2, x3, x4, x5⟩) (pl := pl) (n := a) (w := w) (hh := hh) (o := o) hp4 hd4 hdn (by omega) (by omega)
  obtain ⟨b05, b15, b25, hp5, hd5⟩ := low (G := H5) (fun id hid => by rw [k5 id (by omega), k4 id (by omega), k3 id (by omega), kHA id hid]) (by omega)
  have bx5 : blk? H5 H2.length = some ⟨false, [.int .i64 pl, p2, d2]⟩ := by rw [k5 _ (by omega)]; exact bx4
  have P25 : Rk .i64 H5 p2 (ps.take b) := P23.keep (by omega) fun id hid _ => by rw [k5 id (by omega), k4 id hid]
  have D25 : Rk .u8 H5 d2 ((dn.take (zEnd ps b)).map Int.ofNat) := D23.keep (by omega) fun id hid _ => by rw [k5 id (by omega), k4 id hid]
  obtain ⟨H6, e6, k6, l6⟩ := sound_c (m := ⟨x1, x2, x3, x4, x5⟩) (pl := pl) (n := a) (w := w) (hh := hh) (o := o) P25 D25 hds2 (by omega) (by omega)
  rw [sndP_cut hv hbl hna] at e6
  generalize sndP ⟨x1, x2, x3, x4, x5⟩ pl ps dn a w hh o = Y at *
  obtain ⟨Y0, Y1⟩ := Y
  simp only [MD.val] at e3 e4 e5 e6
  have o3 : OwnS H6 1 v3 X1.length (i64s X1) := V3.o1.of_blk fun id hid hb => by have := V3.o1.lt hid; rw [k6 id (by omega), k5 id (by omega), k4 id (by omega)]; exact hb
  have q3 : OwnS H6 1 y3 X2.length (i64s X2) := V3.o2.of_blk fun id hid hb => by have := V3.o2.lt hid; rw [k6 id (by omega), k5 id (by omega), k4 id (by omega)]; exact hb
  have o4 : OwnS H6 1 v4 X1.length (i64s X1) := V4.o1.of_blk fun id hid hb => by have := V4.o1.lt hid; rw [k6 id (by omega), k5 id (by omega)]; exact hb
  have q4 : OwnS H6 1 y4 X2.length (i64s X2) := V4.o2.of_blk fun id hid hb => by have := V4.o2.lt hid; rw [k6 id (by omega), k5 id (by omega)]; exact hb
  have dl1' : X1.length ≤ 4096 := dl1
  have dl2' : X2.length ≤ 4096 := dl2
  have s1 := fun R => same_18 (R := R) o3.sl o4.sl (by omega)
  have s2 := fun R => same_18 (R := R) q3.sl q4.sl (by omega)
  simp only [decide_true] at s1 s2
  obtain ⟨H7, e7, _, _⟩ := awake18_c (h := H6)
  obtain ⟨va3, vc3, hv3⟩ := o3.sl.shape
  obtain ⟨ya3, yc3, hy3⟩ := q3.sl.shape
  obtain ⟨va4, vc4, hv4⟩ := o4.sl.shape
  obtain ⟨ya4, yc4, hy4⟩ := q4.sl.shape
  rw [hv3, hy3] at e3
  rw [hv4, hy4] at e4
  rw [hv3, hv4] at s1
  rw [hy3, hy4] at s2
  rw [hp2, hd2] at e2 hA bxA bx3 bx4 bx5 e4 e6
  rw [hpv, hdv] at hH b0 e1 b01 e2 b0A b03 b04 b05 e3 e5
  rw [hpv, hdv]
  simp [k_guard, k_guardU, hH, b0, b1, b2, e1, b01, b11, b21, e2, blk?_push_eq, hA, b1A, hab]
  rw [← hT, show tlC 4 B9 = .seq (nthC 4 B9) (.seq (nthC 5 B9) (.seq (nthC 6 B9) (.seq (nthC 7 B9) (tlC 8 B9)))) from rfl]
  generalize hT : tlC 8 B9 = tl at *
  simp only [nthC, tlC, fstC, B9]
  simp [k_guard, k_guardU, b0A, b1A, b2A, e3, bx3, b13, b23, e4, b04, b14, b24, e5, bx5, b15, b25, e6]
  rw [← hT]
  simp only [nthC, tlC, fstC, B9]
  simp [k_guard, k_guardU, s1, s2, e7, fin9]
end
end Go.Proofs.Ytjpjohchdfoeaaa
