/-
  DecpassRuns: a pass of both; the contexts are the same.
-/
import Derived.Test.YtjpjohchdfoeaaaSrcA
import Derived.Test.YtjpjohchdfoeaaaEx
namespace Go.Proofs.Ytjpjohchdfoeaaa
open Go Go.Sim
set_option linter.unusedSimpArgs false
set_option linter.unusedVariables false

section
variable {h : Heap} {ga : Nat} {gv av : Value} {s : List (Int × Int)} {R : Value → Heap → Prop}
theorem encP_bel (n : Nat) : ∀ l : List (Int × Int), belowL n (encP l) = true
  | [] => by simp [encP]
  | p :: l => by simp [encP, encP_bel n l]
theorem own_frz {h : Heap} {esz n : Nat} {s : Value} {cs : List Value} (ho : OwnS h esz s n cs) (hc : ∀ n, belowL n cs = true) : Sl (frz h) esz s n cs :=
  Sl_of_cells ho.sl fun id b hid hb => by
    rcases ho.2 with ⟨rfl, _⟩ | ⟨id', rfl, hb'⟩
    · simp [sid] at hid
    · simp [sid] at hid; subst hid
      rw [hb'] at hb; injection hb with hb; subst hb
      exact ⟨_, blk_frz hb' (hc _), rfl⟩
theorem encP_at {h : Heap} {av : Value} {s : List (Int × Int)} (hs : Sl h 2 av s.length (encP s)) {i : Nat} (hi : i < s.length) :
    ∃ id off b, av = .slice (some ⟨id, off, none⟩) s.length 2 ∧ blk? h id = some b ∧ (b.cells.drop (off + i * 2)).take 2 = [.int .i64 s[i].1, .int .i64 s[i].2] ∧ off + i * 2 + 2 ≤ b.cells.length := by
  obtain ⟨id, off, b, rfl, hb, hc⟩ := hs.get hi
  obtain ⟨g0, g1⟩ := encP_get s i hi
  have c0 := hc 0 (by omega)
  have c1 := hc 1 (by omega)
  rw [Nat.add_zero, Nat.add_zero, g0] at c0
  rw [g1] at c1
  obtain ⟨ht, hle⟩ := two c0 c1
  exact ⟨id, off, b, rfl, hb, ht, hle⟩
theorem equals_loop {f : Bool} (ho : Sl h 1 gv s.length (i64s (ctxs s))) (hv : Sl h 2 av s.length (encP s)) (hb : blk? h ga = some ⟨f, [gv]⟩) (hl : s.length < 1000000) {k : List RItem}
    (hk : ∀ (H : Heap) (K0 K1 K2 K3 K4 K5 K6 K7 K8 K9 Ka Kb Kc Kd Ke Kf Kg Kh Ki Kj Kk Kl Km Kn Ko Kp Kq Kr Ks Kt Ku Kv Kw : Value), (∀ id, id < h.length → blk? H id = blk? h id) → h.length ≤ H.length → Ok tab R27 k #[K0,K1,K2,K3,K4,K5,K6,K7,K8,K9,Ka,Kb,Kc,Kd,Ke,Kf,Kg,Kh,Ki,Kj,Kk,Kl,Km,Kn,Ko,Kp,Kq,Kr,Ks,Kt,Ku,Kv,Kw] H R) :
    ∀ (n i : Nat) (H : Heap) (K1 K2 K3 K4 K5 K6 K7 K8 K9 Ka Kb Kc Kd Ke Ki Kj Kk Kl Km Kn Ko Kp Kq Kr Ks Kt Ku Kv Kw : Value), n = s.length - i → i ≤ s.length → (∀ id, id < h.length → blk? H id = blk? h id) → h.length ≤ H.length →
      Ok tab R27 (.inLoop L27_0 :: .inBlock 0 :: k) #[ptr ga,K1,K2,K3,K4,K5,K6,K7,K8,K9,Ka,Kb,Kc,Kd,Ke,av,.int .i64 s.length,.int .i64 i,Ki,Kj,Kk,Kl,Km,Kn,Ko,Kp,Kq,Kr,Ks,Kt,Ku,Kv,Kw] H R := by
  intro n
  induction n with
  | zero =>
    intro i H K1 K2 K3 K4 K5 K6 K7 K8 K9 Ka Kb Kc Kd Ke Ki Kj Kk Kl Km Kn Ko Kp Kq Kr Ks Kt Ku Kv Kw hn hi low hle
    have hlt : ¬ ((i : Int) < s.length) := by omega
    rw [ok_round, l27_0, L27_0a, L27_0b]
    simp [hlt]
    exact hk H _ _ _ _ _ _ _ _ _ _ _ _ _ _ _ _ _ _ _ _ _ _ _ _ _ _ _ _ _ _ _ _ _ low hle
  | succ n ih =>
    intro i H K1 K2 K3 K4 K5 K6 K7 K8 K9 Ka Kb Kc Kd Ke Ki Kj Kk Kl Km Kn Ko Kp Kq Kr Ks Kt Ku Kv Kw hn hi low hle
    have hlt : ((i : Int) < s.length) := by omega
    have hil : i < s.length := by omega
    have hw : IntKind.i64.wrap ((i : Int) + 1) = ((i + 1 : Nat) : Int) := wrapN (n := i + 1) (by omega)
    obtain ⟨id, off, b, hs, hbk, ht, hle2⟩ := encP_at hv hil
    obtain ⟨id2, off2, b2, hs2, hbk2, hc2⟩ := ho.get hil
    have hc2 := hc2 0 (by omega)
    rw [Nat.mul_one, Nat.add_zero, Nat.add_zero, show (i64s (ctxs s))[i]? = some (.int .i64 s[i].1) by simp [i64s, ctxs, hil]] at hc2
    have hb1 : blk? H id = some b := by rw [low _ (blk?_lt hbk)]; exact hbk
    have hlB := blk?_lt hb
    have up : ∀ (x : Blk) {id : Nat} {y : Blk}, blk? h id = some y → blk? (H ++ [some x]) id = some y := fun x id y hy => by rw [blk?_push_lt (by have := blk?_lt hy; omega), low _ (blk?_lt hy)]; exact hy
    have ih' := fun K1 K2 K3 K4 K5 K6 K7 K8 K9 Ka Kb Kc Kd Ke Ki Kj Kk Kl Km Kn Ko Kp Kq Kr Ks Kt Ku Kv Kw => ih (i + 1) (H ++ [some ⟨false, [.int .i64 s[i].1, .int .i64 s[i].2]⟩]) K1 K2 K3 K4 K5 K6 K7 K8 K9 Ka Kb Kc Kd Ke Ki Kj Kk Kl Km Kn Ko Kp Kq Kr Ks Kt Ku Kv Kw (by omega) (by omega) (fun id hid => by rw [blk?_push_lt (by omega)]; exact low id hid) (by simp; omega)
    have hK : ∀ y : Blk, blk? (H ++ [some y]) H.length = some y := fun y => blk?_push_eq
    rw [ok_round, l27_0, L27_0a, L27_0b]
    generalize s[i].1 = x at *
    generalize s[i].2 = y at *
    have u1 := up ⟨false, [.int .i64 x, .int .i64 y]⟩ hb
    have u2 := up ⟨false, [.int .i64 x, .int .i64 y]⟩ hbk2
    generalize ((i + 1 : Nat) : Int) = wi at *
    subst hs
    subst hs2
    simp [-List.cons_append, -List.append_assoc, hlt, hil, hw, hb1, ht, hle2, hK, u1, u2, hc2]
    exact ih' _ _ _ _ _ _ _ _ _ _ _ _ _ _ _ _ _ _ _ _ _ _ _ _ _ _ _ _ _
theorem equals_eq (ho : OwnS h 1 gv s.length (i64s (ctxs s))) (hv : OwnS h 2 av s.length (encP s)) (hb : blk? h ga = some ⟨false, [gv]⟩) (hl : s.length < 1000000) : Ret tab 27 [ptr ga, av] h R = R (.bool true) h := by
  have key : Ret tab 27 [ptr ga, av] h fun v h' => v = .bool true ∧ h' = h := by
    obtain ⟨a1, c1, hs1⟩ := ho.sl.shape
    obtain ⟨a2, c2, hs2⟩ := hv.sl.shape
    have hgb : below h.length gv = true := own_below ho (Nat.le_refl _)
    have hab : below h.length av = true := own_below hv (Nat.le_refl _)
    have hbF : blk? (frz h) ga = some ⟨true, [gv]⟩ := blk_frz hb (by simp [hgb])
    have hla := blk?_lt hb
    rw [enter27, B27]
    have hbF' := hbF
    rw [hs1] at hbF'
    refine ⟨by simp [hab, hla], ?_⟩
    simp [hs2, hbF']
    rw [← hs2]
    refine equals_loop (own_frz ho fun n => i64s_below n _) (own_frz hv fun n => encP_bel n _) hbF hl ?_ _ 0 _ _ _ _ _ _ _ _ _ _ _ _ _ _ _ _ _ _ _ _ _ _ _ _ _ _ _ _ _ _ rfl (Nat.zero_le _) (fun _ _ => rfl) (Nat.le_refl _)
    intro H K0 K1 K2 K3 K4 K5 K6 K7 K8 K9 Ka Kb Kc Kd Ke Kf Kg Kh Ki Kj Kk Kl Km Kn Ko Kp Kq Kr Ks Kt Ku Kv Kw low hle
    simp [fin27]
  obtain ⟨v, h', e, rfl, rfl⟩ := ret_ex key
  exact e R
end

theorem TwoB.keep {h0 H H' : Heap} {p c p' c' w hh : Nat} {b : BS} (t : TwoB h0 H p c p' c' w hh b) (hk : ∀ id, id < H.length → blk? H' id = blk? H id) (hl : H.length ≤ H'.length) : TwoB h0 H' p c p' c' w hh b :=
  ⟨⟨by rw [hk _ (blk?_lt t.cb.blkp)]; exact t.cb.blkp, by rw [hk _ (blk?_lt t.cb.blkc)]; exact t.cb.blkc, t.cb.ok⟩, ⟨by rw [hk _ (blk?_lt t.cb'.blkp)]; exact t.cb'.blkp, by rw [hk _ (blk?_lt t.cb'.blkc)]; exact t.cb'.blkc, t.cb'.ok⟩, t.good, t.bw, t.bh, t.d1, t.d2, t.d3, t.far, fun id hid => by rw [hk id (by have := t.len; omega)]; exact t.low id hid, by have := t.len; omega⟩

/-- Between the passes. -/
structure RL (h0 H : Heap) (p c p' c' w hh ga gb sb : Nat) (bv : Value) (bits : List Int) (gv av : Value) (b : BS) (s : List (Int × Int)) : Prop where
  tb : TwoB h0 H p c p' c' w hh b
  ra : RelA c ga gb bv bits H gv s
  rr : RelR c' sb bv bits H av s
  oa : ∀ id, ownA ga gv id → h0.length ≤ id ∧ id ≠ p' ∧ id ≠ c' ∧ id ≠ p ∧ ¬ ownA sb av id
  or : ∀ id, ownA sb av id → h0.length ≤ id ∧ id ≠ p ∧ id ≠ c ∧ id ≠ p' ∧ id ≠ gb
  gbl : gb < h0.length
  bvl : ∀ id, sid bv = some id → id < h0.length
theorem RelA.lt {c ga gb : Nat} {bv : Value} {bits : List Int} {h : Heap} {gv : Value} {s : List (Int × Int)} (r : RelA c ga gb bv bits h gv s) : ∀ id, ownA ga gv id → id < h.length := by
  rintro id (rfl | e)
  · exact blk?_lt r.blk
  · exact r.own.lt e
theorem RelR.lt {c sb : Nat} {bv : Value} {bits : List Int} {h : Heap} {av : Value} {s : List (Int × Int)} (r : RelR c sb bv bits h av s) : ∀ id, ownA sb av id → id < h.length := by
  rintro id (rfl | e)
  · exact blk?_lt r.blk
  · exact r.own.lt e
theorem dOut_le {bits : List Int} {m : MD} {b : BS} (hg : b.Good) {n planes o : Int} {s : List (Int × Int)} : b.Le (dOut (askB bits) m b n planes o s).1.1 ∧ (dOut (askB bits) m b n planes o s).2.length ≤ s.length + 20000 := by
  unfold dOut
  split
  · rename_i he
    have hr : 1 ≤ planes ∧ planes ≤ 60 ∧ 0 ≤ n ∧ n ≤ 3 * planes - 3 ∧ 0 ≤ o ∧ o ≤ 3 := by
      unfold runErr at he
      split at he
      · cases he
      · split at he
        · cases he
        · omega
    have := Tr.Lv.out (A := askB bits) (size := List.length) (fun _ _ => by simp [askB]) s (lv_dRun (m := m) hg (n := n.toNat) (planes := planes.toNat) (o := o.toNat) (runPP_ok (by omega) (by omega) (by omega)))
    exact this
  · exact ⟨BS.Le.refl hg, by simp⟩

set_option maxHeartbeats 1000000 in
theorem runs_step {h0 H : Heap} {p c p' c' w hh ga gb sb : Nat} {bv gv av : Value} {bits : List Int} {b : BS} {s : List (Int × Int)} (hbl : bits.length < 1000000) (r : RL h0 H p c p' c' w hh ga gb sb bv bits gv av b s) (hs : s.length + 100000 < 900000) (n planes o : Int) (m : MD) :
    ∃ e h1 h2 gv' av' b' s', (∀ R, Ret tab 23 [ptr p, .int .i64 n, .int .i64 planes, .int .i64 o, m.val, .func (.func 24) #[] #[ptr ga, ptr gb]] H R = R (.int .i64 e) h1) ∧
      (∀ R, Ret tab 26 [ptr p', .int .i64 n, .int .i64 planes, .int .i64 o, m.val, ptr sb] h1 R = R (.int .i64 e) h2) ∧ blk? h2 sb = some ⟨false, [.pointer none, .pointer none, bv, av']⟩ ∧ isCell av' = true ∧
      (∀ R, Ret tab 27 [ptr ga, av'] h2 R = R (.bool true) h2) ∧ RL h0 h2 p c p' c' w hh ga gb sb bv bits gv' av' b' s' ∧ s'.length ≤ s.length + 20000 ∧ (∀ id, id < h0.length → blk? h1 id = blk? h0 id) ∧ (∀ id, id < h0.length → blk? h2 id = blk? h0 id) := by
  obtain ⟨tb, ra, rr, oa, or, gbl, bvl⟩ := r
  have lp := blk?_lt tb.cb.blkp
  have lc := blk?_lt tb.cb.blkc
  have lp' := blk?_lt tb.cb'.blkp
  have lc' := blk?_lt tb.cb'.blkc
  have lA := ra.lt
  have lR := rr.lt
  have l0 := tb.len
  obtain ⟨gv1, h1, e1, r1⟩ := run_d (A := srcA c ga gb bv bits hbl) tb.cb tb.good.rng ra (fun e => (oa p e).2.2.2.1 rfl) (by have := blk?_lt ra.blk; have := blk?_lt ra.bbk; simp [*]) (show s.length + 100000 < 1000000 by omega) n planes o m
  change ∀ R, Ret tab _ _ H R = R (.int .i64 (dErr n planes o (dOut (askB bits) m b n planes o s).1.2)) h1 at e1
  change DRes _ H h1 p gv gv1 (dOut (askB bits) m b n planes o s).1.1 (dOut (askB bits) m b n planes o s).2 at r1
  obtain ⟨le1, sz1⟩ := dOut_le (bits := bits) (m := m) tb.good (n := n) (planes := planes) (o := o) (s := s)
  have st1 := r1.st
  have k1 : ∀ id, id < H.length → id ≠ c → ¬ ownA ga gv id → blk? h1 id = blk? H id := st1.same
  have low1 : ∀ id, id < h0.length → blk? h1 id = blk? h0 id := fun id hid => by
    rw [k1 id (by omega) (by have := tb.far.1; omega) (fun e => by have := (oa id e).1; omega)]; exact tb.low id hid
  have cb1 : CB h1 false p' c' b := ⟨by rw [k1 _ lp' tb.d2.symm (fun e => (oa _ e).2.1 rfl)]; exact tb.cb'.blkp, by rw [k1 _ lc' tb.d1.symm (fun e => (oa _ e).2.2.1 rfl)]; exact tb.cb'.blkc, tb.cb'.ok⟩
  have nR : ∀ id, ownA sb av id → blk? h1 id = blk? H id := fun id e => k1 id (lR id e) (or id e).2.2.1 (fun e' => (oa id e').2.2.2.2 e)
  have hl1 : H.length ≤ h1.length := st1.len
  have rr1 : RelR c' sb bv bits h1 av s := rr.keep hl1 fun id hid => by
    rcases hid with rfl | hid | hid
    · exact nR _ (.inl rfl)
    · exact nR _ (.inr hid)
    · have := bvl id hid
      rw [low1 id this, tb.low id this]
  have ra1 : RelA c ga gb bv bits h1 gv1 (dOut (askB bits) m b n planes o s).2 := r1.rel
  have fr1 : ∀ id, ownA ga gv1 id → ownA ga gv id ∨ H.length ≤ id := st1.fresh
  have oa1 : ∀ id, ownA ga gv1 id → h0.length ≤ id ∧ id ≠ p' ∧ id ≠ c' ∧ id ≠ p ∧ ¬ ownA sb av id := fun id e => by
    rcases fr1 id e with k | k
    · exact oa id k
    · exact ⟨by omega, by omega, by omega, by omega, fun e' => by have := lR id e'; omega⟩
  obtain ⟨av1, h2, e2, r2⟩ := run_q (A := srcR c' sb bv bits hbl) cb1 tb.good.rng rr1 (fun e => (or p' e).2.2.2.1 rfl) (blk?_lt rr1.blk) (show s.length + 100000 < 1000000 by omega) n planes o m
  change ∀ R, Ret tab _ _ h1 R = R (.int .i64 (dErr n planes o (dOut (askB bits) m b n planes o s).1.2)) h2 at e2
  change DRes _ h1 h2 p' av av1 (dOut (askB bits) m b n planes o s).1.1 (dOut (askB bits) m b n planes o s).2 at r2
  generalize dErr n planes o (dOut (askB bits) m b n planes o s).1.2 = e at *
  generalize (dOut (askB bits) m b n planes o s).1.1 = b1 at *
  generalize (dOut (askB bits) m b n planes o s).2 = s1 at *
  have st2 := r2.st
  have k2 : ∀ id, id < h1.length → id ≠ c' → ¬ ownA sb av id → blk? h2 id = blk? h1 id := st2.same
  have low2 : ∀ id, id < h0.length → blk? h2 id = blk? h0 id := fun id hid => by
    rw [k2 id (by omega) (by have := tb.far.2; omega) (fun e => by have := (or id e).1; omega)]; exact low1 id hid
  have hl2 : h1.length ≤ h2.length := st2.len
  have cb2 : CB h2 false p c b1 := ⟨by rw [k2 _ (by omega) tb.d3.symm (fun e => (or _ e).2.1 rfl)]; exact r1.cb.blkp, by rw [k2 _ (by omega) tb.d1 (fun e => (or _ e).2.2.1 rfl)]; exact r1.cb.blkc, r1.cb.ok⟩
  have nA : ∀ id, ownA ga gv1 id → blk? h2 id = blk? h1 id := fun id e => k2 id (ra1.lt id e) (oa1 id e).2.2.1 (oa1 id e).2.2.2.2
  have ra2 : RelA c ga gb bv bits h2 gv1 s1 := ra1.keep hl2 fun id hid => by
    rcases hid with rfl | rfl | hid | hid
    · exact nA _ (.inl rfl)
    · rw [low2 _ gbl, low1 _ gbl]
    · exact nA _ (.inr hid)
    · have := bvl id hid
      rw [low2 id this, low1 id this]
  have rr2 : RelR c' sb bv bits h2 av1 s1 := r2.rel
  have fr2 : ∀ id, ownA sb av1 id → ownA sb av id ∨ h1.length ≤ id := st2.fresh
  have tb2 : TwoB h0 h2 p c p' c' w hh b1 := ⟨cb2, r2.cb, r1.good, le1.w.trans tb.bw, le1.h.trans tb.bh, tb.d1, tb.d2, tb.d3, tb.far, low2, by omega⟩
  have rl2 : RL h0 h2 p c p' c' w hh ga gb sb bv bits gv1 av1 b1 s1 := by
    refine ⟨tb2, ra2, rr2, fun id e => ?_, fun id e => ?_, gbl, bvl⟩
    · obtain ⟨a1, a2, a3, a4, a5⟩ := oa1 id e
      refine ⟨a1, a2, a3, a4, fun e' => ?_⟩
      rcases fr2 id e' with k | k
      · exact a5 k
      · have := ra1.lt id e; omega
    · rcases fr2 id e with k | k
      · exact or id k
      · exact ⟨by omega, by omega, by omega, by omega, by omega⟩
  have e3 := fun R => equals_eq (R := R) ra2.own rr2.own ra2.blk (by omega)
  obtain ⟨a, cc, hav⟩ := rr2.own.sl.shape
  exact ⟨e, h1, h2, gv1, av1, b1, s1, e1, e2, rr2.blk, by rw [hav]; rfl, e3, rl2, sz1, low1, low2⟩
end Go.Proofs.Ytjpjohchdfoeaaa
