import Derived.Test.YtlflfkdnpalhlaaSm
/-! The shape of the passes: the plain law. -/
namespace Go.Proofs.Ytlflfkdnpalhlaa
open Go.Sim
open Go.RowKit
set_option linter.unusedVariables false
set_option linter.unusedSimpArgs false
/-! The shape of passes. -/
def SymOk (rw : Bool) (p : Int × Nat) : Prop := p.2 ≤ 1 ∧ -1 ≤ p.1 ∧ p.1 ≤ 18 ∧ (p.1 = -1 ↔ rw = true)
def OutOk (P : PP) (σ : ES) : Prop := ∀ p ∈ σ.out, SymOk P.rw p
theorem ok_emit {P : PP} {σ : ES} (h : OutOk P σ) {c : Int} {n : Nat} (h0 : 0 ≤ c) (h1 : c ≤ 18) (hn : n ≤ 1) : OutOk P (σ.emit P c n) := by
  intro p hp
  simp only [ES.emit, List.mem_append, List.mem_singleton] at hp
  rcases hp with hp | rfl
  · exact h p hp
  · unfold SymOk
    cases P.rw <;> simp <;> omega
theorem ok_map {P : PP} {σ : ES} (h : OutOk P σ) (x y : Int) (f : Cell → Cell) : OutOk P (σ.map x y f) := h
theorem strt_le (p s d : Nat) (hs : s ≤ 2) : strt p s d ≤ 8 := by unfold strt; (repeat' split) <;> omega
theorem diag_le (n d : Nat) : diag n d ≤ 8 := by unfold diag; (repeat' split) <;> omega
theorem sigCtx_le {o h v d : Nat} (hh : h ≤ 2) (hv : v ≤ 2) : sigCtx o h v d ≤ 8 := by
  unfold sigCtx
  split
  · exact diag_le _ _
  · split
    · exact strt_le _ _ _ hh
    · exact strt_le _ _ _ hv
theorem ctxOf_le (P : PP) (b : BS) (x y : Int) : ctxOf P b x y ≤ 8 := by
  obtain ⟨h1, h2, _⟩ := nb_le b x y P.cz
  exact sigCtx_le h1 h2
theorem joint_rng (s t : Int) : joint s t = -1 ∨ joint s t = 0 ∨ joint s t = 1 := by unfold joint; omega
theorem signCtx_rng {h v : Int} (hh : h = -1 ∨ h = 0 ∨ h = 1) (hv : v = -1 ∨ v = 0 ∨ v = 1) : 9 ≤ signCtx h v ∧ signCtx h v ≤ 13 := by
  rcases hh with rfl | rfl | rfl <;> rcases hv with rfl | rfl | rfl <;> decide
theorem refCtx_rng (a b : Bool) : 14 ≤ refCtx a b ∧ refCtx a b ≤ 16 := by cases a <;> cases b <;> decide
theorem bitOf_le (v : Int) (s : Nat) : bitOf v s ≤ 1 := by unfold bitOf; omega
theorem ok_sign {P : PP} {σ : ES} (h : OutOk P σ) (x y : Int) : OutOk P (σ.sign P x y) := by
  have := signCtx_rng (joint_rng (sgn σ.b (x - 1) y) (sgn σ.b (x + 1) y)) (joint_rng (sgn σ.b x (y - 1)) (if (!P.cz || y % 4 != 3) = true then sgn σ.b x (y + 1) else 0))
  change 9 ≤ signCtx (sgH σ.b x y) (sgV σ.b x y P.cz) ∧ signCtx (sgH σ.b x y) (sgV σ.b x y P.cz) ≤ 13 at this
  exact ok_map (ok_emit h (by omega) (by omega) (by unfold signBit; omega)) x y mark
theorem ok_code {P : PP} {σ : ES} (h : OutOk P σ) (x y : Int) : OutOk P (σ.code P x y) := by
  have h1 := ok_emit (n := bitOf (σ.b.get x y).v P.s) (c := ctxOf P σ.b x y) h (by omega) (by have := ctxOf_le P σ.b x y; omega) (bitOf_le _ _)
  unfold ES.code
  split
  · exact ok_sign h1 x y
  · exact h1
theorem ok_sig1 {P : PP} {σ : ES} (h : OutOk P σ) (x y : Int) : OutOk P (σ.sig1 P x y) := by
  unfold ES.sig1
  split
  · exact ok_map (ok_code h x y) x y _
  · exact h
theorem ok_ref1 {P : PP} {σ : ES} (h : OutOk P σ) (x y : Int) : OutOk P (σ.ref1 P x y) := by
  unfold ES.ref1
  split
  · exact h
  · have := refCtx_rng (!(σ.b.get x y).r) (near σ.b x y P.cz)
    exact ok_map (ok_map (ok_emit h (by omega) (by omega) (bitOf_le _ _)) x y _) x y _
theorem ok_cln1 {P : PP} {σ : ES} (h : OutOk P σ) (x y : Int) : OutOk P (σ.cln1 P x y) := by
  unfold ES.cln1
  split
  · exact ok_code h x y
  · exact h
theorem ok_run {P : PP} {σ : ES} (h : OutOk P σ) (x top : Int) : OutOk P (σ.run P x top).1 := by
  unfold ES.run
  split
  · rename_i k hk
    have hlt := firstBit_lt hk
    exact ok_sign (ok_emit (ok_emit (ok_emit h (by omega) (by omega) (by omega)) (by omega) (by omega) (by omega)) (by omega) (by omega) (by omega)) x _
  · exact ok_emit h (by omega) (by omega) (by omega)
theorem ok_rows {P : PP} : ∀ (n : Nat) {σ : ES} (x y : Int), OutOk P σ → OutOk P (σ.rows P x y n)
  | 0, _, _, _, h => h
  | n + 1, _, x, y, h => ok_rows n x (y + 1) (ok_cln1 h x y)
theorem ok_col {P : PP} {σ : ES} (h : OutOk P σ) (x top : Int) : OutOk P (σ.col P x top) := by
  unfold ES.col
  split
  · exact ok_rows _ x _ (ok_run h x top)
  · exact ok_rows _ x _ h
theorem ok_cols {P : PP} : ∀ (n : Nat) {σ : ES} (x top : Int), OutOk P σ → OutOk P (σ.cols P x top n)
  | 0, _, _, _, h => h
  | n + 1, _, x, top, h => ok_cols n (x + 1) top (ok_col h x top)
theorem ok_stripes {P : PP} : ∀ (n : Nat) {σ : ES} (top : Int), OutOk P σ → OutOk P (σ.stripes P top n)
  | 0, _, _, h => h
  | n + 1, _, top, h => ok_stripes n (top + 4) (ok_cols _ 0 top h)
theorem ok_fold {P : PP} {f : ES → Int × Int → ES} (hf : ∀ (σ : ES) (p : Int × Int), OutOk P σ → OutOk P (f σ p)) : ∀ (l : List (Int × Int)) {σ : ES}, OutOk P σ → OutOk P (l.foldl f σ)
  | [], _, h => h
  | p :: l, _, h => ok_fold hf l (hf _ p h)
theorem ok_check {P : PP} {σ : ES} (h : OutOk P σ) (on : Bool) : OutOk P (σ.check P on) := by
  unfold ES.check
  split
  · exact ok_emit (ok_emit (ok_emit (ok_emit h (by omega) (by omega) (by omega)) (by omega) (by omega) (by omega)) (by omega) (by omega) (by omega)) (by omega) (by omega) (by omega)
  · exact h
theorem ok_runSt (m : MD) (b : BS) (n planes o : Nat) : ∀ p ∈ (runSt m b n planes o).out, SymOk (rawOf m n) p := by
  have h0 : OutOk (runPP m n planes o) ⟨b, []⟩ := fun p hp => by simp at hp
  unfold runSt
  split
  · exact ok_fold (fun σ p h => ok_sig1 h p.1 p.2) _ h0
  · split
    · exact ok_fold (fun σ p h => ok_ref1 h p.1 p.2) _ h0
    · exact ok_check (ok_fold (fun σ p h => ok_map h p.1 p.2 _) _ (ok_stripes _ 0 h0)) m.sy
theorem rawOf_two {m : MD} {n : Nat} (h : kindOf n = 2) : rawOf m n = false := by simp [rawOf, h]
/-- The check symbols at the end of a cleanup pass. -/
theorem end_runSt {m : MD} (b : BS) {n : Nat} (planes o : Nat) (h : kindOf n = 2) (hs : m.sy = true) : ∃ l, (runSt m b n planes o).out = l ++ [(18, 1), (18, 0), (18, 1), (18, 0)] := by
  have hr := rawOf_two (m := m) h
  unfold runSt
  rw [if_neg (by omega), if_neg (by omega), hs]
  unfold ES.clean ES.check
  rw [if_pos rfl]
  have hrw : (runPP m n planes o).rw = false := hr
  simp only [ES.emit, hrw, Bool.false_eq_true, if_false, List.append_assoc, List.singleton_append]
  exact ⟨_, rfl⟩
theorem passesOf_get (m : MD) (planes o : Nat) : ∀ (n k : Nat) (b : BS) (i : Nat) (h : i < (passesOf m planes o n k b).length), ∃ b', (passesOf m planes o n k b)[i] = (runSt m b' (k + i) planes o).out
  | 0, k, b, i, h => by simp [passesOf] at h
  | n + 1, k, b, 0, h => ⟨b, rfl⟩
  | n + 1, k, b, i + 1, h => by
    obtain ⟨b', hb⟩ := passesOf_get m planes o n (k + 1) (runSt m b k planes o).b i (by simpa [passesOf] using h)
    refine ⟨b', ?_⟩
    rw [show k + (i + 1) = k + 1 + i by omega, ← hb]
    rfl

end Go.Proofs.Ytlflfkdnpalhlaa
