/-
  The shape of the passes: the plain law.
  Each coefficient's bit is coded once in a plane: the plain law.
  Without the lowest planes: the plain law.
  The decoder's passes, plain: what they ask for, as trees.
  The decoder's passes undo the encoder's: the plain law.
  The passes of a block, decoded: the plain law.
  The passes of a block, encoded and decoded: the plain laws.
  Values, from the symbols of a block: the plain laws.
-/
import Derived.Test.YtjpjohchdfoeaaaMdp
/-! The shape of the passes: the plain law. -/
namespace Go.Proofs.Ytjpjohchdfoeaaa
open Go.Sim
open Go.RowKit
set_option linter.unusedVariables false
set_option linter.unusedSimpArgs false
/-! The shape of passes. -/
def SymOk (rw : Bool) (p : Int × Nat) : Prop := p.2 ≤ 1 ∧ -1 ≤ p.1 ∧ p.1 ≤ 18 ∧ (p.1 = -1 ↔ rw = true)
def OutOk (P : PP) (σ : ES) : Prop := ∀ p ∈ σ.out, SymOk P.rw p
theorem ok_emit {P : PP} {σ : ES} (h : OutOk P σ) {c : Int} {n : Nat} (h0 : 0 ≤ c) (h1 : c ≤ 18) (hn : n ≤ 1) : OutOk P (σ.emit P c n) := by
  intro p hp
  simp only [ES.emit, List.mem_append, List.mem_singleton] at hp
  rcases hp with hp | rfl
  · exact h p hp
  · unfold SymOk
    cases P.rw <;> simp <;> omega
theorem ok_map {P : PP} {σ : ES} (h : OutOk P σ) (x y : Int) (f : Cell → Cell) : OutOk P (σ.map x y f) := h
theorem strt_le (p s d : Nat) (hs : s ≤ 2) : strt p s d ≤ 8 := by unfold strt; (repeat' split) <;> omega
theorem diag_le (n d : Nat) : diag n d ≤ 8 := by unfold diag; (repeat' split) <;> omega
theorem sigCtx_le {o h v d : Nat} (hh : h ≤ 2) (hv : v ≤ 2) : sigCtx o h v d ≤ 8 := by
  unfold sigCtx
  split
  · exact diag_le _ _
  · split
    · exact strt_le _ _ _ hh
    · exact strt_le _ _ _ hv
theorem ctxOf_le (P : PP) (b : BS) (x y : Int) : ctxOf P b x y ≤ 8 := by
  obtain ⟨h1, h2, _⟩ := nb_le b x y P.cz
  exact sigCtx_le h1 h2
theorem joint_rng (s t : Int) : joint s t = -1 ∨ joint s t = 0 ∨ joint s t = 1 := by unfold joint; omega
theorem signCtx_rng {h v : Int} (hh : h = -1 ∨ h = 0 ∨ h = 1) (hv : v = -1 ∨ v = 0 ∨ v = 1) : 9 ≤ signCtx h v ∧ signCtx h v ≤ 13 := by
  rcases hh with rfl | rfl | rfl <;> rcases hv with rfl | rfl | rfl <;> decide
theorem refCtx_rng (a b : Bool) : 14 ≤ refCtx a b ∧ refCtx a b ≤ 16 := by cases a <;> cases b <;> decide
theorem bitOf_le (v : Int) (s : Nat) : bitOf v s ≤ 1 := by unfold bitOf; omega
theorem ok_sign {P : PP} {σ : ES} (h : OutOk P σ) (x y : Int) : OutOk P (σ.sign P x y) := by
  have := signCtx_rng (joint_rng (sgn σ.b (x - 1) y) (sgn σ.b (x + 1) y)) (joint_rng (sgn σ.b x (y - 1)) (if (!P.cz || y % 4 != 3) = true then sgn σ.b x (y + 1) else 0))
  change 9 ≤ signCtx (sgH σ.b x y) (sgV σ.b x y P.cz) ∧ signCtx (sgH σ.b x y) (sgV σ.b x y P.cz) ≤ 13 at this
  exact ok_map (ok_emit h (by omega) (by omega) (by unfold signBit; omega)) x y mark
theorem ok_code {P : PP} {σ : ES} (h : OutOk P σ) (x y : Int) : OutOk P (σ.code P x y) := by
  have h1 := ok_emit (n := bitOf (σ.b.get x y).v P.s) (c := ctxOf P σ.b x y) h (by omega) (by have := ctxOf_le P σ.b x y; omega) (bitOf_le _ _)
  unfold ES.code
  split
  · exact ok_sign h1 x y
  · exact h1
theorem ok_sig1 {P : PP} {σ : ES} (h : OutOk P σ) (x y : Int) : OutOk P (σ.sig1 P x y) := by
  unfold ES.sig1
  split
  · exact ok_map (ok_code h x y) x y _
  · exact h
theorem ok_ref1 {P : PP} {σ : ES} (h : OutOk P σ) (x y : Int) : OutOk P (σ.ref1 P x y) := by
  unfold ES.ref1
  split
  · exact h
  · have := refCtx_rng (!(σ.b.get x y).r) (near σ.b x y P.cz)
    exact ok_map (ok_map (ok_emit h (by omega) (by omega) (bitOf_le _ _)) x y _) x y _
theorem ok_cln1 {P : PP} {σ : ES} (h : OutOk P σ) (x y : Int) : OutOk P (σ.cln1 P x y) := by
  unfold ES.cln1
  split
  · exact ok_code h x y
  · exact h
theorem ok_run {P : PP} {σ : ES} (h : OutOk P σ) (x top : Int) : OutOk P (σ.run P x top).1 := by
  unfold ES.run
  split
  · rename_i k hk
    have hlt := firstBit_lt hk
    exact ok_sign (ok_emit (ok_emit (ok_emit h (by omega) (by omega) (by omega)) (by omega) (by omega) (by omega)) (by omega) (by omega) (by omega)) x _
  · exact ok_emit h (by omega) (by omega) (by omega)
theorem ok_rows {P : PP} : ∀ (n : Nat) {σ : ES} (x y : Int), OutOk P σ → OutOk P (σ.rows P x y n)
  | 0, _, _, _, h => h
  | n + 1, _, x, y, h => ok_rows n x (y + 1) (ok_cln1 h x y)
theorem ok_col {P : PP} {σ : ES} (h : OutOk P σ) (x top : Int) : OutOk P (σ.col P x top) := by
  unfold ES.col
  split
  · exact ok_rows _ x _ (ok_run h x top)
  · exact ok_rows _ x _ h
theorem ok_cols {P : PP} : ∀ (n : Nat) {σ : ES} (x top : Int), OutOk P σ → OutOk P (σ.cols P x top n)
  | 0, _, _, _, h => h
  | n + 1, _, x, top, h => ok_cols n (x + 1) top (ok_col h x top)
theorem ok_stripes {P : PP} : ∀ (n : Nat) {σ : ES} (top : Int), OutOk P σ → OutOk P (σ.stripes P top n)
  | 0, _, _, h => h
  | n + 1, _, top, h => ok_stripes n (top + 4) (ok_cols _ 0 top h)
theorem ok_fold {P : PP} {f : ES → Int × Int → ES} (hf : ∀ (σ : ES) (p : Int × Int), OutOk P σ → OutOk P (f σ p)) : ∀ (l : List (Int × Int)) {σ : ES}, OutOk P σ → OutOk P (l.foldl f σ)
  | [], _, h => h
  | p :: l, _, h => ok_fold hf l (hf _ p h)
theorem ok_check {P : PP} {σ : ES} (h : OutOk P σ) (on : Bool) : OutOk P (σ.check P on) := by
  unfold ES.check
  split
  · exact ok_emit (ok_emit (ok_emit (ok_emit h (by omega) (by omega) (by omega)) (by omega) (by omega) (by omega)) (by omega) (by omega) (by omega)) (by omega) (by omega) (by omega)
  · exact h
theorem ok_runSt (m : MD) (b : BS) (n planes o : Nat) : ∀ p ∈ (runSt m b n planes o).out, SymOk (rawOf m n) p := by
  have h0 : OutOk (runPP m n planes o) ⟨b, []⟩ := fun p hp => by simp at hp
  unfold runSt
  split
  · exact ok_fold (fun σ p h => ok_sig1 h p.1 p.2) _ h0
  · split
    · exact ok_fold (fun σ p h => ok_ref1 h p.1 p.2) _ h0
    · exact ok_check (ok_fold (fun σ p h => ok_map h p.1 p.2 _) _ (ok_stripes _ 0 h0)) m.sy
theorem rawOf_two {m : MD} {n : Nat} (h : kindOf n = 2) : rawOf m n = false := by simp [rawOf, h]
/-- The check symbols at the end of a cleanup pass. -/
theorem end_runSt {m : MD} (b : BS) {n : Nat} (planes o : Nat) (h : kindOf n = 2) (hs : m.sy = true) : ∃ l, (runSt m b n planes o).out = l ++ [(18, 1), (18, 0), (18, 1), (18, 0)] := by
  have hr := rawOf_two (m := m) h
  unfold runSt
  rw [if_neg (by omega), if_neg (by omega), hs]
  unfold ES.clean ES.check
  rw [if_pos rfl]
  have hrw : (runPP m n planes o).rw = false := hr
  simp only [ES.emit, hrw, Bool.false_eq_true, if_false, List.append_assoc, List.singleton_append]
  exact ⟨_, rfl⟩
theorem passesOf_get (m : MD) (planes o : Nat) : ∀ (n k : Nat) (b : BS) (i : Nat) (h : i < (passesOf m planes o n k b).length), ∃ b', (passesOf m planes o n k b)[i] = (runSt m b' (k + i) planes o).out
  | 0, k, b, i, h => by simp [passesOf] at h
  | n + 1, k, b, 0, h => ⟨b, rfl⟩
  | n + 1, k, b, i + 1, h => by
    obtain ⟨b', hb⟩ := passesOf_get m planes o n (k + 1) (runSt m b k planes o).b i (by simpa [passesOf] using h)
    refine ⟨b', ?_⟩
    rw [show k + (i + 1) = k + 1 + i by omega, ← hb]
    rfl

end Go.Proofs.Ytjpjohchdfoeaaa
/-! Each coefficient's bit is coded once in a plane: the plain law. -/
namespace Go.Proofs.Ytjpjohchdfoeaaa
open Go.Sim
open Go.RowKit
set_option linter.unusedVariables false
set_option linter.unusedSimpArgs false
/-! Each coefficient's bit is coded once in a plane. -/
/-- How many bits a list of symbols codes, from a state on: 0; 1 and 2 behind the first symbol of a position. -/
def cov : Nat → List (Int × Nat) → Nat
  | _, [] => 0
  | s, p :: l =>
    if s = 1 then 2 * p.2 + cov 2 l
    else if s = 2 then p.2 + 1 + cov 0 l
    else if p.1 ≤ 8 ∨ 14 ≤ p.1 ∧ p.1 ≤ 16 then 1 + cov 0 l
    else if p.1 = 17 then (if p.2 = 0 then 4 + cov 0 l else cov 1 l)
    else cov 0 l
/-- The state behind a list of symbols. -/
def fin : Nat → List (Int × Nat) → Nat
  | s, [] => s
  | s, p :: l =>
    if s = 1 then fin 2 l
    else if s = 2 then fin 0 l
    else if p.1 ≤ 8 ∨ 14 ≤ p.1 ∧ p.1 ≤ 16 then fin 0 l
    else if p.1 = 17 then (if p.2 = 0 then fin 0 l else fin 1 l)
    else fin 0 l
theorem cov_append : ∀ (a b : List (Int × Nat)) (s : Nat), cov s (a ++ b) = cov s a + cov (fin s a) b ∧ fin s (a ++ b) = fin (fin s a) b
  | [], b, s => by simp [cov, fin]
  | p :: a, b, s => by
    have i0 := cov_append a b 0
    have i1 := cov_append a b 1
    have i2 := cov_append a b 2
    rw [List.cons_append, cov, cov, fin, fin]
    split
    · exact ⟨by rw [i2.1]; omega, i2.2⟩
    · split
      · exact ⟨by rw [i0.1]; omega, i0.2⟩
      · split
        · exact ⟨by rw [i0.1]; omega, i0.2⟩
        · split
          · split
            · exact ⟨by rw [i0.1]; omega, i0.2⟩
            · exact i1
          · exact i0

/-- What a part of a pass codes: n bits, and the symbols behind it are whole. -/
structure Adds (σ τ : ES) (n : Nat) : Prop where
  ex : ∃ l, τ.out = σ.out ++ l ∧ fin 0 l = 0 ∧ cov 0 l = n
theorem Adds.refl (σ : ES) : Adds σ σ 0 := ⟨[], by simp, rfl, rfl⟩
theorem Adds.trans {σ τ υ : ES} {n m : Nat} (h : Adds σ τ n) (k : Adds τ υ m) : Adds σ υ (n + m) := by
  obtain ⟨l, h1, h2, h3⟩ := h.ex
  obtain ⟨l', k1, k2, k3⟩ := k.ex
  have := cov_append l l' 0
  rw [h2] at this
  exact ⟨l ++ l', by rw [k1, h1, List.append_assoc], by rw [this.2, k2], by rw [this.1, h3, k3]⟩
theorem Adds.map {σ τ : ES} {n : Nat} (h : Adds σ τ n) (x y : Int) (f : Cell → Cell) : Adds σ (τ.map x y f) n := ⟨h.ex⟩
theorem adds_emit {P : PP} (hr : P.rw = false) (σ : ES) (c : Int) (n : Nat) {k : Nat} (hw : fin 0 [(c, n)] = 0) (hc : cov 0 [(c, n)] = k) : Adds σ (σ.emit P c n) k := by
  refine ⟨[(c, n)], ?_, hw, hc⟩
  simp [ES.emit, hr]
theorem adds_sign {P : PP} (hr : P.rw = false) (σ : ES) (x y : Int) : Adds σ (σ.sign P x y) 0 := by
  have := signCtx_rng (joint_rng (sgn σ.b (x - 1) y) (sgn σ.b (x + 1) y)) (joint_rng (sgn σ.b x (y - 1)) (if (!P.cz || y % 4 != 3) = true then sgn σ.b x (y + 1) else 0))
  change 9 ≤ signCtx (sgH σ.b x y) (sgV σ.b x y P.cz) ∧ signCtx (sgH σ.b x y) (sgV σ.b x y P.cz) ≤ 13 at this
  have h1 : ¬ (((signCtx (sgH σ.b x y) (sgV σ.b x y P.cz) : Nat) : Int) ≤ 8 ∨ 14 ≤ ((signCtx (sgH σ.b x y) (sgV σ.b x y P.cz) : Nat) : Int) ∧ ((signCtx (sgH σ.b x y) (sgV σ.b x y P.cz) : Nat) : Int) ≤ 16) := by omega
  have h2 : ¬ ((signCtx (sgH σ.b x y) (sgV σ.b x y P.cz) : Nat) : Int) = 17 := by omega
  exact (adds_emit hr σ _ _ (by simp only [fin, if_neg h1, if_neg h2]; rfl) (by simp only [cov, if_neg h1, if_neg h2]; rfl)).map x y mark
theorem adds_code {P : PP} (hr : P.rw = false) (σ : ES) (x y : Int) : Adds σ (σ.code P x y) 1 := by
  have hc := ctxOf_le P σ.b x y
  have h1 : (((ctxOf P σ.b x y : Nat) : Int) ≤ 8 ∨ 14 ≤ ((ctxOf P σ.b x y : Nat) : Int) ∧ ((ctxOf P σ.b x y : Nat) : Int) ≤ 16) := by omega
  have e := adds_emit hr σ (ctxOf P σ.b x y) (bitOf (σ.b.get x y).v P.s) (k := 1) (by simp only [fin, if_pos h1]; rfl) (by simp only [cov, if_pos h1]; rfl)
  unfold ES.code
  split
  · exact e.trans (adds_sign hr _ x y)
  · exact e
theorem adds_run {P : PP} (hr : P.rw = false) (σ : ES) (x top : Int) : ∃ n : Nat, Adds σ (σ.run P x top).1 n ∧ (n : Int) = (σ.run P x top).2 - top := by
  unfold ES.run
  split
  · rename_i k hk
    have hlt := firstBit_lt hk
    refine ⟨k + 1, ?_, by simp only; omega⟩
    have e : Adds σ (((σ.emit P 17 1).emit P 18 (k / 2)).emit P 18 (k % 2)) (k + 1) := by
      refine ⟨[(17, 1), (18, k / 2), (18, k % 2)], ?_, by simp [fin], ?_⟩
      · simp [ES.emit, hr]
      · simp [cov]; omega
    exact e.trans (adds_sign hr _ x _)
  · exact ⟨4, adds_emit hr σ 17 0 (by decide) (by decide), by simp only; omega⟩

/-! What is not touched yet. -/
def un (b : BS) (p : Int × Int) : Nat := if (b.get p.1 p.2).t = true then 0 else 1
def U (b : BS) (l : List (Int × Int)) : Nat := (l.map (un b)).sum
theorem U_append (b : BS) (l m : List (Int × Int)) : U b (l ++ m) = U b l + U b m := by simp [U]
theorem U_congr {b b' : BS} {l : List (Int × Int)} (h : ∀ p ∈ l, (b'.get p.1 p.2).t = (b.get p.1 p.2).t) : U b' l = U b l := by
  unfold U
  congr 1
  exact List.map_congr_left fun p hp => by unfold un; rw [h p hp]

/-- The touched flags are as they were. -/
def TSame (σ τ : ES) : Prop := ∀ x y, (τ.b.get x y).t = (σ.b.get x y).t
theorem TSame.refl (σ : ES) : TSame σ σ := fun _ _ => rfl
theorem TSame.trans {σ τ υ : ES} (h : TSame σ τ) (k : TSame τ υ) : TSame σ υ := fun x y => (k x y).trans (h x y)
/-- A coefficient that is significant was touched. -/
def Adone (b : BS) (p : Int × Int) : Prop := (b.get p.1 p.2).s = true → (b.get p.1 p.2).t = true
/-- Significance changes at most at points of a column between two rows. -/
def SOut (σ τ : ES) (x lo hi : Int) : Prop := ∀ x' y', (x' ≠ x ∨ y' < lo ∨ hi ≤ y') → (τ.b.get x' y').s = (σ.b.get x' y').s
theorem SOut.refl (σ : ES) (x lo hi : Int) : SOut σ σ x lo hi := fun _ _ _ => rfl
theorem SOut.trans {σ τ υ : ES} {x lo hi : Int} (h : SOut σ τ x lo hi) (k : SOut τ υ x lo hi) : SOut σ υ x lo hi := fun x' y' ho => (k x' y' ho).trans (h x' y' ho)
theorem SOut.mono {σ τ : ES} {x lo hi lo' hi' : Int} (h : SOut σ τ x lo hi) (h1 : lo' ≤ lo) (h2 : hi ≤ hi') : SOut σ τ x lo' hi' := fun x' y' ho => h x' y' (by omega)

theorem get_sign {P : PP} {σ : ES} (hg : σ.b.Good) {x y : Int} (hi : σ.b.inb x y) (x' y' : Int) : (σ.sign P x y).b.get x' y' = if x' = x ∧ y' = y then mark (σ.b.get x y) else σ.b.get x' y' := BS.get_upd hg.ok hi mark x' y'
theorem get_code {P : PP} {σ : ES} (hg : σ.b.Good) {x y : Int} (hi : σ.b.inb x y) (x' y' : Int) :
    ((σ.code P x y).b.get x' y').t = (σ.b.get x' y').t ∧ ((x' ≠ x ∨ y' ≠ y) → ((σ.code P x y).b.get x' y').s = (σ.b.get x' y').s) := by
  unfold ES.code
  split
  · rw [get_sign (σ := σ.emit P _ _) hg hi]
    simp only [ES.emit_b]
    split
    · rename_i h; obtain ⟨rfl, rfl⟩ := h
      exact ⟨rfl, fun h => absurd h (by simp)⟩
    · exact ⟨rfl, fun _ => rfl⟩
  · exact ⟨rfl, fun _ => rfl⟩
theorem cln1_facts {P : PP} (hr : P.rw = false) {σ : ES} (hg : σ.b.Good) {x y : Int} (hi : σ.b.inb x y) (ha : Adone σ.b (x, y)) :
    Adds σ (σ.cln1 P x y) (un σ.b (x, y)) ∧ TSame σ (σ.cln1 P x y) ∧ SOut σ (σ.cln1 P x y) x y (y + 1) := by
  unfold ES.cln1
  split
  · rename_i h
    have hu : un σ.b (x, y) = 1 := by unfold un; rw [if_neg (by simp [h.2])]
    rw [hu]
    exact ⟨adds_code hr σ x y, fun x' y' => (get_code hg hi x' y').1, fun x' y' ho => (get_code hg hi x' y').2 (by omega)⟩
  · rename_i h
    have ht : (σ.b.get x y).t = true := by
      cases hs : (σ.b.get x y).s
      · cases ht : (σ.b.get x y).t
        · exact absurd ⟨hs, ht⟩ h
        · rfl
      · exact ha hs
    have hu : un σ.b (x, y) = 0 := by unfold un; rw [if_pos ht]
    rw [hu]
    exact ⟨Adds.refl σ, TSame.refl σ, SOut.refl σ _ _ _⟩
theorem adone_keep {σ τ : ES} (ht : TSame σ τ) {x' y' : Int} (hs : (τ.b.get x' y').s = (σ.b.get x' y').s) (h : Adone σ.b (x', y')) : Adone τ.b (x', y') := by
  unfold Adone at *
  simp only at *
  rw [hs, ht x' y']; exact h
theorem rows_facts {P : PP} (hr : P.rw = false) : ∀ (n : Nat) {σ : ES} {x y : Int}, σ.b.Good → 0 ≤ x → x < σ.b.w → 0 ≤ y → y + n ≤ σ.b.h → (∀ j : Nat, j < n → Adone σ.b (x, y + j)) →
    Adds σ (σ.rows P x y n) (U σ.b (colPts x y n)) ∧ TSame σ (σ.rows P x y n) ∧ SOut σ (σ.rows P x y n) x y (y + n)
  | 0, σ, x, y, _, _, _, _, _, _ => ⟨Adds.refl σ, TSame.refl σ, SOut.refl σ _ _ _⟩
  | n + 1, σ, x, y, hg, h1, h2, h3, h4, ha => by
    have hi : σ.b.inb x y := ⟨h1, h2, h3, by omega⟩
    obtain ⟨a1, a2, a3⟩ := cln1_facts (P := P) hr hg hi (by simpa using ha 0 (by omega))
    have hl := le_cln1 (P := P) hg hi
    obtain ⟨b1, b2, b3⟩ := rows_facts hr n (σ := σ.cln1 P x y) (x := x) (y := y + 1) hl.good h1 (by rw [hl.w]; exact h2) (by omega) (by rw [hl.h]; omega) (fun j hj => by
      have := ha (j + 1) (by omega)
      rw [show y + ((j + 1 : Nat) : Int) = y + 1 + j by omega] at this
      exact adone_keep a2 (a3 x (y + 1 + j) (by omega)) this)
    refine ⟨?_, a2.trans b2, (a3.mono (by omega) (by omega)).trans (b3.mono (by omega) (by omega))⟩
    have := a1.trans b1
    rw [U_congr (b := σ.b) (fun p _ => a2 p.1 p.2)] at this
    simpa [ES.rows, colPts, U] using this
theorem quietFrom_facts {b : BS} {x : Int} {q : Bool} : ∀ {n : Nat} {y : Int}, quietFrom b x y q n = true → ∀ j : Nat, j < n → (b.get x (y + j)).s = false ∧ (b.get x (y + j)).t = false
  | 0, _, _, j, hj => by omega
  | n + 1, y, h, j, hj => by
    simp only [quietFrom, still, Bool.and_eq_true, Bool.not_eq_true'] at h
    cases j with
    | zero => simpa using h.1.1
    | succ j =>
      have := quietFrom_facts h.2 j (by omega)
      rw [show y + ((j + 1 : Nat) : Int) = y + 1 + j by omega]; exact this
theorem col_facts {P : PP} (hr : P.rw = false) {σ : ES} (hg : σ.b.Good) {x top : Int} (hi : σ.b.inb x top) (ha : ∀ y, top ≤ y → y < top + 4 → y < σ.b.h → Adone σ.b (x, y)) :
    Adds σ (σ.col P x top) (U σ.b (colPts x top (min (top + 4) (σ.b.h : Int) - top).toNat)) ∧ TSame σ (σ.col P x top) ∧ SOut σ (σ.col P x top) x top (top + 4) := by
  obtain ⟨i1, i2, i3, i4⟩ := hi
  unfold ES.col
  split
  · rename_i hq
    simp only [quiet, Bool.and_eq_true, decide_eq_true_eq] at hq
    obtain ⟨hq4, hqf⟩ := hq
    have hqq := quietFrom_facts hqf
    obtain ⟨l1, l2, l3⟩ := le_run (P := P) hg (x := x) (top := top) ⟨i1, i2, i3, i4⟩ hq4
    obtain ⟨n, a1, hn⟩ := adds_run hr σ x top
    -- the run touches nothing, and makes one coefficient significant at most
    have ht : TSame σ (σ.run P x top).1 ∧ SOut σ (σ.run P x top).1 x top (σ.run P x top).2 := by
      unfold ES.run
      split
      · rename_i k hk
        have hlt := firstBit_lt hk
        have hin : σ.b.inb x (top + k) := ⟨i1, i2, by omega, by omega⟩
        refine ⟨fun x' y' => ?_, fun x' y' ho => ?_⟩
        · rw [get_sign (σ := ((σ.emit P 17 1).emit P 18 (k / 2)).emit P 18 (k % 2)) hg hin]
          simp only [ES.emit_b]
          split
          · rename_i h; obtain ⟨rfl, rfl⟩ := h; rfl
          · rfl
        · rw [get_sign (σ := ((σ.emit P 17 1).emit P 18 (k / 2)).emit P 18 (k % 2)) hg hin]
          simp only [ES.emit_b]
          simp only at ho
          rw [if_neg (by omega)]
      · exact ⟨TSame.refl σ, SOut.refl σ _ _ _⟩
    obtain ⟨ht1, hs1⟩ := ht
    generalize hτ : (σ.run P x top).1 = τ at *
    generalize hy : (σ.run P x top).2 = y at *
    have hm : (min (top + 4) (σ.b.h : Int) - y).toNat = (top + 4 - y).toNat := by omega
    rw [hm]
    obtain ⟨b1, b2, b3⟩ := rows_facts hr (top + 4 - y).toNat (σ := τ) (x := x) (y := y) l1.good i1 (by rw [l1.w]; exact i2) (by omega) (by rw [l1.h]; omega) (fun j hj => by
      refine adone_keep ht1 (hs1 x (y + j) (by omega)) ?_
      exact ha _ (by omega) (by omega) (by omega))
    refine ⟨?_, ht1.trans b2, (hs1.mono (by omega) (by omega)).trans (b3.mono (by omega) (by omega))⟩
    -- the four coefficients of the column
    have hU : ∀ (m : Nat) (z : Int), top ≤ z → z + m ≤ top + 4 → U σ.b (colPts x z m) = m := by
      intro m
      induction m with
      | zero => intro z _ _; rfl
      | succ m ih =>
        intro z h1 h2
        have := hqq (z - top).toNat (by omega)
        rw [show top + ((z - top).toNat : Int) = z by omega] at this
        have e := ih (z + 1) (by omega) (by omega)
        have hu : un σ.b (x, z) = 1 := by unfold un; rw [if_neg (by simp [this.2])]
        simp only [colPts, U, List.map_cons, List.sum_cons, hu] at e ⊢
        omega
    have hsum := a1.trans b1
    rw [U_congr (b := σ.b) (fun p _ => ht1 p.1 p.2), hU _ _ (by omega) (by omega)] at hsum
    rw [hU _ _ (by omega) (by omega)]
    rw [show n + (top + 4 - y).toNat = (min (top + 4) (σ.b.h : Int) - top).toNat by omega] at hsum
    exact hsum
  · obtain ⟨b1, b2, b3⟩ := rows_facts hr (min (top + 4) (σ.b.h : Int) - top).toNat (σ := σ) (x := x) (y := top) hg i1 i2 i3 (by omega) (fun j hj => ha _ (by omega) (by omega) (by omega))
    exact ⟨b1, b2, b3.mono (by omega) (by omega)⟩
theorem cols_facts {P : PP} (hr : P.rw = false) : ∀ (n : Nat) {σ : ES} {x top : Int}, σ.b.Good → 0 ≤ x → x + n ≤ σ.b.w → 0 ≤ top → top < σ.b.h → (∀ x' y : Int, x ≤ x' → x' < x + n → top ≤ y → y < top + 4 → y < σ.b.h → Adone σ.b (x', y)) →
    Adds σ (σ.cols P x top n) (U σ.b (stripePts σ.b.h x top n)) ∧ TSame σ (σ.cols P x top n) ∧ (∀ x' y', (y' < top ∨ top + 4 ≤ y') → ((σ.cols P x top n).b.get x' y').s = (σ.b.get x' y').s)
  | 0, σ, x, top, _, _, _, _, _, _ => ⟨Adds.refl σ, TSame.refl σ, fun _ _ _ => rfl⟩
  | n + 1, σ, x, top, hg, h1, h2, h3, h4, ha => by
    have hi : σ.b.inb x top := ⟨h1, by omega, h3, h4⟩
    obtain ⟨a1, a2, a3⟩ := col_facts (P := P) hr hg hi (fun y y1 y2 y3 => ha x y (by omega) (by omega) y1 y2 y3)
    have hl := le_col (P := P) hg hi
    obtain ⟨b1, b2, b3⟩ := cols_facts hr n (σ := σ.col P x top) (x := x + 1) (top := top) hl.good (by omega) (by rw [hl.w]; omega) h3 (by rw [hl.h]; exact h4) (fun x' y x1 x2 y1 y2 y3 => by
      rw [hl.h] at y3
      exact adone_keep a2 (a3 x' y (by omega)) (ha x' y (by omega) (by omega) y1 y2 y3))
    refine ⟨?_, a2.trans b2, fun x' y' ho => (b3 x' y' ho).trans (a3 x' y' (by omega))⟩
    have := a1.trans b1
    rw [U_congr (b := σ.b) (fun p _ => a2 p.1 p.2), hl.h] at this
    rw [stripePts, U_append]
    exact this
theorem stripes_facts {P : PP} (hr : P.rw = false) : ∀ (n : Nat) {σ : ES} {top : Int}, σ.b.Good → 0 ≤ top → top + 4 * n ≤ σ.b.h + 3 → (∀ x y : Int, 0 ≤ x → x < σ.b.w → top ≤ y → y < σ.b.h → Adone σ.b (x, y)) →
    Adds σ (σ.stripes P top n) (U σ.b (scanPts σ.b.w σ.b.h top n)) ∧ TSame σ (σ.stripes P top n)
  | 0, σ, top, _, _, _, _ => ⟨Adds.refl σ, TSame.refl σ⟩
  | n + 1, σ, top, hg, h1, h2, ha => by
    obtain ⟨a1, a2, a3⟩ := cols_facts (P := P) hr σ.b.w hg (x := 0) (top := top) (by omega) (by omega) h1 (by omega) (fun x' y x1 x2 y1 y2 y3 => ha x' y x1 (by omega) y1 y3)
    have hl := le_cols (P := P) (n := σ.b.w) hg (x := 0) (top := top) (by omega) (by omega) h1 (by omega)
    obtain ⟨b1, b2⟩ := stripes_facts hr n (σ := σ.cols P 0 top σ.b.w) (top := top + 4) hl.good (by omega) (by rw [hl.h]; omega) (fun x y x1 x2 y1 y2 => by
      rw [hl.w] at x2; rw [hl.h] at y2
      exact adone_keep a2 (a3 x y (by omega)) (ha x y x1 x2 (by omega) y2))
    refine ⟨?_, a2.trans b2⟩
    have := a1.trans b1
    rw [U_congr (b := σ.b) (fun p _ => a2 p.1 p.2), hl.w, hl.h] at this
    rw [scanPts, U_append]
    exact this

/-! The significance and the refinement pass. -/
theorem sig1_facts {P : PP} (hr : P.rw = false) {σ : ES} (hg : σ.b.Good) {p : Int × Int} (hi : σ.b.inb p.1 p.2) (ht : (σ.b.get p.1 p.2).t = false) :
    ∃ n, Adds σ (σ.sig1 P p.1 p.2) n ∧ n + un (σ.sig1 P p.1 p.2).b p = 1 ∧ ∀ x y, ¬ (x = p.1 ∧ y = p.2) → ((σ.sig1 P p.1 p.2).b.get x y).t = (σ.b.get x y).t := by
  obtain ⟨x0, y0⟩ := p
  simp only at *
  unfold ES.sig1
  split
  · have hl := le_code (P := P) hg hi
    have hgt : ∀ x y, ((σ.code P x0 y0).map x0 y0 (touch true)).b.get x y = if x = x0 ∧ y = y0 then touch true ((σ.code P x0 y0).b.get x0 y0) else (σ.code P x0 y0).b.get x y :=
      fun x y => BS.get_upd hl.good.ok (hl.inb hi) (touch true) x y
    refine ⟨1, (adds_code hr σ x0 y0).map x0 y0 _, ?_, fun x y hne => ?_⟩
    · unfold un
      simp only [hgt]
      simp [touch]
    · rw [hgt, if_neg hne]
      exact (get_code hg hi x y).1
  · exact ⟨0, Adds.refl σ, by unfold un; simp only [ht]; rfl, fun _ _ _ => rfl⟩
theorem sigs_facts {P : PP} (hr : P.rw = false) : ∀ (l : List (Int × Int)) {σ : ES}, σ.b.Good → AllIn σ.b l → l.Nodup → (∀ p ∈ l, (σ.b.get p.1 p.2).t = false) →
    ∃ n, Adds σ (σ.sigs P l) n ∧ n + U (σ.sigs P l).b l = l.length ∧ ∀ p : Int × Int, p ∉ l → ((σ.sigs P l).b.get p.1 p.2).t = (σ.b.get p.1 p.2).t
  | [], σ, _, _, _, _ => ⟨0, Adds.refl σ, rfl, fun _ _ => rfl⟩
  | p :: l, σ, hg, ha, hn, ht => by
    have hi := ha p (by simp)
    have hl := le_sig1 (P := P) hg hi
    obtain ⟨n1, a1, a2, a3⟩ := sig1_facts hr hg hi (ht p (by simp))
    rw [List.nodup_cons] at hn
    obtain ⟨n2, b1, b2, b3⟩ := sigs_facts hr l (σ := σ.sig1 P p.1 p.2) hl.good (AllIn.le (fun q hq => ha q (by simp [hq])) hl) hn.2 (fun q hq => by
      rw [a3 q.1 q.2 (fun e => hn.1 (by have : q = p := Prod.ext e.1 e.2; rw [← this]; exact hq))]
      exact ht q (by simp [hq]))
    refine ⟨n1 + n2, a1.trans b1, ?_, fun q hq => ?_⟩
    · have hu : un (σ.sigs P (p :: l)).b p = un (σ.sig1 P p.1 p.2).b p := by
        unfold un
        rw [show (σ.sigs P (p :: l)) = (σ.sig1 P p.1 p.2).sigs P l from rfl, b3 p hn.1]
      have hU : U (σ.sigs P (p :: l)).b (p :: l) = un (σ.sigs P (p :: l)).b p + U (σ.sigs P (p :: l)).b l := by simp [U]
      rw [hU, hu]
      have e : U (σ.sigs P (p :: l)).b l = U ((σ.sig1 P p.1 p.2).sigs P l).b l := rfl
      rw [e, List.length_cons]
      omega
    · simp only [List.mem_cons, not_or] at hq
      rw [show (σ.sigs P (p :: l)) = (σ.sig1 P p.1 p.2).sigs P l from rfl, b3 q hq.2]
      exact a3 q.1 q.2 (fun e => hq.1 (Prod.ext e.1 e.2))

theorem ref1_facts {P : PP} (hr : P.rw = false) {σ : ES} (hg : σ.b.Good) {p : Int × Int} (hi : σ.b.inb p.1 p.2) :
    ∃ n, Adds σ (σ.ref1 P p.1 p.2) n ∧ n + un (σ.ref1 P p.1 p.2).b p = un σ.b p ∧ (∀ x y, ¬ (x = p.1 ∧ y = p.2) → (σ.ref1 P p.1 p.2).b.get x y = σ.b.get x y) ∧ Adone (σ.ref1 P p.1 p.2).b p := by
  obtain ⟨x0, y0⟩ := p
  simp only at *
  unfold ES.ref1
  split
  · rename_i h
    refine ⟨0, Adds.refl σ, by omega, fun _ _ _ => rfl, fun hs => ?_⟩
    rcases h with h | h
    · simp only at hs; rw [h] at hs; cases hs
    · exact h
  · rename_i h
    have htf : (σ.b.get x0 y0).t = false := by
      cases hx : (σ.b.get x0 y0).t
      · rfl
      · exact absurd (.inr hx) h
    have he := le_emit (P := P) hg (refCtx (!(σ.b.get x0 y0).r) (near σ.b x0 y0 P.cz)) (bitOf (σ.b.get x0 y0).v P.s)
    have h1 := le_map he.good (he.inb hi) kv_refine
    have hc := refCtx_rng (!(σ.b.get x0 y0).r) (near σ.b x0 y0 P.cz)
    have hc' : ((refCtx (!(σ.b.get x0 y0).r) (near σ.b x0 y0 P.cz) : Nat) : Int) ≤ 8 ∨ 14 ≤ ((refCtx (!(σ.b.get x0 y0).r) (near σ.b x0 y0 P.cz) : Nat) : Int) ∧ ((refCtx (!(σ.b.get x0 y0).r) (near σ.b x0 y0 P.cz) : Nat) : Int) ≤ 16 := by omega
    have hgt : ∀ x y, (((σ.emit P (refCtx (!(σ.b.get x0 y0).r) (near σ.b x0 y0 P.cz)) (bitOf (σ.b.get x0 y0).v P.s)).map x0 y0 refine').map x0 y0 (touch true)).b.get x y =
        if x = x0 ∧ y = y0 then touch true (refine' (σ.b.get x0 y0)) else σ.b.get x y := by
      intro x y
      rw [ES.map_b, BS.get_upd h1.good.ok (h1.inb (he.inb hi)), ES.map_b, BS.get_upd he.good.ok (he.inb hi), BS.get_upd he.good.ok (he.inb hi)]
      simp only [ES.emit_b]
      split
      · rename_i e; obtain ⟨rfl, rfl⟩ := e; simp
      · rfl
    refine ⟨1, ((adds_emit hr σ _ _ (by simp only [fin, if_pos hc']; rfl) (by simp only [cov, if_pos hc']; rfl)).map x0 y0 _).map x0 y0 _, ?_, fun x y hne => by rw [hgt, if_neg hne], fun _ => ?_⟩
    · unfold un
      simp only [hgt]
      simp [touch, htf]
    · simp only [hgt]
      simp [touch]
theorem refs_facts {P : PP} (hr : P.rw = false) : ∀ (l : List (Int × Int)) {σ : ES}, σ.b.Good → AllIn σ.b l → l.Nodup →
    ∃ n, Adds σ (σ.refs P l) n ∧ n + U (σ.refs P l).b l = U σ.b l ∧ (∀ p : Int × Int, p ∉ l → (σ.refs P l).b.get p.1 p.2 = σ.b.get p.1 p.2) ∧ (∀ p ∈ l, Adone (σ.refs P l).b p)
  | [], σ, _, _, _ => ⟨0, Adds.refl σ, rfl, fun _ _ => rfl, fun p hp => by cases hp⟩
  | p :: l, σ, hg, ha, hn => by
    have hi := ha p (by simp)
    have hl := le_ref1 (P := P) hg hi
    obtain ⟨n1, a1, a2, a3, a4⟩ := ref1_facts hr hg hi
    rw [List.nodup_cons] at hn
    obtain ⟨n2, b1, b2, b3, b4⟩ := refs_facts hr l (σ := σ.ref1 P p.1 p.2) hl.good (AllIn.le (fun q hq => ha q (by simp [hq])) hl) hn.2
    have hrfl : (σ.refs P (p :: l)) = (σ.ref1 P p.1 p.2).refs P l := rfl
    have hul : U (σ.ref1 P p.1 p.2).b l = U σ.b l := U_congr fun q hq => by rw [a3 q.1 q.2 (fun e => hn.1 (by have : q = p := Prod.ext e.1 e.2; rw [← this]; exact hq))]
    refine ⟨n1 + n2, a1.trans b1, ?_, fun q hq => ?_, fun q hq => ?_⟩
    · have hu : un (σ.refs P (p :: l)).b p = un (σ.ref1 P p.1 p.2).b p := by
        unfold un
        rw [hrfl, b3 p hn.1]
      have hU : U (σ.refs P (p :: l)).b (p :: l) = un (σ.refs P (p :: l)).b p + U (σ.refs P (p :: l)).b l := by simp [U]
      have hU0 : U σ.b (p :: l) = un σ.b p + U σ.b l := by simp [U]
      have e : U (σ.refs P (p :: l)).b l = U ((σ.ref1 P p.1 p.2).refs P l).b l := rfl
      rw [hU, hu, hU0, e]
      omega
    · simp only [List.mem_cons, not_or] at hq
      rw [hrfl, b3 q hq.2]
      exact a3 q.1 q.2 (fun e => hq.1 (Prod.ext e.1 e.2))
    · rw [hrfl]
      by_cases hql : q ∈ l
      · exact b4 q hql
      · simp only [List.mem_cons] at hq
        rcases hq with rfl | hq
        · have := b3 q hn.1
          unfold Adone at *
          rw [this]; exact a4
        · exact absurd hq hql
theorem clear_facts : ∀ (l : List (Int × Int)) {σ : ES}, σ.b.Good → AllIn σ.b l →
    (∀ p ∈ l, ((σ.clear l).b.get p.1 p.2).t = false) ∧ (∀ p : Int × Int, (σ.b.get p.1 p.2).t = false → ((σ.clear l).b.get p.1 p.2).t = false) ∧ (σ.clear l).out = σ.out
  | [], σ, _, _ => ⟨fun p hp => (by cases hp), fun p hp => hp, rfl⟩
  | p :: l, σ, hg, ha => by
    have hi := ha p (by simp)
    have hl := le_map hg hi (kv_touch false)
    obtain ⟨b1, b2, b3⟩ := clear_facts l (σ := σ.map p.1 p.2 (touch false)) hl.good (AllIn.le (fun q hq => ha q (by simp [hq])) hl)
    have hgt : ∀ x y, (σ.map p.1 p.2 (touch false)).b.get x y = if x = p.1 ∧ y = p.2 then touch false (σ.b.get p.1 p.2) else σ.b.get x y := fun x y => BS.get_upd hg.ok hi _ x y
    refine ⟨fun q hq => ?_, fun q hq => ?_, b3⟩
    · simp only [List.mem_cons] at hq
      rcases hq with rfl | hq
      · exact b2 q (by rw [hgt, if_pos ⟨rfl, rfl⟩]; rfl)
      · exact b1 q hq
    · refine b2 q ?_
      rw [hgt]
      split
      · rfl
      · exact hq

/-! The scan: each point once. -/
theorem mem_colPts : ∀ {n : Nat} {x y : Int} {p : Int × Int}, p ∈ colPts x y n → p.1 = x ∧ y ≤ p.2 ∧ p.2 < y + n
  | 0, x, y, p, h => by simp [colPts] at h
  | n + 1, x, y, p, h => by
    simp only [colPts, List.mem_cons] at h
    rcases h with rfl | h
    · exact ⟨rfl, by simp only; omega, by simp only; omega⟩
    · obtain ⟨a, b, c⟩ := mem_colPts h
      exact ⟨a, by omega, by omega⟩
theorem nodup_colPts : ∀ (n : Nat) (x y : Int), (colPts x y n).Nodup
  | 0, x, y => by simp [colPts]
  | n + 1, x, y => by
    rw [colPts, List.nodup_cons]
    exact ⟨fun h => by have := mem_colPts h; simp only at this; omega, nodup_colPts n x (y + 1)⟩
theorem mem_stripePts {h : Nat} : ∀ {n : Nat} {x top : Int} {p : Int × Int}, p ∈ stripePts h x top n → x ≤ p.1 ∧ p.1 < x + n ∧ top ≤ p.2 ∧ p.2 < top + 4
  | 0, x, y, p, hp => by simp [stripePts] at hp
  | n + 1, x, top, p, hp => by
    simp only [stripePts, List.mem_append] at hp
    rcases hp with hp | hp
    · have := mem_colPts hp; omega
    · have := mem_stripePts hp; omega
theorem nodup_stripePts {h : Nat} : ∀ (n : Nat) (x top : Int), (stripePts h x top n).Nodup
  | 0, x, y => by simp [stripePts]
  | n + 1, x, top => by
    rw [stripePts, List.nodup_append]
    refine ⟨nodup_colPts _ x top, nodup_stripePts n (x + 1) top, fun a ha b hb e => ?_⟩
    have h1 := mem_colPts ha
    have h2 := mem_stripePts hb
    rw [e] at h1
    omega
theorem mem_scanPts {w h : Nat} : ∀ {n : Nat} {top : Int} {p : Int × Int}, p ∈ scanPts w h top n → top ≤ p.2
  | 0, y, p, hp => by simp [scanPts] at hp
  | n + 1, top, p, hp => by
    simp only [scanPts, List.mem_append] at hp
    rcases hp with hp | hp
    · exact (mem_stripePts hp).2.2.1
    · have := mem_scanPts hp; omega
theorem nodup_scanPts {w h : Nat} : ∀ (n : Nat) (top : Int), (scanPts w h top n).Nodup
  | 0, y => by simp [scanPts]
  | n + 1, top => by
    rw [scanPts, List.nodup_append]
    refine ⟨nodup_stripePts _ 0 top, nodup_scanPts n (top + 4), fun a ha b hb e => ?_⟩
    have h1 := mem_stripePts ha
    have h2 := mem_scanPts hb
    rw [e] at h1
    omega
theorem stripePts_len' {h : Nat} (top : Int) : ∀ (n : Nat) (x : Int), (stripePts h x top n).length = n * (min (top + 4) (h : Int) - top).toNat
  | 0, x => by simp [stripePts]
  | n + 1, x => by
    rw [stripePts, List.length_append, colPts_len, stripePts_len' top n, Nat.add_mul]; omega
theorem scanPts_len' {w h : Nat} : ∀ (n : Nat) (top : Int), 0 ≤ top → (h : Int) ≤ top + 4 * n → (scanPts w h top n).length = w * (h - top).toNat
  | 0, top, h0, h1 => by
    rw [show ((h : Int) - top).toNat = 0 by omega]; simp [scanPts]
  | n + 1, top, h0, h1 => by
    rw [scanPts, List.length_append, stripePts_len', scanPts_len' n (top + 4) (by omega) (by omega), ← Nat.mul_add]
    congr 1; omega
theorem scan_len' (w h : Nat) : (scan w h).length = w * h := by
  have := scanPts_len' (w := w) (h := h) (stripesOf h) 0 (by omega) (by unfold stripesOf; omega)
  simpa [scan] using this
theorem U_full {b : BS} {l : List (Int × Int)} (h : ∀ p ∈ l, (b.get p.1 p.2).t = false) : U b l = l.length := by
  induction l with
  | nil => rfl
  | cons p l ih =>
    have hu : un b p = 1 := by unfold un; rw [if_neg (by simp [h p (by simp)])]
    have := ih (fun q hq => h q (by simp [hq]))
    simp only [U, List.map_cons, List.sum_cons, List.length_cons, hu] at this ⊢
    omega

theorem colPts_mem : ∀ {n : Nat} {x y y' : Int}, y ≤ y' → y' < y + n → (x, y') ∈ colPts x y n
  | 0, x, y, y', h1, h2 => by omega
  | n + 1, x, y, y', h1, h2 => by
    rw [colPts, List.mem_cons]
    by_cases h : y' = y
    · exact .inl (by rw [h])
    · exact .inr (colPts_mem (by omega) (by omega))
theorem stripePts_mem {h : Nat} : ∀ {n : Nat} {x x' top y : Int}, x ≤ x' → x' < x + n → top ≤ y → y < top + 4 → y < h → (x', y) ∈ stripePts h x top n
  | 0, x, x', top, y, h1, h2, h3, h4, h5 => by omega
  | n + 1, x, x', top, y, h1, h2, h3, h4, h5 => by
    rw [stripePts, List.mem_append]
    by_cases hx : x' = x
    · subst hx; exact .inl (colPts_mem h3 (by omega))
    · exact .inr (stripePts_mem (by omega) (by omega) h3 h4 h5)
theorem scanPts_mem {w h : Nat} : ∀ {n : Nat} {x y top : Int}, 0 ≤ x → x < w → top ≤ y → y < top + 4 * n → y < h → (x, y) ∈ scanPts w h top n
  | 0, x, y, top, h1, h2, h3, h4, h5 => by omega
  | n + 1, x, y, top, h1, h2, h3, h4, h5 => by
    rw [scanPts, List.mem_append]
    by_cases hy : y < top + 4
    · exact .inl (stripePts_mem h1 (by omega) h3 hy h5)
    · exact .inr (scanPts_mem h1 h2 (by omega) (by omega) h5)
theorem scan_mem {w h : Nat} {x y : Int} (h1 : 0 ≤ x) (h2 : x < w) (h3 : 0 ≤ y) (h4 : y < h) : (x, y) ∈ scan w h :=
  scanPts_mem h1 h2 h3 (by unfold stripesOf; omega) h4

/-- Between the passes: n bits of the plane were coded. -/
structure CJ (k : Nat) (b : BS) (n : Nat) : Prop where
  good : b.Good
  sum : n + U b (scan b.w b.h) = b.w * b.h
  k0 : kindOf k = 0 → ∀ p ∈ scan b.w b.h, (b.get p.1 p.2).t = false
  k2 : kindOf k = 2 → ∀ p ∈ scan b.w b.h, Adone b p
theorem kind_next (k : Nat) : (kindOf k = 0 ∧ kindOf (k + 1) = 1) ∨ (kindOf k = 1 ∧ kindOf (k + 1) = 2) ∨ (kindOf k = 2 ∧ kindOf (k + 1) = 0) := by
  unfold kindOf
  split <;> simp <;> omega
theorem scan_nodup (w h : Nat) : (scan w h).Nodup := nodup_scanPts _ 0
theorem cj_step {m : MD} (hb : m.byp = false) (hs : m.sy = false) {k planes o : Nat} {b : BS} {n : Nat} (j : CJ k b n) :
    fin 0 (runSt m b k planes o).out = 0 ∧ (runSt m b k planes o).b.w = b.w ∧ (runSt m b k planes o).b.h = b.h ∧
    (kindOf k ≠ 2 → CJ (k + 1) (runSt m b k planes o).b (n + cov 0 (runSt m b k planes o).out)) ∧
    (kindOf k = 2 → n + cov 0 (runSt m b k planes o).out = b.w * b.h ∧ CJ (k + 1) (runSt m b k planes o).b 0) := by
  have hr : (runPP m k planes o).rw = false := by simp [runPP, rawOf, hb]
  have hal := scanIn b
  rcases kind_next k with ⟨h0, h1⟩ | ⟨h0, h1⟩ | ⟨h0, h1⟩
  · have hrun : runSt m b k planes o = ES.sigs (runPP m k planes o) ⟨b, []⟩ (scan b.w b.h) := by unfold runSt; rw [if_pos h0]
    have hl := le_sigs (P := runPP m k planes o) (σ := ⟨b, []⟩) j.good hal
    obtain ⟨c, a1, a2, a3⟩ := sigs_facts hr (scan b.w b.h) (σ := ⟨b, []⟩) j.good hal (scan_nodup _ _) (j.k0 h0)
    rw [← hrun] at hl a1 a2
    obtain ⟨l, e1, e2, e3⟩ := a1.ex
    simp only [List.nil_append] at e1
    rw [← e1] at e2 e3
    have hw := hl.w
    have hh := hl.h
    simp only at hw hh
    refine ⟨e2, hw, hh, fun _ => ⟨hl.good, ?_, fun h => by omega, fun h => by omega⟩, fun h => by omega⟩
    rw [hw, hh, e3]
    have := j.sum
    have hf := U_full (j.k0 h0)
    rw [scan_len'] at a2 hf
    omega
  · have hrun : runSt m b k planes o = ES.refs (runPP m k planes o) ⟨b, []⟩ (scan b.w b.h) := by unfold runSt; rw [if_neg (by omega), if_pos h0]
    have hl := le_refs (P := runPP m k planes o) (σ := ⟨b, []⟩) j.good hal
    obtain ⟨c, a1, a2, a3, a4⟩ := refs_facts hr (scan b.w b.h) (σ := ⟨b, []⟩) j.good hal (scan_nodup _ _)
    rw [← hrun] at hl a1 a2 a4
    obtain ⟨l, e1, e2, e3⟩ := a1.ex
    simp only [List.nil_append] at e1
    rw [← e1] at e2 e3
    have hw := hl.w
    have hh := hl.h
    simp only at hw hh a2
    refine ⟨e2, hw, hh, fun _ => ⟨hl.good, ?_, fun h => by omega, fun _ => by rw [hw, hh]; exact a4⟩, fun h => by omega⟩
    rw [hw, hh, e3]
    have := j.sum
    omega
  · have hrun : runSt m b k planes o = ES.clear (ES.stripes (runPP m k planes o) ⟨b, []⟩ 0 (stripesOf b.h)) (scan b.w b.h) := by
      unfold runSt; rw [if_neg (by omega), if_neg (by omega)]
      unfold ES.clean ES.check
      rw [hs]; rfl
    have g2 : 0 + 4 * ((stripesOf b.h : Nat) : Int) ≤ b.h + 3 := by unfold stripesOf; omega
    have hl := le_stripes (P := runPP m k planes o) (σ := ⟨b, []⟩) (n := stripesOf b.h) j.good (top := 0) (by omega) g2
    obtain ⟨a1, a2⟩ := stripes_facts (P := runPP m k planes o) hr (stripesOf b.h) (σ := ⟨b, []⟩) (top := 0) j.good (by omega) g2 (fun x y h1 h2 h3 h4 => j.k2 h0 (x, y) (scan_mem h1 h2 h3 h4))
    simp only at hl a1 a2
    have hw := hl.w
    have hh := hl.h
    simp only at hw hh
    generalize ES.stripes (runPP m k planes o) ⟨b, []⟩ 0 (stripesOf b.h) = τ at *
    have hall : AllIn τ.b (scan b.w b.h) := by have := scanIn τ.b; rwa [hw, hh] at this
    have hlc := le_clear (σ := τ) hl.good hall
    obtain ⟨c1, c2, c3⟩ := clear_facts (scan b.w b.h) (σ := τ) hl.good hall
    rw [← hrun] at hlc c1 c3
    obtain ⟨l, e1, e2, e3⟩ := a1.ex
    simp only [List.nil_append] at e1
    rw [← e1, ← c3] at e2 e3
    have hw' := hlc.w.trans hw
    have hh' := hlc.h.trans hh
    have hU : U (ES.b ⟨b, []⟩) (scanPts b.w b.h 0 (stripesOf b.h)) = U b (scan b.w b.h) := rfl
    refine ⟨e2, hw', hh', fun h => absurd h0 h, fun _ => ⟨?_, hlc.good, ?_, fun _ => ?_, fun h => by omega⟩⟩
    · have := j.sum
      rw [e3]; exact this
    · rw [hw', hh', U_full c1, scan_len']; omega
    · rw [hw', hh']; exact c1

/-- What the law asks of the passes from k on, n bits of the plane being coded. -/
def CovOk (len : Nat) : Nat → Nat → List (List (Int × Nat)) → Prop
  | _, n, [] => n = 0
  | k, n, l :: ls => fin 0 l = 0 ∧ (kindOf k = 2 → n + cov 0 l = len ∧ CovOk len (k + 1) 0 ls) ∧ (kindOf k ≠ 2 → CovOk len (k + 1) (n + cov 0 l) ls)
theorem covOk_passes {m : MD} (hb : m.byp = false) (hs : m.sy = false) {planes o : Nat} : ∀ (c k : Nat) (b : BS) (n : Nat), kindOf (k + c) = 0 → CJ k b n → CovOk (b.w * b.h) k n (passesOf m planes o c k b)
  | 0, k, b, n, hk, j => by
    have := j.sum
    rw [U_full (j.k0 hk), scan_len'] at this
    show n = 0
    omega
  | c + 1, k, b, n, hk, j => by
    obtain ⟨a1, a2, a3, a4, a5⟩ := cj_step (planes := planes) (o := o) hb hs j
    have hk' : kindOf (k + 1 + c) = 0 := by rw [show k + 1 + c = k + (c + 1) by omega]; exact hk
    refine ⟨a1, fun h => ?_, fun h => ?_⟩
    · obtain ⟨b1, b2⟩ := a5 h
      have := covOk_passes (planes := planes) (o := o) hb hs c (k + 1) _ 0 hk' b2
      rw [a2, a3] at this
      exact ⟨b1, this⟩
    · have := covOk_passes (planes := planes) (o := o) hb hs c (k + 1) _ _ hk' (a4 h)
      rw [a2, a3] at this
      exact this
theorem covOk_all {m : MD} (hb : m.byp = false) (hs : m.sy = false) {planes o : Nat} {b : BS} (hg : b.Good) (hf : ∀ x y, (b.get x y).s = false ∧ (b.get x y).t = false) : CovOk (b.w * b.h) 0 0 (passesOf m planes o (3 * planes - 2) 0 b) := by
  by_cases hp : planes = 0
  · subst hp; exact rfl
  · refine covOk_passes hb hs _ 0 b 0 ?_ ⟨hg, ?_, fun _ p _ => (hf p.1 p.2).2, fun _ p _ h => ?_⟩
    · unfold kindOf; rw [if_neg (by omega)]; omega
    · rw [U_full (fun p _ => (hf p.1 p.2).2), scan_len']; omega
    · rw [(hf p.1 p.2).1] at h; cases h

end Go.Proofs.Ytjpjohchdfoeaaa
/-! Without the lowest planes: the plain law. -/
namespace Go.Proofs.Ytjpjohchdfoeaaa
open Go.Sim
open Go.RowKit
set_option linter.unusedVariables false
set_option linter.unusedSimpArgs false
/-! Without the lowest planes. -/
def cutN (k n : Nat) : Nat := n / 2 ^ k * 2 ^ k
def cutv (k : Nat) (v : Int) : Int := if v < 0 then -(cutN k v.natAbs : Int) else (cutN k v.natAbs : Int)
theorem cutN_le (k n : Nat) : cutN k n ≤ n := Nat.div_mul_le_self n _
theorem cutN_ge {k s n : Nat} (hk : k ≤ s) (h : 2 ^ s ≤ n) : 2 ^ s ≤ cutN k n := by
  unfold cutN
  have h1 : 2 ^ s = 2 ^ (s - k) * 2 ^ k := by rw [← Nat.pow_add]; congr 1; omega
  rw [h1]
  refine Nat.mul_le_mul_right _ ?_
  rw [Nat.le_div_iff_mul_le (Nat.two_pow_pos k), ← h1]; exact h
theorem natAbs_cutv (k : Nat) (v : Int) : (cutv k v).natAbs = cutN k v.natAbs := by unfold cutv; split <;> omega
theorem cutN_div {k s n : Nat} (hk : k ≤ s) : cutN k n / 2 ^ s = n / 2 ^ s := by
  unfold cutN
  have h1 : 2 ^ s = 2 ^ k * 2 ^ (s - k) := by rw [← Nat.pow_add]; congr 1; omega
  rw [h1, ← Nat.div_div_eq_div_mul, ← Nat.div_div_eq_div_mul, Nat.mul_div_cancel _ (Nat.two_pow_pos k)]
theorem bitOf_cutv {k s : Nat} (hk : k ≤ s) (v : Int) : bitOf (cutv k v) s = bitOf v s := by
  unfold bitOf
  rw [natAbs_cutv, cutN_div hk]
theorem bit_ge {v : Int} {s : Nat} (h : bitOf v s = 1) : 2 ^ s ≤ v.natAbs := by
  apply Nat.le_of_not_lt
  intro hlt
  unfold bitOf at h
  rw [Nat.div_eq_of_lt hlt] at h
  omega
theorem cutv_neg {k : Nat} {v : Int} (h : 2 ^ k ≤ v.natAbs) : cutv k v < 0 ↔ v < 0 := by
  have := cutN_ge (Nat.le_refl k) h
  have hp := Nat.two_pow_pos k
  unfold cutv
  split <;> omega

structure RB (k : Nat) (b b' : BS) : Prop where
  w : b'.w = b.w
  h : b'.h = b.h
  s : ∀ x y, (b'.get x y).s = (b.get x y).s
  t : ∀ x y, (b'.get x y).t = (b.get x y).t
  r : ∀ x y, (b'.get x y).r = (b.get x y).r
  v : ∀ x y, (b'.get x y).v = cutv k (b.get x y).v
  big : ∀ x y, (b.get x y).s = true → 2 ^ k ≤ (b.get x y).v.natAbs
theorem RB.inb {k : Nat} {b b' : BS} (h : RB k b b') {x y : Int} (hi : b.inb x y) : b'.inb x y := by
  obtain ⟨a1, a2, a3, a4⟩ := hi
  exact ⟨a1, by rw [h.w]; exact a2, a3, by rw [h.h]; exact a4⟩
theorem rb_one {k : Nat} {b b' : BS} (h : RB k b b') (x y : Int) : one b' x y = one b x y := by unfold one; rw [h.s]
theorem rb_nb {k : Nat} {b b' : BS} (h : RB k b b') (x y : Int) (q : Bool) : nbH b' x y = nbH b x y ∧ nbV b' x y q = nbV b x y q ∧ nbD b' x y q = nbD b x y q := by
  unfold nbH nbV nbD
  simp only [rb_one h]
  exact ⟨trivial, trivial, trivial⟩
theorem rb_near {k : Nat} {b b' : BS} (h : RB k b b') (x y : Int) (q : Bool) : near b' x y q = near b x y q := by
  obtain ⟨a1, a2, a3⟩ := rb_nb h x y q
  unfold near; rw [a1, a2, a3]
theorem rb_sgn {k : Nat} {b b' : BS} (h : RB k b b') (x y : Int) : sgn b' x y = sgn b x y := by
  unfold sgn
  rw [h.s]
  split
  · rename_i hs
    rw [h.v]
    have := cutv_neg (h.big x y hs)
    by_cases hv : (b.get x y).v < 0
    · rw [if_pos hv, if_pos (this.2 hv)]
    · rw [if_neg hv, if_neg (fun e => hv (this.1 e))]
  · rfl
theorem rb_sg {k : Nat} {b b' : BS} (h : RB k b b') (x y : Int) (q : Bool) : sgH b' x y = sgH b x y ∧ sgV b' x y q = sgV b x y q := by
  unfold sgH sgV
  simp only [rb_sgn h]
  exact ⟨trivial, trivial⟩
theorem rb_upd {k : Nat} {b b' : BS} (h : RB k b b') (hg : b.Good) (hg' : b'.Good) {x y : Int} (hi : b.inb x y) {f : Cell → Cell} (hv : ∀ c, (f c).v = c.v) (hs : ∀ c c' : Cell, c'.s = c.s → (f c').s = (f c).s) (ht : ∀ c c' : Cell, c'.t = c.t → (f c').t = (f c).t)
    (hr : ∀ c c' : Cell, c'.r = c.r → (f c').r = (f c).r) (hb : (f (b.get x y)).s = true → 2 ^ k ≤ (b.get x y).v.natAbs) : RB k (b.upd x y f) (b'.upd x y f) := by
  have g := fun x' y' => BS.get_upd hg.ok hi f x' y'
  have g' := fun x' y' => BS.get_upd hg'.ok (h.inb hi) f x' y'
  refine ⟨h.w, h.h, fun x' y' => ?_, fun x' y' => ?_, fun x' y' => ?_, fun x' y' => ?_, fun x' y' hs' => ?_⟩
  · rw [g, g']; split
    · exact hs _ _ (h.s x y)
    · exact h.s x' y'
  · rw [g, g']; split
    · exact ht _ _ (h.t x y)
    · exact h.t x' y'
  · rw [g, g']; split
    · exact hr _ _ (h.r x y)
    · exact h.r x' y'
  · rw [g, g']; split
    · rw [hv, hv]; exact h.v x y
    · exact h.v x' y'
  · rw [g] at hs' ⊢
    split at hs'
    · rename_i e; rw [if_pos e, hv]; exact hb hs'
    · rename_i e; rw [if_neg e]; exact h.big x' y' hs'

/-- Two passes in progress that have made the same symbols. -/
structure RE (k : Nat) (σ τ : ES) : Prop where
  b : RB k σ.b τ.b
  g : σ.b.Good
  g' : τ.b.Good
  out : τ.out = σ.out
section
variable {k : Nat} {P : PP} {σ τ : ES}
theorem re_emit (h : RE k σ τ) (c : Int) (n : Nat) : RE k (σ.emit P c n) (τ.emit P c n) := ⟨h.b, h.g, h.g', by simp [ES.emit, h.out]⟩
theorem re_mark (h : RE k σ τ) {x y : Int} (hi : σ.b.inb x y) (hb : 2 ^ k ≤ (σ.b.get x y).v.natAbs) : RE k (σ.map x y mark) (τ.map x y mark) :=
  ⟨rb_upd h.b h.g h.g' hi (fun _ => rfl) (fun _ _ _ => rfl) (fun _ _ e => e) (fun _ _ e => e) (fun _ => hb), h.g.upd hi kv_mark, h.g'.upd (h.b.inb hi) kv_mark, h.out⟩
theorem re_touch (h : RE k σ τ) {x y : Int} (hi : σ.b.inb x y) (v : Bool) : RE k (σ.map x y (touch v)) (τ.map x y (touch v)) :=
  ⟨rb_upd h.b h.g h.g' hi (fun _ => rfl) (fun _ _ e => e) (fun _ _ _ => rfl) (fun _ _ e => e) (fun hs => h.b.big x y hs), h.g.upd hi (kv_touch v), h.g'.upd (h.b.inb hi) (kv_touch v), h.out⟩
theorem re_refine (h : RE k σ τ) {x y : Int} (hi : σ.b.inb x y) : RE k (σ.map x y refine') (τ.map x y refine') :=
  ⟨rb_upd h.b h.g h.g' hi (fun _ => rfl) (fun _ _ e => e) (fun _ _ e => e) (fun _ _ _ => rfl) (fun hs => h.b.big x y hs), h.g.upd hi kv_refine, h.g'.upd (h.b.inb hi) kv_refine, h.out⟩
theorem re_sign (h : RE k σ τ) {x y : Int} (hi : σ.b.inb x y) (hb : 2 ^ k ≤ (σ.b.get x y).v.natAbs) : RE k (σ.sign P x y) (τ.sign P x y) := by
  obtain ⟨s1, s2⟩ := rb_sg h.b x y P.cz
  have hn : negOf (τ.b.get x y).v = negOf (σ.b.get x y).v := by
    unfold negOf
    rw [h.b.v]
    have := cutv_neg hb
    by_cases hv : (σ.b.get x y).v < 0
    · rw [if_pos hv, if_pos (this.2 hv)]
    · rw [if_neg hv, if_neg (fun e => hv (this.1 e))]
  have e : signBit P τ.b x y = signBit P σ.b x y := by unfold signBit; rw [hn, s1, s2]
  unfold ES.sign
  rw [s1, s2, e]
  exact re_mark (re_emit h _ _) hi hb
theorem re_bit (h : RE k σ τ) (hk : k ≤ P.s) (x y : Int) : bitOf (τ.b.get x y).v P.s = bitOf (σ.b.get x y).v P.s := by
  rw [h.b.v, bitOf_cutv hk]
theorem re_big {σ : ES} (hk : k ≤ P.s) {x y : Int} (h : bitOf (σ.b.get x y).v P.s = 1) : 2 ^ k ≤ (σ.b.get x y).v.natAbs := Nat.le_trans (Nat.pow_le_pow_right (by omega) hk) (bit_ge h)
theorem re_code (h : RE k σ τ) (hk : k ≤ P.s) {x y : Int} (hi : σ.b.inb x y) : RE k (σ.code P x y) (τ.code P x y) := by
  obtain ⟨n1, n2, n3⟩ := rb_nb h.b x y P.cz
  have e : ctxOf P τ.b x y = ctxOf P σ.b x y := by unfold ctxOf; rw [n1, n2, n3]
  unfold ES.code
  rw [re_bit h hk, e]
  split
  · rename_i hb
    exact re_sign (re_emit h _ _) hi (re_big (P := P) hk hb)
  · exact re_emit h _ _
theorem re_sig1 (h : RE k σ τ) (hk : k ≤ P.s) {x y : Int} (hi : σ.b.inb x y) : RE k (σ.sig1 P x y) (τ.sig1 P x y) := by
  unfold ES.sig1
  rw [h.b.s, rb_near h.b]
  split
  · exact re_touch (re_code h hk hi) ((le_code h.g hi).inb hi) true
  · exact h
theorem re_ref1 (h : RE k σ τ) (hk : k ≤ P.s) {x y : Int} (hi : σ.b.inb x y) : RE k (σ.ref1 P x y) (τ.ref1 P x y) := by
  unfold ES.ref1
  rw [h.b.s, h.b.t, h.b.r, rb_near h.b, re_bit h hk]
  split
  · exact h
  · exact re_touch (re_refine (re_emit h _ _) hi) hi true
theorem re_cln1 (h : RE k σ τ) (hk : k ≤ P.s) {x y : Int} (hi : σ.b.inb x y) : RE k (σ.cln1 P x y) (τ.cln1 P x y) := by
  unfold ES.cln1
  rw [h.b.s, h.b.t]
  split
  · exact re_code h hk hi
  · exact h
theorem re_first (h : RE k σ τ) (hk : k ≤ P.s) (x : Int) : ∀ (n : Nat) (y : Int), firstBit τ.b P.s x y n = firstBit σ.b P.s x y n
  | 0, _ => rfl
  | n + 1, y => by rw [firstBit, firstBit, re_bit h hk, re_first h hk x n]
theorem first_bit {b : BS} {s : Nat} {x : Int} : ∀ {n : Nat} {y : Int} {j : Nat}, firstBit b s x y n = some j → bitOf (b.get x (y + j)).v s = 1
  | 0, _, _, h => by simp [firstBit] at h
  | n + 1, y, j, h => by
    simp only [firstBit] at h
    split at h
    · injection h with h; subst h; simpa using (by assumption)
    · rw [Option.map_eq_some_iff] at h
      obtain ⟨i, hi, rfl⟩ := h
      have := first_bit hi
      rw [show y + ((i + 1 : Nat) : Int) = y + 1 + i by omega]; exact this
theorem re_run (h : RE k σ τ) (hk : k ≤ P.s) {x top : Int} (hi : σ.b.inb x top) (h4 : top + 4 ≤ σ.b.h) : RE k (σ.run P x top).1 (τ.run P x top).1 ∧ (τ.run P x top).2 = (σ.run P x top).2 := by
  unfold ES.run
  rw [re_first h hk]
  split
  · rename_i j hj
    have hlt := firstBit_lt hj
    obtain ⟨i1, i2, i3, i4⟩ := hi
    exact ⟨re_sign (re_emit (re_emit (re_emit h _ _) _ _) _ _) ⟨i1, i2, by omega, by show top + (j : Int) < σ.b.h; omega⟩ (re_big (P := P) (σ := ((σ.emit P 17 1).emit P 18 (j / 2)).emit P 18 (j % 2)) hk (first_bit hj)), rfl⟩
  · exact ⟨re_emit h _ _, rfl⟩
theorem re_rows (hk : k ≤ P.s) : ∀ {n : Nat} {σ τ : ES} {x y : Int}, RE k σ τ → 0 ≤ x → x < σ.b.w → 0 ≤ y → y + n ≤ σ.b.h → RE k (σ.rows P x y n) (τ.rows P x y n)
  | 0, σ, τ, x, y, h, _, _, _, _ => h
  | n + 1, σ, τ, x, y, h, h1, h2, h3, h4 => by
    have hi : σ.b.inb x y := ⟨h1, h2, h3, by omega⟩
    have hl := le_cln1 (P := P) h.g hi
    rw [ES.rows, ES.rows]
    exact re_rows hk (re_cln1 h hk hi) h1 (by rw [hl.w]; exact h2) (by omega) (by rw [hl.h]; omega)
theorem re_quiet (h : RE k σ τ) (x top : Int) (q : Bool) : quiet τ.b x top q = quiet σ.b x top q := by
  have go : ∀ (n : Nat) (y : Int), quietFrom τ.b x y q n = quietFrom σ.b x y q n := by
    intro n
    induction n with
    | zero => intro y; rfl
    | succ n ih => intro y; rw [quietFrom, quietFrom, ih]; unfold still; rw [h.b.s, h.b.t, rb_near h.b]
  unfold quiet
  rw [go, h.b.h]
theorem re_col (h : RE k σ τ) (hk : k ≤ P.s) {x top : Int} (hi : σ.b.inb x top) : RE k (σ.col P x top) (τ.col P x top) := by
  have hi0 := hi
  obtain ⟨i1, i2, i3, i4⟩ := hi
  unfold ES.col
  rw [re_quiet h, h.b.h]
  split
  · rename_i hq
    simp only [quiet, Bool.and_eq_true, decide_eq_true_eq] at hq
    obtain ⟨l1, l2, l3⟩ := le_run (P := P) h.g hi0 hq.1
    obtain ⟨r1, r2⟩ := re_run (P := P) h hk hi0 hq.1
    rw [r2]
    exact re_rows hk r1 i1 (by rw [l1.w]; exact i2) (by omega) (by rw [l1.h]; omega)
  · exact re_rows hk h i1 i2 i3 (by omega)
theorem re_cols (hk : k ≤ P.s) : ∀ {n : Nat} {σ τ : ES} {x top : Int}, RE k σ τ → 0 ≤ x → x + n ≤ σ.b.w → 0 ≤ top → top < σ.b.h → RE k (σ.cols P x top n) (τ.cols P x top n)
  | 0, σ, τ, x, top, h, _, _, _, _ => h
  | n + 1, σ, τ, x, top, h, h1, h2, h3, h4 => by
    have hi : σ.b.inb x top := ⟨h1, by omega, h3, h4⟩
    have hl := le_col (P := P) h.g hi
    rw [ES.cols, ES.cols]
    exact re_cols hk (re_col h hk hi) (by omega) (by rw [hl.w]; omega) h3 (by rw [hl.h]; exact h4)
theorem re_stripes (hk : k ≤ P.s) : ∀ {n : Nat} {σ τ : ES} {top : Int}, RE k σ τ → 0 ≤ top → top + 4 * n ≤ σ.b.h + 3 → RE k (σ.stripes P top n) (τ.stripes P top n)
  | 0, σ, τ, top, h, _, _ => h
  | n + 1, σ, τ, top, h, h1, h2 => by
    have hl := le_cols (P := P) (n := σ.b.w) h.g (x := 0) (top := top) (by omega) (by omega) h1 (by omega)
    rw [ES.stripes, ES.stripes, h.b.w]
    exact re_stripes hk (re_cols hk h (by omega) (by omega) h1 (by omega)) (by omega) (by rw [hl.h]; omega)
theorem re_fold {f : ES → Int × Int → ES} (hf : ∀ (σ τ : ES) (p : Int × Int), RE k σ τ → σ.b.inb p.1 p.2 → RE k (f σ p) (f τ p) ∧ (f σ p).b.w = σ.b.w ∧ (f σ p).b.h = σ.b.h) :
    ∀ {l : List (Int × Int)} {σ τ : ES}, RE k σ τ → AllIn σ.b l → RE k (l.foldl f σ) (l.foldl f τ)
  | [], _, _, h, _ => h
  | p :: l, σ, τ, h, ha => by
    obtain ⟨a, hw, hh⟩ := hf σ τ p h (ha p (by simp))
    rw [List.foldl_cons, List.foldl_cons]
    refine re_fold hf a (fun q hq => ?_)
    obtain ⟨b1, b2, b3, b4⟩ := ha q (by simp [hq])
    exact ⟨b1, by rw [hw]; exact b2, b3, by rw [hh]; exact b4⟩
theorem re_check (h : RE k σ τ) (on : Bool) : RE k (σ.check P on) (τ.check P on) := by
  unfold ES.check
  split
  · exact re_emit (re_emit (re_emit (re_emit h _ _) _ _) _ _) _ _
  · exact h
end
theorem re_runSt {k : Nat} {m : MD} {b b' : BS} (h : RB k b b') (hg : b.Good) (hg' : b'.Good) {n planes o : Nat} (hk : k ≤ planes - 1 - planeOf n) : RE k (runSt m b n planes o) (runSt m b' n planes o) := by
  have h0 : RE k ⟨b, []⟩ ⟨b', []⟩ := ⟨h, hg, hg', rfl⟩
  have hk' : k ≤ (runPP m n planes o).s := hk
  have hal := scanIn b
  unfold runSt
  rw [h.w, h.h]
  split
  · exact re_fold (f := fun σ p => ES.sig1 (runPP m n planes o) σ p.1 p.2) (fun σ τ p hr hi => ⟨re_sig1 hr hk' hi, (le_sig1 (P := runPP m n planes o) hr.g hi).w, (le_sig1 (P := runPP m n planes o) hr.g hi).h⟩) h0 hal
  · split
    · exact re_fold (f := fun σ p => ES.ref1 (runPP m n planes o) σ p.1 p.2) (fun σ τ p hr hi => ⟨re_ref1 hr hk' hi, (le_ref1 (P := runPP m n planes o) hr.g hi).w, (le_ref1 (P := runPP m n planes o) hr.g hi).h⟩) h0 hal
    · unfold ES.clean
      rw [h.w, h.h]
      have g2 : 0 + 4 * ((stripesOf b.h : Nat) : Int) ≤ b.h + 3 := by unfold stripesOf; omega
      have hl := le_stripes (P := runPP m n planes o) (σ := ⟨b, []⟩) (n := stripesOf b.h) hg (top := 0) (by omega) g2
      have hs := re_stripes (P := runPP m n planes o) hk' (n := stripesOf b.h) (top := 0) h0 (by omega) g2
      refine re_check (re_fold (fun σ τ p hr hi => ⟨re_touch hr hi false, rfl, rfl⟩) hs ?_) m.sy
      have := scanIn (ES.stripes (runPP m n planes o) ⟨b, []⟩ 0 (stripesOf b.h)).b
      rwa [hl.w, hl.h] at this
theorem passesOf_take (m : MD) (planes o : Nat) : ∀ (n c k : Nat) (b : BS), n ≤ c → (passesOf m planes o c k b).take n = passesOf m planes o n k b
  | 0, c, k, b, _ => by simp [passesOf]
  | n + 1, 0, k, b, h => by omega
  | n + 1, c + 1, k, b, h => by
    rw [passesOf, List.take_succ_cons, passesOf_take m planes o n c (k + 1) _ (by omega)]; rfl
theorem passes_cut {k : Nat} {m : MD} {planes o : Nat} : ∀ (n j : Nat) (b b' : BS), RB k b b' → b.Good → b'.Good → (∀ i, j ≤ i → i < j + n → k ≤ planes - 1 - planeOf i) → passesOf m planes o n j b' = passesOf m planes o n j b
  | 0, _, _, _, _, _, _, _ => rfl
  | n + 1, j, b, b', h, hg, hg', hk => by
    have hr := re_runSt (m := m) (o := o) h hg hg' (hk j (by omega) (by omega))
    rw [passesOf, passesOf, hr.out, passes_cut n (j + 1) _ _ hr.b hr.g hr.g' (fun i h1 h2 => hk i (by omega) (by omega))]
theorem blen_eq {n p : Nat} (hp : 0 < p) (h1 : 2 ^ (p - 1) ≤ n) (h2 : n < 2 ^ p) : blen n = p := by
  have a := (@lt_blen n (p - 1)).2 h1
  have b := (@blen_le n p).2 h2
  omega
theorem planes_cut {xs : List Int} {k : Nat} (hk : k < planesOf xs) : planesOf (xs.map (cutv k)) = planesOf xs := by
  apply Nat.le_antisymm
  · rw [planes_le]
    intro v hv
    rw [List.mem_map] at hv
    obtain ⟨x, hx, rfl⟩ := hv
    rw [natAbs_cutv]
    exact Nat.lt_of_le_of_lt (cutN_le _ _) ((planes_le.1 (Nat.le_refl _)) x hx)
  · apply Nat.le_of_not_lt
    intro hlt
    have h1 : ¬ planesOf xs ≤ planesOf xs - 1 := by omega
    rw [planes_le] at h1
    apply h1
    intro v hv
    apply Nat.lt_of_not_le
    intro hge
    have h2 := cutN_ge (k := k) (by omega) hge
    have h3 := (planes_le.1 (Nat.le_refl (planesOf (xs.map (cutv k))))) (cutv k v) (List.mem_map_of_mem hv)
    rw [natAbs_cutv] at h3
    have := Nat.pow_le_pow_right (n := 2) (by omega) (show planesOf (xs.map (cutv k)) ≤ planesOf xs - 1 by omega)
    omega
theorem rb_fill {w h k : Nat} {xs : List Int} (n : Nat) (hn : n = xs.length) : RB k (fillTo w h xs n) (fillTo w h (xs.map (cutv k)) n) := by
  have hget : ∀ x y, (fillTo w h (xs.map (cutv k)) n).get x y = { (fillTo w h xs n).get x y with v := cutv k ((fillTo w h xs n).get x y).v } ∧ ((fillTo w h xs n).get x y).s = false := by
    intro x y
    have hz : cutv k 0 = 0 := by simp [cutv, cutN]
    have e : ∀ j, ((fillTo w h (xs.map (cutv k)) n).cs.getD j .zero) = { ((fillTo w h xs n).cs.getD j .zero) with v := cutv k ((fillTo w h xs n).cs.getD j .zero).v } ∧ ((fillTo w h xs n).cs.getD j .zero).s = false := by
      intro j
      simp only [fillTo, List.getD_eq_getElem?_getD]
      by_cases hj : j < xs.length
      · rw [List.getElem?_append_left (by simp; omega), List.getElem?_append_left (by simp; omega)]
        simp [hj, hn, cellOf]
      · rw [List.getElem?_append_right (by simp; omega), List.getElem?_append_right (by simp; omega)]
        simp only [blank, List.getElem?_replicate, List.length_map, List.length_take]
        split <;> simp [Cell.zero, hz]
    unfold BS.get
    have hin : BS.inb (fillTo w h (xs.map (cutv k)) n) x y ↔ BS.inb (fillTo w h xs n) x y := Iff.rfl
    by_cases hi : BS.inb (fillTo w h xs n) x y
    · rw [if_pos hi, if_pos (hin.2 hi)]
      exact e _
    · rw [if_neg hi, if_neg (fun h => hi (hin.1 h))]
      simp [Cell.zero, hz]
  refine ⟨rfl, rfl, fun x y => ?_, fun x y => ?_, fun x y => ?_, fun x y => ?_, fun x y hs => ?_⟩
  · rw [(hget x y).1]
  · rw [(hget x y).1]
  · rw [(hget x y).1]
  · rw [(hget x y).1]
  · rw [(hget x y).2] at hs; cases hs

end Go.Proofs.Ytjpjohchdfoeaaa
namespace Go.Proofs.Ytjpjohchdfoeaaa
open Go Go.Sim

/-- A computation that asks for bits. -/
inductive Tr (α : Type) where
  | ret (a : α)
  | ask (c : Int) (k : Bool → Tr α)
def Tr.bind {α β : Type} : Tr α → (α → Tr β) → Tr β
  | .ret a, f => f a
  | .ask c k, f => .ask c fun b => (k b).bind f
def Tr.run {α S : Type} (A : S → Int → Bool × S) : Tr α → S → α × S
  | .ret a, s => (a, s)
  | .ask c k, s => (k (A s c).1).run A (A s c).2
theorem Tr.run_ret {α S : Type} (A : S → Int → Bool × S) (a : α) (s : S) : (Tr.ret a).run A s = (a, s) := rfl
theorem Tr.run_ask {α S : Type} (A : S → Int → Bool × S) (c : Int) (k : Bool → Tr α) (s : S) : (Tr.ask c k).run A s = (k (A s c).1).run A (A s c).2 := rfl
theorem Tr.run_bind {α β S : Type} (A : S → Int → Bool × S) (f : α → Tr β) : ∀ (t : Tr α) (s : S), (t.bind f).run A s = (f (t.run A s).1).run A (t.run A s).2
  | .ret a, s => rfl
  | .ask c k, s => by rw [Tr.bind, Tr.run_ask, Tr.run_ask]; exact Tr.run_bind A f (k (A s c).1) (A s c).2
/-- All ends meet Q, after n questions at most. -/
def Tr.Lv {α : Type} (Q : α → Prop) : Tr α → Nat → Prop
  | .ret a, _ => Q a
  | .ask _ _, 0 => False
  | .ask _ k, n + 1 => ∀ b, (k b).Lv Q n
theorem Tr.Lv.mono {α : Type} {Q Q' : α → Prop} (hq : ∀ a, Q a → Q' a) : ∀ {t : Tr α} {n m : Nat}, t.Lv Q n → n ≤ m → t.Lv Q' m
  | .ret a, n, m, h, _ => by unfold Tr.Lv at h ⊢; exact hq a h
  | .ask c k, 0, m, h, _ => by simp [Tr.Lv] at h
  | .ask c k, n + 1, 0, h, hm => by omega
  | .ask c k, n + 1, m + 1, h, hm => by
    unfold Tr.Lv at h ⊢
    exact fun b => Tr.Lv.mono hq (h b) (by omega)
theorem Tr.Lv.bind {α β : Type} {Q : α → Prop} {Q' : β → Prop} {f : α → Tr β} {m : Nat} (hf : ∀ a, Q a → (f a).Lv Q' m) : ∀ {t : Tr α} {n : Nat}, t.Lv Q n → (t.bind f).Lv Q' (n + m)
  | .ret a, n, h => by
    unfold Tr.Lv at h
    exact (hf a h).mono (fun _ h => h) (by omega)
  | .ask c k, 0, h => by simp [Tr.Lv] at h
  | .ask c k, n + 1, h => by
    unfold Tr.Lv at h
    rw [Tr.bind, show n + 1 + m = (n + m) + 1 by omega, Tr.Lv]
    exact fun b => Tr.Lv.bind hf (h b)
theorem Tr.Lv.out {α S : Type} {Q : α → Prop} {A : S → Int → Bool × S} {size : S → Nat} (ha : ∀ s c, size (A s c).2 ≤ size s + 1) : ∀ {t : Tr α} {n : Nat} (s : S), t.Lv Q n → Q (t.run A s).1 ∧ size (t.run A s).2 ≤ size s + n
  | .ret a, n, s, h => by
    unfold Tr.Lv at h
    exact ⟨h, by simp [Tr.run_ret]⟩
  | .ask c k, 0, s, h => by simp [Tr.Lv] at h
  | .ask c k, n + 1, s, h => by
    unfold Tr.Lv at h
    have := Tr.Lv.out ha (A s c).2 (h (A s c).1)
    have h2 := ha s c
    rw [Tr.run_ask]
    exact ⟨this.1, by omega⟩

def PP.cx (P : PP) (c : Int) : Int := if P.rw = true then -1 else c
def putV (v : Int) (c : Cell) : Cell := { c with v := v }
def pw (s : Nat) : Int := ((2 ^ s : Nat) : Int)
def dflip (P : PP) (b : BS) (x y : Int) : Bool := !P.rw && signFlip (sgH b x y) (sgV b x y P.cz) == 1
def dval (P : PP) (b : BS) (x y : Int) (bit : Bool) : Int := if (bit != dflip P b x y) = true then -pw P.s else pw P.s
def dset (P : PP) (b : BS) (x y : Int) (bit : Bool) : BS := (b.upd x y (putV (dval P b x y bit))).upd x y mark
def dsign (P : PP) (b : BS) (x y : Int) : Tr BS := .ask (P.cx (signCtx (sgH b x y) (sgV b x y P.cz))) fun bit => .ret (dset P b x y bit)
def dcode (P : PP) (b : BS) (x y : Int) : Tr BS := .ask (P.cx (ctxOf P b x y)) fun bit => if bit = true then dsign P b x y else .ret b
def dsig1 (P : PP) (b : BS) (x y : Int) : Tr BS :=
  if (b.get x y).s = false ∧ near b x y P.cz = true then (dcode P b x y).bind fun b => .ret (b.upd x y (touch true)) else .ret b
def growV (s : Nat) (v : Int) : Int := v + if v < 0 then -pw s else pw s
def grow (s : Nat) (b : BS) (x y : Int) : BS :=
  if -1152921504606846976 < growV s (b.get x y).v ∧ growV s (b.get x y).v < 1152921504606846976 then b.upd x y (putV (growV s (b.get x y).v)) else b
def growB (s : Nat) (b : BS) (x y : Int) (bit : Bool) : BS := if bit = true then grow s b x y else b
def dref1 (P : PP) (b : BS) (x y : Int) : Tr BS :=
  if (b.get x y).s = false ∨ (b.get x y).t = true then .ret b
  else .ask (P.cx (refCtx (!(b.get x y).r) (near b x y P.cz))) fun bit => .ret (((growB P.s b x y bit).upd x y refine').upd x y (touch true))
def dcln1 (P : PP) (b : BS) (x y : Int) : Tr BS := if (b.get x y).s = false ∧ (b.get x y).t = false then dcode P b x y else .ret b
def drows (P : PP) (b : BS) (x y : Int) : Nat → Tr BS
  | 0 => .ret b
  | n + 1 => (dcln1 P b x y).bind fun b => drows P b x (y + 1) n
def two2 (a b : Bool) : Nat := 2 * a.toNat + b.toNat
/-- The run length of a column: the block, the row behind it. -/
def drun (P : PP) (b : BS) (x top : Int) : Tr (BS × Int) :=
  .ask (P.cx 17) fun r => if r = true then .ask (P.cx 18) fun k1 => .ask (P.cx 18) fun k0 => (dsign P b x (top + two2 k1 k0)).bind fun b => .ret (b, top + two2 k1 k0 + 1) else .ret (b, top + 4)
def dcol (P : PP) (b : BS) (x top : Int) : Tr BS :=
  if quiet b x top P.cz = true then (drun P b x top).bind fun r => drows P r.1 x r.2 (min (top + 4) r.1.h - r.2).toNat
  else drows P b x top (min (top + 4) b.h - top).toNat
def dcols (P : PP) (b : BS) (x top : Int) : Nat → Tr BS
  | 0 => .ret b
  | n + 1 => (dcol P b x top).bind fun b => dcols P b (x + 1) top n
def dstripes (P : PP) (b : BS) (top : Int) : Nat → Tr BS
  | 0 => .ret b
  | n + 1 => (dcols P b 0 top b.w).bind fun b => dstripes P b (top + 4) n
def dsigs (P : PP) (b : BS) : List (Int × Int) → Tr BS
  | [] => .ret b
  | p :: l => (dsig1 P b p.1 p.2).bind fun b => dsigs P b l
def drefs (P : PP) (b : BS) : List (Int × Int) → Tr BS
  | [] => .ret b
  | p :: l => (dref1 P b p.1 p.2).bind fun b => drefs P b l
def BS.clr (b : BS) (l : List (Int × Int)) : BS := l.foldl (fun b p => b.upd p.1 p.2 (touch false)) b
/-- The check symbols. -/
def dchk (P : PP) (r : Bool) : List Bool → Tr Bool
  | [] => .ret r
  | x :: l => .ask (P.cx 18) fun bit => dchk P (r && bit == x) l
def dcheck (P : PP) (on : Bool) : Tr Bool := if on = true then dchk P true [true, false, true, false] else .ret true
def dclean (P : PP) (b : BS) (on : Bool) : Tr (BS × Bool) :=
  (dstripes P b 0 (stripesOf b.h)).bind fun b => (dcheck P on).bind fun r => .ret (b.clr (scan b.w b.h), r)

/-- What a part of a pass leaves of a block. -/
structure BS.Le (b b' : BS) : Prop where
  w : b'.w = b.w
  h : b'.h = b.h
  good : b'.Good
theorem BS.Le.refl {b : BS} (hg : b.Good) : b.Le b := ⟨rfl, rfl, hg⟩
theorem BS.Le.trans {a b c : BS} (h : a.Le b) (k : b.Le c) : a.Le c := ⟨k.w.trans h.w, k.h.trans h.h, k.good⟩
theorem BS.Le.inb {b b' : BS} (h : b.Le b') {x y : Int} (hi : b.inb x y) : b'.inb x y := by
  obtain ⟨a, b, c, d⟩ := hi
  exact ⟨a, by rw [h.w]; exact b, c, by rw [h.h]; exact d⟩
theorem BS.Le.all {b b' : BS} {l : List (Int × Int)} (h : b.Le b') (k : AllIn b l) : AllIn b' l := fun p hp => h.inb (k p hp)
theorem pw_pos (s : Nat) : 0 < pw s := by unfold pw; have := Nat.two_pow_pos s; omega
theorem pw_le {s : Nat} (h : s ≤ 59) : pw s ≤ 576460752303423488 := by
  unfold pw
  have := Nat.pow_le_pow_right (n := 2) (by omega) h
  omega
theorem good_putV {b : BS} (hg : b.Good) {x y : Int} (hi : b.inb x y) {v : Int} (hv : -1152921504606846976 < v ∧ v < 1152921504606846976) : b.Le (b.upd x y (putV v)) := by
  refine ⟨rfl, rfl, hg.ok.upd x y _, fun x' y' => ?_⟩
  rw [BS.get_upd hg.ok hi]
  split
  · exact hv
  · exact hg.rng x' y'
theorem good_map {b : BS} (hg : b.Good) {x y : Int} (hi : b.inb x y) {f : Cell → Cell} (hf : keepsV f) : b.Le (b.upd x y f) := ⟨rfl, rfl, hg.upd hi hf⟩
theorem dval_rng {P : PP} (hp : P.Ok) (b : BS) (x y : Int) (bit : Bool) : -1152921504606846976 < dval P b x y bit ∧ dval P b x y bit < 1152921504606846976 := by
  have h1 := pw_pos P.s
  have h2 := pw_le hp.s1
  unfold dval; split <;> omega
theorem le_dset {P : PP} (hp : P.Ok) {b : BS} (hg : b.Good) {x y : Int} (hi : b.inb x y) (bit : Bool) : b.Le (dset P b x y bit) := by
  have h1 := good_putV hg hi (dval_rng hp b x y bit)
  exact h1.trans (good_map h1.good (h1.inb hi) kv_mark)
theorem le_growB {s : Nat} {b : BS} (hg : b.Good) {x y : Int} (hi : b.inb x y) (bit : Bool) : b.Le (growB s b x y bit) := by
  unfold growB grow
  split
  · split
    · rename_i h; exact good_putV hg hi h
    · exact BS.Le.refl hg
  · exact BS.Le.refl hg

section
variable {P : PP} (hp : P.Ok)
include hp
theorem lv_dsign {b : BS} (hg : b.Good) {x y : Int} (hi : b.inb x y) : (dsign P b x y).Lv b.Le 1 := fun bit => le_dset hp hg hi bit
theorem lv_dcode {b : BS} (hg : b.Good) {x y : Int} (hi : b.inb x y) : (dcode P b x y).Lv b.Le 2 := fun bit => by
  show Tr.Lv b.Le (if bit = true then dsign P b x y else .ret b) 1
  split
  · exact lv_dsign hp hg hi
  · exact BS.Le.refl hg
theorem lv_dsig1 {b : BS} (hg : b.Good) {x y : Int} (hi : b.inb x y) : (dsig1 P b x y).Lv b.Le 2 := by
  unfold dsig1
  split
  · exact Tr.Lv.bind (m := 0) (fun a ha => ha.trans (good_map ha.good (ha.inb hi) (kv_touch true))) (lv_dcode hp hg hi)
  · exact BS.Le.refl hg
omit hp in
theorem lv_dref1 {b : BS} (hg : b.Good) {x y : Int} (hi : b.inb x y) : (dref1 P b x y).Lv b.Le 2 := by
  unfold dref1
  split
  · exact BS.Le.refl hg
  · intro bit
    have h1 := le_growB (s := P.s) hg hi bit
    have h2 := h1.trans (good_map h1.good (h1.inb hi) kv_refine)
    exact h2.trans (good_map h2.good (h2.inb hi) (kv_touch true))
theorem lv_dcln1 {b : BS} (hg : b.Good) {x y : Int} (hi : b.inb x y) : (dcln1 P b x y).Lv b.Le 2 := by
  unfold dcln1
  split
  · exact lv_dcode hp hg hi
  · exact BS.Le.refl hg
theorem lv_drows {x : Int} : ∀ {n : Nat} {b : BS} {y : Int}, b.Good → 0 ≤ x → x < b.w → 0 ≤ y → y + n ≤ b.h → (drows P b x y n).Lv b.Le (2 * n)
  | 0, b, y, hg, _, _, _, _ => BS.Le.refl hg
  | n + 1, b, y, hg, h1, h2, h3, h4 => by
    rw [drows, show 2 * (n + 1) = 2 + 2 * n by omega]
    refine Tr.Lv.bind (fun a ha => ?_) (lv_dcln1 hp hg (x := x) (y := y) ⟨h1, h2, h3, by omega⟩)
    exact (lv_drows (n := n) (y := y + 1) ha.good h1 (by rw [ha.w]; exact h2) (by omega) (by rw [ha.h]; omega)).mono (fun _ h => ha.trans h) (by omega)
omit hp in
theorem two2_le (a b : Bool) : two2 a b ≤ 3 := by cases a <;> cases b <;> decide
/-- What the run length of a column leaves. -/
def RunLe (b : BS) (top : Int) (r : BS × Int) : Prop := b.Le r.1 ∧ top < r.2 ∧ r.2 ≤ top + 4
theorem lv_drun {b : BS} (hg : b.Good) {x top : Int} (hi : b.inb x top) (h4 : top + 4 ≤ b.h) : (drun P b x top).Lv (RunLe b top) 4 := by
  obtain ⟨a1, a2, a3, a4⟩ := hi
  intro r
  show Tr.Lv _ (if r = true then _ else _) 3
  split
  · intro k1 k0
    have := two2_le k1 k0
    have hi : b.inb x (top + two2 k1 k0) := ⟨a1, a2, by omega, by omega⟩
    refine Tr.Lv.bind (n := 1) (m := 0) (fun a ha => ?_) (lv_dsign hp hg hi)
    exact (⟨ha, by simp only; omega, by simp only; omega⟩ : RunLe b top (a, top + two2 k1 k0 + 1))
  · exact (⟨BS.Le.refl hg, by simp only; omega, by simp only; omega⟩ : RunLe b top (b, top + 4))
theorem lv_dcol {b : BS} (hg : b.Good) {x top : Int} (hi : b.inb x top) : (dcol P b x top).Lv b.Le 12 := by
  have hi' := hi
  obtain ⟨h1, h2, h3, h4⟩ := hi
  unfold dcol
  split
  · rename_i hq
    simp only [quiet, Bool.and_eq_true, decide_eq_true_eq] at hq
    refine Tr.Lv.bind (n := 4) (m := 8) (fun r hr => ?_) (lv_drun hp hg hi' hq.1)
    obtain ⟨r1, r2, r3⟩ := hr
    exact (lv_drows hp r1.good h1 (by rw [r1.w]; exact h2) (by omega) (by rw [r1.h]; omega)).mono (fun _ h => r1.trans h) (by omega)
  · exact (lv_drows hp hg h1 h2 h3 (by omega)).mono (fun _ h => h) (by omega)
theorem lv_dcols {top : Int} : ∀ {n : Nat} {b : BS} {x : Int}, b.Good → 0 ≤ x → x + n ≤ b.w → 0 ≤ top → top < b.h → (dcols P b x top n).Lv b.Le (12 * n)
  | 0, b, x, hg, _, _, _, _ => BS.Le.refl hg
  | n + 1, b, x, hg, h1, h2, h3, h4 => by
    rw [dcols, show 12 * (n + 1) = 12 + 12 * n by omega]
    refine Tr.Lv.bind (fun a ha => ?_) (lv_dcol hp hg (x := x) (top := top) ⟨h1, by omega, h3, h4⟩)
    exact (lv_dcols (n := n) (x := x + 1) ha.good (by omega) (by rw [ha.w]; omega) h3 (by rw [ha.h]; exact h4)).mono (fun _ h => ha.trans h) (by omega)
theorem lv_dstripes : ∀ {n : Nat} {b : BS} {top : Int}, b.Good → 0 ≤ top → top + 4 * n ≤ b.h + 3 → (dstripes P b top n).Lv b.Le (12 * b.w * n)
  | 0, b, top, hg, _, _ => BS.Le.refl hg
  | n + 1, b, top, hg, h1, h2 => by
    rw [dstripes, show 12 * b.w * (n + 1) = 12 * b.w + 12 * b.w * n by rw [Nat.mul_add]; omega]
    refine Tr.Lv.bind (fun a ha => ?_) (lv_dcols hp (n := b.w) hg (x := 0) (top := top) (by omega) (by omega) h1 (by omega))
    have := lv_dstripes (n := n) (top := top + 4) ha.good (by omega) (by rw [ha.h]; omega)
    rw [ha.w] at this
    exact this.mono (fun _ h => ha.trans h) (by omega)
theorem lv_dsigs : ∀ {l : List (Int × Int)} {b : BS}, b.Good → AllIn b l → (dsigs P b l).Lv b.Le (2 * l.length)
  | [], b, hg, _ => BS.Le.refl hg
  | p :: l, b, hg, ha => by
    rw [dsigs, List.length_cons, show 2 * (l.length + 1) = 2 + 2 * l.length by omega]
    refine Tr.Lv.bind (fun a hl => ?_) (lv_dsig1 hp hg (ha p (by simp)))
    exact (lv_dsigs hl.good (hl.all fun q hq => ha q (by simp [hq]))).mono (fun _ h => hl.trans h) (by omega)
omit hp in
theorem lv_drefs : ∀ {l : List (Int × Int)} {b : BS}, b.Good → AllIn b l → (drefs P b l).Lv b.Le (2 * l.length)
  | [], b, hg, _ => BS.Le.refl hg
  | p :: l, b, hg, ha => by
    rw [drefs, List.length_cons, show 2 * (l.length + 1) = 2 + 2 * l.length by omega]
    refine Tr.Lv.bind (fun a hl => ?_) (lv_dref1 hg (ha p (by simp)))
    exact (lv_drefs hl.good (hl.all fun q hq => ha q (by simp [hq]))).mono (fun _ h => hl.trans h) (by omega)
omit hp in
theorem lv_dchk : ∀ {l : List Bool} {r : Bool}, (dchk P r l).Lv (fun _ => True) l.length
  | [], r => trivial
  | x :: l, r => fun bit => lv_dchk
omit hp in
theorem lv_dcheck (on : Bool) : (dcheck P on).Lv (fun _ => True) 4 := by
  unfold dcheck
  split
  · exact lv_dchk
  · exact trivial
end
theorem le_clr : ∀ {l : List (Int × Int)} {b : BS}, b.Good → AllIn b l → b.Le (b.clr l)
  | [], b, hg, _ => BS.Le.refl hg
  | p :: l, b, hg, ha => by
    have h1 := good_map hg (ha p (by simp)) (kv_touch false)
    exact h1.trans (le_clr (l := l) h1.good (h1.all fun q hq => ha q (by simp [hq])))
theorem lv_dclean {P : PP} (hp : P.Ok) {b : BS} (hg : b.Good) (on : Bool) : (dclean P b on).Lv (fun r => b.Le r.1) 20000 := by
  unfold dclean
  have hw2 := hg.ok.w2
  have hh2 := hg.ok.h2
  have hm : 12 * b.w * stripesOf b.h ≤ 12 * 64 * 16 := Nat.mul_le_mul (by omega) (by unfold stripesOf; omega)
  refine (Tr.Lv.bind (m := 4) (fun a ha => ?_) (lv_dstripes hp hg (top := 0) (by omega) (by unfold stripesOf; omega))).mono (fun _ h => h) (by omega)
  refine Tr.Lv.bind (m := 0) (fun r _ => ?_) (lv_dcheck on)
  exact ha.trans (le_clr ha.good (scanIn a))
end Go.Proofs.Ytjpjohchdfoeaaa
/-! The decoder's passes undo the encoder's: the plain law. -/
namespace Go.Proofs.Ytjpjohchdfoeaaa
open Go.Sim
open Go.RowKit
set_option linter.unusedVariables false
set_option linter.unusedSimpArgs false

/-- A computation that is answered by symbols: its result, and the symbols that are left. -/
def Tr.play {α : Type} : Tr α → List (Int × Int) → Option (α × List (Int × Int))
  | .ret a, l => some (a, l)
  | .ask _ _, [] => none
  | .ask c k, p :: l => if p.1 = c ∧ (p.2 = 0 ∨ p.2 = 1) then (k (p.2 == 1)).play l else none
theorem Tr.play_bind {α β : Type} (f : α → Tr β) : ∀ (t : Tr α) (l : List (Int × Int)), (t.bind f).play l = match t.play l with | some (a, l') => (f a).play l' | none => none
  | .ret a, l => rfl
  | .ask c k, [] => rfl
  | .ask c k, p :: l => by
    rw [Tr.bind, Tr.play, Tr.play]
    split
    · exact Tr.play_bind f (k (p.2 == 1)) l
    · rfl

def symI (p : Int × Nat) : Int × Int := (p.1, (p.2 : Int))
/-- What the encoder wrote between σ and τ answers t. -/
def Plays {α : Type} (σ τ : ES) (t : Tr α) (a : α) : Prop := ∃ new, τ.out = σ.out ++ new ∧ ∀ l, t.play (new.map symI ++ l) = some (a, l)
theorem Plays.ret {α : Type} {σ τ : ES} (h : τ.out = σ.out) (a : α) : Plays σ τ (.ret a) a := ⟨[], by simp [h], fun l => rfl⟩
theorem Plays.bind {α β : Type} {σ τ υ : ES} {t : Tr α} {a : α} {f : α → Tr β} {b : β} (h : Plays σ τ t a) (k : Plays τ υ (f a) b) : Plays σ υ (t.bind f) b := by
  obtain ⟨n, h1, h2⟩ := h
  obtain ⟨m, k1, k2⟩ := k
  refine ⟨n ++ m, by rw [k1, h1, List.append_assoc], fun l => ?_⟩
  rw [List.map_append, List.append_assoc, Tr.play_bind, h2]
  exact k2 l
theorem Plays.ask {α : Type} {P : PP} {σ τ : ES} {c : Int} {n : Nat} (hn : n ≤ 1) {k : Bool → Tr α} {a : α} (h : Plays (σ.emit P c n) τ (k (n == 1)) a) : Plays σ τ (.ask (P.cx c) k) a := by
  obtain ⟨m, h1, h2⟩ := h
  refine ⟨(P.cx c, n) :: m, by rw [h1]; simp [ES.emit, PP.cx], fun l => ?_⟩
  have hn' : (n : Int) = 0 ∨ (n : Int) = 1 := by omega
  have hb : ((n : Int) == 1) = (n == 1) := by
    rcases hn' with h | h
    · obtain rfl : n = 0 := by omega
      rfl
    · obtain rfl : n = 1 := by omega
      rfl
  rw [List.map_cons, List.cons_append, Tr.play, if_pos ⟨rfl, hn'⟩]
  show (k ((n : Int) == 1)).play _ = _
  rw [hb]
  exact h2 l
/-- Only the block changes on the encoder's side. -/
theorem Plays.out {α : Type} {σ τ τ' : ES} {t : Tr α} {a : α} (h : Plays σ τ t a) (ho : τ'.out = τ.out) : Plays σ τ' t a := by
  obtain ⟨n, h1, h2⟩ := h
  exact ⟨n, by rw [ho, h1], h2⟩

/-- A coefficient of the encoder's and of the decoder's, m planes missing. -/
structure CR (m : Nat) (e d : Cell) : Prop where
  s : d.s = e.s
  t : d.t = e.t
  r : d.r = e.r
  v : d.v = cutv m e.v
  sg : e.s = true ↔ 2 ^ m ≤ e.v.natAbs
theorem cutN_zero {m n : Nat} (h : n < 2 ^ m) : cutN m n = 0 := by unfold cutN; rw [Nat.div_eq_of_lt h]; simp
theorem cutv_zero {m : Nat} {v : Int} (h : v.natAbs < 2 ^ m) : cutv m v = 0 := by unfold cutv; rw [cutN_zero h]; simp
theorem CR.zero (m : Nat) : CR m .zero .zero := by
  have h : (0 : Int).natAbs < 2 ^ m := Nat.two_pow_pos m
  exact ⟨rfl, rfl, rfl, (cutv_zero h).symm, ⟨fun e => by simp [Cell.zero] at e, fun e => absurd e (by simp [Cell.zero])⟩⟩
/-- The bit at s, above the planes that are known. -/
theorem cutN_succ (s n : Nat) : cutN s n = cutN (s + 1) n + n / 2 ^ s % 2 * 2 ^ s := by
  unfold cutN
  have h1 : n / 2 ^ (s + 1) = n / 2 ^ s / 2 := by rw [Nat.pow_succ, Nat.div_div_eq_div_mul]
  rw [h1, Nat.pow_succ]
  generalize n / 2 ^ s = q
  have h2 : q = q / 2 * 2 + q % 2 := by omega
  have h3 : q / 2 * (2 ^ s * 2) = q / 2 * 2 * 2 ^ s := by rw [Nat.mul_comm (2 ^ s) 2, Nat.mul_assoc]
  rw [h3, ← Nat.add_mul, ← h2]
theorem lt_succ_bit {s n : Nat} (h : n < 2 ^ (s + 1)) : n / 2 ^ s % 2 = n / 2 ^ s ∧ (n / 2 ^ s = 1 ↔ 2 ^ s ≤ n) := by
  have hp := Nat.two_pow_pos s
  have h2 : n / 2 ^ s < 2 := by rw [Nat.div_lt_iff_lt_mul hp, Nat.mul_comm]; rw [Nat.pow_succ] at h; omega
  refine ⟨Nat.mod_eq_of_lt h2, fun e => ?_, fun e => ?_⟩
  · apply Nat.le_of_not_lt
    intro hlt
    rw [Nat.div_eq_of_lt hlt] at e
    omega
  · have := Nat.div_le_div_right (c := 2 ^ s) e
    rw [Nat.div_self hp] at this
    omega

/-- The two blocks. -/
structure RV (M : Int → Int → Nat) (e d : BS) : Prop where
  w : d.w = e.w
  h : d.h = e.h
  c : ∀ x y, CR (M x y) (e.get x y) (d.get x y)
theorem RV.inb {M : Int → Int → Nat} {e d : BS} (h : RV M e d) {x y : Int} (hi : e.inb x y) : d.inb x y := by
  obtain ⟨a1, a2, a3, a4⟩ := hi
  exact ⟨a1, by rw [h.w]; exact a2, a3, by rw [h.h]; exact a4⟩
theorem RV.out {M : Int → Int → Nat} {e d : BS} (h : RV M e d) {x y : Int} (hi : ¬ e.inb x y) (m : Nat) : CR m (e.get x y) (d.get x y) := by
  rw [BS.get_out hi, BS.get_out (fun k => hi ⟨k.1, by have := k.2.1; rwa [h.w] at this, k.2.2.1, by have := k.2.2.2; rwa [h.h] at this⟩)]
  exact CR.zero m
theorem RV.congr {M M' : Int → Int → Nat} {e d : BS} (h : RV M e d) (hm : ∀ x y, e.inb x y → M' x y = M x y) : RV M' e d := by
  refine ⟨h.w, h.h, fun x y => ?_⟩
  by_cases hi : e.inb x y
  · rw [hm x y hi]; exact h.c x y
  · exact h.out hi _
section
variable {M : Int → Int → Nat} {e d : BS}
theorem rv_one (h : RV M e d) (x y : Int) : one d x y = one e x y := by unfold one; rw [(h.c x y).s]
theorem rv_nb (h : RV M e d) (x y : Int) (q : Bool) : nbH d x y = nbH e x y ∧ nbV d x y q = nbV e x y q ∧ nbD d x y q = nbD e x y q := by
  unfold nbH nbV nbD
  simp only [rv_one h]
  exact ⟨trivial, trivial, trivial⟩
theorem rv_near (h : RV M e d) (x y : Int) (q : Bool) : near d x y q = near e x y q := by
  obtain ⟨a1, a2, a3⟩ := rv_nb h x y q
  unfold near; rw [a1, a2, a3]
theorem rv_sgn (h : RV M e d) (x y : Int) : sgn d x y = sgn e x y := by
  have hc := h.c x y
  unfold sgn
  rw [hc.s]
  split
  · rename_i hs
    rw [hc.v]
    have := cutv_neg (hc.sg.1 hs)
    by_cases hv : (e.get x y).v < 0
    · rw [if_pos hv, if_pos (this.2 hv)]
    · rw [if_neg hv, if_neg (fun e => hv (this.1 e))]
  · rfl
theorem rv_sg (h : RV M e d) (x y : Int) (q : Bool) : sgH d x y = sgH e x y ∧ sgV d x y q = sgV e x y q := by
  unfold sgH sgV
  simp only [rv_sgn h]
  exact ⟨trivial, trivial⟩
theorem rv_ctx (h : RV M e d) (P : PP) (x y : Int) : ctxOf P d x y = ctxOf P e x y := by
  obtain ⟨n1, n2, n3⟩ := rv_nb h x y P.cz
  unfold ctxOf; rw [n1, n2, n3]
theorem rv_quietFrom (h : RV M e d) (x : Int) (q : Bool) : ∀ (n : Nat) (y : Int), quietFrom d x y q n = quietFrom e x y q n
  | 0, _ => rfl
  | n + 1, y => by
    have hc := h.c x y
    rw [quietFrom, quietFrom, rv_quietFrom h x q n, still, still, hc.s, hc.t, rv_near h]
theorem rv_quiet (h : RV M e d) (x y : Int) (q : Bool) : quiet d x y q = quiet e x y q := by
  unfold quiet; rw [rv_quietFrom h, h.h]
/-- A change at one place. -/
theorem rv_upd (h : RV M e d) (he : e.Ok) (hd : d.Ok) {x y : Int} (hi : e.inb x y) {f g : Cell → Cell} {m : Nat} (hc : CR m (f (e.get x y)) (g (d.get x y))) :
    RV (fun x' y' => if x' = x ∧ y' = y then m else M x' y') (e.upd x y f) (d.upd x y g) := by
  refine ⟨h.w, h.h, fun x' y' => ?_⟩
  rw [BS.get_upd he hi, BS.get_upd hd (h.inb hi)]
  by_cases hx : x' = x ∧ y' = y
  · rw [if_pos hx, if_pos hx, if_pos hx]; exact hc
  · rw [if_neg hx, if_neg hx, if_neg hx]; exact h.c x' y'
end
theorem neg_cutv {m : Nat} {v : Int} : cutv m v = if v < 0 then -(cutN m v.natAbs : Int) else (cutN m v.natAbs : Int) := rfl
theorem pw_eq (s : Nat) : pw s = ((2 ^ s : Nat) : Int) := rfl

theorem AllIn.tail_le {b b' : BS} {p : Int × Int} {l : List (Int × Int)} (h : AllIn b (p :: l)) (hw : b'.w = b.w) (hh : b'.h = b.h) : AllIn b' l := fun q hq => by
  obtain ⟨a1, a2, a3, a4⟩ := h q (by simp [hq])
  exact ⟨a1, by rw [hw]; exact a2, a3, by rw [hh]; exact a4⟩
/-- The encoder's step and the decoder's: what was written answers what is asked, and the two blocks go together. -/
structure Stt {α : Type} (σ τ : ES) (t : Tr α) (a : α) (M : Int → Int → Nat) (d : BS) : Prop where
  pl : Plays σ τ t a
  rv : RV M τ.b d
  ge : τ.b.Good
  gd : d.Good
  ew : τ.b.w = σ.b.w
  eh : τ.b.h = σ.b.h
section
variable {P : PP} (hp : P.Ok) {M : Int → Int → Nat} {σ : ES} {d : BS}
include hp

/-- The sign of a coefficient whose bit is 1. -/
theorem sign_st (h : RV M σ.b d) (ge : σ.b.Good) (gd : d.Good) {x y : Int} (hi : σ.b.inb x y) (hm : M x y = P.s + 1) (hs : (σ.b.get x y).s = false) (hb : bitOf (σ.b.get x y).v P.s = 1) :
    ∃ d', Stt σ (σ.sign P x y) (dsign P d x y) d' (fun x' y' => if x' = x ∧ y' = y then P.s else M x' y') d' ∧ (∀ x' y', ((σ.sign P x y).b.get x' y').t = (σ.b.get x' y').t) ∧
      (∀ x' y', ¬ (x' = x ∧ y' = y) → (σ.sign P x y).b.get x' y' = σ.b.get x' y') := by
  have hc := h.c x y
  rw [hm] at hc
  have hlt : (σ.b.get x y).v.natAbs < 2 ^ (P.s + 1) := by
    apply Nat.lt_of_not_le
    intro hle
    have := hc.sg.2 hle
    rw [hs] at this; cases this
  obtain ⟨b1, b2⟩ := lt_succ_bit hlt
  have hbit : bitOf (σ.b.get x y).v P.s = (σ.b.get x y).v.natAbs / 2 ^ P.s := b1
  have hbig : 2 ^ P.s ≤ (σ.b.get x y).v.natAbs := b2.1 (by rw [← hbit]; exact hb)
  obtain ⟨s1, s2⟩ := rv_sg h x y P.cz
  have hsb : signBit P σ.b x y ≤ 1 := by unfold signBit; omega
  have hcut : cutN P.s (σ.b.get x y).v.natAbs = 2 ^ P.s := by unfold cutN; rw [← hbit, hb]; omega
  have hval : dval P d x y (signBit P σ.b x y == 1) = cutv P.s (σ.b.get x y).v := by
    unfold dval dflip signBit
    rw [s1, s2, neg_cutv, hcut, pw_eq]
    have hf : signFlip (sgH σ.b x y) (sgV σ.b x y P.cz) ≤ 1 := by unfold signFlip; split <;> omega
    generalize signFlip (sgH σ.b x y) (sgV σ.b x y P.cz) = fl at *
    have hf' : fl = 0 ∨ fl = 1 := by omega
    unfold negOf
    by_cases hv : (σ.b.get x y).v < 0
    · rw [if_pos hv, if_pos hv]
      cases P.rw <;> rcases hf' with rfl | rfl <;> simp
    · rw [if_neg hv, if_neg hv]
      cases P.rw <;> rcases hf' with rfl | rfl <;> simp
  refine ⟨dset P d x y (signBit P σ.b x y == 1), ⟨?_, ?_, ?_, ?_, rfl, rfl⟩, ?_, ?_⟩
  · unfold dsign
    rw [s1, s2]
    refine Plays.ask hsb ?_
    exact Plays.ret rfl _
  · show RV _ (σ.b.upd x y mark) _
    have hu : RV (fun x' y' => if x' = x ∧ y' = y then P.s else M x' y') (σ.b.upd x y mark) (d.upd x y fun c => mark (putV (dval P d x y (signBit P σ.b x y == 1)) c)) := by
      refine rv_upd h ge.ok gd.ok hi ⟨rfl, hc.t, hc.r, ?_, ?_⟩
      · exact hval
      · exact ⟨fun _ => hbig, fun _ => rfl⟩
    have e : dset P d x y (signBit P σ.b x y == 1) = d.upd x y fun c => mark (putV (dval P d x y (signBit P σ.b x y == 1)) c) := by
      unfold dset
      have hi' := h.inb hi
      have g1 := BS.get_upd gd.ok hi' (putV (dval P d x y (signBit P σ.b x y == 1))) x y
      rw [if_pos ⟨rfl, rfl⟩] at g1
      unfold BS.upd at g1 ⊢
      rw [g1]
      simp [BS.idx, List.set_set]
    rw [e]; exact hu
  · exact ge.upd hi kv_mark
  · exact (le_dset hp gd (h.inb hi) _).good
  · intro x' y'
    show ((σ.b.upd x y mark).get x' y').t = _
    rw [BS.get_upd ge.ok hi]
    split
    · rename_i hx; obtain ⟨rfl, rfl⟩ := hx; rfl
    · rfl
  · intro x' y' hx
    show (σ.b.upd x y mark).get x' y' = _
    rw [BS.get_upd ge.ok hi, if_neg hx]
omit hp in
theorem lt_of_s {m : Nat} {e d : Cell} (hc : CR m e d) (hs : e.s = false) : e.v.natAbs < 2 ^ m := by
  apply Nat.lt_of_not_le
  intro hle
  have := hc.sg.2 hle
  rw [hs] at this; cases this
omit hp in
/-- A bit that is 0. -/
theorem cr_zero {s : Nat} {e d : Cell} (hc : CR (s + 1) e d) (hs : e.s = false) (hb : bitOf e.v s = 0) : CR s e d := by
  have hlt := lt_of_s hc hs
  obtain ⟨b1, b2⟩ := lt_succ_bit hlt
  have hbit : bitOf e.v s = e.v.natAbs / 2 ^ s := b1
  have hsm : e.v.natAbs < 2 ^ s := by
    apply Nat.lt_of_not_le
    intro hle
    have := b2.2 hle
    omega
  refine ⟨hc.s, hc.t, hc.r, ?_, ?_⟩
  · rw [hc.v, cutv_zero hlt, cutv_zero hsm]
  · rw [hs]
    exact ⟨fun e => (by cases e), fun e => absurd e (by omega)⟩
/-- The bit and the sign of a coefficient that is not significant: it is known down to the plane. -/
theorem code_st (h : RV M σ.b d) (ge : σ.b.Good) (gd : d.Good) {x y : Int} (hi : σ.b.inb x y) (hm : M x y = P.s + 1) (hs : (σ.b.get x y).s = false) :
    ∃ d', Stt σ (σ.code P x y) (dcode P d x y) d' (fun x' y' => if x' = x ∧ y' = y then P.s else M x' y') d' ∧ (∀ x' y', ((σ.code P x y).b.get x' y').t = (σ.b.get x' y').t) ∧
      (∀ x' y', ¬ (x' = x ∧ y' = y) → (σ.code P x y).b.get x' y' = σ.b.get x' y') := by
  have hc := h.c x y
  rw [hm] at hc
  unfold ES.code dcode
  by_cases hb : bitOf (σ.b.get x y).v P.s = 1
  · rw [if_pos hb]
    obtain ⟨d', st, c1, c2⟩ := sign_st (σ := σ.emit P (ctxOf P σ.b x y) (bitOf (σ.b.get x y).v P.s)) hp h ge gd hi hm hs hb
    refine ⟨d', ⟨?_, st.rv, st.ge, st.gd, st.ew, st.eh⟩, c1, c2⟩
    rw [rv_ctx h]
    refine Plays.ask (n := bitOf (σ.b.get x y).v P.s) (bitOf_le _ _) ?_
    have e : (bitOf (σ.b.get x y).v P.s == 1) = true := by rw [hb]; rfl
    rw [e]
    simp only [if_true]
    exact st.pl
  · have hb0 : bitOf (σ.b.get x y).v P.s = 0 := by unfold bitOf at *; omega
    rw [if_neg hb]
    refine ⟨d, ⟨?_, ⟨h.w, h.h, fun x' y' => ?_⟩, ge, gd, rfl, rfl⟩, fun _ _ => rfl, fun _ _ _ => rfl⟩
    · rw [rv_ctx h]
      refine Plays.ask (n := bitOf (σ.b.get x y).v P.s) (bitOf_le _ _) ?_
      have e : (bitOf (σ.b.get x y).v P.s == 1) = false := by rw [hb0]; rfl
      rw [e]
      exact Plays.ret rfl _
    · show CR _ (σ.b.get x' y') _
      by_cases hx : x' = x ∧ y' = y
      · rw [if_pos hx]
        obtain ⟨rfl, rfl⟩ := hx
        exact cr_zero hc hs hb0
      · rw [if_neg hx]; exact h.c x' y'

/-! The significance pass. -/
/-- What is missing in a plane that is being coded: the touched ones are done. -/
def Mt (s : Nat) (e : BS) (x y : Int) : Nat := if (e.get x y).t = true then s else s + 1
omit hp in
theorem touch_st {σ' : ES} {d' : BS} {M' : Int → Int → Nat} (h : RV M' σ'.b d') (ge : σ'.b.Good) (gd : d'.Good) {x y : Int} (hi : σ'.b.inb x y) (f : Cell → Cell) (hv : ∀ c, (f c).v = c.v) (hs : ∀ c, (f c).s = c.s) (ht : ∀ c c' : Cell, c'.t = c.t → (f c').t = (f c).t)
    (hr : ∀ c c' : Cell, c'.r = c.r → (f c').r = (f c).r) : RV M' (σ'.b.upd x y f) (d'.upd x y f) := by
  have hc := h.c x y
  have := rv_upd (m := M' x y) h ge.ok gd.ok hi (f := f) (g := f) ⟨by rw [hs, hs]; exact hc.s, ht _ _ hc.t, hr _ _ hc.r, by rw [hv, hv]; exact hc.v, by rw [hs, hv]; exact hc.sg⟩
  refine this.congr fun x' y' _ => ?_
  split
  · rename_i e; obtain ⟨rfl, rfl⟩ := e; rfl
  · rfl
theorem sig1_st (h : RV (Mt P.s σ.b) σ.b d) (ge : σ.b.Good) (gd : d.Good) {x y : Int} (hi : σ.b.inb x y) (ht : (σ.b.get x y).t = false) :
    ∃ d', Stt σ (σ.sig1 P x y) (dsig1 P d x y) d' (Mt P.s (σ.sig1 P x y).b) d' ∧ (∀ x' y', ¬ (x' = x ∧ y' = y) → ((σ.sig1 P x y).b.get x' y').t = (σ.b.get x' y').t) := by
  have hc := h.c x y
  unfold ES.sig1 dsig1
  rw [hc.s, rv_near h]
  split
  · rename_i hs
    obtain ⟨d1, st, c1, c2⟩ := code_st hp h ge gd hi (by unfold Mt; rw [if_neg (by simp [ht])]) hs.1
    have hi1 : (σ.code P x y).b.inb x y := (le_code ge hi).inb hi
    have g := fun x' y' => BS.get_upd st.ge.ok hi1 (touch true) x' y'
    refine ⟨d1.upd x y (touch true), ⟨st.pl.bind (Plays.ret rfl _), ?_, st.ge.upd hi1 (kv_touch true), st.gd.upd (st.rv.inb hi1) (kv_touch true), st.ew, st.eh⟩, ?_⟩
    · refine (touch_st st.rv st.ge st.gd hi1 (touch true) (fun _ => rfl) (fun _ => rfl) (fun _ _ _ => rfl) (fun _ _ e => e)).congr fun x' y' _ => ?_
      show Mt P.s ((σ.code P x y).b.upd x y (touch true)) x' y' = _
      unfold Mt
      rw [g]
      by_cases hx : x' = x ∧ y' = y
      · rw [if_pos hx, if_pos hx, if_pos (by rfl)]
      · rw [if_neg hx, if_neg hx, c1]
    · intro x' y' hx
      show (((σ.code P x y).b.upd x y (touch true)).get x' y').t = _
      rw [g, if_neg hx, c1]
  · exact ⟨d, ⟨Plays.ret rfl _, h, ge, gd, rfl, rfl⟩, fun _ _ _ => rfl⟩
theorem sigs_st : ∀ {l : List (Int × Int)} {σ : ES} {d : BS}, RV (Mt P.s σ.b) σ.b d → σ.b.Good → d.Good → AllIn σ.b l → l.Nodup → (∀ p ∈ l, (σ.b.get p.1 p.2).t = false) →
    ∃ d', Stt σ (σ.sigs P l) (dsigs P d l) d' (Mt P.s (σ.sigs P l).b) d'
  | [], σ, d, h, ge, gd, _, _, _ => ⟨d, ⟨Plays.ret rfl _, h, ge, gd, rfl, rfl⟩⟩
  | p :: l, σ, d, h, ge, gd, ha, hn, ht => by
    rw [List.nodup_cons] at hn
    obtain ⟨d1, st, c⟩ := sig1_st hp h ge gd (ha p (by simp)) (ht p (by simp))
    obtain ⟨d2, st2⟩ := sigs_st (l := l) (σ := σ.sig1 P p.1 p.2) st.rv st.ge st.gd (ha.tail_le st.ew st.eh) hn.2 (fun q hq => by
      rw [c q.1 q.2 (fun e => hn.1 (by have : q = p := Prod.ext e.1 e.2; rw [← this]; exact hq))]
      exact ht q (by simp [hq]))
    exact ⟨d2, ⟨st.pl.bind st2.pl, st2.rv, st2.ge, st2.gd, st2.ew.trans st.ew, st2.eh.trans st.eh⟩⟩

/-! The refinement pass. -/
omit hp in
theorem cutv_abs (m : Nat) (v : Int) : (cutv m v).natAbs ≤ v.natAbs := by rw [natAbs_cutv]; exact cutN_le _ _
omit hp in
theorem grow_eq {s : Nat} {v : Int} (hb : 2 ^ (s + 1) ≤ v.natAbs) : cutv s v = if bitOf v s = 1 then growV s (cutv (s + 1) v) else cutv (s + 1) v := by
  have hneg := cutv_neg hb
  have hc := cutN_succ s v.natAbs
  have hb' : bitOf v s = v.natAbs / 2 ^ s % 2 := rfl
  rw [← hb'] at hc
  have h01 := bitOf_le v s
  unfold growV
  rw [pw_eq]
  by_cases hv : v < 0
  · rw [if_pos (hneg.2 hv)]
    unfold cutv
    rw [if_pos hv, if_pos hv]
    split
    · rename_i h1; rw [h1] at hc; omega
    · have h0 : bitOf v s = 0 := by omega
      rw [h0] at hc; omega
  · rw [if_neg (fun e => hv (hneg.1 e))]
    unfold cutv
    rw [if_neg hv, if_neg hv]
    split
    · rename_i h1; rw [h1] at hc; omega
    · have h0 : bitOf v s = 0 := by omega
      rw [h0] at hc; omega
omit hp in
theorem pow_mono {s m : Nat} (h : s ≤ m) : 2 ^ s ≤ 2 ^ m := Nat.pow_le_pow_right (by omega) h
omit hp in
theorem ref1_st (h : RV (Mt P.s σ.b) σ.b d) (ge : σ.b.Good) (gd : d.Good) {x y : Int} (hi : σ.b.inb x y) :
    ∃ d', Stt σ (σ.ref1 P x y) (dref1 P d x y) d' (Mt P.s (σ.ref1 P x y).b) d' := by
  have hc := h.c x y
  unfold ES.ref1 dref1
  rw [hc.s, hc.t, hc.r, rv_near h]
  split
  · exact ⟨d, ⟨Plays.ret rfl _, h, ge, gd, rfl, rfl⟩⟩
  · rename_i hno
    have hs : (σ.b.get x y).s = true := by
      cases hs : (σ.b.get x y).s
      · exact absurd (.inl hs) hno
      · rfl
    have ht : (σ.b.get x y).t = false := by
      cases ht : (σ.b.get x y).t
      · rfl
      · exact absurd (.inr ht) hno
    have hm : Mt P.s σ.b x y = P.s + 1 := by unfold Mt; rw [if_neg (by simp [ht])]
    rw [hm] at hc
    have hbig := hc.sg.1 hs
    have hg := grow_eq hbig
    have hid := h.inb hi
    -- the value grows
    have hgb : ∃ v, growB P.s d x y (bitOf (σ.b.get x y).v P.s == 1) = d.upd x y (putV v) ∧ v = cutv P.s (σ.b.get x y).v := by
      obtain ⟨r1, r2⟩ := ge.rng x y
      have ha := cutv_abs P.s (σ.b.get x y).v
      unfold growB grow
      by_cases hb : bitOf (σ.b.get x y).v P.s = 1
      · rw [if_pos hb] at hg
        rw [hb, if_pos (by rfl), hc.v, ← hg, if_pos (by omega)]
        exact ⟨_, rfl, rfl⟩
      · rw [if_neg hb] at hg
        rw [if_neg (by simp [hb])]
        refine ⟨_, ?_, rfl⟩
        rw [hg, ← hc.v]
        have hgt := BS.getElem_in gd.ok hid
        unfold BS.upd putV
        have : d.cs.set (d.idx x y) (d.get x y) = d.cs := by rw [← hgt]; exact List.set_getElem_self _
        rw [this]
    obtain ⟨v, e1, e2⟩ := hgb
    have hst : RV (fun x' y' => if x' = x ∧ y' = y then P.s else Mt P.s σ.b x' y') ((σ.b.upd x y refine').upd x y (touch true)) (((growB P.s d x y (bitOf (σ.b.get x y).v P.s == 1)).upd x y refine').upd x y (touch true)) := by
      have gl := le_growB (s := P.s) gd hid (bitOf (σ.b.get x y).v P.s == 1)
      have ge1 := ge.upd hi kv_refine
      have gd1 := gl.good.upd (gl.inb hid) kv_refine
      refine ⟨by show (growB _ _ _ _ _).w = _; rw [gl.w]; exact h.w, by show (growB _ _ _ _ _).h = _; rw [gl.h]; exact h.h, fun x' y' => ?_⟩
      rw [BS.get_upd ge1.ok hi, BS.get_upd ge.ok hi, BS.get_upd ge.ok hi, BS.get_upd gd1.ok (gl.inb hid), BS.get_upd gl.good.ok (gl.inb hid), BS.get_upd gl.good.ok (gl.inb hid), e1, BS.get_upd gd.ok hid, BS.get_upd gd.ok hid]
      by_cases hx : x' = x ∧ y' = y
      · rw [if_pos hx, if_pos hx, if_pos hx, if_pos ⟨rfl, rfl⟩, if_pos ⟨rfl, rfl⟩, if_pos ⟨rfl, rfl⟩]
        refine ⟨hc.s, rfl, rfl, e2, ?_⟩
        show (σ.b.get x y).s = true ↔ _
        exact ⟨fun _ => Nat.le_trans (pow_mono (by omega)) hbig, fun _ => hs⟩
      · rw [if_neg hx, if_neg hx, if_neg hx, if_neg hx, if_neg hx, if_neg hx]; exact h.c x' y'
    have gl := le_growB (s := P.s) gd hid (bitOf (σ.b.get x y).v P.s == 1)
    have ge1 := ge.upd hi kv_refine
    refine ⟨_, ⟨?_, ?_, ge1.upd hi (kv_touch true), (gl.good.upd (gl.inb hid) kv_refine).upd (gl.inb hid) (kv_touch true), rfl, rfl⟩⟩
    · refine Plays.ask (n := bitOf (σ.b.get x y).v P.s) (bitOf_le _ _) ?_
      exact Plays.ret rfl _
    · refine hst.congr fun x' y' _ => ?_
      show Mt P.s ((σ.b.upd x y refine').upd x y (touch true)) x' y' = _
      unfold Mt
      rw [BS.get_upd ge1.ok hi, BS.get_upd ge.ok hi, BS.get_upd ge.ok hi]
      by_cases hx : x' = x ∧ y' = y
      · rw [if_pos hx, if_pos hx, if_pos (by rfl)]
      · rw [if_neg hx, if_neg hx, if_neg hx]
omit hp in
theorem refs_st : ∀ {l : List (Int × Int)} {σ : ES} {d : BS}, RV (Mt P.s σ.b) σ.b d → σ.b.Good → d.Good → AllIn σ.b l →
    ∃ d', Stt σ (σ.refs P l) (drefs P d l) d' (Mt P.s (σ.refs P l).b) d'
  | [], σ, d, h, ge, gd, _ => ⟨d, ⟨Plays.ret rfl _, h, ge, gd, rfl, rfl⟩⟩
  | p :: l, σ, d, h, ge, gd, ha => by
    obtain ⟨d1, st⟩ := ref1_st h ge gd (ha p (by simp))
    obtain ⟨d2, st2⟩ := refs_st (l := l) (σ := σ.ref1 P p.1 p.2) st.rv st.ge st.gd (ha.tail_le st.ew st.eh)
    exact ⟨d2, ⟨st.pl.bind st2.pl, st2.rv, st2.ge, st2.gd, st2.ew.trans st.ew, st2.eh.trans st.eh⟩⟩

/-! The cleanup pass. -/
/-- In a cleanup pass: those in Z are known down to the plane. -/
structure CZ (s : Nat) (Z : Int → Int → Prop) (e d : BS) : Prop where
  w : d.w = e.w
  h : d.h = e.h
  z : ∀ x y, (Z x y ∨ (e.get x y).t = true) → CR s (e.get x y) (d.get x y)
  o : ∀ x y, ¬ (Z x y ∨ (e.get x y).t = true) → CR (s + 1) (e.get x y) (d.get x y) ∧ (e.inb x y → (e.get x y).s = false)
open Classical in
noncomputable def Mz (s : Nat) (Z : Int → Int → Prop) (e : BS) (x y : Int) : Nat := if Z x y ∨ (e.get x y).t = true then s else s + 1
omit hp in
theorem CZ.rv {s : Nat} {Z : Int → Int → Prop} {e d : BS} (h : CZ s Z e d) : RV (Mz s Z e) e d := by
  refine ⟨h.w, h.h, fun x y => ?_⟩
  unfold Mz
  split
  · rename_i k; exact h.z x y k
  · rename_i k; exact (h.o x y k).1
omit hp in
theorem CZ.congr {s : Nat} {Z Z' : Int → Int → Prop} {e d : BS} (h : CZ s Z e d) (hz : ∀ x y, e.inb x y → (Z' x y ↔ Z x y)) : CZ s Z' e d := by
  refine ⟨h.w, h.h, fun x y k => ?_, fun x y k => ?_⟩
  · by_cases hi : e.inb x y
    · exact h.z x y (by rwa [hz x y hi] at k)
    · exact h.rv.out hi _
  · by_cases hi : e.inb x y
    · exact h.o x y (by rwa [hz x y hi] at k)
    · exact ⟨h.rv.out hi _, fun e => absurd e hi⟩
/-- A step of the cleanup pass. -/
structure Stc {α : Type} (σ τ : ES) (t : Tr α) (a : α) (s : Nat) (Z : Int → Int → Prop) (d : BS) : Prop where
  pl : Plays σ τ t a
  cz : CZ s Z τ.b d
  ge : τ.b.Good
  gd : d.Good
  ew : τ.b.w = σ.b.w
  eh : τ.b.h = σ.b.h
/-- A coefficient is coded in the cleanup pass. -/
theorem codeC_st {Z : Int → Int → Prop} (h : CZ P.s Z σ.b d) (ge : σ.b.Good) (gd : d.Good) {x y : Int} (hi : σ.b.inb x y) (hz : ¬ Z x y) (hs : (σ.b.get x y).s = false) (ht : (σ.b.get x y).t = false) :
    ∃ d', Stc σ (σ.code P x y) (dcode P d x y) d' P.s (fun x' y' => Z x' y' ∨ (x' = x ∧ y' = y)) d' := by
  have hn : ¬ (Z x y ∨ (σ.b.get x y).t = true) := by simp [hz, ht]
  obtain ⟨d', st, c1, c2⟩ := code_st hp h.rv ge gd hi (by unfold Mz; rw [if_neg hn]) hs
  refine ⟨d', ⟨st.pl, ⟨st.rv.w, st.rv.h, fun x' y' k => ?_, fun x' y' k => ?_⟩, st.ge, st.gd, st.ew, st.eh⟩⟩
  · have := st.rv.c x' y'
    by_cases hx : x' = x ∧ y' = y
    · rwa [if_pos hx] at this
    · rw [if_neg hx] at this
      rw [c1] at k
      unfold Mz at this
      rwa [if_pos (by rcases k with (k | k) | k; exact .inl k; exact absurd k hx; exact .inr k)] at this
  · have := st.rv.c x' y'
    rw [c1] at k
    have hx : ¬ (x' = x ∧ y' = y) := fun e => k (.inl (.inr e))
    have hk : ¬ (Z x' y' ∨ (σ.b.get x' y').t = true) := fun e => k (by rcases e with e | e; exact .inl (.inl e); exact .inr e)
    rw [if_neg hx] at this
    unfold Mz at this
    rw [if_neg hk] at this
    refine ⟨this, fun hi' => ?_⟩
    rw [c2 x' y' hx]
    exact (h.o x' y' hk).2 (by obtain ⟨a1, a2, a3, a4⟩ := hi'; exact ⟨a1, by rw [← st.ew]; exact a2, a3, by rw [← st.eh]; exact a4⟩)
theorem cln1_st {Z : Int → Int → Prop} (h : CZ P.s Z σ.b d) (ge : σ.b.Good) (gd : d.Good) {x y : Int} (hi : σ.b.inb x y) (hz : ¬ Z x y) :
    ∃ d', Stc σ (σ.cln1 P x y) (dcln1 P d x y) d' P.s (fun x' y' => Z x' y' ∨ (x' = x ∧ y' = y)) d' := by
  have hc := h.rv.c x y
  unfold ES.cln1 dcln1
  rw [hc.s, hc.t]
  split
  · rename_i k; exact codeC_st hp h ge gd hi hz k.1 k.2
  · rename_i k
    have ht : (σ.b.get x y).t = true := by
      cases ht : (σ.b.get x y).t
      · cases hs : (σ.b.get x y).s
        · exact absurd ⟨hs, ht⟩ k
        · have := (h.o x y (by simp [hz, ht])).2 hi
          rw [hs] at this; cases this
      · rfl
    refine ⟨d, ⟨Plays.ret rfl _, ⟨h.w, h.h, fun x' y' k => ?_, fun x' y' k => ?_⟩, ge, gd, rfl, rfl⟩⟩
    · refine h.z x' y' ?_
      rcases k with (k | ⟨rfl, rfl⟩) | k
      · exact .inl k
      · exact .inr ht
      · exact .inr k
    · exact h.o x' y' (fun e => k (by rcases e with e | e; exact .inl (.inl e); exact .inr e))
theorem rows_st {x : Int} : ∀ {n : Nat} {σ : ES} {d : BS} {y : Int} {Z : Int → Int → Prop}, CZ P.s Z σ.b d → σ.b.Good → d.Good → 0 ≤ x → x < σ.b.w → 0 ≤ y → y + n ≤ σ.b.h → (∀ y', y ≤ y' → y' < y + n → ¬ Z x y') →
    ∃ d', Stc σ (σ.rows P x y n) (drows P d x y n) d' P.s (fun x' y' => Z x' y' ∨ (x' = x ∧ y ≤ y' ∧ y' < y + n)) d'
  | 0, σ, d, y, Z, h, ge, gd, _, _, _, _, _ => ⟨d, ⟨Plays.ret rfl _, h.congr fun x' y' _ => ⟨fun k => by rcases k with k | k; exact k; omega, .inl⟩, ge, gd, rfl, rfl⟩⟩
  | n + 1, σ, d, y, Z, h, ge, gd, h1, h2, h3, h4, hz => by
    obtain ⟨d1, st⟩ := cln1_st hp h ge gd (x := x) (y := y) ⟨h1, h2, h3, by omega⟩ (hz y (by omega) (by omega))
    obtain ⟨d2, st2⟩ := rows_st (n := n) (y := y + 1) st.cz st.ge st.gd h1 (by rw [st.ew]; exact h2) (by omega) (by rw [st.eh]; omega) (fun y' k1 k2 k3 => by
      rcases k3 with k3 | k3
      · exact hz y' (by omega) (by omega) k3
      · omega)
    refine ⟨d2, ⟨st.pl.bind st2.pl, st2.cz.congr fun x' y' _ => ?_, st2.ge, st2.gd, st2.ew.trans st.ew, st2.eh.trans st.eh⟩⟩
    constructor
    · rintro (k | ⟨rfl, k1, k2⟩)
      · exact .inl (.inl k)
      · by_cases hy : y' = y
        · exact .inl (.inr ⟨rfl, hy⟩)
        · exact .inr ⟨rfl, by omega, by omega⟩
    · rintro ((k | ⟨rfl, rfl⟩) | ⟨rfl, k1, k2⟩)
      · exact .inl k
      · exact .inr ⟨rfl, by omega, by omega⟩
      · exact .inr ⟨rfl, by omega, by omega⟩
omit hp in
theorem first_zero {b : BS} {s : Nat} {x : Int} : ∀ {n : Nat} {y : Int} (j : Nat), j < n → (∀ k, firstBit b s x y n = some k → j < k) → bitOf (b.get x (y + j)).v s = 0
  | 0, _, j, hj, _ => by omega
  | n + 1, y, j, hj, hk => by
    simp only [firstBit] at hk
    split at hk
    · have := hk 0 rfl; omega
    · rename_i hne
      cases j with
      | zero => have := bitOf_le (b.get x y).v s; simp; omega
      | succ j =>
        rw [show y + ((j + 1 : Nat) : Int) = y + 1 + j by omega]
        refine first_zero (n := n) j (by omega) fun k hk' => ?_
        have := hk (k + 1) (by rw [hk']; rfl)
        omega
theorem run_st {Z : Int → Int → Prop} (h : CZ P.s Z σ.b d) (ge : σ.b.Good) (gd : d.Good) {x top : Int} (hx : 0 ≤ x ∧ x < σ.b.w) (ht : 0 ≤ top ∧ top + 4 ≤ σ.b.h) (hz : ∀ y', top ≤ y' → y' < top + 4 → ¬ Z x y')
    (hq : ∀ j : Nat, j < 4 → (σ.b.get x (top + j)).s = false ∧ (σ.b.get x (top + j)).t = false) :
    ∃ d', Stc σ (σ.run P x top).1 (drun P d x top) (d', (σ.run P x top).2) P.s (fun x' y' => Z x' y' ∨ (x' = x ∧ top ≤ y' ∧ y' < (σ.run P x top).2)) d' ∧ top < (σ.run P x top).2 ∧ (σ.run P x top).2 ≤ top + 4 := by
  have hnz : ∀ j : Nat, j < 4 → ¬ (Z x (top + j) ∨ (σ.b.get x (top + j)).t = true) := fun j hj => by
    have := hz (top + j) (by omega) (by omega)
    simp [this, (hq j hj).2]
  unfold ES.run drun
  split
  · rename_i k hk
    have hk4 := firstBit_lt hk
    have hbit := first_bit hk
    have hi : σ.b.inb x (top + k) := ⟨hx.1, hx.2, by omega, by omega⟩
    obtain ⟨d', st, c1, c2⟩ := sign_st (σ := ((σ.emit P 17 1).emit P 18 (k / 2)).emit P 18 (k % 2)) hp h.rv ge gd hi (by show Mz _ _ _ _ _ = _; unfold Mz; rw [if_neg (hnz k hk4)]) (hq k hk4).1 hbit
    refine ⟨d', ⟨?_, ⟨st.rv.w, st.rv.h, fun x' y' kk => ?_, fun x' y' kk => ?_⟩, st.ge, st.gd, st.ew, st.eh⟩, by simp only; omega, by simp only; omega⟩
    · refine Plays.ask (n := 1) (by omega) ?_
      simp only [beq_self_eq_true, if_true]
      refine Plays.ask (n := k / 2) (by omega) ?_
      refine Plays.ask (n := k % 2) (by omega) ?_
      have e2 : two2 (k / 2 == 1) (k % 2 == 1) = k := by
        match k, hk4 with
        | 0, _ => rfl
        | 1, _ => rfl
        | 2, _ => rfl
        | 3, _ => rfl
      rw [e2]
      exact st.pl.bind (Plays.ret rfl _)
    · by_cases hxy : x' = x ∧ y' = top + k
      · have := st.rv.c x' y'
        rwa [if_pos hxy] at this
      · have := st.rv.c x' y'
        rw [if_neg hxy] at this
        rw [c1] at kk
        rw [c2 x' y' hxy] at this ⊢
        by_cases hzz : Z x' y' ∨ (σ.b.get x' y').t = true
        · have e : Mz P.s Z σ.b x' y' = P.s := by
            show Mz P.s Z σ.b x' y' = _
            unfold Mz; rw [if_pos hzz]
          rw [e] at this
          exact this
        · have e : Mz P.s Z σ.b x' y' = P.s + 1 := by
            show Mz P.s Z σ.b x' y' = _
            unfold Mz; rw [if_neg hzz]
          rw [e] at this
          have hin : x' = x ∧ top ≤ y' ∧ y' < top + k + 1 := by
            rcases kk with (kk | kk) | kk
            · exact absurd (.inl kk) hzz
            · exact kk
            · exact absurd (.inr kk) hzz
          obtain ⟨rfl, k1, k2⟩ := hin
          obtain ⟨j, hj⟩ := Int.eq_ofNat_of_zero_le (show 0 ≤ y' - top by omega)
          obtain rfl : y' = top + j := by omega
          have hjk : j < k := by
            have : ¬ (j = k) := fun e => hxy ⟨rfl, by rw [e]⟩
            omega
          refine cr_zero this (hq j (by omega)).1 ?_
          refine first_zero (b := σ.b) (n := 4) j (by omega) fun k' hk' => ?_
          rw [hk] at hk'; injection hk' with hk'; omega
    · have hxy : ¬ (x' = x ∧ y' = top + k) := fun e => kk (.inl (.inr ⟨e.1, by omega, by omega⟩))
      rw [c1] at kk
      have := st.rv.c x' y'
      rw [if_neg hxy] at this
      have hzz : ¬ (Z x' y' ∨ (σ.b.get x' y').t = true) := fun e => kk (by rcases e with e | e; exact .inl (.inl e); exact .inr e)
      have e : Mz P.s Z σ.b x' y' = P.s + 1 := by
        show Mz P.s Z σ.b x' y' = _
        unfold Mz; rw [if_neg hzz]
      rw [e] at this
      exact ⟨this, fun hi' => by rw [c2 x' y' hxy]; exact (h.o x' y' hzz).2 hi'⟩
  · rename_i hk
    refine ⟨d, ⟨?_, ⟨h.w, h.h, fun x' y' kk => ?_, fun x' y' kk => ?_⟩, ge, gd, rfl, rfl⟩, by simp only; omega, by simp only; omega⟩
    · refine Plays.ask (n := 0) (by omega) ?_
      exact Plays.ret rfl _
    · show CR _ (σ.b.get x' y') _
      by_cases hzz : Z x' y' ∨ (σ.b.get x' y').t = true
      · exact h.z x' y' hzz
      · have hin : x' = x ∧ top ≤ y' ∧ y' < top + 4 := by
          rcases kk with (kk | kk) | kk
          · exact absurd (.inl kk) hzz
          · exact kk
          · exact absurd (.inr kk) hzz
        obtain ⟨rfl, k1, k2⟩ := hin
        obtain ⟨j, hj⟩ := Int.eq_ofNat_of_zero_le (show 0 ≤ y' - top by omega)
        obtain rfl : y' = top + j := by omega
        refine cr_zero (h.o _ _ hzz).1 (hq j (by omega)).1 ?_
        refine first_zero (n := 4) j (by omega) fun k' hk' => ?_
        rw [hk] at hk'; cases hk'
    · exact h.o x' y' (fun e => kk (by rcases e with e | e; exact .inl (.inl e); exact .inr e))
theorem col_st {Z : Int → Int → Prop} (h : CZ P.s Z σ.b d) (ge : σ.b.Good) (gd : d.Good) {x top : Int} (hi : σ.b.inb x top) (hz : ∀ y', top ≤ y' → y' < top + 4 → ¬ Z x y') :
    ∃ d', Stc σ (σ.col P x top) (dcol P d x top) d' P.s (fun x' y' => Z x' y' ∨ (x' = x ∧ top ≤ y' ∧ y' < top + 4)) d' := by
  obtain ⟨h1, h2, h3, h4⟩ := hi
  unfold ES.col dcol
  rw [rv_quiet h.rv]
  split
  · rename_i hq
    have hq' := hq
    simp only [quiet, Bool.and_eq_true, decide_eq_true_eq] at hq'
    obtain ⟨d1, st, r1, r2⟩ := run_st hp h ge gd (x := x) (top := top) ⟨h1, h2⟩ ⟨h3, hq'.1⟩ hz (quietFrom_facts hq'.2)
    generalize hr : σ.run P x top = r at *
    obtain ⟨τ, yr⟩ := r
    simp only at st r1 r2 ⊢
    have hn : (min (top + 4) (τ.b.h : Int) - yr).toNat = (min (top + 4) (σ.b.h : Int) - yr).toNat := by rw [st.eh]
    obtain ⟨d2, st2⟩ := rows_st hp (n := (min (top + 4) (σ.b.h : Int) - yr).toNat) (y := yr) st.cz st.ge st.gd h1 (by rw [st.ew]; exact h2) (by omega) (by rw [st.eh]; omega) (fun y' k1 k2 k3 => by
      rcases k3 with k3 | k3
      · exact hz y' (by omega) (by omega) k3
      · omega)
    refine ⟨d2, ⟨st.pl.bind ?_, st2.cz.congr fun x' y' hi' => ?_, st2.ge, st2.gd, st2.ew.trans st.ew, st2.eh.trans st.eh⟩⟩
    · have e : (min (top + 4) (d1.h : Int) - yr).toNat = (min (top + 4) (σ.b.h : Int) - yr).toNat := by rw [st.cz.h, st.eh]
      rw [e]; exact st2.pl
    · constructor
      · rintro (k | ⟨rfl, k1, k2⟩)
        · exact .inl (.inl k)
        · by_cases hy : y' < yr
          · exact .inl (.inr ⟨rfl, by omega, hy⟩)
          · exact .inr ⟨rfl, by omega, by omega⟩
      · rintro ((k | ⟨rfl, k1, k2⟩) | ⟨rfl, k1, k2⟩)
        · exact .inl k
        · exact .inr ⟨rfl, by omega, by omega⟩
        · exact .inr ⟨rfl, by omega, by omega⟩
  · obtain ⟨d2, st2⟩ := rows_st hp (n := (min (top + 4) (σ.b.h : Int) - top).toNat) (y := top) h ge gd h1 h2 (by omega) (by omega) (fun y' k1 k2 k3 => hz y' (by omega) (by omega) k3)
    refine ⟨d2, ⟨?_, st2.cz.congr fun x' y' hi' => ?_, st2.ge, st2.gd, st2.ew, st2.eh⟩⟩
    · rw [h.h]; exact st2.pl
    · have hb : y' < σ.b.h := by have := hi'.2.2.2; rwa [st2.eh] at this
      constructor
      · rintro (k | ⟨rfl, k1, k2⟩)
        · exact .inl k
        · exact .inr ⟨rfl, by omega, by omega⟩
      · rintro (k | ⟨rfl, k1, k2⟩)
        · exact .inl k
        · exact .inr ⟨rfl, by omega, by omega⟩
theorem cols_st {top : Int} : ∀ {n : Nat} {σ : ES} {d : BS} {x : Int} {Z : Int → Int → Prop}, CZ P.s Z σ.b d → σ.b.Good → d.Good → 0 ≤ x → x + n ≤ σ.b.w → 0 ≤ top → top < σ.b.h → (∀ x' y', x ≤ x' → top ≤ y' → y' < top + 4 → ¬ Z x' y') →
    ∃ d', Stc σ (σ.cols P x top n) (dcols P d x top n) d' P.s (fun x' y' => Z x' y' ∨ (x ≤ x' ∧ x' < x + n ∧ top ≤ y' ∧ y' < top + 4)) d'
  | 0, σ, d, x, Z, h, ge, gd, _, _, _, _, _ => ⟨d, ⟨Plays.ret rfl _, h.congr fun x' y' _ => ⟨fun k => by rcases k with k | k; exact k; omega, .inl⟩, ge, gd, rfl, rfl⟩⟩
  | n + 1, σ, d, x, Z, h, ge, gd, h1, h2, h3, h4, hz => by
    obtain ⟨d1, st⟩ := col_st hp h ge gd (x := x) (top := top) ⟨h1, by omega, h3, h4⟩ (fun y' k1 k2 => hz x y' (by omega) k1 k2)
    obtain ⟨d2, st2⟩ := cols_st (n := n) (x := x + 1) st.cz st.ge st.gd (by omega) (by rw [st.ew]; omega) h3 (by rw [st.eh]; exact h4) (fun x' y' k0 k1 k2 k3 => by
      rcases k3 with k3 | k3
      · exact hz x' y' (by omega) k1 k2 k3
      · omega)
    refine ⟨d2, ⟨st.pl.bind st2.pl, st2.cz.congr fun x' y' _ => ?_, st2.ge, st2.gd, st2.ew.trans st.ew, st2.eh.trans st.eh⟩⟩
    constructor
    · rintro (k | ⟨k0, k1, k2, k3⟩)
      · exact .inl (.inl k)
      · by_cases hx : x' = x
        · exact .inl (.inr ⟨hx, k2, k3⟩)
        · exact .inr ⟨by omega, by omega, k2, k3⟩
    · rintro ((k | ⟨rfl, k1, k2⟩) | ⟨k0, k1, k2, k3⟩)
      · exact .inl k
      · exact .inr ⟨by omega, by omega, k1, k2⟩
      · exact .inr ⟨by omega, by omega, k2, k3⟩
theorem stripes_st : ∀ {n : Nat} {σ : ES} {d : BS} {top : Int} {Z : Int → Int → Prop}, CZ P.s Z σ.b d → σ.b.Good → d.Good → 0 ≤ top → top + 4 * n ≤ σ.b.h + 3 → (∀ x' y', top ≤ y' → ¬ Z x' y') →
    ∃ d', Stc σ (σ.stripes P top n) (dstripes P d top n) d' P.s (fun x' y' => Z x' y' ∨ (top ≤ y' ∧ y' < top + 4 * n)) d'
  | 0, σ, d, top, Z, h, ge, gd, _, _, _ => ⟨d, ⟨Plays.ret rfl _, h.congr fun x' y' _ => ⟨fun k => by rcases k with k | k; exact k; omega, .inl⟩, ge, gd, rfl, rfl⟩⟩
  | n + 1, σ, d, top, Z, h, ge, gd, h1, h2, hz => by
    obtain ⟨d1, st⟩ := cols_st hp (n := σ.b.w) h ge gd (x := 0) (top := top) (by omega) (by omega) h1 (by omega) (fun x' y' _ k1 _ => hz x' y' k1)
    obtain ⟨d2, st2⟩ := stripes_st (n := n) (top := top + 4) st.cz st.ge st.gd (by omega) (by rw [st.eh]; omega) (fun x' y' k1 k2 => by
      rcases k2 with k2 | k2
      · exact hz x' y' (by omega) k2
      · omega)
    refine ⟨d2, ⟨?_, st2.cz.congr fun x' y' hi' => ?_, st2.ge, st2.gd, st2.ew.trans st.ew, st2.eh.trans st.eh⟩⟩
    · rw [dstripes, h.w]; exact st.pl.bind st2.pl
    · obtain ⟨i1, i2, i3, i4⟩ := hi'
      rw [st2.ew, st.ew] at i2
      constructor
      · rintro (k | ⟨k0, k1⟩)
        · exact .inl (.inl k)
        · by_cases hy : y' < top + 4
          · exact .inl (.inr ⟨i1, by omega, k0, hy⟩)
          · exact .inr ⟨by omega, by omega⟩
      · rintro ((k | ⟨k0, k1, k2, k3⟩) | ⟨k0, k1⟩)
        · exact .inl k
        · exact .inr ⟨k2, by omega⟩
        · exact .inr ⟨by omega, by omega⟩
omit hp in
theorem clear_b : ∀ (l : List (Int × Int)) (σ : ES), (σ.clear l).b = σ.b.clr l ∧ (σ.clear l).out = σ.out
  | [], σ => ⟨rfl, rfl⟩
  | p :: l, σ => clear_b l (σ.map p.1 p.2 (touch false))
omit hp in
theorem clr_rv {M : Int → Int → Nat} : ∀ {l : List (Int × Int)} {e d : BS}, RV M e d → e.Good → d.Good → AllIn e l → RV M (e.clr l) (d.clr l)
  | [], e, d, h, _, _, _ => h
  | p :: l, e, d, h, ge, gd, ha => by
    have hi := ha p (by simp)
    have h1 := touch_st (σ' := ⟨e, []⟩) h ge gd hi (touch false) (fun _ => rfl) (fun _ => rfl) (fun _ _ _ => rfl) (fun _ _ e => e)
    exact clr_rv (l := l) h1 (ge.upd hi (kv_touch false)) (gd.upd (h.inb hi) (kv_touch false)) (ha.tail_le (b' := e.upd p.1 p.2 (touch false)) rfl rfl)
/-- The cleanup pass. -/
theorem clean_st (h : RV (fun x y => if (σ.b.get x y).t = true then P.s else P.s + 1) σ.b d) (ge : σ.b.Good) (gd : d.Good) (ha : ∀ x y, σ.b.inb x y → (σ.b.get x y).s = true → (σ.b.get x y).t = true) (on : Bool) :
    ∃ d', Stt σ (σ.clean P on) (dclean P d on) (d', true) (fun _ _ => P.s) d' ∧ (∀ x y, ((σ.clean P on).b.get x y).t = false) := by
  have hcz : CZ P.s (fun _ _ => False) σ.b d := by
    refine ⟨h.w, h.h, fun x y k => ?_, fun x y k => ?_⟩
    · have := h.c x y
      rcases k with k | k
      · exact k.elim
      · rwa [if_pos k] at this
    · have := h.c x y
      simp only [false_or] at k
      rw [if_neg k] at this
      refine ⟨this, fun hi => ?_⟩
      cases hs : (σ.b.get x y).s
      · rfl
      · exact absurd (ha x y hi hs) k
  have g2 : (0 : Int) + 4 * ((stripesOf σ.b.h : Nat) : Int) ≤ σ.b.h + 3 := by unfold stripesOf; omega
  obtain ⟨d1, st⟩ := stripes_st hp (n := stripesOf σ.b.h) hcz ge gd (top := 0) (by omega) g2 (fun _ _ _ h => h)
  have hrv : RV (fun _ _ => P.s) (σ.stripes P 0 (stripesOf σ.b.h)).b d1 := by
    refine ⟨st.cz.w, st.cz.h, fun x y => ?_⟩
    by_cases hi : (σ.stripes P 0 (stripesOf σ.b.h)).b.inb x y
    · refine st.cz.z x y (.inl (.inr ?_))
      obtain ⟨i1, i2, i3, i4⟩ := hi
      rw [st.eh] at i4
      unfold stripesOf
      omega
    · exact st.cz.rv.out hi _
  generalize hτ : σ.stripes P 0 (stripesOf σ.b.h) = τ at *
  have hall : AllIn τ.b (scan σ.b.w σ.b.h) := by have := scanIn τ.b; rwa [st.ew, st.eh] at this
  have hr2 := clr_rv hrv st.ge st.gd hall
  obtain ⟨cb, co⟩ := clear_b (scan σ.b.w σ.b.h) τ
  have hle := le_clr st.ge hall
  have hld := le_clr st.gd (l := scan σ.b.w σ.b.h) (fun q hq => hrv.inb (hall q hq))
  have hclean : (σ.clean P on).b = τ.b.clr (scan σ.b.w σ.b.h) := by
    unfold ES.clean ES.check
    rw [hτ, ← cb]
    split <;> rfl
  have hde : dclean P d on = (dstripes P d 0 (stripesOf σ.b.h)).bind fun b => (dcheck P on).bind fun r => .ret (b.clr (scan b.w b.h), r) := by
    unfold dclean; rw [hcz.h]
  refine ⟨d1.clr (scan σ.b.w σ.b.h), ⟨?_, by rw [hclean]; exact hr2, by rw [hclean]; exact hle.good, hld.good, by rw [hclean]; exact hle.w.trans st.ew, by rw [hclean]; exact hle.h.trans st.eh⟩, fun x y => ?_⟩
  · rw [hde]
    refine st.pl.bind ?_
    rw [st.cz.w, st.cz.h, st.ew, st.eh]
    refine Plays.bind (τ := σ.clean P on) (a := true) ?_ (Plays.ret rfl _)
    unfold ES.clean ES.check dcheck
    rw [hτ]
    cases on
    · exact Plays.ret (by rw [if_neg (by simp)]; exact co) _
    · rw [if_pos rfl, if_pos rfl]
      refine Plays.out ?_ (τ := (((τ.emit P 18 1).emit P 18 0).emit P 18 1).emit P 18 0) (by simp [ES.emit, co])
      refine Plays.ask (n := 1) (by omega) ?_
      refine Plays.ask (n := 0) (by omega) ?_
      refine Plays.ask (n := 1) (by omega) ?_
      refine Plays.ask (n := 0) (by omega) ?_
      exact Plays.ret rfl _
  · rw [hclean]
    by_cases hi : (τ.b.clr (scan σ.b.w σ.b.h)).inb x y
    · obtain ⟨c1, c2, c3⟩ := clear_facts (scan σ.b.w σ.b.h) (σ := τ) st.ge hall
      rw [← cb]
      obtain ⟨i1, i2, i3, i4⟩ := hi
      exact c1 (x, y) (scan_mem i1 (by rw [hle.w, st.ew] at i2; exact i2) i3 (by rw [hle.h, st.eh] at i4; exact i4))
    · rw [BS.get_out hi]; rfl
end
end Go.Proofs.Ytjpjohchdfoeaaa
/-! The passes of a block, decoded: the plain law. -/
namespace Go.Proofs.Ytjpjohchdfoeaaa
open Go.Sim
open Go.RowKit
set_option linter.unusedVariables false
set_option linter.unusedSimpArgs false

/-- What a pass of the decoder does. -/
def dRun (m : MD) (b : BS) (n planes o : Nat) : Tr (BS × Bool) :=
  if kindOf n = 0 then (dsigs (runPP m n planes o) b (scan b.w b.h)).bind fun b => .ret (b, true)
  else if kindOf n = 1 then (drefs (runPP m n planes o) b (scan b.w b.h)).bind fun b => .ret (b, true)
  else dclean (runPP m n planes o) b m.sy
theorem runPP_ok {m : MD} {n planes o : Nat} (hpl : planes ≤ 60) (h1 : 1 ≤ planes) (ho : o ≤ 3) : (runPP m n planes o).Ok := ⟨by simp only [runPP]; omega, ho⟩
theorem lv_dRun {m : MD} {b : BS} (hg : b.Good) {n planes o : Nat} (hp : (runPP m n planes o).Ok) : (dRun m b n planes o).Lv (fun r => b.Le r.1) 20000 := by
  have hl : (scan b.w b.h).length ≤ 4096 := by
    have hw := hg.ok.w2
    have hh := hg.ok.h2
    have := scanPts_len b.w b.h (stripesOf b.h) 0
    have h2 : 4 * b.w * stripesOf b.h ≤ 4 * 64 * 16 := Nat.mul_le_mul (by omega) (by unfold stripesOf; omega)
    unfold scan; omega
  unfold dRun
  split
  · exact (Tr.Lv.bind (m := 0) (Q' := fun r : BS × Bool => b.Le r.1) (fun a ha => ha) (lv_dsigs hp hg (scanIn b))).mono (fun _ h => h) (by omega)
  · split
    · exact (Tr.Lv.bind (m := 0) (Q' := fun r : BS × Bool => b.Le r.1) (fun a ha => ha) (lv_drefs hg (scanIn b))).mono (fun _ h => h) (by omega)
    · exact lv_dclean hp hg m.sy

/-! Sources that give out symbols. -/
/-- The symbols that are left, and whether something was wrong. -/
def askV (s : List (Int × Int) × Bool) (c : Int) : Bool × (List (Int × Int) × Bool) :=
  match s with
  | (l, true) => (false, (l, true))
  | ([], false) => (false, ([], true))
  | (p :: l, false) => if p.1 = c ∧ (p.2 = 0 ∨ p.2 = 1) then (p.2 == 1, (l, false)) else (false, (p :: l, true))
theorem askV_bad {α : Type} : ∀ (t : Tr α) (l : List (Int × Int)), (t.run askV (l, true)).2 = (l, true)
  | .ret a, l => rfl
  | .ask c k, l => askV_bad (k false) l
theorem askV_play {α : Type} : ∀ (t : Tr α) (l : List (Int × Int)), (∀ a l', t.play l = some (a, l') → t.run askV (l, false) = (a, (l', false))) ∧ (t.play l = none → (t.run askV (l, false)).2.2 = true)
  | .ret a, l => ⟨fun a' l' h => by simp only [Tr.play] at h; injection h with h; injection h with h1 h2; subst h1 h2; rfl, fun h => by simp [Tr.play] at h⟩
  | .ask c k, [] => ⟨fun a l' h => by simp [Tr.play] at h, fun _ => by
    show ((k false).run askV ([], true)).2.2 = true
    rw [askV_bad]⟩
  | .ask c k, p :: l => by
    rw [Tr.play, Tr.run_ask]
    by_cases hp : p.1 = c ∧ (p.2 = 0 ∨ p.2 = 1)
    · have e : askV (p :: l, false) c = (p.2 == 1, (l, false)) := by simp only [askV]; rw [if_pos hp]
      rw [if_pos hp, e]
      exact askV_play (k (p.2 == 1)) l
    · have e : askV (p :: l, false) c = (false, (p :: l, true)) := by simp only [askV]; rw [if_neg hp]
      rw [if_neg hp, e]
      refine ⟨fun a l' h => (by cases h), fun _ => ?_⟩
      show ((k false).run askV (p :: l, true)).2.2 = true
      rw [askV_bad]

/-- The bits that are given, 0 beyond them; what was asked for is noted. -/
def askB (bits : List Int) (s : List (Int × Int)) (c : Int) : Bool × List (Int × Int) := (bits.getD s.length 0 != 0, s ++ [(c, bits.getD s.length 0)])
/-- What was asked for is answered by the symbols. -/
def fits (ss : List (Int × Int)) (qs : List (Int × Int)) : Prop := ∀ i (h : i < qs.length), ∃ p, ss[i]? = some p ∧ p.1 = qs[i].1 ∧ (p.2 = 0 ∨ p.2 = 1)
instance (ss qs : List (Int × Int)) : Decidable (fits ss qs) := by
  unfold fits
  refine decidable_of_iff (∀ i : Fin qs.length, (match ss[i.1]? with | some p => decide (p.1 = qs[i.1].1 ∧ (p.2 = 0 ∨ p.2 = 1)) | none => false) = true) ⟨fun h i hi => ?_, fun h i => ?_⟩
  · have := h ⟨i, hi⟩
    simp only at this
    cases hs : ss[i]? with
    | none => rw [hs] at this; simp at this
    | some p => rw [hs] at this; exact ⟨p, rfl, by simpa using this⟩
  · obtain ⟨p, h1, h2⟩ := h i.1 i.2
    rw [h1]; simpa using h2
theorem askB_out {α : Type} (bits : List Int) : ∀ (t : Tr α) (s : List (Int × Int)), ∃ l, (t.run (askB bits) s).2 = s ++ l
  | .ret a, s => ⟨[], by simp [Tr.run_ret]⟩
  | .ask c k, s => by
    rw [Tr.run_ask]
    obtain ⟨l, h⟩ := askB_out bits (k (askB bits s c).1) (askB bits s c).2
    rw [h]
    exact ⟨(c, bits.getD s.length 0) :: l, by simp [askB]⟩
theorem askB_play {α : Type} (ss : List (Int × Int)) : ∀ (t : Tr α) (s : List (Int × Int)), s.length ≤ ss.length → fits ss s →
    (∀ a l', t.play (ss.drop s.length) = some (a, l') → ∃ s', t.run (askB (ss.map (·.2))) s = (a, s') ∧ fits ss s' ∧ s'.length ≤ ss.length ∧ l' = ss.drop s'.length) ∧
    (t.play (ss.drop s.length) = none → ¬ fits ss (t.run (askB (ss.map (·.2))) s).2)
  | .ret a, s, hl, hf => ⟨fun a' l' h => by simp only [Tr.play] at h; injection h with h; injection h with h1 h2; subst h1 h2; exact ⟨s, rfl, hf, hl, rfl⟩, fun h => by simp [Tr.play] at h⟩
  | .ask c k, s, hl, hf => by
    have key : ∀ b, (askB (ss.map (·.2)) s c) = (b != 0, s ++ [(c, b)]) → ¬ fits ss (s ++ [(c, b)]) → ¬ fits ss ((Tr.ask c k).run (askB (ss.map (·.2))) s).2 := by
      intro b e hn hf2
      rw [Tr.run_ask, e] at hf2
      obtain ⟨l, h⟩ := askB_out (ss.map (·.2)) (k (b != 0)) (s ++ [(c, b)])
      rw [h] at hf2
      refine hn fun i hi => ?_
      have := hf2 i (by simp only [List.length_append] at hi ⊢; omega)
      rwa [List.getElem_append_left hi] at this
    by_cases hlt : s.length < ss.length
    · rw [List.drop_eq_getElem_cons hlt, Tr.play]
      have e : askB (ss.map (·.2)) s c = (ss[s.length].2 != 0, s ++ [(c, ss[s.length].2)]) := by
        simp [askB, List.getD_eq_getElem?_getD, List.getElem?_map, List.getElem?_eq_getElem hlt]
      by_cases hp : ss[s.length].1 = c ∧ (ss[s.length].2 = 0 ∨ ss[s.length].2 = 1)
      · rw [if_pos hp, Tr.run_ask, e]
        have hb : (ss[s.length].2 != 0) = (ss[s.length].2 == 1) := by rcases hp.2 with h | h <;> rw [h] <;> rfl
        rw [hb]
        have hf2 : fits ss (s ++ [(c, ss[s.length].2)]) := by
          intro i hi
          by_cases h : i < s.length
          · rw [List.getElem_append_left h]; exact hf i h
          · simp at hi
            obtain rfl : i = s.length := by omega
            rw [List.getElem_append_right (Nat.le_refl _)]
            simp only [Nat.sub_self, List.getElem_cons_zero]
            exact ⟨_, List.getElem?_eq_getElem hlt, hp.1, hp.2⟩
        have := askB_play ss (k (ss[s.length].2 == 1)) (s ++ [(c, ss[s.length].2)]) (by simp; omega) hf2
        rw [List.length_append, List.length_singleton] at this
        exact this
      · rw [if_neg hp]
        refine ⟨fun a l' h => (by cases h), fun _ => key _ e ?_⟩
        intro hf2
        obtain ⟨p, h1, h2⟩ := hf2 s.length (by simp)
        rw [List.getElem?_eq_getElem hlt] at h1
        injection h1 with h1
        subst h1
        rw [List.getElem_append_right (Nat.le_refl _)] at h2
        simp only [Nat.sub_self, List.getElem_cons_zero] at h2
        exact hp h2
    · rw [List.drop_of_length_le (by omega), Tr.play]
      refine ⟨fun a l' h => (by cases h), fun _ => key 0 ?_ ?_⟩
      · simp [askB, List.getD_eq_getElem?_getD, List.getElem?_map, List.getElem?_eq_none (show ss.length ≤ s.length by omega)]
      · intro hf2
        obtain ⟨p, h1, _⟩ := hf2 s.length (by simp)
        rw [List.getElem?_eq_none (by omega)] at h1; cases h1

/-! All passes. -/
/-- The block behind the passes, and the error. -/
def vLoop (m : MD) (planes o : Nat) : Nat → BS → List (List (Int × Int)) → BS × Int
  | _, b, [] => (b, 0)
  | n, b, l :: ls =>
    match (dRun m b n planes o).play l with
    | none => (b, 8)
    | some (r, l') => if r.2 = false then (r.1, 16) else match l' with | [] => vLoop m planes o (n + 1) r.1 ls | _ :: _ => (r.1, 8)
def leftOf (planes : Int) (n : Nat) (t : Bool) : Int := if n = 0 then planes else planes - 1 - (planeOf (n - 1) : Int) + if (kindOf (n - 1) != 2 && !t) = true then 1 else 0
def valErr (n : Nat) (planes w h o : Int) : Int := if ¬ sized w h ∨ planes < 0 ∨ 60 < planes then 2 else if max 0 (3 * planes - 2) < (n : Int) then 4 else if o < 0 ∨ 3 < o then 3 else 0
/-- What Values returns: the error, the values, the missing planes. -/
def valRes (ss : List (List (Int × Int))) (planes w h o : Int) (m : MD) : Int × List Int × List Int :=
  if valErr ss.length planes w h o ≠ 0 then (valErr ss.length planes w h o, [], [])
  else
    let r := vLoop m planes.toNat o.toNat 0 (newBS w.toNat h.toNat) ss
    if r.2 ≠ 0 then (r.2, [], []) else (0, r.1.cs.map (·.v), r.1.cs.map fun c => leftOf planes ss.length c.t)
end Go.Proofs.Ytjpjohchdfoeaaa
/-! The passes of a block, encoded and decoded: the plain laws. -/
namespace Go.Proofs.Ytjpjohchdfoeaaa
open Go.Sim
open Go.RowKit
set_option linter.unusedVariables false
set_option linter.unusedSimpArgs false

theorem scan_le {b : BS} (hg : b.Good) : (scan b.w b.h).length ≤ 4096 := by
  have hw := hg.ok.w2
  have hh := hg.ok.h2
  have := scanPts_len b.w b.h (stripesOf b.h) 0
  have h2 : 4 * b.w * stripesOf b.h ≤ 4 * 64 * 16 := Nat.mul_le_mul (by omega) (by unfold stripesOf; omega)
  unfold scan; omega
theorem rst_le {m : MD} {b : BS} (hg : b.Good) {k planes o : Nat} : (ES.mk b []).Le (runSt m b k planes o) 60000 := by
  have hs := scan_le hg
  have hst : 12 * b.w * stripesOf b.h ≤ 12 * 64 * 16 := Nat.mul_le_mul (by have := hg.ok.w2; omega) (by have := hg.ok.h2; unfold stripesOf; omega)
  unfold runSt
  split
  · exact (le_sigs (σ := ⟨b, []⟩) hg (scanIn b)).mono (by omega)
  · split
    · exact (le_refs (σ := ⟨b, []⟩) hg (scanIn b)).mono (by omega)
    · have h1 := le_stripes (P := runPP m k planes o) (σ := ⟨b, []⟩) (n := stripesOf b.h) hg (top := 0) (by omega) (by show (0 : Int) + 4 * (stripesOf b.h : Nat) ≤ b.h + 3; unfold stripesOf; omega)
      have hall : AllIn (ES.stripes (runPP m k planes o) ⟨b, []⟩ 0 (stripesOf b.h)).b (scan b.w b.h) := by have := scanIn (ES.stripes (runPP m k planes o) ⟨b, []⟩ 0 (stripesOf b.h)).b; rwa [h1.w, h1.h] at this
      have h2 := le_clear h1.good hall
      have h3 := h1.trans h2
      have h4 : ∀ τ : ES, τ.b.Good → τ.Le (τ.check (runPP m k planes o) m.sy) 4 := by
        intro τ hτ
        unfold ES.check
        split
        · exact ⟨rfl, rfl, hτ, by simp [ES.emit], fun _ _ => rfl⟩
        · exact ES.Le.refl hτ 4
      exact (h3.trans (h4 _ h3.good)).mono (by show 12 * b.w * stripesOf b.h + 0 + 4 ≤ 60000; omega)

/-- Refinement leaves significance, and touches what is significant. -/
theorem ref1_adone {P : PP} {σ : ES} (hg : σ.b.Good) {x y : Int} (hi : σ.b.inb x y) : Adone (σ.ref1 P x y).b (x, y) ∧ ∀ x' y', Adone σ.b (x', y') → Adone (σ.ref1 P x y).b (x', y') := by
  unfold ES.ref1
  split
  · rename_i h
    refine ⟨fun hs => ?_, fun _ _ h => h⟩
    rcases h with h | h
    · simp only at hs; rw [h] at hs; cases hs
    · exact h
  · have g1 := hg.upd hi kv_refine
    have g : ∀ x' y', (((σ.b.upd x y refine').upd x y (touch true)).get x' y') = if x' = x ∧ y' = y then touch true ((σ.b.upd x y refine').get x y) else (σ.b.upd x y refine').get x' y' := fun x' y' => BS.get_upd g1.ok hi _ x' y'
    have g' : ∀ x' y', ((σ.b.upd x y refine').get x' y') = if x' = x ∧ y' = y then refine' (σ.b.get x y) else σ.b.get x' y' := fun x' y' => BS.get_upd hg.ok hi _ x' y'
    refine ⟨fun _ => ?_, fun x' y' ha => ?_⟩
    · show (((σ.b.upd x y refine').upd x y (touch true)).get x y).t = true
      rw [g, if_pos ⟨rfl, rfl⟩]; rfl
    · show (((σ.b.upd x y refine').upd x y (touch true)).get x' y').s = true → (((σ.b.upd x y refine').upd x y (touch true)).get x' y').t = true
      rw [g]
      split
      · exact fun _ => rfl
      · rename_i hx
        rw [g', if_neg hx]; exact ha
theorem refs_adone {P : PP} : ∀ {l : List (Int × Int)} {σ : ES}, σ.b.Good → AllIn σ.b l → (∀ p ∈ l, Adone (σ.refs P l).b p) ∧ ∀ p, Adone σ.b p → Adone (σ.refs P l).b p
  | [], σ, _, _ => ⟨fun p hp => (by cases hp), fun _ h => h⟩
  | p :: l, σ, hg, ha => by
    obtain ⟨a1, a2⟩ := ref1_adone (P := P) hg (ha p (by simp))
    have hl := le_ref1 (P := P) hg (ha p (by simp))
    obtain ⟨b1, b2⟩ := refs_adone (P := P) (l := l) (σ := σ.ref1 P p.1 p.2) hl.good (AllIn.le (fun q hq => ha q (by simp [hq])) hl)
    refine ⟨fun q hq => ?_, fun q hq => b2 q (a2 q.1 q.2 hq)⟩
    simp only [List.mem_cons] at hq
    rcases hq with rfl | hq
    · exact b2 q a1
    · exact b1 q hq

/-- Before pass j, the encoder's block and the decoder's. -/
structure DJ (planes j : Nat) (e d : BS) : Prop where
  rv : RV (Mt (planes - 1 - planeOf j) e) e d
  ge : e.Good
  gd : d.Good
  k0 : kindOf j = 0 → ∀ x y, (e.get x y).t = false
  k2 : kindOf j = 2 → ∀ x y, e.inb x y → (e.get x y).s = true → (e.get x y).t = true
/-- What is missing behind pass j. -/
def Ma (planes j : Nat) (e : BS) (x y : Int) : Nat := if kindOf j ≠ 2 ∧ (e.get x y).t = false then planes - 1 - planeOf j + 1 else planes - 1 - planeOf j
theorem planes_next {j : Nat} : (kindOf j ≠ 2 → planeOf (j + 1) = planeOf j) ∧ (kindOf j = 2 → planeOf (j + 1) = planeOf j + 1) := by
  unfold kindOf planeOf
  by_cases h : j = 0
  · subst h; simp
  · rw [if_neg h, if_neg (by omega), if_neg h]
    omega
/-- A pass. -/
theorem dj_step {m : MD} {planes o j : Nat} {e d : BS} (h : DJ planes j e d) (hpl : planes ≤ 60) (h1 : 1 ≤ planes) (ho : o ≤ 3) :
    ∃ d', (dRun m d j planes o).play ((runSt m e j planes o).out.map symI) = some ((d', true), []) ∧ RV (Ma planes j (runSt m e j planes o).b) (runSt m e j planes o).b d' ∧ d'.Good ∧
      (j + 1 ≤ 3 * planes - 3 → DJ planes (j + 1) (runSt m e j planes o).b d') := by
  have hp := runPP_ok (m := m) (n := j) hpl h1 ho
  have hs : (runPP m j planes o).s = planes - 1 - planeOf j := rfl
  have hle := rst_le (m := m) h.ge (k := j) (planes := planes) (o := o)
  have hrv := h.rv
  rw [← hs] at hrv
  obtain ⟨pn1, pn2⟩ := planes_next (j := j)
  have hpl' : ∀ {σ : ES} {t : Tr (BS × Bool)} {a : BS × Bool}, Plays ⟨e, []⟩ σ t a → t.play (σ.out.map symI) = some (a, []) := by
    intro σ t a hp
    obtain ⟨l, h1, h2⟩ := hp
    simp only [List.nil_append] at h1
    have := h2 []
    rw [List.append_nil] at this
    rw [h1]; exact this
  rcases kind_next j with ⟨k0, kn⟩ | ⟨k0, kn⟩ | ⟨k0, kn⟩
  · have hrun : runSt m e j planes o = ES.sigs (runPP m j planes o) ⟨e, []⟩ (scan e.w e.h) := by unfold runSt; rw [if_pos k0]
    have hdr : dRun m d j planes o = (dsigs (runPP m j planes o) d (scan e.w e.h)).bind fun b => .ret (b, true) := by unfold dRun; rw [if_pos k0, h.rv.w, h.rv.h]
    obtain ⟨d', st⟩ := sigs_st hp (σ := ⟨e, []⟩) hrv h.ge h.gd (scanIn e) (scan_nodup _ _) (fun p _ => h.k0 k0 p.1 p.2)
    rw [← hrun] at st
    have hma : RV (Ma planes j (runSt m e j planes o).b) (runSt m e j planes o).b d' := by
      refine st.rv.congr fun x y _ => ?_
      unfold Ma Mt
      rw [hs]
      cases ((runSt m e j planes o).b.get x y).t <;> simp [k0]
    refine ⟨d', ?_, hma, st.gd, fun hj => ⟨?_, st.ge, st.gd, fun h => by omega, fun h => by omega⟩⟩
    · rw [hdr]; exact hpl' (st.pl.bind (Plays.ret rfl _))
    · rw [pn1 (by omega)]; exact st.rv
  · have hrun : runSt m e j planes o = ES.refs (runPP m j planes o) ⟨e, []⟩ (scan e.w e.h) := by unfold runSt; rw [if_neg (by omega), if_pos k0]
    have hdr : dRun m d j planes o = (drefs (runPP m j planes o) d (scan e.w e.h)).bind fun b => .ret (b, true) := by unfold dRun; rw [if_neg (by omega), if_pos k0, h.rv.w, h.rv.h]
    obtain ⟨d', st⟩ := refs_st (P := runPP m j planes o) (σ := ⟨e, []⟩) hrv h.ge h.gd (scanIn e)
    obtain ⟨ad, _⟩ := refs_adone (P := runPP m j planes o) (σ := ⟨e, []⟩) h.ge (scanIn e)
    rw [← hrun] at st ad
    have hma : RV (Ma planes j (runSt m e j planes o).b) (runSt m e j planes o).b d' := by
      refine st.rv.congr fun x y _ => ?_
      unfold Ma Mt
      rw [hs]
      cases ((runSt m e j planes o).b.get x y).t <;> simp [k0]
    refine ⟨d', ?_, hma, st.gd, fun hj => ⟨?_, st.ge, st.gd, fun h => by omega, fun _ x y hi => ?_⟩⟩
    · rw [hdr]; exact hpl' (st.pl.bind (Plays.ret rfl _))
    · rw [pn1 (by omega)]; exact st.rv
    · obtain ⟨i1, i2, i3, i4⟩ := hi
      exact ad (x, y) (scan_mem i1 (by rw [st.ew] at i2; exact i2) i3 (by rw [st.eh] at i4; exact i4))
  · have hrun : runSt m e j planes o = ES.clean (runPP m j planes o) ⟨e, []⟩ m.sy := by unfold runSt; rw [if_neg (by omega), if_neg (by omega)]
    have hdr : dRun m d j planes o = dclean (runPP m j planes o) d m.sy := by unfold dRun; rw [if_neg (by omega), if_neg (by omega)]
    obtain ⟨d', st, ct⟩ := clean_st hp (σ := ⟨e, []⟩) hrv h.ge h.gd (h.k2 k0) m.sy
    rw [← hrun] at st ct
    have hma : RV (Ma planes j (runSt m e j planes o).b) (runSt m e j planes o).b d' := by
      refine st.rv.congr fun x y _ => ?_
      unfold Ma
      rw [if_neg (by omega), hs]
    refine ⟨d', ?_, hma, st.gd, fun hj => ⟨?_, st.ge, st.gd, fun _ => ct, fun h => by omega⟩⟩
    · rw [hdr]; exact hpl' st.pl
    · refine st.rv.congr fun x y _ => ?_
      unfold Mt
      rw [if_neg (by simp [ct]), hs, pn2 k0]
      have : planeOf (j + 1) ≤ planes - 1 := planeOf_le hj h1
      rw [pn2 k0] at this
      omega

/-- The encoder's block behind passes. -/
def afterP (m : MD) (planes o : Nat) : Nat → Nat → BS → BS
  | 0, _, b => b
  | n + 1, k, b => afterP m planes o n (k + 1) (runSt m b k planes o).b
theorem passesOf_snoc (m : MD) (planes o : Nat) : ∀ (n k : Nat) (b : BS), passesOf m planes o (n + 1) k b = passesOf m planes o n k b ++ [(runSt m (afterP m planes o n k b) (k + n) planes o).out]
  | 0, k, b => rfl
  | n + 1, k, b => by
    rw [passesOf, passesOf_snoc m planes o n, passesOf, afterP, show k + 1 + n = k + (n + 1) by omega]; rfl
/-- The passes from j on, decoded. -/
theorem dj_loop {m : MD} {planes o : Nat} (hpl : planes ≤ 60) (h1 : 1 ≤ planes) (ho : o ≤ 3) : ∀ (c j : Nat) (e d : BS), DJ planes j e d → 0 < c → j + c ≤ 3 * planes - 2 →
    ∃ d', vLoop m planes o j d ((passesOf m planes o c j e).map (·.map symI)) = (d', 0) ∧ RV (Ma planes (j + c - 1) (afterP m planes o c j e)) (afterP m planes o c j e) d' ∧ d'.Good ∧ (afterP m planes o c j e).w = e.w ∧ (afterP m planes o c j e).h = e.h ∧
      (∀ x y, ((afterP m planes o c j e).get x y).v = (e.get x y).v) ∧ (j + c ≤ 3 * planes - 3 → DJ planes (j + c) (afterP m planes o c j e) d')
  | 0, j, e, d, _, hc, _ => by omega
  | c + 1, j, e, d, h, _, hj => by
    obtain ⟨d1, p1, rv1, gd1, nx⟩ := dj_step (m := m) h hpl h1 ho
    have hle := rst_le (m := m) h.ge (k := j) (planes := planes) (o := o)
    have hv : vLoop m planes o j d ((passesOf m planes o (c + 1) j e).map (·.map symI)) = vLoop m planes o (j + 1) d1 ((passesOf m planes o c (j + 1) (runSt m e j planes o).b).map (·.map symI)) := by
      rw [passesOf, List.map_cons, vLoop, p1]
      simp
    rw [hv]
    cases c with
    | zero =>
      exact ⟨d1, by simp [passesOf, vLoop], rv1, gd1, hle.w, hle.h, hle.v, fun hh => nx (by omega)⟩
    | succ c =>
      obtain ⟨d', q1, q2, q3, q5, q6, q7, q8⟩ := dj_loop hpl h1 ho (c + 1) (j + 1) _ d1 (nx (by omega)) (by omega) (by omega)
      refine ⟨d', q1, ?_, q3, q5.trans hle.w, q6.trans hle.h, fun x y => (q7 x y).trans (hle.v x y), fun hh => ?_⟩
      · rw [show j + (c + 1 + 1) - 1 = j + 1 + (c + 1) - 1 by omega]; exact q2
      · rw [show j + (c + 1 + 1) = j + 1 + (c + 1) by omega]; exact q8 (by omega)

theorem get_new {w h : Nat} (x y : Int) : (newBS w h).get x y = .zero := by
  unfold BS.get
  split
  · simp only [newBS, blank, List.getD_eq_getElem?_getD, List.getElem?_replicate]
    split <;> rfl
  · rfl
/-- At the start. -/
theorem dj_start {w h : Nat} {xs : List Int} (hg : (fillTo w h xs xs.length).Good) (hx : ∀ x y, ((fillTo w h xs xs.length).get x y).s = false ∧ ((fillTo w h xs xs.length).get x y).t = false ∧ ((fillTo w h xs xs.length).get x y).r = false)
    {planes : Nat} (h1 : 1 ≤ planes) (hv : ∀ x y, ((fillTo w h xs xs.length).get x y).v.natAbs < 2 ^ planes) : DJ planes 0 (fillTo w h xs xs.length) (newBS w h) := by
  refine ⟨⟨rfl, rfl, fun x y => ?_⟩, hg, newBS_good hg.ok.w1 hg.ok.w2 hg.ok.h1 hg.ok.h2, fun h => by simp [kindOf] at h, fun _ x y _ hs => ?_⟩
  · obtain ⟨a1, a2, a3⟩ := hx x y
    have : Mt (planes - 1 - planeOf 0) (fillTo w h xs xs.length) x y = planes := by
      unfold Mt; rw [if_neg (by simp [a2])]; simp [planeOf]; omega
    rw [this, get_new]
    exact ⟨a1.symm, a2.symm, a3.symm, (cutv_zero (hv x y)).symm, by rw [a1]; exact ⟨fun k => (by cases k), fun k => absurd k (Nat.not_le_of_lt (hv x y))⟩⟩
  · rw [(hx x y).1] at hs; cases hs
end Go.Proofs.Ytjpjohchdfoeaaa
/-! Values, from the symbols of a block: the plain laws. -/
namespace Go.Proofs.Ytjpjohchdfoeaaa
open Go.Sim
open Go.RowKit
set_option linter.unusedVariables false
set_option linter.unusedSimpArgs false

def stdI (l : List (List (Int × Nat))) : List (List (Int × Int)) := l.map (·.map symI)
theorem mk_eta (b : BS) : (⟨b.w, b.h, b.cs⟩ : BS) = b := rfl
theorem get_idx {b : BS} (ho : b.Ok) {i : Nat} (hi : i < b.w * b.h) : b.cs[i]? = some (b.get ((i % b.w : Nat) : Int) ((i / b.w : Nat) : Int)) := by
  have hw := ho.w1
  have h1 := BS.get_in ho (inb_divmod (i := i) (h := b.h) (w := b.w) (by omega) hi b.cs)
  have h2 := idx_divmod (w := b.w) (h := b.h) (i := i) (by omega) b.cs
  rw [mk_eta] at h2
  rw [h2] at h1
  exact h1
theorem fill_full {w h : Nat} {xs : List Int} (hl : xs.length = w * h) : (fillTo w h xs xs.length).cs = xs.map cellOf := by
  rw [fillTo, List.take_of_length_le (Nat.le_refl _), hl, Nat.sub_self]; simp [blank]
theorem fill_get {w h : Nat} {xs : List Int} (hl : xs.length = w * h) (x y : Int) : ((fillTo w h xs xs.length).get x y).s = false ∧ ((fillTo w h xs xs.length).get x y).t = false ∧ ((fillTo w h xs xs.length).get x y).r = false ∧
    (((fillTo w h xs xs.length).get x y).v = 0 ∨ ((fillTo w h xs xs.length).get x y).v ∈ xs) := by
  unfold BS.get
  split
  · rw [fill_full hl]
    simp only [List.getD_eq_getElem?_getD, List.getElem?_map]
    generalize BS.idx _ x y = j
    by_cases hj : j < xs.length
    · rw [List.getElem?_eq_getElem hj]
      exact ⟨rfl, rfl, rfl, .inr (List.getElem_mem hj)⟩
    · rw [List.getElem?_eq_none (by omega)]
      exact ⟨rfl, rfl, rfl, .inl rfl⟩
  · exact ⟨rfl, rfl, rfl, .inl rfl⟩

section
variable {xs : List Int} {w h : Nat} {o : Int} {m : MD}

theorem start_of (w1 : 1 ≤ w) (w2 : w ≤ 64) (h1 : 1 ≤ h) (h2 : h ≤ 64) (hl : xs.length = w * h) (hp : planesOf xs ≤ 60) (hp1 : 1 ≤ planesOf xs) : DJ (planesOf xs) 0 (fillTo w h xs xs.length) (newBS w h) := by
  refine dj_start (fillTo_good (newBS_good w1 w2 h1 h2) hl _ (Nat.le_refl _) ?_) (fun x y => ?_) hp1 (fun x y => ?_)
  · rw [List.take_of_length_le (Nat.le_refl _)]; exact inR_planes.2 hp
  · obtain ⟨a, b, c, _⟩ := fill_get hl x y
    exact ⟨a, b, c⟩
  · obtain ⟨_, _, _, hv | hv⟩ := fill_get hl x y
    · rw [hv]; exact Nat.two_pow_pos _
    · exact planes_le.1 (Nat.le_refl _) _ hv

theorem leftOf_pos {planes : Int} {n : Nat} (hn : n ≠ 0) (t : Bool) : leftOf planes n t = planes - 1 - (planeOf (n - 1) : Int) + if (kindOf (n - 1) != 2 && !t) = true then 1 else 0 := by unfold leftOf; rw [if_neg hn]

/-- The first n passes of a block. -/
theorem prefix_law (w1 : 1 ≤ w) (w2 : w ≤ 64) (h1 : 1 ≤ h) (h2 : h ≤ 64) (hl : xs.length = w * h) (hp : planesOf xs ≤ 60) (ho : 0 ≤ o ∧ o ≤ 3) {n : Nat} (hn : n ≤ 3 * planesOf xs - 2) :
    ∃ d : BS, valRes (stdI (passesOf m (planesOf xs) o.toNat n 0 (fillTo w h xs xs.length))) (planesOf xs) w h o m = (0, d.cs.map (·.v), d.cs.map fun c => leftOf (planesOf xs) n c.t) ∧ d.cs.length = xs.length ∧
      ∀ i (hi : i < xs.length) (hd : i < d.cs.length), 0 ≤ leftOf (planesOf xs) n d.cs[i].t ∧ leftOf (planesOf xs) n d.cs[i].t ≤ planesOf xs ∧ d.cs[i].v = cutv (leftOf (planesOf xs) n d.cs[i].t).toNat xs[i] := by
  have hlen : (stdI (passesOf m (planesOf xs) o.toNat n 0 (fillTo w h xs xs.length))).length = n := by simp [stdI, passesOf_len]
  have herr : valErr n (planesOf xs) w h o = 0 := by
    unfold valErr sized
    rw [if_neg (by simp; omega), if_neg (by omega), if_neg (by omega)]
  unfold valRes
  rw [hlen, herr, if_neg (by simp)]
  simp only [Int.toNat_natCast]
  by_cases hn0 : n = 0
  · subst hn0
    refine ⟨newBS w h, by simp [passesOf, stdI, vLoop, hlen], by simp [newBS, blank, hl], fun i hi hd => ?_⟩
    have hv : (newBS w h).cs[i] = .zero := by simp [newBS, blank]
    have hlo : ∀ t, leftOf (planesOf xs : Int) 0 t = planesOf xs := fun t => by simp [leftOf]
    rw [hv, hlo, Int.toNat_natCast]
    refine ⟨by omega, by omega, ?_⟩
    exact (cutv_zero (planes_le.1 (Nat.le_refl _) _ (List.getElem_mem hi))).symm
  · have hp1 : 1 ≤ planesOf xs := by omega
    obtain ⟨d', q1, q2, q3, q5, q6, q7, _⟩ := dj_loop (m := m) hp hp1 (show o.toNat ≤ 3 by omega) n 0 _ _ (start_of w1 w2 h1 h2 hl hp hp1) (by omega) (by omega)
    have q1' : vLoop m (planesOf xs) o.toNat 0 (newBS w h) (stdI (passesOf m (planesOf xs) o.toNat n 0 (fillTo w h xs xs.length))) = (d', 0) := q1
    rw [q1']
    have hdw : d'.w = w := by rw [q2.w, q5]; rfl
    have hdh : d'.h = h := by rw [q2.h, q6]; rfl
    refine ⟨d', by rw [if_neg (by simp)], by rw [q3.ok.len, hdw, hdh, hl], fun i hi hd => ?_⟩
    have hget := get_idx q3.ok (i := i) (by rw [hdw, hdh]; omega)
    rw [List.getElem?_eq_getElem hd] at hget
    injection hget with hget
    rw [hdw] at hget
    generalize hAF : afterP m (planesOf xs) o.toNat n 0 (fillTo w h xs xs.length) = e' at *
    have hc := q2.c ((i % w : Nat) : Int) ((i / w : Nat) : Int)
    rw [← hget] at hc
    have hxi : (e'.get ((i % w : Nat) : Int) ((i / w : Nat) : Int)).v = xs[i] := by
      rw [q7]
      have hok : (fillTo w h xs xs.length).Ok := (start_of w1 w2 h1 h2 hl hp hp1).ge.ok
      have := get_idx hok (i := i) (show i < w * h by omega)
      rw [fill_full hl, List.getElem?_map, List.getElem?_eq_getElem hi] at this
      have h2 := Option.some.inj this
      show ((fillTo w h xs xs.length).get ((i % (fillTo w h xs xs.length).w : Nat) : Int) ((i / (fillTo w h xs xs.length).w : Nat) : Int)).v = _
      rw [← h2]; rfl
    have hpo : planeOf (n - 1) ≤ planesOf xs - 1 := planeOf_le (by omega) hp1
    have hma : ((Ma (planesOf xs) (0 + n - 1) e' ((i % w : Nat) : Int) ((i / w : Nat) : Int) : Nat) : Int) = leftOf (planesOf xs) n d'.cs[i].t := by
      rw [leftOf_pos hn0, hc.t, show 0 + n - 1 = n - 1 by omega]
      unfold Ma
      cases (e'.get ((i % w : Nat) : Int) ((i / w : Nat) : Int)).t
      · by_cases hk : kindOf (n - 1) = 2
        · rw [if_neg (by simp [hk]), if_neg (by simp [hk])]; omega
        · rw [if_pos (by simp [hk]), if_pos (by simp [hk])]; omega
      · rw [if_neg (by simp), if_neg (by simp)]; omega
    have hle : (leftOf (planesOf xs) n d'.cs[i].t) ≤ planesOf xs := by
      rw [leftOf_pos hn0]
      split
      · rename_i hk
        have : kindOf (n - 1) ≠ 2 := by simp at hk; exact hk.1
        have : 1 ≤ planeOf (n - 1) := by unfold planeOf kindOf at *; split <;> simp_all
        omega
      · omega
    refine ⟨by omega, hle, ?_⟩
    rw [hc.v, hxi, ← hma, Int.toNat_natCast]

theorem kind_last {p : Nat} (h : 1 ≤ p) : kindOf (3 * p - 2 - 1) = 2 ∧ planeOf (3 * p - 2 - 1) = p - 1 := by
  unfold kindOf planeOf
  by_cases hp : p = 1
  · subst hp; simp
  · rw [if_neg (by omega), if_neg (by omega)]; omega
/-- All passes of a block. -/
theorem returns_law (w1 : 1 ≤ w) (w2 : w ≤ 64) (h1 : 1 ≤ h) (h2 : h ≤ 64) (hl : xs.length = w * h) (hp : planesOf xs ≤ 60) (ho : 0 ≤ o ∧ o ≤ 3) :
    valRes (stdI (passesOf m (planesOf xs) o.toNat (3 * planesOf xs - 2) 0 (fillTo w h xs xs.length))) (planesOf xs) w h o m = (0, xs, List.replicate xs.length 0) := by
  obtain ⟨d, e, hd, hv⟩ := prefix_law (m := m) w1 w2 h1 h2 hl hp ho (n := 3 * planesOf xs - 2) (Nat.le_refl _)
  have hlo : ∀ t, leftOf (planesOf xs : Int) (3 * planesOf xs - 2) t = 0 := fun t => by
    unfold leftOf
    by_cases h0 : planesOf xs = 0
    · rw [h0]; simp
    · obtain ⟨k1, k2⟩ := kind_last (p := planesOf xs) (by omega)
      rw [if_neg (by omega), k1, k2]; simp; omega
  rw [e]
  refine Prod.ext rfl (Prod.ext ?_ ?_)
  · apply List.ext_getElem (by simp [hd])
    intro i i1 i2
    have := (hv i i2 (by rw [hd]; exact i2)).2.2
    rw [hlo] at this
    rw [List.getElem_map, this]
    unfold cutv cutN
    simp
    split <;> omega
  · simp only [hlo]
    apply List.ext_getElem (by simp [hd])
    intro i i1 i2
    simp

/-! Changed symbols. -/
theorem play_more {α : Type} : ∀ {t : Tr α} {l l' : List (Int × Int)} {a : α}, t.play l = some (a, l') → ∀ k, t.play (l ++ k) = some (a, l' ++ k)
  | .ret a, l, l', a', h, k => by
    simp only [Tr.play] at h ⊢; injection h with h; injection h with h1 h2; subst h1 h2; rfl
  | .ask c f, [], l', a, h, k => by simp [Tr.play] at h
  | .ask c f, p :: l, l', a, h, k => by
    rw [Tr.play] at h
    rw [List.cons_append, Tr.play]
    split at h
    · rename_i hp; rw [if_pos hp]; exact play_more h k
    · cases h
theorem play_bad {α : Type} : ∀ {t : Tr α} {l l' : List (Int × Int)} {a : α} {x x' : Int × Int}, t.play (l ++ x :: l') = some (a, []) → (x'.1 ≠ x.1 ∨ ¬ (x'.2 = 0 ∨ x'.2 = 1)) → ∀ k, t.play (l ++ x' :: k) = none
  | .ret a, l, l', a', x, x', h, hx, k => by
    simp only [Tr.play] at h; injection h with h; injection h with h1 h2; simp at h2
  | .ask c f, [], l', a, x, x', h, hx, k => by
    rw [List.nil_append, Tr.play] at h
    rw [List.nil_append, Tr.play]
    split at h
    · rename_i hp
      rw [if_neg]
      rintro ⟨h1, h2⟩
      rcases hx with hx | hx
      · exact hx (h1.trans hp.1.symm)
      · exact hx h2
    · cases h
  | .ask c f, p :: l, l', a, x, x', h, hx, k => by
    rw [List.cons_append, Tr.play] at h
    rw [List.cons_append, Tr.play]
    split at h
    · rename_i hp; rw [if_pos hp]; exact play_bad h hx k
    · cases h
theorem play_short {α : Type} : ∀ {t : Tr α} {l : List (Int × Int)} {a : α} {x : Int × Int}, t.play (l ++ [x]) = some (a, []) → t.play l = none
  | .ret a, l, a', x, h => by
    simp only [Tr.play] at h; injection h with h; injection h with h1 h2; simp at h2
  | .ask c f, [], a, x, h => rfl
  | .ask c f, p :: l, a, x, h => by
    rw [List.cons_append, Tr.play] at h
    rw [Tr.play]
    split at h
    · rename_i hp; rw [if_pos hp]; exact play_short h
    · cases h
/-- How a list of symbols is changed. -/
def spoil (l : List (Int × Int)) (at' how : Nat) : List (Int × Int) :=
  if how = 0 then l.set at' (30, (l.getD at' (0, 0)).2) else if how = 1 then l.set at' ((l.getD at' (0, 0)).1, 2) else if how = 2 then l.take (l.length - 1) else l ++ [l.getD at' (0, 0)]
theorem split_at {α : Type} {l : List α} {i : Nat} (h : i < l.length) : l = l.take i ++ l[i] :: l.drop (i + 1) := by
  rw [← List.drop_eq_getElem_cons h, List.take_append_drop]
theorem spoil_play {α : Type} {t : Tr α} {l : List (Int × Int)} {a : α} (hp : t.play l = some (a, [])) {i how : Nat} (hi : i < l.length) (h30 : ∀ p ∈ l, p.1 ≠ 30) : t.play (spoil l i how) = none ∨ ∃ x k, t.play (spoil l i how) = some (a, x :: k) := by
  have hs := split_at hi
  have hset : ∀ x, l.set i x = l.take i ++ x :: l.drop (i + 1) := fun x => by rw [List.set_eq_take_append_cons_drop, if_pos hi]
  have hg : l.getD i (0, 0) = l[i] := by simp [List.getD_eq_getElem?_getD, List.getElem?_eq_getElem hi]
  have hp' := hp
  rw [hs] at hp'
  unfold spoil
  rw [hg]
  split
  · left
    rw [hset]
    exact play_bad hp' (.inl (fun e => h30 _ (List.getElem_mem hi) e.symm)) _
  · split
    · left
      rw [hset]
      exact play_bad hp' (.inr (by simp)) _
    · split
      · left
        have hlast : l = l.take (l.length - 1) ++ [l[l.length - 1]] := by
          have := split_at (l := l) (i := l.length - 1) (by omega)
          rw [List.drop_of_length_le (by omega)] at this
          exact this
        rw [hlast] at hp
        exact play_short hp
      · right
        exact ⟨l[i], [], by have := play_more hp [l[i]]; simpa using this⟩
theorem vLoop_app {planes o' : Nat} : ∀ (l k : List (List (Int × Int))) (n : Nat) (b b' : BS), vLoop m planes o' n b l = (b', 0) → vLoop m planes o' n b (l ++ k) = vLoop m planes o' (n + l.length) b' k
  | [], k, n, b, b', h => by simp only [vLoop] at h; injection h with h1 h2; subst h1; rfl
  | x :: l, k, n, b, b', h => by
    rw [vLoop] at h
    rw [List.cons_append, vLoop]
    cases hr : (dRun m b n planes o').play x with
    | none => rw [hr] at h; injection h with h1 h2; cases h2
    | some q =>
      obtain ⟨r, l'⟩ := q
      rw [hr] at h
      simp only at h ⊢
      split at h
      · injection h with h1 h2; cases h2
      · rename_i hf
        rw [if_neg hf]
        split at h
        · rw [vLoop_app l k (n + 1) r.1 b' h, List.length_cons, show n + 1 + l.length = n + (l.length + 1) by omega]
        · injection h with h1 h2; cases h2
/-- A pass whose symbols are changed. -/
theorem rejects_law (w1 : 1 ≤ w) (w2 : w ≤ 64) (h1 : 1 ≤ h) (h2 : h ≤ 64) (hl : xs.length = w * h) (hp : planesOf xs ≤ 60) (ho : 0 ≤ o ∧ o ≤ 3) {n : Nat} (hn : n < 3 * planesOf xs - 2) {l : List (Int × Int)}
    (hl0 : (stdI (passesOf m (planesOf xs) o.toNat (3 * planesOf xs - 2) 0 (fillTo w h xs xs.length)))[n]? = some l) {i how : Nat} (hi : i < l.length) :
    valRes ((stdI (passesOf m (planesOf xs) o.toNat (3 * planesOf xs - 2) 0 (fillTo w h xs xs.length))).take n ++ [spoil l i how]) (planesOf xs) w h o m = (8, [], []) := by
  have hp1 : 1 ≤ planesOf xs := by omega
  have hst := start_of w1 w2 h1 h2 hl hp hp1
  -- the pass, at a block
  obtain ⟨e, d, dj, hv, hle⟩ : ∃ e d, DJ (planesOf xs) n e d ∧ vLoop m (planesOf xs) o.toNat 0 (newBS w h) (stdI (passesOf m (planesOf xs) o.toNat n 0 (fillTo w h xs xs.length))) = (d, 0) ∧ l = (runSt m e n (planesOf xs) o.toNat).out.map symI := by
    have hl1 : (stdI (passesOf m (planesOf xs) o.toNat (n + 1) 0 (fillTo w h xs xs.length)))[n]? = some l := by
      have := passesOf_take m (planesOf xs) o.toNat (n + 1) (3 * planesOf xs - 2) 0 (fillTo w h xs xs.length) (by omega)
      unfold stdI at hl0 ⊢
      rw [← this, List.map_take, List.getElem?_take, if_pos (by omega)]
      exact hl0
    rw [passesOf_snoc] at hl1
    unfold stdI at hl1
    rw [List.map_append, List.getElem?_append_right (by simp [passesOf_len])] at hl1
    simp [passesOf_len] at hl1
    by_cases hn0 : n = 0
    · subst hn0
      refine ⟨_, _, hst, by simp [passesOf, stdI, vLoop], ?_⟩
      rw [← hl1]; rfl
    · obtain ⟨d', q1, q2, q3, q5, q6, q7, q8⟩ := dj_loop (m := m) hp hp1 (show o.toNat ≤ 3 by omega) n 0 _ _ hst (by omega) (by omega)
      rw [Nat.zero_add] at q8
      exact ⟨_, d', q8 (by omega), q1, hl1.symm⟩
  obtain ⟨d', p1, _, _, _⟩ := dj_step (m := m) dj hp hp1 (show o.toNat ≤ 3 by omega)
  rw [← hle] at p1
  have h30 : ∀ p ∈ l, p.1 ≠ 30 := by
    intro p hp'
    rw [hle, List.mem_map] at hp'
    obtain ⟨q, hq, rfl⟩ := hp'
    have := ok_runSt m e n (planesOf xs) o.toNat q hq
    have := this.2.2.1
    show q.1 ≠ 30
    omega
  have htk : (stdI (passesOf m (planesOf xs) o.toNat (3 * planesOf xs - 2) 0 (fillTo w h xs xs.length))).take n = stdI (passesOf m (planesOf xs) o.toNat n 0 (fillTo w h xs xs.length)) := by
    unfold stdI
    rw [← List.map_take, passesOf_take _ _ _ _ _ _ _ (by omega)]
  have hlen : (stdI (passesOf m (planesOf xs) o.toNat n 0 (fillTo w h xs xs.length))).length = n := by simp [stdI, passesOf_len]
  rw [htk]
  unfold valRes
  have herr : valErr (stdI (passesOf m (planesOf xs) o.toNat n 0 (fillTo w h xs xs.length)) ++ [spoil l i how]).length (planesOf xs) w h o = 0 := by
    rw [List.length_append, hlen]
    unfold valErr sized
    rw [if_neg (by simp; omega), if_neg (by simp; omega), if_neg (by omega)]
  rw [herr, if_neg (by simp)]
  simp only [Int.toNat_natCast]
  rw [vLoop_app _ _ _ _ _ hv, hlen, Nat.zero_add, vLoop]
  rcases spoil_play p1 (how := how) hi h30 with e | ⟨x, k, e⟩
  · rw [e]; simp
  · rw [e]; simp
end
end Go.Proofs.Ytjpjohchdfoeaaa
