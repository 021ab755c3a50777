import Derived.Test.YtlflfkdnpalhlaaShaP
/-! Each coefficient's bit is coded once in a plane: the plain law. -/
namespace Go.Proofs.Ytlflfkdnpalhlaa
open Go.Sim
open Go.RowKit
set_option linter.unusedVariables false
set_option linter.unusedSimpArgs false
/-! Each coefficient's bit is coded once in a plane. -/
/-- How many bits a list of symbols codes, from a state on: 0; 1 and 2 behind the first symbol of a position. -/
def cov : Nat → List (Int × Nat) → Nat
  | _, [] => 0
  | s, p :: l =>
    if s = 1 then 2 * p.2 + cov 2 l
    else if s = 2 then p.2 + 1 + cov 0 l
    else if p.1 ≤ 8 ∨ 14 ≤ p.1 ∧ p.1 ≤ 16 then 1 + cov 0 l
    else if p.1 = 17 then (if p.2 = 0 then 4 + cov 0 l else cov 1 l)
    else cov 0 l
/-- The state behind a list of symbols. -/
def fin : Nat → List (Int × Nat) → Nat
  | s, [] => s
  | s, p :: l =>
    if s = 1 then fin 2 l
    else if s = 2 then fin 0 l
    else if p.1 ≤ 8 ∨ 14 ≤ p.1 ∧ p.1 ≤ 16 then fin 0 l
    else if p.1 = 17 then (if p.2 = 0 then fin 0 l else fin 1 l)
    else fin 0 l
theorem cov_append : ∀ (a b : List (Int × Nat)) (s : Nat), cov s (a ++ b) = cov s a + cov (fin s a) b ∧ fin s (a ++ b) = fin (fin s a) b
  | [], b, s => by simp [cov, fin]
  | p :: a, b, s => by
    have i0 := cov_append a b 0
    have i1 := cov_append a b 1
    have i2 := cov_append a b 2
    rw [List.cons_append, cov, cov, fin, fin]
    split
    · exact ⟨by rw [i2.1]; omega, i2.2⟩
    · split
      · exact ⟨by rw [i0.1]; omega, i0.2⟩
      · split
        · exact ⟨by rw [i0.1]; omega, i0.2⟩
        · split
          · split
            · exact ⟨by rw [i0.1]; omega, i0.2⟩
            · exact i1
          · exact i0

/-- What a part of a pass codes: n bits, and the symbols behind it are whole. -/
structure Adds (σ τ : ES) (n : Nat) : Prop where
  ex : ∃ l, τ.out = σ.out ++ l ∧ fin 0 l = 0 ∧ cov 0 l = n
theorem Adds.refl (σ : ES) : Adds σ σ 0 := ⟨[], by simp, rfl, rfl⟩
theorem Adds.trans {σ τ υ : ES} {n m : Nat} (h : Adds σ τ n) (k : Adds τ υ m) : Adds σ υ (n + m) := by
  obtain ⟨l, h1, h2, h3⟩ := h.ex
  obtain ⟨l', k1, k2, k3⟩ := k.ex
  have := cov_append l l' 0
  rw [h2] at this
  exact ⟨l ++ l', by rw [k1, h1, List.append_assoc], by rw [this.2, k2], by rw [this.1, h3, k3]⟩
theorem Adds.map {σ τ : ES} {n : Nat} (h : Adds σ τ n) (x y : Int) (f : Cell → Cell) : Adds σ (τ.map x y f) n := ⟨h.ex⟩
theorem adds_emit {P : PP} (hr : P.rw = false) (σ : ES) (c : Int) (n : Nat) {k : Nat} (hw : fin 0 [(c, n)] = 0) (hc : cov 0 [(c, n)] = k) : Adds σ (σ.emit P c n) k := by
  refine ⟨[(c, n)], ?_, hw, hc⟩
  simp [ES.emit, hr]
theorem adds_sign {P : PP} (hr : P.rw = false) (σ : ES) (x y : Int) : Adds σ (σ.sign P x y) 0 := by
  have := signCtx_rng (joint_rng (sgn σ.b (x - 1) y) (sgn σ.b (x + 1) y)) (joint_rng (sgn σ.b x (y - 1)) (if (!P.cz || y % 4 != 3) = true then sgn σ.b x (y + 1) else 0))
  change 9 ≤ signCtx (sgH σ.b x y) (sgV σ.b x y P.cz) ∧ signCtx (sgH σ.b x y) (sgV σ.b x y P.cz) ≤ 13 at this
  have h1 : ¬ (((signCtx (sgH σ.b x y) (sgV σ.b x y P.cz) : Nat) : Int) ≤ 8 ∨ 14 ≤ ((signCtx (sgH σ.b x y) (sgV σ.b x y P.cz) : Nat) : Int) ∧ ((signCtx (sgH σ.b x y) (sgV σ.b x y P.cz) : Nat) : Int) ≤ 16) := by omega
  have h2 : ¬ ((signCtx (sgH σ.b x y) (sgV σ.b x y P.cz) : Nat) : Int) = 17 := by omega
  exact (adds_emit hr σ _ _ (by simp only [fin, if_neg h1, if_neg h2]; rfl) (by simp only [cov, if_neg h1, if_neg h2]; rfl)).map x y mark
theorem adds_code {P : PP} (hr : P.rw = false) (σ : ES) (x y : Int) : Adds σ (σ.code P x y) 1 := by
  have hc := ctxOf_le P σ.b x y
  have h1 : (((ctxOf P σ.b x y : Nat) : Int) ≤ 8 ∨ 14 ≤ ((ctxOf P σ.b x y : Nat) : Int) ∧ ((ctxOf P σ.b x y : Nat) : Int) ≤ 16) := by omega
  have e := adds_emit hr σ (ctxOf P σ.b x y) (bitOf (σ.b.get x y).v P.s) (k := 1) (by simp only [fin, if_pos h1]; rfl) (by simp only [cov, if_pos h1]; rfl)
  unfold ES.code
  split
  · exact e.trans (adds_sign hr _ x y)
  · exact e
theorem adds_run {P : PP} (hr : P.rw = false) (σ : ES) (x top : Int) : ∃ n : Nat, Adds σ (σ.run P x top).1 n ∧ (n : Int) = (σ.run P x top).2 - top := by
  unfold ES.run
  split
  · rename_i k hk
    have hlt := firstBit_lt hk
    refine ⟨k + 1, ?_, by simp only; omega⟩
    have e : Adds σ (((σ.emit P 17 1).emit P 18 (k / 2)).emit P 18 (k % 2)) (k + 1) := by
      refine ⟨[(17, 1), (18, k / 2), (18, k % 2)], ?_, by simp [fin], ?_⟩
      · simp [ES.emit, hr]
      · simp [cov]; omega
    exact e.trans (adds_sign hr _ x _)
  · exact ⟨4, adds_emit hr σ 17 0 (by decide) (by decide), by simp only; omega⟩

/-! What is not touched yet. -/
def un (b : BS) (p : Int × Int) : Nat := if (b.get p.1 p.2).t = true then 0 else 1
def U (b : BS) (l : List (Int × Int)) : Nat := (l.map (un b)).sum
theorem U_append (b : BS) (l m : List (Int × Int)) : U b (l ++ m) = U b l + U b m := by simp [U]
theorem U_congr {b b' : BS} {l : List (Int × Int)} (h : ∀ p ∈ l, (b'.get p.1 p.2).t = (b.get p.1 p.2).t) : U b' l = U b l := by
  unfold U
  congr 1
  exact List.map_congr_left fun p hp => by unfold un; rw [h p hp]

/-- The touched flags are as they were. -/
def TSame (σ τ : ES) : Prop := ∀ x y, (τ.b.get x y).t = (σ.b.get x y).t
theorem TSame.refl (σ : ES) : TSame σ σ := fun _ _ => rfl
theorem TSame.trans {σ τ υ : ES} (h : TSame σ τ) (k : TSame τ υ) : TSame σ υ := fun x y => (k x y).trans (h x y)
/-- A coefficient that is significant was touched. -/
def Adone (b : BS) (p : Int × Int) : Prop := (b.get p.1 p.2).s = true → (b.get p.1 p.2).t = true
/-- Significance changes at most at points of a column between two rows. -/
def SOut (σ τ : ES) (x lo hi : Int) : Prop := ∀ x' y', (x' ≠ x ∨ y' < lo ∨ hi ≤ y') → (τ.b.get x' y').s = (σ.b.get x' y').s
theorem SOut.refl (σ : ES) (x lo hi : Int) : SOut σ σ x lo hi := fun _ _ _ => rfl
theorem SOut.trans {σ τ υ : ES} {x lo hi : Int} (h : SOut σ τ x lo hi) (k : SOut τ υ x lo hi) : SOut σ υ x lo hi := fun x' y' ho => (k x' y' ho).trans (h x' y' ho)
theorem SOut.mono {σ τ : ES} {x lo hi lo' hi' : Int} (h : SOut σ τ x lo hi) (h1 : lo' ≤ lo) (h2 : hi ≤ hi') : SOut σ τ x lo' hi' := fun x' y' ho => h x' y' (by omega)

theorem get_sign {P : PP} {σ : ES} (hg : σ.b.Good) {x y : Int} (hi : σ.b.inb x y) (x' y' : Int) : (σ.sign P x y).b.get x' y' = if x' = x ∧ y' = y then mark (σ.b.get x y) else σ.b.get x' y' := BS.get_upd hg.ok hi mark x' y'
theorem get_code {P : PP} {σ : ES} (hg : σ.b.Good) {x y : Int} (hi : σ.b.inb x y) (x' y' : Int) :
    ((σ.code P x y).b.get x' y').t = (σ.b.get x' y').t ∧ ((x' ≠ x ∨ y' ≠ y) → ((σ.code P x y).b.get x' y').s = (σ.b.get x' y').s) := by
  unfold ES.code
  split
  · rw [get_sign (σ := σ.emit P _ _) hg hi]
    simp only [ES.emit_b]
    split
    · rename_i h; obtain ⟨rfl, rfl⟩ := h
      exact ⟨rfl, fun h => absurd h (by simp)⟩
    · exact ⟨rfl, fun _ => rfl⟩
  · exact ⟨rfl, fun _ => rfl⟩
theorem cln1_facts {P : PP} (hr : P.rw = false) {σ : ES} (hg : σ.b.Good) {x y : Int} (hi : σ.b.inb x y) (ha : Adone σ.b (x, y)) :
    Adds σ (σ.cln1 P x y) (un σ.b (x, y)) ∧ TSame σ (σ.cln1 P x y) ∧ SOut σ (σ.cln1 P x y) x y (y + 1) := by
  unfold ES.cln1
  split
  · rename_i h
    have hu : un σ.b (x, y) = 1 := by unfold un; rw [if_neg (by simp [h.2])]
    rw [hu]
    exact ⟨adds_code hr σ x y, fun x' y' => (get_code hg hi x' y').1, fun x' y' ho => (get_code hg hi x' y').2 (by omega)⟩
  · rename_i h
    have ht : (σ.b.get x y).t = true := by
      cases hs : (σ.b.get x y).s
      · cases ht : (σ.b.get x y).t
        · exact absurd ⟨hs, ht⟩ h
        · rfl
      · exact ha hs
    have hu : un σ.b (x, y) = 0 := by unfold un; rw [if_pos ht]
    rw [hu]
    exact ⟨Adds.refl σ, TSame.refl σ, SOut.refl σ _ _ _⟩
theorem adone_keep {σ τ : ES} (ht : TSame σ τ) {x' y' : Int} (hs : (τ.b.get x' y').s = (σ.b.get x' y').s) (h : Adone σ.b (x', y')) : Adone τ.b (x', y') := by
  unfold Adone at *
  simp only at *
  rw [hs, ht x' y']; exact h
theorem rows_facts {P : PP} (hr : P.rw = false) : ∀ (n : Nat) {σ : ES} {x y : Int}, σ.b.Good → 0 ≤ x → x < σ.b.w → 0 ≤ y → y + n ≤ σ.b.h → (∀ j : Nat, j < n → Adone σ.b (x, y + j)) →
    Adds σ (σ.rows P x y n) (U σ.b (colPts x y n)) ∧ TSame σ (σ.rows P x y n) ∧ SOut σ (σ.rows P x y n) x y (y + n)
  | 0, σ, x, y, _, _, _, _, _, _ => ⟨Adds.refl σ, TSame.refl σ, SOut.refl σ _ _ _⟩
  | n + 1, σ, x, y, hg, h1, h2, h3, h4, ha => by
    have hi : σ.b.inb x y := ⟨h1, h2, h3, by omega⟩
    obtain ⟨a1, a2, a3⟩ := cln1_facts (P := P) hr hg hi (by simpa using ha 0 (by omega))
    have hl := le_cln1 (P := P) hg hi
    obtain ⟨b1, b2, b3⟩ := rows_facts hr n (σ := σ.cln1 P x y) (x := x) (y := y + 1) hl.good h1 (by rw [hl.w]; exact h2) (by omega) (by rw [hl.h]; omega) (fun j hj => by
      have := ha (j + 1) (by omega)
      rw [show y + ((j + 1 : Nat) : Int) = y + 1 + j by omega] at this
      exact adone_keep a2 (a3 x (y + 1 + j) (by omega)) this)
    refine ⟨?_, a2.trans b2, (a3.mono (by omega) (by omega)).trans (b3.mono (by omega) (by omega))⟩
    have := a1.trans b1
    rw [U_congr (b := σ.b) (fun p _ => a2 p.1 p.2)] at this
    simpa [ES.rows, colPts, U] using this
theorem quietFrom_facts {b : BS} {x : Int} {q : Bool} : ∀ {n : Nat} {y : Int}, quietFrom b x y q n = true → ∀ j : Nat, j < n → (b.get x (y + j)).s = false ∧ (b.get x (y + j)).t = false
  | 0, _, _, j, hj => by omega
  | n + 1, y, h, j, hj => by
    simp only [quietFrom, still, Bool.and_eq_true, Bool.not_eq_true'] at h
    cases j with
    | zero => simpa using h.1.1
    | succ j =>
      have := quietFrom_facts h.2 j (by omega)
      rw [show y + ((j + 1 : Nat) : Int) = y + 1 + j by omega]; exact this
theorem col_facts {P : PP} (hr : P.rw = false) {σ : ES} (hg : σ.b.Good) {x top : Int} (hi : σ.b.inb x top) (ha : ∀ y, top ≤ y → y < top + 4 → y < σ.b.h → Adone σ.b (x, y)) :
    Adds σ (σ.col P x top) (U σ.b (colPts x top (min (top + 4) (σ.b.h : Int) - top).toNat)) ∧ TSame σ (σ.col P x top) ∧ SOut σ (σ.col P x top) x top (top + 4) := by
  obtain ⟨i1, i2, i3, i4⟩ := hi
  unfold ES.col
  split
  · rename_i hq
    simp only [quiet, Bool.and_eq_true, decide_eq_true_eq] at hq
    obtain ⟨hq4, hqf⟩ := hq
    have hqq := quietFrom_facts hqf
    obtain ⟨l1, l2, l3⟩ := le_run (P := P) hg (x := x) (top := top) ⟨i1, i2, i3, i4⟩ hq4
    obtain ⟨n, a1, hn⟩ := adds_run hr σ x top
    -- the run touches nothing, and makes one coefficient significant at most
    have ht : TSame σ (σ.run P x top).1 ∧ SOut σ (σ.run P x top).1 x top (σ.run P x top).2 := by
      unfold ES.run
      split
      · rename_i k hk
        have hlt := firstBit_lt hk
        have hin : σ.b.inb x (top + k) := ⟨i1, i2, by omega, by omega⟩
        refine ⟨fun x' y' => ?_, fun x' y' ho => ?_⟩
        · rw [get_sign (σ := ((σ.emit P 17 1).emit P 18 (k / 2)).emit P 18 (k % 2)) hg hin]
          simp only [ES.emit_b]
          split
          · rename_i h; obtain ⟨rfl, rfl⟩ := h; rfl
          · rfl
        · rw [get_sign (σ := ((σ.emit P 17 1).emit P 18 (k / 2)).emit P 18 (k % 2)) hg hin]
          simp only [ES.emit_b]
          simp only at ho
          rw [if_neg (by omega)]
      · exact ⟨TSame.refl σ, SOut.refl σ _ _ _⟩
    obtain ⟨ht1, hs1⟩ := ht
    generalize hτ : (σ.run P x top).1 = τ at *
    generalize hy : (σ.run P x top).2 = y at *
    have hm : (min (top + 4) (σ.b.h : Int) - y).toNat = (top + 4 - y).toNat := by omega
    rw [hm]
    obtain ⟨b1, b2, b3⟩ := rows_facts hr (top + 4 - y).toNat (σ := τ) (x := x) (y := y) l1.good i1 (by rw [l1.w]; exact i2) (by omega) (by rw [l1.h]; omega) (fun j hj => by
      refine adone_keep ht1 (hs1 x (y + j) (by omega)) ?_
      exact ha _ (by omega) (by omega) (by omega))
    refine ⟨?_, ht1.trans b2, (hs1.mono (by omega) (by omega)).trans (b3.mono (by omega) (by omega))⟩
    -- the four coefficients of the column
    have hU : ∀ (m : Nat) (z : Int), top ≤ z → z + m ≤ top + 4 → U σ.b (colPts x z m) = m := by
      intro m
      induction m with
      | zero => intro z _ _; rfl
      | succ m ih =>
        intro z h1 h2
        have := hqq (z - top).toNat (by omega)
        rw [show top + ((z - top).toNat : Int) = z by omega] at this
        have e := ih (z + 1) (by omega) (by omega)
        have hu : un σ.b (x, z) = 1 := by unfold un; rw [if_neg (by simp [this.2])]
        simp only [colPts, U, List.map_cons, List.sum_cons, hu] at e ⊢
        omega
    have hsum := a1.trans b1
    rw [U_congr (b := σ.b) (fun p _ => ht1 p.1 p.2), hU _ _ (by omega) (by omega)] at hsum
    rw [hU _ _ (by omega) (by omega)]
    rw [show n + (top + 4 - y).toNat = (min (top + 4) (σ.b.h : Int) - top).toNat by omega] at hsum
    exact hsum
  · obtain ⟨b1, b2, b3⟩ := rows_facts hr (min (top + 4) (σ.b.h : Int) - top).toNat (σ := σ) (x := x) (y := top) hg i1 i2 i3 (by omega) (fun j hj => ha _ (by omega) (by omega) (by omega))
    exact ⟨b1, b2, b3.mono (by omega) (by omega)⟩
theorem cols_facts {P : PP} (hr : P.rw = false) : ∀ (n : Nat) {σ : ES} {x top : Int}, σ.b.Good → 0 ≤ x → x + n ≤ σ.b.w → 0 ≤ top → top < σ.b.h → (∀ x' y : Int, x ≤ x' → x' < x + n → top ≤ y → y < top + 4 → y < σ.b.h → Adone σ.b (x', y)) →
    Adds σ (σ.cols P x top n) (U σ.b (stripePts σ.b.h x top n)) ∧ TSame σ (σ.cols P x top n) ∧ (∀ x' y', (y' < top ∨ top + 4 ≤ y') → ((σ.cols P x top n).b.get x' y').s = (σ.b.get x' y').s)
  | 0, σ, x, top, _, _, _, _, _, _ => ⟨Adds.refl σ, TSame.refl σ, fun _ _ _ => rfl⟩
  | n + 1, σ, x, top, hg, h1, h2, h3, h4, ha => by
    have hi : σ.b.inb x top := ⟨h1, by omega, h3, h4⟩
    obtain ⟨a1, a2, a3⟩ := col_facts (P := P) hr hg hi (fun y y1 y2 y3 => ha x y (by omega) (by omega) y1 y2 y3)
    have hl := le_col (P := P) hg hi
    obtain ⟨b1, b2, b3⟩ := cols_facts hr n (σ := σ.col P x top) (x := x + 1) (top := top) hl.good (by omega) (by rw [hl.w]; omega) h3 (by rw [hl.h]; exact h4) (fun x' y x1 x2 y1 y2 y3 => by
      rw [hl.h] at y3
      exact adone_keep a2 (a3 x' y (by omega)) (ha x' y (by omega) (by omega) y1 y2 y3))
    refine ⟨?_, a2.trans b2, fun x' y' ho => (b3 x' y' ho).trans (a3 x' y' (by omega))⟩
    have := a1.trans b1
    rw [U_congr (b := σ.b) (fun p _ => a2 p.1 p.2), hl.h] at this
    rw [stripePts, U_append]
    exact this
theorem stripes_facts {P : PP} (hr : P.rw = false) : ∀ (n : Nat) {σ : ES} {top : Int}, σ.b.Good → 0 ≤ top → top + 4 * n ≤ σ.b.h + 3 → (∀ x y : Int, 0 ≤ x → x < σ.b.w → top ≤ y → y < σ.b.h → Adone σ.b (x, y)) →
    Adds σ (σ.stripes P top n) (U σ.b (scanPts σ.b.w σ.b.h top n)) ∧ TSame σ (σ.stripes P top n)
  | 0, σ, top, _, _, _, _ => ⟨Adds.refl σ, TSame.refl σ⟩
  | n + 1, σ, top, hg, h1, h2, ha => by
    obtain ⟨a1, a2, a3⟩ := cols_facts (P := P) hr σ.b.w hg (x := 0) (top := top) (by omega) (by omega) h1 (by omega) (fun x' y x1 x2 y1 y2 y3 => ha x' y x1 (by omega) y1 y3)
    have hl := le_cols (P := P) (n := σ.b.w) hg (x := 0) (top := top) (by omega) (by omega) h1 (by omega)
    obtain ⟨b1, b2⟩ := stripes_facts hr n (σ := σ.cols P 0 top σ.b.w) (top := top + 4) hl.good (by omega) (by rw [hl.h]; omega) (fun x y x1 x2 y1 y2 => by
      rw [hl.w] at x2; rw [hl.h] at y2
      exact adone_keep a2 (a3 x y (by omega)) (ha x y x1 x2 (by omega) y2))
    refine ⟨?_, a2.trans b2⟩
    have := a1.trans b1
    rw [U_congr (b := σ.b) (fun p _ => a2 p.1 p.2), hl.w, hl.h] at this
    rw [scanPts, U_append]
    exact this

/-! The significance and the refinement pass. -/
theorem sig1_facts {P : PP} (hr : P.rw = false) {σ : ES} (hg : σ.b.Good) {p : Int × Int} (hi : σ.b.inb p.1 p.2) (ht : (σ.b.get p.1 p.2).t = false) :
    ∃ n, Adds σ (σ.sig1 P p.1 p.2) n ∧ n + un (σ.sig1 P p.1 p.2).b p = 1 ∧ ∀ x y, ¬ (x = p.1 ∧ y = p.2) → ((σ.sig1 P p.1 p.2).b.get x y).t = (σ.b.get x y).t := by
  obtain ⟨x0, y0⟩ := p
  simp only at *
  unfold ES.sig1
  split
  · have hl := le_code (P := P) hg hi
    have hgt : ∀ x y, ((σ.code P x0 y0).map x0 y0 (touch true)).b.get x y = if x = x0 ∧ y = y0 then touch true ((σ.code P x0 y0).b.get x0 y0) else (σ.code P x0 y0).b.get x y :=
      fun x y => BS.get_upd hl.good.ok (hl.inb hi) (touch true) x y
    refine ⟨1, (adds_code hr σ x0 y0).map x0 y0 _, ?_, fun x y hne => ?_⟩
    · unfold un
      simp only [hgt]
      simp [touch]
    · rw [hgt, if_neg hne]
      exact (get_code hg hi x y).1
  · exact ⟨0, Adds.refl σ, by unfold un; simp only [ht]; rfl, fun _ _ _ => rfl⟩
theorem sigs_facts {P : PP} (hr : P.rw = false) : ∀ (l : List (Int × Int)) {σ : ES}, σ.b.Good → AllIn σ.b l → l.Nodup → (∀ p ∈ l, (σ.b.get p.1 p.2).t = false) →
    ∃ n, Adds σ (σ.sigs P l) n ∧ n + U (σ.sigs P l).b l = l.length ∧ ∀ p : Int × Int, p ∉ l → ((σ.sigs P l).b.get p.1 p.2).t = (σ.b.get p.1 p.2).t
  | [], σ, _, _, _, _ => ⟨0, Adds.refl σ, rfl, fun _ _ => rfl⟩
  | p :: l, σ, hg, ha, hn, ht => by
    have hi := ha p (by simp)
    have hl := le_sig1 (P := P) hg hi
    obtain ⟨n1, a1, a2, a3⟩ := sig1_facts hr hg hi (ht p (by simp))
    rw [List.nodup_cons] at hn
    obtain ⟨n2, b1, b2, b3⟩ := sigs_facts hr l (σ := σ.sig1 P p.1 p.2) hl.good (AllIn.le (fun q hq => ha q (by simp [hq])) hl) hn.2 (fun q hq => by
      rw [a3 q.1 q.2 (fun e => hn.1 (by have : q = p := Prod.ext e.1 e.2; rw [← this]; exact hq))]
      exact ht q (by simp [hq]))
    refine ⟨n1 + n2, a1.trans b1, ?_, fun q hq => ?_⟩
    · have hu : un (σ.sigs P (p :: l)).b p = un (σ.sig1 P p.1 p.2).b p := by
        unfold un
        rw [show (σ.sigs P (p :: l)) = (σ.sig1 P p.1 p.2).sigs P l from rfl, b3 p hn.1]
      have hU : U (σ.sigs P (p :: l)).b (p :: l) = un (σ.sigs P (p :: l)).b p + U (σ.sigs P (p :: l)).b l := by simp [U]
      rw [hU, hu]
      have e : U (σ.sigs P (p :: l)).b l = U ((σ.sig1 P p.1 p.2).sigs P l).b l := rfl
      rw [e, List.length_cons]
      omega
    · simp only [List.mem_cons, not_or] at hq
      rw [show (σ.sigs P (p :: l)) = (σ.sig1 P p.1 p.2).sigs P l from rfl, b3 q hq.2]
      exact a3 q.1 q.2 (fun e => hq.1 (Prod.ext e.1 e.2))

theorem ref1_facts {P : PP} (hr : P.rw = false) {σ : ES} (hg : σ.b.Good) {p : Int × Int} (hi : σ.b.inb p.1 p.2) :
    ∃ n, Adds σ (σ.ref1 P p.1 p.2) n ∧ n + un (σ.ref1 P p.1 p.2).b p = un σ.b p ∧ (∀ x y, ¬ (x = p.1 ∧ y = p.2) → (σ.ref1 P p.1 p.2).b.get x y = σ.b.get x y) ∧ Adone (σ.ref1 P p.1 p.2).b p := by
  obtain ⟨x0, y0⟩ := p
  simp only at *
  unfold ES.ref1
  split
  · rename_i h
    refine ⟨0, Adds.refl σ, by omega, fun _ _ _ => rfl, fun hs => ?_⟩
    rcases h with h | h
    · simp only at hs; rw [h] at hs; cases hs
    · exact h
  · rename_i h
    have htf : (σ.b.get x0 y0).t = false := by
      cases hx : (σ.b.get x0 y0).t
      · rfl
      · exact absurd (.inr hx) h
    have he := le_emit (P := P) hg (refCtx (!(σ.b.get x0 y0).r) (near σ.b x0 y0 P.cz)) (bitOf (σ.b.get x0 y0).v P.s)
    have h1 := le_map he.good (he.inb hi) kv_refine
    have hc := refCtx_rng (!(σ.b.get x0 y0).r) (near σ.b x0 y0 P.cz)
    have hc' : ((refCtx (!(σ.b.get x0 y0).r) (near σ.b x0 y0 P.cz) : Nat) : Int) ≤ 8 ∨ 14 ≤ ((refCtx (!(σ.b.get x0 y0).r) (near σ.b x0 y0 P.cz) : Nat) : Int) ∧ ((refCtx (!(σ.b.get x0 y0).r) (near σ.b x0 y0 P.cz) : Nat) : Int) ≤ 16 := by omega
    have hgt : ∀ x y, (((σ.emit P (refCtx (!(σ.b.get x0 y0).r) (near σ.b x0 y0 P.cz)) (bitOf (σ.b.get x0 y0).v P.s)).map x0 y0 refine').map x0 y0 (touch true)).b.get x y =
        if x = x0 ∧ y = y0 then touch true (refine' (σ.b.get x0 y0)) else σ.b.get x y := by
      intro x y
      rw [ES.map_b, BS.get_upd h1.good.ok (h1.inb (he.inb hi)), ES.map_b, BS.get_upd he.good.ok (he.inb hi), BS.get_upd he.good.ok (he.inb hi)]
      simp only [ES.emit_b]
      split
      · rename_i e; obtain ⟨rfl, rfl⟩ := e; simp
      · rfl
    refine ⟨1, ((adds_emit hr σ _ _ (by simp only [fin, if_pos hc']; rfl) (by simp only [cov, if_pos hc']; rfl)).map x0 y0 _).map x0 y0 _, ?_, fun x y hne => by rw [hgt, if_neg hne], fun _ => ?_⟩
    · unfold un
      simp only [hgt]
      simp [touch, htf]
    · simp only [hgt]
      simp [touch]
theorem refs_facts {P : PP} (hr : P.rw = false) : ∀ (l : List (Int × Int)) {σ : ES}, σ.b.Good → AllIn σ.b l → l.Nodup →
    ∃ n, Adds σ (σ.refs P l) n ∧ n + U (σ.refs P l).b l = U σ.b l ∧ (∀ p : Int × Int, p ∉ l → (σ.refs P l).b.get p.1 p.2 = σ.b.get p.1 p.2) ∧ (∀ p ∈ l, Adone (σ.refs P l).b p)
  | [], σ, _, _, _ => ⟨0, Adds.refl σ, rfl, fun _ _ => rfl, fun p hp => by cases hp⟩
  | p :: l, σ, hg, ha, hn => by
    have hi := ha p (by simp)
    have hl := le_ref1 (P := P) hg hi
    obtain ⟨n1, a1, a2, a3, a4⟩ := ref1_facts hr hg hi
    rw [List.nodup_cons] at hn
    obtain ⟨n2, b1, b2, b3, b4⟩ := refs_facts hr l (σ := σ.ref1 P p.1 p.2) hl.good (AllIn.le (fun q hq => ha q (by simp [hq])) hl) hn.2
    have hrfl : (σ.refs P (p :: l)) = (σ.ref1 P p.1 p.2).refs P l := rfl
    have hul : U (σ.ref1 P p.1 p.2).b l = U σ.b l := U_congr fun q hq => by rw [a3 q.1 q.2 (fun e => hn.1 (by have : q = p := Prod.ext e.1 e.2; rw [← this]; exact hq))]
    refine ⟨n1 + n2, a1.trans b1, ?_, fun q hq => ?_, fun q hq => ?_⟩
    · have hu : un (σ.refs P (p :: l)).b p = un (σ.ref1 P p.1 p.2).b p := by
        unfold un
        rw [hrfl, b3 p hn.1]
      have hU : U (σ.refs P (p :: l)).b (p :: l) = un (σ.refs P (p :: l)).b p + U (σ.refs P (p :: l)).b l := by simp [U]
      have hU0 : U σ.b (p :: l) = un σ.b p + U σ.b l := by simp [U]
      have e : U (σ.refs P (p :: l)).b l = U ((σ.ref1 P p.1 p.2).refs P l).b l := rfl
      rw [hU, hu, hU0, e]
      omega
    · simp only [List.mem_cons, not_or] at hq
      rw [hrfl, b3 q hq.2]
      exact a3 q.1 q.2 (fun e => hq.1 (Prod.ext e.1 e.2))
    · rw [hrfl]
      by_cases hql : q ∈ l
      · exact b4 q hql
      · simp only [List.mem_cons] at hq
        rcases hq with rfl | hq
        · have := b3 q hn.1
          unfold Adone at *
          rw [this]; exact a4
        · exact absurd hq hql
theorem clear_facts : ∀ (l : List (Int × Int)) {σ : ES}, σ.b.Good → AllIn σ.b l →
    (∀ p ∈ l, ((σ.clear l).b.get p.1 p.2).t = false) ∧ (∀ p : Int × Int, (σ.b.get p.1 p.2).t = false → ((σ.clear l).b.get p.1 p.2).t = false) ∧ (σ.clear l).out = σ.out
  | [], σ, _, _ => ⟨fun p hp => (by cases hp), fun p hp => hp, rfl⟩
  | p :: l, σ, hg, ha => by
    have hi := ha p (by simp)
    have hl := le_map hg hi (kv_touch false)
    obtain ⟨b1, b2, b3⟩ := clear_facts l (σ := σ.map p.1 p.2 (touch false)) hl.good (AllIn.le (fun q hq => ha q (by simp [hq])) hl)
    have hgt : ∀ x y, (σ.map p.1 p.2 (touch false)).b.get x y = if x = p.1 ∧ y = p.2 then touch false (σ.b.get p.1 p.2) else σ.b.get x y := fun x y => BS.get_upd hg.ok hi _ x y
    refine ⟨fun q hq => ?_, fun q hq => ?_, b3⟩
    · simp only [List.mem_cons] at hq
      rcases hq with rfl | hq
      · exact b2 q (by rw [hgt, if_pos ⟨rfl, rfl⟩]; rfl)
      · exact b1 q hq
    · refine b2 q ?_
      rw [hgt]
      split
      · rfl
      · exact hq

/-! The scan: each point once. -/
theorem mem_colPts : ∀ {n : Nat} {x y : Int} {p : Int × Int}, p ∈ colPts x y n → p.1 = x ∧ y ≤ p.2 ∧ p.2 < y + n
  | 0, x, y, p, h => by simp [colPts] at h
  | n + 1, x, y, p, h => by
    simp only [colPts, List.mem_cons] at h
    rcases h with rfl | h
    · exact ⟨rfl, by simp only; omega, by simp only; omega⟩
    · obtain ⟨a, b, c⟩ := mem_colPts h
      exact ⟨a, by omega, by omega⟩
theorem nodup_colPts : ∀ (n : Nat) (x y : Int), (colPts x y n).Nodup
  | 0, x, y => by simp [colPts]
  | n + 1, x, y => by
    rw [colPts, List.nodup_cons]
    exact ⟨fun h => by have := mem_colPts h; simp only at this; omega, nodup_colPts n x (y + 1)⟩
theorem mem_stripePts {h : Nat} : ∀ {n : Nat} {x top : Int} {p : Int × Int}, p ∈ stripePts h x top n → x ≤ p.1 ∧ p.1 < x + n ∧ top ≤ p.2 ∧ p.2 < top + 4
  | 0, x, y, p, hp => by simp [stripePts] at hp
  | n + 1, x, top, p, hp => by
    simp only [stripePts, List.mem_append] at hp
    rcases hp with hp | hp
    · have := mem_colPts hp; omega
    · have := mem_stripePts hp; omega
theorem nodup_stripePts {h : Nat} : ∀ (n : Nat) (x top : Int), (stripePts h x top n).Nodup
  | 0, x, y => by simp [stripePts]
  | n + 1, x, top => by
    rw [stripePts, List.nodup_append]
    refine ⟨nodup_colPts _ x top, nodup_stripePts n (x + 1) top, fun a ha b hb e => ?_⟩
    have h1 := mem_colPts ha
    have h2 := mem_stripePts hb
    rw [e] at h1
    omega
theorem mem_scanPts {w h : Nat} : ∀ {n : Nat} {top : Int} {p : Int × Int}, p ∈ scanPts w h top n → top ≤ p.2
  | 0, y, p, hp => by simp [scanPts] at hp
  | n + 1, top, p, hp => by
    simp only [scanPts, List.mem_append] at hp
    rcases hp with hp | hp
    · exact (mem_stripePts hp).2.2.1
    · have := mem_scanPts hp; omega
theorem nodup_scanPts {w h : Nat} : ∀ (n : Nat) (top : Int), (scanPts w h top n).Nodup
  | 0, y => by simp [scanPts]
  | n + 1, top => by
    rw [scanPts, List.nodup_append]
    refine ⟨nodup_stripePts _ 0 top, nodup_scanPts n (top + 4), fun a ha b hb e => ?_⟩
    have h1 := mem_stripePts ha
    have h2 := mem_scanPts hb
    rw [e] at h1
    omega
theorem stripePts_len' {h : Nat} (top : Int) : ∀ (n : Nat) (x : Int), (stripePts h x top n).length = n * (min (top + 4) (h : Int) - top).toNat
  | 0, x => by simp [stripePts]
  | n + 1, x => by
    rw [stripePts, List.length_append, colPts_len, stripePts_len' top n, Nat.add_mul]; omega
theorem scanPts_len' {w h : Nat} : ∀ (n : Nat) (top : Int), 0 ≤ top → (h : Int) ≤ top + 4 * n → (scanPts w h top n).length = w * (h - top).toNat
  | 0, top, h0, h1 => by
    rw [show ((h : Int) - top).toNat = 0 by omega]; simp [scanPts]
  | n + 1, top, h0, h1 => by
    rw [scanPts, List.length_append, stripePts_len', scanPts_len' n (top + 4) (by omega) (by omega), ← Nat.mul_add]
    congr 1; omega
theorem scan_len' (w h : Nat) : (scan w h).length = w * h := by
  have := scanPts_len' (w := w) (h := h) (stripesOf h) 0 (by omega) (by unfold stripesOf; omega)
  simpa [scan] using this
theorem U_full {b : BS} {l : List (Int × Int)} (h : ∀ p ∈ l, (b.get p.1 p.2).t = false) : U b l = l.length := by
  induction l with
  | nil => rfl
  | cons p l ih =>
    have hu : un b p = 1 := by unfold un; rw [if_neg (by simp [h p (by simp)])]
    have := ih (fun q hq => h q (by simp [hq]))
    simp only [U, List.map_cons, List.sum_cons, List.length_cons, hu] at this ⊢
    omega

theorem colPts_mem : ∀ {n : Nat} {x y y' : Int}, y ≤ y' → y' < y + n → (x, y') ∈ colPts x y n
  | 0, x, y, y', h1, h2 => by omega
  | n + 1, x, y, y', h1, h2 => by
    rw [colPts, List.mem_cons]
    by_cases h : y' = y
    · exact .inl (by rw [h])
    · exact .inr (colPts_mem (by omega) (by omega))
theorem stripePts_mem {h : Nat} : ∀ {n : Nat} {x x' top y : Int}, x ≤ x' → x' < x + n → top ≤ y → y < top + 4 → y < h → (x', y) ∈ stripePts h x top n
  | 0, x, x', top, y, h1, h2, h3, h4, h5 => by omega
  | n + 1, x, x', top, y, h1, h2, h3, h4, h5 => by
    rw [stripePts, List.mem_append]
    by_cases hx : x' = x
    · subst hx; exact .inl (colPts_mem h3 (by omega))
    · exact .inr (stripePts_mem (by omega) (by omega) h3 h4 h5)
theorem scanPts_mem {w h : Nat} : ∀ {n : Nat} {x y top : Int}, 0 ≤ x → x < w → top ≤ y → y < top + 4 * n → y < h → (x, y) ∈ scanPts w h top n
  | 0, x, y, top, h1, h2, h3, h4, h5 => by omega
  | n + 1, x, y, top, h1, h2, h3, h4, h5 => by
    rw [scanPts, List.mem_append]
    by_cases hy : y < top + 4
    · exact .inl (stripePts_mem h1 (by omega) h3 hy h5)
    · exact .inr (scanPts_mem h1 h2 (by omega) (by omega) h5)
theorem scan_mem {w h : Nat} {x y : Int} (h1 : 0 ≤ x) (h2 : x < w) (h3 : 0 ≤ y) (h4 : y < h) : (x, y) ∈ scan w h :=
  scanPts_mem h1 h2 h3 (by unfold stripesOf; omega) h4

/-- Between the passes: n bits of the plane were coded. -/
structure CJ (k : Nat) (b : BS) (n : Nat) : Prop where
  good : b.Good
  sum : n + U b (scan b.w b.h) = b.w * b.h
  k0 : kindOf k = 0 → ∀ p ∈ scan b.w b.h, (b.get p.1 p.2).t = false
  k2 : kindOf k = 2 → ∀ p ∈ scan b.w b.h, Adone b p
theorem kind_next (k : Nat) : (kindOf k = 0 ∧ kindOf (k + 1) = 1) ∨ (kindOf k = 1 ∧ kindOf (k + 1) = 2) ∨ (kindOf k = 2 ∧ kindOf (k + 1) = 0) := by
  unfold kindOf
  split <;> simp <;> omega
theorem scan_nodup (w h : Nat) : (scan w h).Nodup := nodup_scanPts _ 0
theorem cj_step {m : MD} (hb : m.byp = false) (hs : m.sy = false) {k planes o : Nat} {b : BS} {n : Nat} (j : CJ k b n) :
    fin 0 (runSt m b k planes o).out = 0 ∧ (runSt m b k planes o).b.w = b.w ∧ (runSt m b k planes o).b.h = b.h ∧
    (kindOf k ≠ 2 → CJ (k + 1) (runSt m b k planes o).b (n + cov 0 (runSt m b k planes o).out)) ∧
    (kindOf k = 2 → n + cov 0 (runSt m b k planes o).out = b.w * b.h ∧ CJ (k + 1) (runSt m b k planes o).b 0) := by
  have hr : (runPP m k planes o).rw = false := by simp [runPP, rawOf, hb]
  have hal := scanIn b
  rcases kind_next k with ⟨h0, h1⟩ | ⟨h0, h1⟩ | ⟨h0, h1⟩
  · have hrun : runSt m b k planes o = ES.sigs (runPP m k planes o) ⟨b, []⟩ (scan b.w b.h) := by unfold runSt; rw [if_pos h0]
    have hl := le_sigs (P := runPP m k planes o) (σ := ⟨b, []⟩) j.good hal
    obtain ⟨c, a1, a2, a3⟩ := sigs_facts hr (scan b.w b.h) (σ := ⟨b, []⟩) j.good hal (scan_nodup _ _) (j.k0 h0)
    rw [← hrun] at hl a1 a2
    obtain ⟨l, e1, e2, e3⟩ := a1.ex
    simp only [List.nil_append] at e1
    rw [← e1] at e2 e3
    have hw := hl.w
    have hh := hl.h
    simp only at hw hh
    refine ⟨e2, hw, hh, fun _ => ⟨hl.good, ?_, fun h => by omega, fun h => by omega⟩, fun h => by omega⟩
    rw [hw, hh, e3]
    have := j.sum
    have hf := U_full (j.k0 h0)
    rw [scan_len'] at a2 hf
    omega
  · have hrun : runSt m b k planes o = ES.refs (runPP m k planes o) ⟨b, []⟩ (scan b.w b.h) := by unfold runSt; rw [if_neg (by omega), if_pos h0]
    have hl := le_refs (P := runPP m k planes o) (σ := ⟨b, []⟩) j.good hal
    obtain ⟨c, a1, a2, a3, a4⟩ := refs_facts hr (scan b.w b.h) (σ := ⟨b, []⟩) j.good hal (scan_nodup _ _)
    rw [← hrun] at hl a1 a2 a4
    obtain ⟨l, e1, e2, e3⟩ := a1.ex
    simp only [List.nil_append] at e1
    rw [← e1] at e2 e3
    have hw := hl.w
    have hh := hl.h
    simp only at hw hh a2
    refine ⟨e2, hw, hh, fun _ => ⟨hl.good, ?_, fun h => by omega, fun _ => by rw [hw, hh]; exact a4⟩, fun h => by omega⟩
    rw [hw, hh, e3]
    have := j.sum
    omega
  · have hrun : runSt m b k planes o = ES.clear (ES.stripes (runPP m k planes o) ⟨b, []⟩ 0 (stripesOf b.h)) (scan b.w b.h) := by
      unfold runSt; rw [if_neg (by omega), if_neg (by omega)]
      unfold ES.clean ES.check
      rw [hs]; rfl
    have g2 : 0 + 4 * ((stripesOf b.h : Nat) : Int) ≤ b.h + 3 := by unfold stripesOf; omega
    have hl := le_stripes (P := runPP m k planes o) (σ := ⟨b, []⟩) (n := stripesOf b.h) j.good (top := 0) (by omega) g2
    obtain ⟨a1, a2⟩ := stripes_facts (P := runPP m k planes o) hr (stripesOf b.h) (σ := ⟨b, []⟩) (top := 0) j.good (by omega) g2 (fun x y h1 h2 h3 h4 => j.k2 h0 (x, y) (scan_mem h1 h2 h3 h4))
    simp only at hl a1 a2
    have hw := hl.w
    have hh := hl.h
    simp only at hw hh
    generalize ES.stripes (runPP m k planes o) ⟨b, []⟩ 0 (stripesOf b.h) = τ at *
    have hall : AllIn τ.b (scan b.w b.h) := by have := scanIn τ.b; rwa [hw, hh] at this
    have hlc := le_clear (σ := τ) hl.good hall
    obtain ⟨c1, c2, c3⟩ := clear_facts (scan b.w b.h) (σ := τ) hl.good hall
    rw [← hrun] at hlc c1 c3
    obtain ⟨l, e1, e2, e3⟩ := a1.ex
    simp only [List.nil_append] at e1
    rw [← e1, ← c3] at e2 e3
    have hw' := hlc.w.trans hw
    have hh' := hlc.h.trans hh
    have hU : U (ES.b ⟨b, []⟩) (scanPts b.w b.h 0 (stripesOf b.h)) = U b (scan b.w b.h) := rfl
    refine ⟨e2, hw', hh', fun h => absurd h0 h, fun _ => ⟨?_, hlc.good, ?_, fun _ => ?_, fun h => by omega⟩⟩
    · have := j.sum
      rw [e3]; exact this
    · rw [hw', hh', U_full c1, scan_len']; omega
    · rw [hw', hh']; exact c1

/-- What the law asks of the passes from k on, n bits of the plane being coded. -/
def CovOk (len : Nat) : Nat → Nat → List (List (Int × Nat)) → Prop
  | _, n, [] => n = 0
  | k, n, l :: ls => fin 0 l = 0 ∧ (kindOf k = 2 → n + cov 0 l = len ∧ CovOk len (k + 1) 0 ls) ∧ (kindOf k ≠ 2 → CovOk len (k + 1) (n + cov 0 l) ls)
theorem covOk_passes {m : MD} (hb : m.byp = false) (hs : m.sy = false) {planes o : Nat} : ∀ (c k : Nat) (b : BS) (n : Nat), kindOf (k + c) = 0 → CJ k b n → CovOk (b.w * b.h) k n (passesOf m planes o c k b)
  | 0, k, b, n, hk, j => by
    have := j.sum
    rw [U_full (j.k0 hk), scan_len'] at this
    show n = 0
    omega
  | c + 1, k, b, n, hk, j => by
    obtain ⟨a1, a2, a3, a4, a5⟩ := cj_step (planes := planes) (o := o) hb hs j
    have hk' : kindOf (k + 1 + c) = 0 := by rw [show k + 1 + c = k + (c + 1) by omega]; exact hk
    refine ⟨a1, fun h => ?_, fun h => ?_⟩
    · obtain ⟨b1, b2⟩ := a5 h
      have := covOk_passes (planes := planes) (o := o) hb hs c (k + 1) _ 0 hk' b2
      rw [a2, a3] at this
      exact ⟨b1, this⟩
    · have := covOk_passes (planes := planes) (o := o) hb hs c (k + 1) _ _ hk' (a4 h)
      rw [a2, a3] at this
      exact this
theorem covOk_all {m : MD} (hb : m.byp = false) (hs : m.sy = false) {planes o : Nat} {b : BS} (hg : b.Good) (hf : ∀ x y, (b.get x y).s = false ∧ (b.get x y).t = false) : CovOk (b.w * b.h) 0 0 (passesOf m planes o (3 * planes - 2) 0 b) := by
  by_cases hp : planes = 0
  · subst hp; exact rfl
  · refine covOk_passes hb hs _ 0 b 0 ?_ ⟨hg, ?_, fun _ p _ => (hf p.1 p.2).2, fun _ p _ h => ?_⟩
    · unfold kindOf; rw [if_neg (by omega)]; omega
    · rw [U_full (fun p _ => (hf p.1 p.2).2), scan_len']; omega
    · rw [(hf p.1 p.2).1] at h; cases h

end Go.Proofs.Ytlflfkdnpalhlaa
