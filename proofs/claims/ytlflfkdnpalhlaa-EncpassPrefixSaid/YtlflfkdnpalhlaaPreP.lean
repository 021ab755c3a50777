import Derived.Test.YtlflfkdnpalhlaaShaP
/-! Without the lowest planes: the plain law. -/
namespace Go.Proofs.Ytlflfkdnpalhlaa
open Go.Sim
open Go.RowKit
set_option linter.unusedVariables false
set_option linter.unusedSimpArgs false
/-! Without the lowest planes. -/
def cutN (k n : Nat) : Nat := n / 2 ^ k * 2 ^ k
def cutv (k : Nat) (v : Int) : Int := if v < 0 then -(cutN k v.natAbs : Int) else (cutN k v.natAbs : Int)
theorem cutN_le (k n : Nat) : cutN k n ≤ n := Nat.div_mul_le_self n _
theorem cutN_ge {k s n : Nat} (hk : k ≤ s) (h : 2 ^ s ≤ n) : 2 ^ s ≤ cutN k n := by
  unfold cutN
  have h1 : 2 ^ s = 2 ^ (s - k) * 2 ^ k := by rw [← Nat.pow_add]; congr 1; omega
  rw [h1]
  refine Nat.mul_le_mul_right _ ?_
  rw [Nat.le_div_iff_mul_le (Nat.two_pow_pos k), ← h1]; exact h
theorem natAbs_cutv (k : Nat) (v : Int) : (cutv k v).natAbs = cutN k v.natAbs := by unfold cutv; split <;> omega
theorem cutN_div {k s n : Nat} (hk : k ≤ s) : cutN k n / 2 ^ s = n / 2 ^ s := by
  unfold cutN
  have h1 : 2 ^ s = 2 ^ k * 2 ^ (s - k) := by rw [← Nat.pow_add]; congr 1; omega
  rw [h1, ← Nat.div_div_eq_div_mul, ← Nat.div_div_eq_div_mul, Nat.mul_div_cancel _ (Nat.two_pow_pos k)]
theorem bitOf_cutv {k s : Nat} (hk : k ≤ s) (v : Int) : bitOf (cutv k v) s = bitOf v s := by
  unfold bitOf
  rw [natAbs_cutv, cutN_div hk]
theorem bit_ge {v : Int} {s : Nat} (h : bitOf v s = 1) : 2 ^ s ≤ v.natAbs := by
  apply Nat.le_of_not_lt
  intro hlt
  unfold bitOf at h
  rw [Nat.div_eq_of_lt hlt] at h
  omega
theorem cutv_neg {k : Nat} {v : Int} (h : 2 ^ k ≤ v.natAbs) : cutv k v < 0 ↔ v < 0 := by
  have := cutN_ge (Nat.le_refl k) h
  have hp := Nat.two_pow_pos k
  unfold cutv
  split <;> omega

structure RB (k : Nat) (b b' : BS) : Prop where
  w : b'.w = b.w
  h : b'.h = b.h
  s : ∀ x y, (b'.get x y).s = (b.get x y).s
  t : ∀ x y, (b'.get x y).t = (b.get x y).t
  r : ∀ x y, (b'.get x y).r = (b.get x y).r
  v : ∀ x y, (b'.get x y).v = cutv k (b.get x y).v
  big : ∀ x y, (b.get x y).s = true → 2 ^ k ≤ (b.get x y).v.natAbs
theorem RB.inb {k : Nat} {b b' : BS} (h : RB k b b') {x y : Int} (hi : b.inb x y) : b'.inb x y := by
  obtain ⟨a1, a2, a3, a4⟩ := hi
  exact ⟨a1, by rw [h.w]; exact a2, a3, by rw [h.h]; exact a4⟩
theorem rb_one {k : Nat} {b b' : BS} (h : RB k b b') (x y : Int) : one b' x y = one b x y := by unfold one; rw [h.s]
theorem rb_nb {k : Nat} {b b' : BS} (h : RB k b b') (x y : Int) (q : Bool) : nbH b' x y = nbH b x y ∧ nbV b' x y q = nbV b x y q ∧ nbD b' x y q = nbD b x y q := by
  unfold nbH nbV nbD
  simp only [rb_one h]
  exact ⟨trivial, trivial, trivial⟩
theorem rb_near {k : Nat} {b b' : BS} (h : RB k b b') (x y : Int) (q : Bool) : near b' x y q = near b x y q := by
  obtain ⟨a1, a2, a3⟩ := rb_nb h x y q
  unfold near; rw [a1, a2, a3]
theorem rb_sgn {k : Nat} {b b' : BS} (h : RB k b b') (x y : Int) : sgn b' x y = sgn b x y := by
  unfold sgn
  rw [h.s]
  split
  · rename_i hs
    rw [h.v]
    have := cutv_neg (h.big x y hs)
    by_cases hv : (b.get x y).v < 0
    · rw [if_pos hv, if_pos (this.2 hv)]
    · rw [if_neg hv, if_neg (fun e => hv (this.1 e))]
  · rfl
theorem rb_sg {k : Nat} {b b' : BS} (h : RB k b b') (x y : Int) (q : Bool) : sgH b' x y = sgH b x y ∧ sgV b' x y q = sgV b x y q := by
  unfold sgH sgV
  simp only [rb_sgn h]
  exact ⟨trivial, trivial⟩
theorem rb_upd {k : Nat} {b b' : BS} (h : RB k b b') (hg : b.Good) (hg' : b'.Good) {x y : Int} (hi : b.inb x y) {f : Cell → Cell} (hv : ∀ c, (f c).v = c.v) (hs : ∀ c c' : Cell, c'.s = c.s → (f c').s = (f c).s) (ht : ∀ c c' : Cell, c'.t = c.t → (f c').t = (f c).t)
    (hr : ∀ c c' : Cell, c'.r = c.r → (f c').r = (f c).r) (hb : (f (b.get x y)).s = true → 2 ^ k ≤ (b.get x y).v.natAbs) : RB k (b.upd x y f) (b'.upd x y f) := by
  have g := fun x' y' => BS.get_upd hg.ok hi f x' y'
  have g' := fun x' y' => BS.get_upd hg'.ok (h.inb hi) f x' y'
  refine ⟨h.w, h.h, fun x' y' => ?_, fun x' y' => ?_, fun x' y' => ?_, fun x' y' => ?_, fun x' y' hs' => ?_⟩
  · rw [g, g']; split
    · exact hs _ _ (h.s x y)
    · exact h.s x' y'
  · rw [g, g']; split
    · exact ht _ _ (h.t x y)
    · exact h.t x' y'
  · rw [g, g']; split
    · exact hr _ _ (h.r x y)
    · exact h.r x' y'
  · rw [g, g']; split
    · rw [hv, hv]; exact h.v x y
    · exact h.v x' y'
  · rw [g] at hs' ⊢
    split at hs'
    · rename_i e; rw [if_pos e, hv]; exact hb hs'
    · rename_i e; rw [if_neg e]; exact h.big x' y' hs'

/-- Two passes in progress that have made the same symbols. -/
structure RE (k : Nat) (σ τ : ES) : Prop where
  b : RB k σ.b τ.b
  g : σ.b.Good
  g' : τ.b.Good
  out : τ.out = σ.out
section
variable {k : Nat} {P : PP} {σ τ : ES}
theorem re_emit (h : RE k σ τ) (c : Int) (n : Nat) : RE k (σ.emit P c n) (τ.emit P c n) := ⟨h.b, h.g, h.g', by simp [ES.emit, h.out]⟩
theorem re_mark (h : RE k σ τ) {x y : Int} (hi : σ.b.inb x y) (hb : 2 ^ k ≤ (σ.b.get x y).v.natAbs) : RE k (σ.map x y mark) (τ.map x y mark) :=
  ⟨rb_upd h.b h.g h.g' hi (fun _ => rfl) (fun _ _ _ => rfl) (fun _ _ e => e) (fun _ _ e => e) (fun _ => hb), h.g.upd hi kv_mark, h.g'.upd (h.b.inb hi) kv_mark, h.out⟩
theorem re_touch (h : RE k σ τ) {x y : Int} (hi : σ.b.inb x y) (v : Bool) : RE k (σ.map x y (touch v)) (τ.map x y (touch v)) :=
  ⟨rb_upd h.b h.g h.g' hi (fun _ => rfl) (fun _ _ e => e) (fun _ _ _ => rfl) (fun _ _ e => e) (fun hs => h.b.big x y hs), h.g.upd hi (kv_touch v), h.g'.upd (h.b.inb hi) (kv_touch v), h.out⟩
theorem re_refine (h : RE k σ τ) {x y : Int} (hi : σ.b.inb x y) : RE k (σ.map x y refine') (τ.map x y refine') :=
  ⟨rb_upd h.b h.g h.g' hi (fun _ => rfl) (fun _ _ e => e) (fun _ _ e => e) (fun _ _ _ => rfl) (fun hs => h.b.big x y hs), h.g.upd hi kv_refine, h.g'.upd (h.b.inb hi) kv_refine, h.out⟩
theorem re_sign (h : RE k σ τ) {x y : Int} (hi : σ.b.inb x y) (hb : 2 ^ k ≤ (σ.b.get x y).v.natAbs) : RE k (σ.sign P x y) (τ.sign P x y) := by
  obtain ⟨s1, s2⟩ := rb_sg h.b x y P.cz
  have hn : negOf (τ.b.get x y).v = negOf (σ.b.get x y).v := by
    unfold negOf
    rw [h.b.v]
    have := cutv_neg hb
    by_cases hv : (σ.b.get x y).v < 0
    · rw [if_pos hv, if_pos (this.2 hv)]
    · rw [if_neg hv, if_neg (fun e => hv (this.1 e))]
  have e : signBit P τ.b x y = signBit P σ.b x y := by unfold signBit; rw [hn, s1, s2]
  unfold ES.sign
  rw [s1, s2, e]
  exact re_mark (re_emit h _ _) hi hb
theorem re_bit (h : RE k σ τ) (hk : k ≤ P.s) (x y : Int) : bitOf (τ.b.get x y).v P.s = bitOf (σ.b.get x y).v P.s := by
  rw [h.b.v, bitOf_cutv hk]
theorem re_big {σ : ES} (hk : k ≤ P.s) {x y : Int} (h : bitOf (σ.b.get x y).v P.s = 1) : 2 ^ k ≤ (σ.b.get x y).v.natAbs := Nat.le_trans (Nat.pow_le_pow_right (by omega) hk) (bit_ge h)
theorem re_code (h : RE k σ τ) (hk : k ≤ P.s) {x y : Int} (hi : σ.b.inb x y) : RE k (σ.code P x y) (τ.code P x y) := by
  obtain ⟨n1, n2, n3⟩ := rb_nb h.b x y P.cz
  have e : ctxOf P τ.b x y = ctxOf P σ.b x y := by unfold ctxOf; rw [n1, n2, n3]
  unfold ES.code
  rw [re_bit h hk, e]
  split
  · rename_i hb
    exact re_sign (re_emit h _ _) hi (re_big (P := P) hk hb)
  · exact re_emit h _ _
theorem re_sig1 (h : RE k σ τ) (hk : k ≤ P.s) {x y : Int} (hi : σ.b.inb x y) : RE k (σ.sig1 P x y) (τ.sig1 P x y) := by
  unfold ES.sig1
  rw [h.b.s, rb_near h.b]
  split
  · exact re_touch (re_code h hk hi) ((le_code h.g hi).inb hi) true
  · exact h
theorem re_ref1 (h : RE k σ τ) (hk : k ≤ P.s) {x y : Int} (hi : σ.b.inb x y) : RE k (σ.ref1 P x y) (τ.ref1 P x y) := by
  unfold ES.ref1
  rw [h.b.s, h.b.t, h.b.r, rb_near h.b, re_bit h hk]
  split
  · exact h
  · exact re_touch (re_refine (re_emit h _ _) hi) hi true
theorem re_cln1 (h : RE k σ τ) (hk : k ≤ P.s) {x y : Int} (hi : σ.b.inb x y) : RE k (σ.cln1 P x y) (τ.cln1 P x y) := by
  unfold ES.cln1
  rw [h.b.s, h.b.t]
  split
  · exact re_code h hk hi
  · exact h
theorem re_first (h : RE k σ τ) (hk : k ≤ P.s) (x : Int) : ∀ (n : Nat) (y : Int), firstBit τ.b P.s x y n = firstBit σ.b P.s x y n
  | 0, _ => rfl
  | n + 1, y => by rw [firstBit, firstBit, re_bit h hk, re_first h hk x n]
theorem first_bit {b : BS} {s : Nat} {x : Int} : ∀ {n : Nat} {y : Int} {j : Nat}, firstBit b s x y n = some j → bitOf (b.get x (y + j)).v s = 1
  | 0, _, _, h => by simp [firstBit] at h
  | n + 1, y, j, h => by
    simp only [firstBit] at h
    split at h
    · injection h with h; subst h; simpa using (by assumption)
    · rw [Option.map_eq_some_iff] at h
      obtain ⟨i, hi, rfl⟩ := h
      have := first_bit hi
      rw [show y + ((i + 1 : Nat) : Int) = y + 1 + i by omega]; exact this
theorem re_run (h : RE k σ τ) (hk : k ≤ P.s) {x top : Int} (hi : σ.b.inb x top) (h4 : top + 4 ≤ σ.b.h) : RE k (σ.run P x top).1 (τ.run P x top).1 ∧ (τ.run P x top).2 = (σ.run P x top).2 := by
  unfold ES.run
  rw [re_first h hk]
  split
  · rename_i j hj
    have hlt := firstBit_lt hj
    obtain ⟨i1, i2, i3, i4⟩ := hi
    exact ⟨re_sign (re_emit (re_emit (re_emit h _ _) _ _) _ _) ⟨i1, i2, by omega, by show top + (j : Int) < σ.b.h; omega⟩ (re_big (P := P) (σ := ((σ.emit P 17 1).emit P 18 (j / 2)).emit P 18 (j % 2)) hk (first_bit hj)), rfl⟩
  · exact ⟨re_emit h _ _, rfl⟩
theorem re_rows (hk : k ≤ P.s) : ∀ {n : Nat} {σ τ : ES} {x y : Int}, RE k σ τ → 0 ≤ x → x < σ.b.w → 0 ≤ y → y + n ≤ σ.b.h → RE k (σ.rows P x y n) (τ.rows P x y n)
  | 0, σ, τ, x, y, h, _, _, _, _ => h
  | n + 1, σ, τ, x, y, h, h1, h2, h3, h4 => by
    have hi : σ.b.inb x y := ⟨h1, h2, h3, by omega⟩
    have hl := le_cln1 (P := P) h.g hi
    rw [ES.rows, ES.rows]
    exact re_rows hk (re_cln1 h hk hi) h1 (by rw [hl.w]; exact h2) (by omega) (by rw [hl.h]; omega)
theorem re_quiet (h : RE k σ τ) (x top : Int) (q : Bool) : quiet τ.b x top q = quiet σ.b x top q := by
  have go : ∀ (n : Nat) (y : Int), quietFrom τ.b x y q n = quietFrom σ.b x y q n := by
    intro n
    induction n with
    | zero => intro y; rfl
    | succ n ih => intro y; rw [quietFrom, quietFrom, ih]; unfold still; rw [h.b.s, h.b.t, rb_near h.b]
  unfold quiet
  rw [go, h.b.h]
theorem re_col (h : RE k σ τ) (hk : k ≤ P.s) {x top : Int} (hi : σ.b.inb x top) : RE k (σ.col P x top) (τ.col P x top) := by
  have hi0 := hi
  obtain ⟨i1, i2, i3, i4⟩ := hi
  unfold ES.col
  rw [re_quiet h, h.b.h]
  split
  · rename_i hq
    simp only [quiet, Bool.and_eq_true, decide_eq_true_eq] at hq
    obtain ⟨l1, l2, l3⟩ := le_run (P := P) h.g hi0 hq.1
    obtain ⟨r1, r2⟩ := re_run (P := P) h hk hi0 hq.1
    rw [r2]
    exact re_rows hk r1 i1 (by rw [l1.w]; exact i2) (by omega) (by rw [l1.h]; omega)
  · exact re_rows hk h i1 i2 i3 (by omega)
theorem re_cols (hk : k ≤ P.s) : ∀ {n : Nat} {σ τ : ES} {x top : Int}, RE k σ τ → 0 ≤ x → x + n ≤ σ.b.w → 0 ≤ top → top < σ.b.h → RE k (σ.cols P x top n) (τ.cols P x top n)
  | 0, σ, τ, x, top, h, _, _, _, _ => h
  | n + 1, σ, τ, x, top, h, h1, h2, h3, h4 => by
    have hi : σ.b.inb x top := ⟨h1, by omega, h3, h4⟩
    have hl := le_col (P := P) h.g hi
    rw [ES.cols, ES.cols]
    exact re_cols hk (re_col h hk hi) (by omega) (by rw [hl.w]; omega) h3 (by rw [hl.h]; exact h4)
theorem re_stripes (hk : k ≤ P.s) : ∀ {n : Nat} {σ τ : ES} {top : Int}, RE k σ τ → 0 ≤ top → top + 4 * n ≤ σ.b.h + 3 → RE k (σ.stripes P top n) (τ.stripes P top n)
  | 0, σ, τ, top, h, _, _ => h
  | n + 1, σ, τ, top, h, h1, h2 => by
    have hl := le_cols (P := P) (n := σ.b.w) h.g (x := 0) (top := top) (by omega) (by omega) h1 (by omega)
    rw [ES.stripes, ES.stripes, h.b.w]
    exact re_stripes hk (re_cols hk h (by omega) (by omega) h1 (by omega)) (by omega) (by rw [hl.h]; omega)
theorem re_fold {f : ES → Int × Int → ES} (hf : ∀ (σ τ : ES) (p : Int × Int), RE k σ τ → σ.b.inb p.1 p.2 → RE k (f σ p) (f τ p) ∧ (f σ p).b.w = σ.b.w ∧ (f σ p).b.h = σ.b.h) :
    ∀ {l : List (Int × Int)} {σ τ : ES}, RE k σ τ → AllIn σ.b l → RE k (l.foldl f σ) (l.foldl f τ)
  | [], _, _, h, _ => h
  | p :: l, σ, τ, h, ha => by
    obtain ⟨a, hw, hh⟩ := hf σ τ p h (ha p (by simp))
    rw [List.foldl_cons, List.foldl_cons]
    refine re_fold hf a (fun q hq => ?_)
    obtain ⟨b1, b2, b3, b4⟩ := ha q (by simp [hq])
    exact ⟨b1, by rw [hw]; exact b2, b3, by rw [hh]; exact b4⟩
theorem re_check (h : RE k σ τ) (on : Bool) : RE k (σ.check P on) (τ.check P on) := by
  unfold ES.check
  split
  · exact re_emit (re_emit (re_emit (re_emit h _ _) _ _) _ _) _ _
  · exact h
end
theorem re_runSt {k : Nat} {m : MD} {b b' : BS} (h : RB k b b') (hg : b.Good) (hg' : b'.Good) {n planes o : Nat} (hk : k ≤ planes - 1 - planeOf n) : RE k (runSt m b n planes o) (runSt m b' n planes o) := by
  have h0 : RE k ⟨b, []⟩ ⟨b', []⟩ := ⟨h, hg, hg', rfl⟩
  have hk' : k ≤ (runPP m n planes o).s := hk
  have hal := scanIn b
  unfold runSt
  rw [h.w, h.h]
  split
  · exact re_fold (f := fun σ p => ES.sig1 (runPP m n planes o) σ p.1 p.2) (fun σ τ p hr hi => ⟨re_sig1 hr hk' hi, (le_sig1 (P := runPP m n planes o) hr.g hi).w, (le_sig1 (P := runPP m n planes o) hr.g hi).h⟩) h0 hal
  · split
    · exact re_fold (f := fun σ p => ES.ref1 (runPP m n planes o) σ p.1 p.2) (fun σ τ p hr hi => ⟨re_ref1 hr hk' hi, (le_ref1 (P := runPP m n planes o) hr.g hi).w, (le_ref1 (P := runPP m n planes o) hr.g hi).h⟩) h0 hal
    · unfold ES.clean
      rw [h.w, h.h]
      have g2 : 0 + 4 * ((stripesOf b.h : Nat) : Int) ≤ b.h + 3 := by unfold stripesOf; omega
      have hl := le_stripes (P := runPP m n planes o) (σ := ⟨b, []⟩) (n := stripesOf b.h) hg (top := 0) (by omega) g2
      have hs := re_stripes (P := runPP m n planes o) hk' (n := stripesOf b.h) (top := 0) h0 (by omega) g2
      refine re_check (re_fold (fun σ τ p hr hi => ⟨re_touch hr hi false, rfl, rfl⟩) hs ?_) m.sy
      have := scanIn (ES.stripes (runPP m n planes o) ⟨b, []⟩ 0 (stripesOf b.h)).b
      rwa [hl.w, hl.h] at this
theorem passesOf_take (m : MD) (planes o : Nat) : ∀ (n c k : Nat) (b : BS), n ≤ c → (passesOf m planes o c k b).take n = passesOf m planes o n k b
  | 0, c, k, b, _ => by simp [passesOf]
  | n + 1, 0, k, b, h => by omega
  | n + 1, c + 1, k, b, h => by
    rw [passesOf, List.take_succ_cons, passesOf_take m planes o n c (k + 1) _ (by omega)]; rfl
theorem passes_cut {k : Nat} {m : MD} {planes o : Nat} : ∀ (n j : Nat) (b b' : BS), RB k b b' → b.Good → b'.Good → (∀ i, j ≤ i → i < j + n → k ≤ planes - 1 - planeOf i) → passesOf m planes o n j b' = passesOf m planes o n j b
  | 0, _, _, _, _, _, _, _ => rfl
  | n + 1, j, b, b', h, hg, hg', hk => by
    have hr := re_runSt (m := m) (o := o) h hg hg' (hk j (by omega) (by omega))
    rw [passesOf, passesOf, hr.out, passes_cut n (j + 1) _ _ hr.b hr.g hr.g' (fun i h1 h2 => hk i (by omega) (by omega))]
theorem blen_eq {n p : Nat} (hp : 0 < p) (h1 : 2 ^ (p - 1) ≤ n) (h2 : n < 2 ^ p) : blen n = p := by
  have a := (@lt_blen n (p - 1)).2 h1
  have b := (@blen_le n p).2 h2
  omega
theorem planes_cut {xs : List Int} {k : Nat} (hk : k < planesOf xs) : planesOf (xs.map (cutv k)) = planesOf xs := by
  apply Nat.le_antisymm
  · rw [planes_le]
    intro v hv
    rw [List.mem_map] at hv
    obtain ⟨x, hx, rfl⟩ := hv
    rw [natAbs_cutv]
    exact Nat.lt_of_le_of_lt (cutN_le _ _) ((planes_le.1 (Nat.le_refl _)) x hx)
  · apply Nat.le_of_not_lt
    intro hlt
    have h1 : ¬ planesOf xs ≤ planesOf xs - 1 := by omega
    rw [planes_le] at h1
    apply h1
    intro v hv
    apply Nat.lt_of_not_le
    intro hge
    have h2 := cutN_ge (k := k) (by omega) hge
    have h3 := (planes_le.1 (Nat.le_refl (planesOf (xs.map (cutv k))))) (cutv k v) (List.mem_map_of_mem hv)
    rw [natAbs_cutv] at h3
    have := Nat.pow_le_pow_right (n := 2) (by omega) (show planesOf (xs.map (cutv k)) ≤ planesOf xs - 1 by omega)
    omega
theorem rb_fill {w h k : Nat} {xs : List Int} (n : Nat) (hn : n = xs.length) : RB k (fillTo w h xs n) (fillTo w h (xs.map (cutv k)) n) := by
  have hget : ∀ x y, (fillTo w h (xs.map (cutv k)) n).get x y = { (fillTo w h xs n).get x y with v := cutv k ((fillTo w h xs n).get x y).v } ∧ ((fillTo w h xs n).get x y).s = false := by
    intro x y
    have hz : cutv k 0 = 0 := by simp [cutv, cutN]
    have e : ∀ j, ((fillTo w h (xs.map (cutv k)) n).cs.getD j .zero) = { ((fillTo w h xs n).cs.getD j .zero) with v := cutv k ((fillTo w h xs n).cs.getD j .zero).v } ∧ ((fillTo w h xs n).cs.getD j .zero).s = false := by
      intro j
      simp only [fillTo, List.getD_eq_getElem?_getD]
      by_cases hj : j < xs.length
      · rw [List.getElem?_append_left (by simp; omega), List.getElem?_append_left (by simp; omega)]
        simp [hj, hn, cellOf]
      · rw [List.getElem?_append_right (by simp; omega), List.getElem?_append_right (by simp; omega)]
        simp only [blank, List.getElem?_replicate, List.length_map, List.length_take]
        split <;> simp [Cell.zero, hz]
    unfold BS.get
    have hin : BS.inb (fillTo w h (xs.map (cutv k)) n) x y ↔ BS.inb (fillTo w h xs n) x y := Iff.rfl
    by_cases hi : BS.inb (fillTo w h xs n) x y
    · rw [if_pos hi, if_pos (hin.2 hi)]
      exact e _
    · rw [if_neg hi, if_neg (fun h => hi (hin.1 h))]
      simp [Cell.zero, hz]
  refine ⟨rfl, rfl, fun x y => ?_, fun x y => ?_, fun x y => ?_, fun x y => ?_, fun x y hs => ?_⟩
  · rw [(hget x y).1]
  · rw [(hget x y).1]
  · rw [(hget x y).1]
  · rw [(hget x y).1]
  · rw [(hget x y).2] at hs; cases hs

end Go.Proofs.Ytlflfkdnpalhlaa
