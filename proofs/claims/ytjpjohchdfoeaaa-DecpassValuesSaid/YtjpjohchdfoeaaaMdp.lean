/-
  The state of a code block, plain: coefficients with their flags, and what the neighbours say.
  The methods of a code block, the program's and the reference's: what they read and write.
  The methods of a code block, on: neighbours, signs, writers; the reference's.
  The methods of the reference's code block.
  The contexts: the program's and the reference's are the same, at every input that occurs.
  The passes of the encoder, plain.
  The passes of a block, plain: what Run and Symbols come to.
-/
import Derived.Test.YtjpjohchdfoeaaaSimX
import Derived.Test.YtjpjohchdfoeaaaTab
namespace Go.Proofs.Ytjpjohchdfoeaaa
open Go Go.Sim
structure Cell where
  v : Int
  s : Bool
  t : Bool
  r : Bool
def Cell.zero : Cell := ⟨0, false, false, false⟩
def Cell.enc (c : Cell) : List Value := [.int .i64 c.v, .bool c.s, .bool c.t, .bool c.r]
def encC : List Cell → List Value
  | [] => []
  | c :: r => c.enc ++ encC r

theorem encC_len : ∀ l : List Cell, (encC l).length = l.length * 4
  | [] => rfl
  | c :: r => by rw [encC, List.length_append, encC_len r]; simp [Cell.enc]; omega
theorem encC_get : ∀ (l : List Cell) (i j : Nat), j < 4 → (encC l)[i * 4 + j]? = (l[i]?).bind fun c => c.enc[j]?
  | [], i, j, _ => by simp [encC]
  | c :: r, 0, j, hj => by
    rw [encC, List.getElem?_append_left (by simp [Cell.enc]; omega)]; simp
  | c :: r, i + 1, j, hj => by
    rw [encC, List.getElem?_append_right (by simp [Cell.enc]; omega)]
    have := encC_get r i j hj
    rw [show (i + 1) * 4 + j - c.enc.length = i * 4 + j by simp [Cell.enc]; omega, this]
    simp
theorem encC_drop : ∀ (l : List Cell) (i : Nat), (h : i < l.length) → ((encC l).drop (i * 4)).take 4 = l[i].enc
  | [], i, h => by simp at h
  | c :: r, 0, _ => by simp [encC, Cell.enc]
  | c :: r, i + 1, h => by
    rw [encC, show (i + 1) * 4 = c.enc.length + i * 4 by simp [Cell.enc]; omega, List.drop_length_add_append]
    simpa using encC_drop r i (by simpa using h)
theorem encC_set : ∀ (l : List Cell) (i : Nat) (c : Cell), i < l.length → encC (l.set i c) = writeAt (encC l) (i * 4) c.enc
  | [], i, c, h => by simp at h
  | x :: r, 0, c, _ => by simp [encC, Cell.enc]
  | x :: r, i + 1, c, h => by
    have ih := encC_set r i c (by simpa using h)
    rw [List.set_cons_succ, encC, ih, encC]
    rw [writeAt_eq _ _ _ (by rw [encC_len]; simp [Cell.enc]; simp at h; omega), writeAt_eq _ _ _ (by rw [List.length_append, encC_len]; simp [Cell.enc]; simp at h; omega)]
    rw [show (i + 1) * 4 = x.enc.length + i * 4 by simp [Cell.enc]; omega, List.take_length_add_append, show x.enc.length + i * 4 + c.enc.length = x.enc.length + (i * 4 + c.enc.length) by omega, List.drop_length_add_append]
    simp
theorem encC_noAddr (n : Nat) : ∀ l : List Cell, belowL n (encC l) = true
  | [] => by simp [encC]
  | c :: r => by simp [encC, Cell.enc, encC_noAddr n r]
theorem set_self {l : List Value} {i : Nat} {v : Value} (h : l[i]? = some v) : l.set i v = l := by
  obtain ⟨hi, rfl⟩ := List.getElem?_eq_some_iff.1 h
  simp
/-- One cell of a coefficient is written. -/
theorem encC_set1 {l : List Cell} {i : Nat} (h : i < l.length) {v : Int} : (encC l).set (i * 4) (.int .i64 v) = encC (l.set i { l[i] with v := v }) := by
  have g := encC_get l i
  have h0 : l[i]? = some l[i] := List.getElem?_eq_getElem h
  rw [encC_set _ _ _ h]
  simp only [Cell.enc, write_cons, write_nil]
  have g1 : (encC l)[i * 4 + 1]? = some (.bool l[i].s) := by rw [g 1 (by omega), h0]; rfl
  have g2 : (encC l)[i * 4 + 2]? = some (.bool l[i].t) := by rw [g 2 (by omega), h0]; rfl
  have g3 : (encC l)[i * 4 + 3]? = some (.bool l[i].r) := by rw [g 3 (by omega), h0]; rfl
  rw [set_self (l := (encC l).set (i * 4) _) (by rw [List.getElem?_set_ne (by omega)]; exact g1)]
  rw [set_self (l := (encC l).set (i * 4) _) (by rw [List.getElem?_set_ne (by omega)]; exact g2)]
  rw [set_self (l := (encC l).set (i * 4) _) (by rw [List.getElem?_set_ne (by omega)]; exact g3)]
theorem encC_set2 {l : List Cell} {i : Nat} (h : i < l.length) {b : Bool} : (encC l).set (i * 4 + 1) (.bool b) = encC (l.set i { l[i] with s := b }) := by
  have g := encC_get l i
  have h0 : l[i]? = some l[i] := List.getElem?_eq_getElem h
  rw [encC_set _ _ _ h]
  simp only [Cell.enc, write_cons, write_nil]
  have g0 : (encC l)[i * 4]? = some (.int .i64 l[i].v) := by have := g 0 (by omega); rw [Nat.add_zero] at this; rw [this, h0]; rfl
  have g2 : (encC l)[i * 4 + 2]? = some (.bool l[i].t) := by rw [g 2 (by omega), h0]; rfl
  have g3 : (encC l)[i * 4 + 3]? = some (.bool l[i].r) := by rw [g 3 (by omega), h0]; rfl
  rw [set_self g0]
  rw [set_self (l := (encC l).set (i * 4 + 1) _) (by rw [List.getElem?_set_ne (by omega)]; exact g2)]
  rw [set_self (l := (encC l).set (i * 4 + 1) _) (by rw [List.getElem?_set_ne (by omega)]; exact g3)]
theorem encC_set3 {l : List Cell} {i : Nat} (h : i < l.length) {b : Bool} : (encC l).set (i * 4 + 2) (.bool b) = encC (l.set i { l[i] with t := b }) := by
  have g := encC_get l i
  have h0 : l[i]? = some l[i] := List.getElem?_eq_getElem h
  rw [encC_set _ _ _ h]
  simp only [Cell.enc, write_cons, write_nil]
  have g0 : (encC l)[i * 4]? = some (.int .i64 l[i].v) := by have := g 0 (by omega); rw [Nat.add_zero] at this; rw [this, h0]; rfl
  have g1 : (encC l)[i * 4 + 1]? = some (.bool l[i].s) := by rw [g 1 (by omega), h0]; rfl
  have g3 : (encC l)[i * 4 + 3]? = some (.bool l[i].r) := by rw [g 3 (by omega), h0]; rfl
  rw [set_self g0, set_self g1]
  rw [set_self (l := (encC l).set (i * 4 + 2) _) (by rw [List.getElem?_set_ne (by omega)]; exact g3)]
theorem encC_set4 {l : List Cell} {i : Nat} (h : i < l.length) {b : Bool} : (encC l).set (i * 4 + 3) (.bool b) = encC (l.set i { l[i] with r := b }) := by
  have g := encC_get l i
  have h0 : l[i]? = some l[i] := List.getElem?_eq_getElem h
  rw [encC_set _ _ _ h]
  simp only [Cell.enc, write_cons, write_nil]
  have g0 : (encC l)[i * 4]? = some (.int .i64 l[i].v) := by have := g 0 (by omega); rw [Nat.add_zero] at this; rw [this, h0]; rfl
  have g1 : (encC l)[i * 4 + 1]? = some (.bool l[i].s) := by rw [g 1 (by omega), h0]; rfl
  have g2 : (encC l)[i * 4 + 2]? = some (.bool l[i].t) := by rw [g 2 (by omega), h0]; rfl
  rw [set_self g0, set_self g1, set_self g2]

/-- The state of a block. -/
structure BS where
  w : Nat
  h : Nat
  cs : List Cell
structure BS.Ok (b : BS) : Prop where
  w1 : 1 ≤ b.w
  w2 : b.w ≤ 64
  h1 : 1 ≤ b.h
  h2 : b.h ≤ 64
  len : b.cs.length = b.w * b.h

def BS.inb (b : BS) (x y : Int) : Prop := 0 ≤ x ∧ x < b.w ∧ 0 ≤ y ∧ y < b.h
instance (b : BS) (x y : Int) : Decidable (b.inb x y) := by unfold BS.inb; exact inferInstance
def BS.idx (b : BS) (x y : Int) : Nat := (y * b.w + x).toNat
def BS.get (b : BS) (x y : Int) : Cell := if b.inb x y then b.cs.getD (b.idx x y) .zero else .zero
/-- A coefficient is changed. -/
def BS.upd (b : BS) (x y : Int) (f : Cell → Cell) : BS := { b with cs := b.cs.set (b.idx x y) (f (b.get x y)) }

theorem mul_le64 {a b c d : Nat} (h1 : a ≤ c) (h2 : b ≤ d) : a * b ≤ c * d := Nat.mul_le_mul h1 h2

theorem BS.idx_lt {b : BS} (ho : b.Ok) {x y : Int} (hi : b.inb x y) : b.idx x y < b.cs.length := by
  obtain ⟨h1, h2, h3, h4⟩ := hi
  rw [ho.len]
  obtain ⟨n, rfl⟩ := Int.eq_ofNat_of_zero_le h1
  obtain ⟨m, rfl⟩ := Int.eq_ofNat_of_zero_le h3
  have e : b.idx n m = m * b.w + n := by
    unfold BS.idx
    rw [show ((m : Int) * b.w + n) = ((m * b.w + n : Nat) : Int) by simp]; rfl
  rw [e]
  have hm : m + 1 ≤ b.h := by omega
  have := Nat.mul_le_mul_right b.w hm
  rw [Nat.add_mul] at this
  rw [Nat.mul_comm b.w]
  omega
theorem BS.idx_int {b : BS} (ho : b.Ok) {x y : Int} (hi : b.inb x y) : y * b.w + x = (b.idx x y : Int) ∧ b.idx x y < 4096 ∧ 0 ≤ y * (b.w : Int) ∧ y * (b.w : Int) ≤ 4096 := by
  have hl := BS.idx_lt ho hi
  obtain ⟨h1, h2, h3, h4⟩ := hi
  have h0 : 0 ≤ y * (b.w : Int) := Int.mul_nonneg h3 (by omega)
  have hm := mul_le64 ho.w2 ho.h2
  rw [← ho.len] at hm
  have he : y * b.w + x = (b.idx x y : Int) := by unfold BS.idx; rw [Int.toNat_of_nonneg (by omega)]
  refine ⟨he, by omega, h0, by omega⟩
theorem BS.get_in {b : BS} (ho : b.Ok) {x y : Int} (hi : b.inb x y) : b.cs[b.idx x y]? = some (b.get x y) := by
  unfold BS.get
  rw [if_pos hi, List.getD_eq_getElem?_getD, List.getElem?_eq_getElem (BS.idx_lt ho hi)]; rfl
theorem BS.getElem_in {b : BS} (ho : b.Ok) {x y : Int} (hi : b.inb x y) : b.cs[b.idx x y]'(BS.idx_lt ho hi) = b.get x y := by
  have := BS.get_in ho hi
  rw [List.getElem?_eq_getElem (BS.idx_lt ho hi)] at this
  exact Option.some.inj this
theorem BS.get_out {b : BS} {x y : Int} (hi : ¬ b.inb x y) : b.get x y = .zero := by
  unfold BS.get; rw [if_neg hi]
theorem BS.Ok.upd {b : BS} (ho : b.Ok) (x y : Int) (f : Cell → Cell) : (b.upd x y f).Ok := ⟨ho.w1, ho.w2, ho.h1, ho.h2, by simp [BS.upd, ho.len]⟩
theorem BS.idx_inj {b : BS} (ho : b.Ok) {x y x' y' : Int} (hi : b.inb x y) (hi' : b.inb x' y') (he : b.idx x y = b.idx x' y') : x = x' ∧ y = y' := by
  have h1 := (BS.idx_int ho hi).1
  have h2 := (BS.idx_int ho hi').1
  rw [← he, ← h1] at h2
  obtain ⟨a1, a2, a3, a4⟩ := hi
  obtain ⟨b1, b2, b3, b4⟩ := hi'
  have hy : y = y' := by
    rcases Int.lt_trichotomy y y' with h | h | h
    · have := Int.mul_le_mul_of_nonneg_right (show y + 1 ≤ y' by omega) (show (0 : Int) ≤ b.w by omega)
      rw [Int.add_mul] at this; omega
    · exact h
    · have := Int.mul_le_mul_of_nonneg_right (show y' + 1 ≤ y by omega) (show (0 : Int) ≤ b.w by omega)
      rw [Int.add_mul] at this; omega
  subst hy
  exact ⟨by omega, rfl⟩
theorem BS.get_upd {b : BS} (ho : b.Ok) {x y : Int} (hi : b.inb x y) (f : Cell → Cell) (x' y' : Int) : (b.upd x y f).get x' y' = if x' = x ∧ y' = y then f (b.get x y) else b.get x' y' := by
  have hinb : (b.upd x y f).inb x' y' ↔ b.inb x' y' := Iff.rfl
  have hidx : (b.upd x y f).idx x' y' = b.idx x' y' := rfl
  by_cases hi' : b.inb x' y'
  · have hl := BS.idx_lt ho hi
    have e : (b.upd x y f).get x' y' = ((b.cs.set (b.idx x y) (f (b.get x y)))[b.idx x' y']?).getD .zero := by
      unfold BS.get
      rw [if_pos (hinb.2 hi'), List.getD_eq_getElem?_getD]; rfl
    rw [e]
    by_cases hx : x' = x ∧ y' = y
    · obtain ⟨rfl, rfl⟩ := hx
      rw [if_pos ⟨rfl, rfl⟩, List.getElem?_set_self hl]; rfl
    · rw [if_neg hx, List.getElem?_set_ne (fun h => hx (by have := BS.idx_inj ho hi hi' h; exact ⟨this.1.symm, this.2.symm⟩)), BS.get_in ho hi']; rfl
  · rw [BS.get_out (fun h => hi' (hinb.1 h)), BS.get_out hi', if_neg]
    rintro ⟨rfl, rfl⟩
    exact hi' hi

/-- How many of two.. are significant. -/
def one (b : BS) (x y : Int) : Nat := if (b.get x y).s = true then 1 else 0
def nbH (b : BS) (x y : Int) : Nat := one b (x - 1) y + one b (x + 1) y
def nbV (b : BS) (x y : Int) (causal : Bool) : Nat := one b x (y - 1) + if (!causal || y % 4 != 3) = true then one b x (y + 1) else 0
def nbD (b : BS) (x y : Int) (causal : Bool) : Nat := one b (x - 1) (y - 1) + one b (x + 1) (y - 1) + if (!causal || y % 4 != 3) = true then one b (x - 1) (y + 1) + one b (x + 1) (y + 1) else 0
def sgn (b : BS) (x y : Int) : Int := if (b.get x y).s = true then (if (b.get x y).v < 0 then -1 else 1) else 0
def joint (s t : Int) : Int := min (max (s + t) (-1)) 1
def sgH (b : BS) (x y : Int) : Int := joint (sgn b (x - 1) y) (sgn b (x + 1) y)
def sgV (b : BS) (x y : Int) (causal : Bool) : Int := joint (sgn b x (y - 1)) (if (!causal || y % 4 != 3) = true then sgn b x (y + 1) else 0)
set_option linter.unusedSimpArgs false
set_option linter.unusedVariables false
/-- A code block at p, its coefficients at c. -/
structure CB (h : Heap) (f : Bool) (p c : Nat) (b : BS) : Prop where
  blkp : blk? h p = some ⟨f, [.int .i64 b.w, .int .i64 b.h, .slice (some ⟨c, 0, none⟩) (b.w * b.h) 4]⟩
  blkc : blk? h c = some ⟨f, encC b.cs⟩
  ok : b.Ok

theorem CB.frz {h : Heap} {f : Bool} {p c : Nat} {b : BS} (hb : CB h f p c b) : CB (frz h) true p c b :=
  ⟨blk_frz hb.blkp (by simp [blk?_lt hb.blkc]), blk_frz hb.blkc (encC_noAddr _ _), hb.ok⟩

theorem CB.ne {h : Heap} {f : Bool} {p c : Nat} {b : BS} (hb : CB h f p c b) : p ≠ c := by
  intro e
  have h1 := hb.blkp
  rw [e, hb.blkc] at h1
  have h2 := congrArg (fun o : Option Blk => o.map (fun b => b.cells[2]?)) h1
  simp only [Option.map_some, Option.some.injEq] at h2
  have h3 := encC_get b.cs 0 2 (by omega)
  rw [show 0 * 4 + 2 = 2 by rfl] at h3
  rw [h3] at h2
  cases hx : b.cs[0]? with
  | none => rw [hx] at h2; simp at h2
  | some x => rw [hx] at h2; simp [Cell.enc] at h2

/-- Another state in the same place. -/
theorem CB.set {h : Heap} {p c : Nat} {b b' : BS} (hb : CB h false p c b) (hw : b'.w = b.w) (hh : b'.h = b.h) (ho : b'.Ok) : CB (h.set c (some ⟨false, encC b'.cs⟩)) false p c b' :=
  ⟨by rw [blk?_set_ne (Ne.symm hb.ne), hw, hh]; exact hb.blkp, blk?_set_eq (blk?_lt hb.blkc), ho⟩

section
variable {h : Heap} {f : Bool} {p c : Nat} {b : BS} {x y : Int} {R : Value → Heap → Prop}

/-- What is known of a coefficient's place. -/
theorem CB.at (hb : CB h f p c b) (hi : b.inb x y) :
    IntKind.i64.wrap (IntKind.i64.wrap (y * (b.w : Int)) + x) = (b.idx x y : Int) ∧ (b.idx x y : Int) < ((b.w * b.h : Nat) : Int) ∧ b.idx x y < b.cs.length ∧ b.idx x y < b.w * b.h := by
  obtain ⟨h1, h2, h3, h4⟩ := BS.idx_int hb.ok hi
  have hl := BS.idx_lt hb.ok hi
  have hm := mul_le64 hb.ok.w2 hb.ok.h2
  have := hb.ok.len
  rw [wrapI (n := y * (b.w : Int)) (by omega) (by omega), h1, wrapI (by omega) (by omega)]
  exact ⟨rfl, by omega, hl, by omega⟩

theorem at_in (hb : CB h f p c b) (hi : b.inb x y) : Ret tab 116 [ptr p, .int .i64 x, .int .i64 y] h R = R (.pointer (some ⟨c, b.idx x y * 4, none⟩)) h := by
  have hp := hb.frz.blkp
  have hlp := blk?_lt hb.blkp
  have hlc := blk?_lt hb.blkc
  obtain ⟨a1, a2, a3, a4⟩ := hb.at hi
  obtain ⟨h1, h2, h3, h4⟩ := hi
  have n1 : ¬ x < 0 := by omega
  have n2 : ¬ (b.w : Int) ≤ x := by omega
  have n3 : ¬ y < 0 := by omega
  have n4 : ¬ (b.h : Int) ≤ y := by omega
  rw [Int.natCast_mul] at a2
  rw [enter116, B116]
  simp [k_guard, hp, hlp, hlc, n1, n2, n3, n4, a1, a2, fin116]

theorem at_out (hb : CB h f p c b) (hi : ¬ b.inb x y) : Ret tab 116 [ptr p, .int .i64 x, .int .i64 y] h R = R (.pointer none) h := by
  have hp := hb.frz.blkp
  have hlp := blk?_lt hb.blkp
  rw [enter116, B116]
  by_cases n1 : x < 0
  · simp [k_guard, hp, hlp, n1, fin116]
  by_cases n2 : (b.w : Int) ≤ x
  · simp [k_guard, hp, hlp, n1, n2, fin116]
  by_cases n3 : y < 0
  · simp [k_guard, hp, hlp, n1, n2, n3, fin116]
  by_cases n4 : (b.h : Int) ≤ y
  · simp [k_guard, hp, hlp, n1, n2, n3, n4, fin116]
  · exact absurd ⟨by omega, by omega, by omega, by omega⟩ hi

/-- The cells of a coefficient. -/
theorem CB.cells (hb : CB h f p c b) (hi : b.inb x y) : (encC b.cs)[b.idx x y * 4]? = some (.int .i64 (b.get x y).v) ∧ (encC b.cs)[b.idx x y * 4 + 1]? = some (.bool (b.get x y).s) ∧
    (encC b.cs)[b.idx x y * 4 + 2]? = some (.bool (b.get x y).t) ∧ (encC b.cs)[b.idx x y * 4 + 3]? = some (.bool (b.get x y).r) := by
  have g := encC_get b.cs (b.idx x y)
  have h0 := BS.get_in hb.ok hi
  have g0 := g 0 (by omega)
  rw [Nat.add_zero] at g0
  exact ⟨by rw [g0, h0]; rfl, by rw [g 1 (by omega), h0]; rfl, by rw [g 2 (by omega), h0]; rfl, by rw [g 3 (by omega), h0]; rfl⟩

theorem size_c (hb : CB h f p c b) : Ret tab 73 [ptr p] h R = R (.tuple #[.int .i64 b.w, .int .i64 b.h]) h := by
  have hp := hb.frz.blkp
  have hlp := blk?_lt hb.blkp
  rw [enter73, B73]
  simp [hp, hlp, fin73]

theorem value_c (hb : CB h f p c b) : Ret tab 86 [ptr p, .int .i64 x, .int .i64 y] h R = R (.int .i64 (b.get x y).v) h := by
  have hlp := blk?_lt hb.blkp
  have hc := hb.frz.blkc
  rw [enter86, B86]
  by_cases hi : b.inb x y
  · obtain ⟨c1, c2, c3, c4⟩ := hb.cells hi
    simp [hlp, at_in hb.frz hi, hc, c1, fin86]
  · simp [hlp, at_out hb.frz hi, fin86, BS.get_out hi, Cell.zero]

theorem significant_c (hb : CB h f p c b) : Ret tab 88 [ptr p, .int .i64 x, .int .i64 y] h R = R (.bool (b.get x y).s) h := by
  have hlp := blk?_lt hb.blkp
  have hc := hb.frz.blkc
  rw [enter88, B88]
  by_cases hi : b.inb x y
  · obtain ⟨c1, c2, c3, c4⟩ := hb.cells hi
    simp [k_guard, hlp, at_in hb.frz hi, hc, c2, fin88]
  · simp [k_guard, hlp, at_out hb.frz hi, fin88, BS.get_out hi, Cell.zero]

theorem touched_c (hb : CB h f p c b) : Ret tab 90 [ptr p, .int .i64 x, .int .i64 y] h R = R (.bool (b.get x y).t) h := by
  have hlp := blk?_lt hb.blkp
  have hc := hb.frz.blkc
  rw [enter90, B90]
  by_cases hi : b.inb x y
  · obtain ⟨c1, c2, c3, c4⟩ := hb.cells hi
    simp [k_guard, hlp, at_in hb.frz hi, hc, c3, fin90]
  · simp [k_guard, hlp, at_out hb.frz hi, fin90, BS.get_out hi, Cell.zero]

theorem refined_c (hb : CB h f p c b) : Ret tab 92 [ptr p, .int .i64 x, .int .i64 y] h R = R (.bool (b.get x y).r) h := by
  have hlp := blk?_lt hb.blkp
  have hc := hb.frz.blkc
  rw [enter92, B92]
  by_cases hi : b.inb x y
  · obtain ⟨c1, c2, c3, c4⟩ := hb.cells hi
    simp [k_guard, hlp, at_in hb.frz hi, hc, c4, fin92]
  · simp [k_guard, hlp, at_out hb.frz hi, fin92, BS.get_out hi, Cell.zero]

theorem one_c (hb : CB h f p c b) : Ret tab 177 [ptr p, .int .i64 x, .int .i64 y] h R = R (.int .i64 (one b x y)) h := by
  have hlp := blk?_lt hb.blkp
  rw [enter177, B177]
  cases hs : (b.get x y).s <;> simp [hlp, significant_c hb.frz, hs, fin177, one]

theorem sign_c (hb : CB h f p c b) : Ret tab 181 [ptr p, .int .i64 x, .int .i64 y] h R = R (.int .i64 (sgn b x y)) h := by
  have hlp := blk?_lt hb.blkp
  have hc := hb.frz.blkc
  rw [enter181, B181]
  by_cases hi : b.inb x y
  · obtain ⟨c1, c2, c3, c4⟩ := hb.cells hi
    cases hs : (b.get x y).s
    · simp [k_guard, hlp, at_in hb.frz hi, hc, c1, c2, hs, fin181, sgn]
    · by_cases hv : (b.get x y).v < 0 <;> simp [k_guard, hlp, at_in hb.frz hi, hc, c1, c2, hs, hv, fin181, sgn]
  · simp [k_guard, hlp, at_out hb.frz hi, fin181, sgn, BS.get_out hi, Cell.zero]
end
theorem joint_eq (s t : Int) : joint s t = min (max (s + t) (-1)) 1 := rfl
theorem sgn_range (b : BS) (x y : Int) : sgn b x y = -1 ∨ sgn b x y = 0 ∨ sgn b x y = 1 := by
  unfold sgn; split <;> (try split) <;> simp
theorem one_le (b : BS) (x y : Int) : one b x y ≤ 1 := by
  unfold one; split <;> omega
theorem tmod4 {y : Int} (h : 0 ≤ y) : y.tmod 4 = y % 4 := Int.tmod_eq_emod_of_nonneg h

section
variable {h : Heap} {f : Bool} {p c : Nat} {b : BS} {x y : Int} {R : Value → Heap → Prop}

theorem nb_facts (b : BS) (x y : Int) : (one b (x - 1) y ≤ 1 ∧ one b (x + 1) y ≤ 1 ∧ one b x (y - 1) ≤ 1 ∧ one b x (y + 1) ≤ 1) ∧ (one b (x - 1) (y - 1) ≤ 1 ∧ one b (x + 1) (y - 1) ≤ 1 ∧ one b (x - 1) (y + 1) ≤ 1 ∧ one b (x + 1) (y + 1) ≤ 1) :=
  ⟨⟨one_le _ _ _, one_le _ _ _, one_le _ _ _, one_le _ _ _⟩, ⟨one_le _ _ _, one_le _ _ _, one_le _ _ _, one_le _ _ _⟩⟩
theorem wrapNN {a b : Nat} (h : a + b < 9223372036854775808) : IntKind.i64.wrap ((a : Int) + (b : Int)) = ((a + b : Nat) : Int) := by
  rw [← Int.natCast_add]; exact wrapN h
theorem BS.inb_range {b : BS} (ho : b.Ok) (hi : b.inb x y) : 0 ≤ x ∧ x < 64 ∧ 0 ≤ y ∧ y < 64 := by
  obtain ⟨h1, h2, h3, h4⟩ := hi
  have := ho.w2; have := ho.h2
  omega
theorem BS.wraps {b : BS} (ho : b.Ok) (hi : b.inb x y) : IntKind.i64.wrap (x - 1) = x - 1 ∧ IntKind.i64.wrap (x + 1) = x + 1 ∧ IntKind.i64.wrap (y - 1) = y - 1 ∧ IntKind.i64.wrap (y + 1) = y + 1 ∧ y.tmod 4 = y % 4 := by
  obtain ⟨h1, h2, h3, h4⟩ := BS.inb_range ho hi
  exact ⟨wrapI (by omega) (by omega), wrapI (by omega) (by omega), wrapI (by omega) (by omega), wrapI (by omega) (by omega), tmod4 h3⟩

theorem joint_c {s t : Int} (hs : s = -1 ∨ s = 0 ∨ s = 1) (ht : t = -1 ∨ t = 0 ∨ t = 1) : Ret tab 182 [.int .i64 s, .int .i64 t] h R = R (.int .i64 (joint s t)) h := by
  rw [enter182, B182]
  rcases hs with rfl | rfl | rfl <;> rcases ht with rfl | rfl | rfl <;> (simp [fold1, foldO, min2V, max2V, wrapI, fin182, joint]; try exact Iff.rfl)

theorem neighbors_c (hb : CB h f p c b) (hi : b.inb x y) (q : Bool) : Ret tab 157 [ptr p, .int .i64 x, .int .i64 y, .bool q] h R = R (.tuple #[.int .i64 (nbH b x y : Nat), .int .i64 (nbV b x y q : Nat), .int .i64 (nbD b x y q : Nat)]) h := by
  have hlp := blk?_lt hb.blkp
  have hlc := blk?_lt hb.blkc
  obtain ⟨w1, w2, w3, w4, w5⟩ := BS.wraps hb.ok hi
  have hn : ∀ x y R, Ret tab 177 [ptr p, .int .i64 x, .int .i64 y] (frz h) R = R (.int .i64 (one b x y)) (frz h) := fun x y R => one_c hb.frz
  have ha := fun R => at_in hb.frz hi (R := R)
  obtain ⟨⟨a1, a2, a3, a4⟩, ⟨b1, b2, b3, b4⟩⟩ := nb_facts b x y
  have s1 : IntKind.i64.wrap ((one b (x - 1) y : Int) + (one b (x + 1) y : Int)) = ((one b (x - 1) y + one b (x + 1) y : Nat) : Int) := wrapNN (by omega)
  have s2 : IntKind.i64.wrap ((one b (x - 1) (y - 1) : Int) + (one b (x + 1) (y - 1) : Int)) = ((one b (x - 1) (y - 1) + one b (x + 1) (y - 1) : Nat) : Int) := wrapNN (by omega)
  have s3 : IntKind.i64.wrap ((one b x (y - 1) : Int) + (one b x (y + 1) : Int)) = ((one b x (y - 1) + one b x (y + 1) : Nat) : Int) := wrapNN (by omega)
  have s4 : IntKind.i64.wrap (((one b (x - 1) (y - 1) + one b (x + 1) (y - 1) : Nat) : Int) + (one b (x - 1) (y + 1) : Int)) = ((one b (x - 1) (y - 1) + one b (x + 1) (y - 1) + one b (x - 1) (y + 1) : Nat) : Int) := wrapNN (by omega)
  have s5 : IntKind.i64.wrap (((one b (x - 1) (y - 1) + one b (x + 1) (y - 1) + one b (x - 1) (y + 1) : Nat) : Int) + (one b (x + 1) (y + 1) : Int)) = ((one b (x - 1) (y - 1) + one b (x + 1) (y - 1) + one b (x - 1) (y + 1) + one b (x + 1) (y + 1) : Nat) : Int) := wrapNN (by omega)
  have s6 : IntKind.i64.wrap ((one b (x - 1) (y + 1) : Int) + (one b (x + 1) (y + 1) : Int)) = ((one b (x - 1) (y + 1) + one b (x + 1) (y + 1) : Nat) : Int) := wrapNN (by omega)
  have s7 : IntKind.i64.wrap (((one b (x - 1) (y - 1) + one b (x + 1) (y - 1) : Nat) : Int) + ((one b (x - 1) (y + 1) + one b (x + 1) (y + 1) : Nat) : Int)) = ((one b (x - 1) (y - 1) + one b (x + 1) (y - 1) + (one b (x - 1) (y + 1) + one b (x + 1) (y + 1)) : Nat) : Int) := wrapNN (by omega)
  have hassoc : one b (x - 1) (y - 1) + one b (x + 1) (y - 1) + one b (x - 1) (y + 1) + one b (x + 1) (y + 1) = one b (x - 1) (y - 1) + one b (x + 1) (y - 1) + (one b (x - 1) (y + 1) + one b (x + 1) (y + 1)) := by omega
  have hg : nbH b x y = one b (x - 1) y + one b (x + 1) y := rfl
  rw [enter157, B157]
  generalize e1 : one b (x - 1) y = o1 at *
  generalize e2 : one b (x + 1) y = o2 at *
  generalize e3 : one b x (y - 1) = o3 at *
  generalize e4 : one b x (y + 1) = o4 at *
  generalize e5 : one b (x - 1) (y - 1) = o5 at *
  generalize e6 : one b (x + 1) (y - 1) = o6 at *
  generalize e7 : one b (x - 1) (y + 1) = o7 at *
  generalize e8 : one b (x + 1) (y + 1) = o8 at *
  rw [hassoc] at s5
  cases q
  · simp [-Int.natCast_add, k_guard, hlp, hlc, ha, hn, w1, w2, w3, w4, w5, e1, e2, e3, e4, e5, e6, e7, e8, s1, s2, s3, s4, s5, s6, s7, fin157, nbH, nbV, nbD]
  · by_cases hy : y % 4 = 3
    · have hy' : (y % 4 != 3) = false := by simp [hy]
      simp [-Int.natCast_add, k_guard, hlp, hlc, ha, hn, w1, w2, w3, w4, w5, e1, e2, e3, e4, e5, e6, e7, e8, s1, s2, s3, s4, s5, s6, s7, hy, hy', fin157, nbH, nbV, nbD]
    · have hy' : (y % 4 != 3) = true := by simp [hy]
      simp [-Int.natCast_add, k_guard, hlp, hlc, ha, hn, w1, w2, w3, w4, w5, e1, e2, e3, e4, e5, e6, e7, e8, s1, s2, s3, s4, s5, s6, s7, hy, hy', fin157, nbH, nbV, nbD]

theorem signs_c (hb : CB h f p c b) (hi : b.inb x y) (q : Bool) : Ret tab 160 [ptr p, .int .i64 x, .int .i64 y, .bool q] h R = R (.tuple #[.int .i64 (sgH b x y), .int .i64 (sgV b x y q)]) h := by
  have hlp := blk?_lt hb.blkp
  have hlc := blk?_lt hb.blkc
  obtain ⟨w1, w2, w3, w4, w5⟩ := BS.wraps hb.ok hi
  have hn : ∀ x y R, Ret tab 181 [ptr p, .int .i64 x, .int .i64 y] (frz h) R = R (.int .i64 (sgn b x y)) (frz h) := fun x y R => sign_c hb.frz
  have ha := fun R => at_in hb.frz hi (R := R)
  have j1 : ∀ R, Ret tab 182 [.int .i64 (sgn b (x - 1) y), .int .i64 (sgn b (x + 1) y)] (frz h) R = R (.int .i64 (joint (sgn b (x - 1) y) (sgn b (x + 1) y))) (frz h) := fun R => joint_c (sgn_range _ _ _) (sgn_range _ _ _)
  have j2 : ∀ R, Ret tab 182 [.int .i64 (sgn b x (y - 1)), .int .i64 (sgn b x (y + 1))] (frz h) R = R (.int .i64 (joint (sgn b x (y - 1)) (sgn b x (y + 1)))) (frz h) := fun R => joint_c (sgn_range _ _ _) (sgn_range _ _ _)
  have j3 : ∀ R, Ret tab 182 [.int .i64 (sgn b x (y - 1)), .int .i64 0] (frz h) R = R (.int .i64 (joint (sgn b x (y - 1)) 0)) (frz h) := fun R => joint_c (sgn_range _ _ _) (.inr (.inl rfl))
  rw [enter160, B160]
  cases q
  · simp [k_guard, hlp, hlc, ha, hn, w1, w2, w3, w4, w5, j1, j2, j3, fin160, sgH, sgV]
  · by_cases hy : y % 4 = 3
    · have hy' : (y % 4 != 3) = false := by simp [hy]
      have hy2 : (y % 4 == 3) = true := by simp [hy]
      simp [k_guard, hlp, hlc, ha, hn, w1, w2, w3, w4, w5, hy, hy', hy2, j1, j2, j3, fin160, sgH, sgV]
    · have hy' : (y % 4 != 3) = true := by simp [hy]
      have hy2 : (y % 4 == 3) = false := by simp [hy]
      simp [k_guard, hlp, hlc, ha, hn, w1, w2, w3, w4, w5, hy, hy', hy2, j1, j2, j3, fin160, sgH, sgV]

theorem set_c (hb : CB h false p c b) (hi : b.inb x y) {v : Int} (hv : -1152921504606846976 < v ∧ v < 1152921504606846976) : Ret tab 65 [ptr p, .int .i64 x, .int .i64 y, .int .i64 v] h R = R (.int .i64 0) (h.set c (some ⟨false, encC (b.upd x y fun z => { z with v := v }).cs⟩)) := by
  have hlp := blk?_lt hb.blkp
  have hc := hb.blkc
  have hl := BS.idx_lt hb.ok hi
  have hg := BS.getElem_in hb.ok hi
  have h4 : b.idx x y * 4 + 1 ≤ (encC b.cs).length := by rw [encC_len]; omega
  have hset := encC_set1 hl (v := v)
  rw [hg] at hset
  rw [enter65, B65]
  simp [k_guard, hlp, at_in hb hi, hc, h4, hset, show ¬ 1152921504606846975 < v by omega, show ¬ v < -1152921504606846975 by omega, fin65, BS.upd]

theorem mark_c (hb : CB h false p c b) (hi : b.inb x y) : Ret tab 67 [ptr p, .int .i64 x, .int .i64 y] h R = R (.int .i64 0) (h.set c (some ⟨false, encC (b.upd x y fun z => { z with s := true }).cs⟩)) := by
  have hlp := blk?_lt hb.blkp
  have hc := hb.blkc
  have hl := BS.idx_lt hb.ok hi
  have hg := BS.getElem_in hb.ok hi
  have h4 : b.idx x y * 4 + 2 ≤ (encC b.cs).length := by rw [encC_len]; omega
  have hset := encC_set2 hl (b := true)
  rw [hg] at hset
  rw [enter67, B67]
  simp [k_guard, hlp, at_in hb hi, hc, h4, hset, fin67, BS.upd]

theorem touch_c (hb : CB h false p c b) (hi : b.inb x y) {v : Bool} : Ret tab 69 [ptr p, .int .i64 x, .int .i64 y, .bool v] h R = R (.int .i64 0) (h.set c (some ⟨false, encC (b.upd x y fun z => { z with t := v }).cs⟩)) := by
  have hlp := blk?_lt hb.blkp
  have hc := hb.blkc
  have hl := BS.idx_lt hb.ok hi
  have hg := BS.getElem_in hb.ok hi
  have h4 : b.idx x y * 4 + 3 ≤ (encC b.cs).length := by rw [encC_len]; omega
  have hset := encC_set3 hl (b := v)
  rw [hg] at hset
  rw [enter69, B69]
  simp [k_guard, hlp, at_in hb hi, hc, h4, hset, fin69, BS.upd]

theorem refine_c (hb : CB h false p c b) (hi : b.inb x y) : Ret tab 71 [ptr p, .int .i64 x, .int .i64 y] h R = R (.int .i64 0) (h.set c (some ⟨false, encC (b.upd x y fun z => { z with r := true }).cs⟩)) := by
  have hlp := blk?_lt hb.blkp
  have hc := hb.blkc
  have hl := BS.idx_lt hb.ok hi
  have hg := BS.getElem_in hb.ok hi
  have h4 : b.idx x y * 4 + 4 ≤ (encC b.cs).length := by rw [encC_len]; omega
  have hset := encC_set4 hl (b := true)
  rw [hg] at hset
  rw [enter71, B71]
  simp [k_guard, hlp, at_in hb hi, hc, h4, hset, fin71, BS.upd]
end
section
variable {h : Heap} {f : Bool} {p c : Nat} {b : BS} {x y : Int} {R : Value → Heap → Prop}

theorem BS.Ok.pos {b : BS} (ho : b.Ok) : 0 < b.w * b.h := Nat.mul_pos ho.w1 ho.h1

theorem made_r (hb : CB h f p c b) : Ret tab 126 [ptr p] h R = R (.bool true) h := by
  have hp := hb.frz.blkp
  have hlp := blk?_lt hb.blkp
  have h1 : (0 : Int) < (b.w : Int) * b.h := by rw [← Int.natCast_mul]; exact Int.natCast_pos.2 hb.ok.pos
  rw [enter126, B126]
  simp [k_guard, hp, hlp, h1, fin126]

theorem in_r (hb : CB h f p c b) (hi : b.inb x y) : Ret tab 156 [ptr p, .int .i64 x, .int .i64 y] h R = R (.bool true) h := by
  have hp := hb.frz.blkp
  have hlp := blk?_lt hb.blkp
  obtain ⟨h1, h2, h3, h4⟩ := hi
  rw [enter156, B156]
  simp [k_guard, hp, hlp, made_r hb.frz, h1, h2, h3, h4, fin156]

theorem in_out_r (hb : CB h f p c b) (hi : ¬ b.inb x y) : Ret tab 156 [ptr p, .int .i64 x, .int .i64 y] h R = R (.bool false) h := by
  have hp := hb.frz.blkp
  have hlp := blk?_lt hb.blkp
  rw [enter156, B156]
  by_cases n1 : 0 ≤ x
  · by_cases n2 : x < (b.w : Int)
    · by_cases n3 : 0 ≤ y
      · by_cases n4 : y < (b.h : Int)
        · exact absurd ⟨n1, n2, n3, n4⟩ hi
        · simp [k_guard, hp, hlp, made_r hb.frz, n1, n2, n3, n4, fin156]
      · simp [k_guard, hp, hlp, made_r hb.frz, n1, n2, n3, fin156]
    · simp [k_guard, hp, hlp, made_r hb.frz, n1, n2, fin156]
  · simp [k_guard, hp, hlp, made_r hb.frz, n1, fin156]

theorem error_r (hb : CB h f p c b) (hi : b.inb x y) : Ret tab 118 [ptr p, .int .i64 x, .int .i64 y] h R = R (.int .i64 0) h := by
  have hlp := blk?_lt hb.blkp
  rw [enter118, B118]
  simp [hlp, made_r hb.frz, in_r hb.frz hi, fin118]

def Cell.agg (c : Cell) : Value := .agg #[.int .i64 c.v, .bool c.s, .bool c.t, .bool c.r]

theorem get_r (hb : CB h f p c b) : Ret tab 133 [ptr p, .int .i64 x, .int .i64 y] h R = R (b.get x y).agg h := by
  have hp := hb.frz.blkp
  have hc := hb.frz.blkc
  have hlp := blk?_lt hb.blkp
  have hlc := blk?_lt hb.blkc
  have hb1 : CB (frz h ++ [some ⟨false, [.int .i64 0, .bool false, .bool false, .bool false]⟩]) true p c b := ⟨blk?_push hp, blk?_push hc, hb.ok⟩
  have hp1 := hb1.blkp
  have hc1 := hb1.blkc
  have hn : ∀ y : Blk, blk? (frz h ++ [some y]) h.length = some y := fun y => by
    have := blk?_push_eq (h := frz h) (x := some y)
    rwa [len_frz] at this
  have hls : ∀ x : Option Blk, ((frz h) ++ [x]).length = h.length + 1 := fun x => by simp
  rw [enter133, B133]
  by_cases hi : b.inb x y
  · obtain ⟨a1, a2, a3, a4⟩ := hb.at hi
    have hd := encC_drop b.cs (b.idx x y) a3
    rw [BS.getElem_in hb.ok hi] at hd
    have h4 : b.idx x y * 4 + 4 ≤ (encC b.cs).length := by rw [encC_len]; omega
    rw [Int.natCast_mul] at a2
    simp [-List.cons_append, -List.append_assoc, in_r hb1 hi, hp1, hc1, a1, a2, hd, h4, hn, hls, hlp, show p < h.length + 1 by omega, Cell.enc, finishV, allSome, resV, R133, blk?_set_eq, Cell.agg]
  · simp [in_out_r hb1 hi, hn, hls, hlp, show p < h.length + 1 by omega, finishV, allSome, resV, R133, blk?_set_eq, Cell.agg, BS.get_out hi, Cell.zero]

theorem size_r (hb : CB h f p c b) : Ret tab 80 [ptr p] h R = R (.tuple #[.int .i64 b.w, .int .i64 b.h]) h := by
  have hp := hb.frz.blkp
  have hlp := blk?_lt hb.blkp
  rw [enter80, B80]
  simp [hp, hlp, made_r hb.frz, fin80]

theorem value_r (hb : CB h f p c b) : Ret tab 87 [ptr p, .int .i64 x, .int .i64 y] h R = R (.int .i64 (b.get x y).v) h := by
  have hlp := blk?_lt hb.blkp
  rw [enter87, B87]
  simp [hlp, get_r hb.frz, Cell.agg, fin87]
theorem significant_r (hb : CB h f p c b) : Ret tab 89 [ptr p, .int .i64 x, .int .i64 y] h R = R (.bool (b.get x y).s) h := by
  have hlp := blk?_lt hb.blkp
  rw [enter89, B89]
  simp [hlp, get_r hb.frz, Cell.agg, fin89]
theorem touched_r (hb : CB h f p c b) : Ret tab 91 [ptr p, .int .i64 x, .int .i64 y] h R = R (.bool (b.get x y).t) h := by
  have hlp := blk?_lt hb.blkp
  rw [enter91, B91]
  simp [hlp, get_r hb.frz, Cell.agg, fin91]
theorem refined_r (hb : CB h f p c b) : Ret tab 93 [ptr p, .int .i64 x, .int .i64 y] h R = R (.bool (b.get x y).r) h := by
  have hlp := blk?_lt hb.blkp
  rw [enter93, B93]
  simp [hlp, get_r hb.frz, Cell.agg, fin93]
theorem count_r (hb : CB h f p c b) : Ret tab 183 [ptr p, .int .i64 x, .int .i64 y] h R = R (.int .i64 (one b x y)) h := by
  have hlp := blk?_lt hb.blkp
  rw [enter183, B183]
  cases hs : (b.get x y).s <;> simp [hlp, get_r hb.frz, Cell.agg, hs, fin183, one]
theorem sign_r (hb : CB h f p c b) : Ret tab 192 [ptr p, .int .i64 x, .int .i64 y] h R = R (.int .i64 (sgn b x y)) h := by
  have hlp := blk?_lt hb.blkp
  have hn : ∀ y : Blk, blk? (frz h ++ [some y]) h.length = some y := fun y => by
    have := blk?_push_eq (h := frz h) (x := some y)
    rwa [len_frz] at this
  rw [enter192, B192]
  cases hs : (b.get x y).s
  · simp [k_guard, hlp, get_r hb.frz, Cell.agg, hs, hn, fin192, sgn, blk?_set_eq]
  · by_cases hv : (b.get x y).v < 0 <;> simp [k_guard, hlp, get_r hb.frz, Cell.agg, hs, hv, hn, fin192, sgn, blk?_set_eq]

theorem limit13_r {v lo hi : Int} : Ret tab 184 [.int .i64 v, .int .i64 lo, .int .i64 hi] h R = R (.int .i64 (min (max v lo) hi)) h := by
  rw [enter184, B184]
  simp [fold1, foldO, min2V, max2V, fin184]
  refine Iff.of_eq (congrArg (fun n => R (.int .i64 n) h) ?_)
  split <;> split <;> omega
theorem limit_c {v lo hi : Int} : Ret tab 178 [.int .i64 v, .int .i64 lo, .int .i64 hi] h R = R (.int .i64 (min (max v lo) hi)) h := by
  rw [enter178, B178]
  simp [fold1, foldO, min2V, max2V, fin178]
  refine Iff.of_eq (congrArg (fun n => R (.int .i64 n) h) ?_)
  split <;> split <;> omega
theorem contribution_r {s t : Int} (hs : s = -1 ∨ s = 0 ∨ s = 1) (ht : t = -1 ∨ t = 0 ∨ t = 1) : Ret tab 193 [.int .i64 s, .int .i64 t] h R = R (.int .i64 (joint s t)) h := by
  rw [enter193, B193]
  rcases hs with rfl | rfl | rfl <;> rcases ht with rfl | rfl | rfl <;> (simp [k_guard, limit13_r, wrapI, fin193, joint]; try exact Iff.rfl)

theorem neighbors_r (hb : CB h f p c b) (hi : b.inb x y) (q : Bool) : Ret tab 161 [ptr p, .int .i64 x, .int .i64 y, .bool q] h R = R (.tuple #[.int .i64 (nbH b x y : Nat), .int .i64 (nbV b x y q : Nat), .int .i64 (nbD b x y q : Nat)]) h := by
  have hlp := blk?_lt hb.blkp
  have hlc := blk?_lt hb.blkc
  obtain ⟨w1, w2, w3, w4, w5⟩ := BS.wraps hb.ok hi
  have hn : ∀ x y R, Ret tab 183 [ptr p, .int .i64 x, .int .i64 y] (frz h) R = R (.int .i64 (one b x y)) (frz h) := fun x y R => count_r hb.frz
  have ha := fun R => in_r hb.frz hi (R := R)
  obtain ⟨⟨a1, a2, a3, a4⟩, ⟨b1, b2, b3, b4⟩⟩ := nb_facts b x y
  have s1 : IntKind.i64.wrap ((one b (x - 1) y : Int) + (one b (x + 1) y : Int)) = ((one b (x - 1) y + one b (x + 1) y : Nat) : Int) := wrapNN (by omega)
  have s2 : IntKind.i64.wrap ((one b (x - 1) (y - 1) : Int) + (one b (x + 1) (y - 1) : Int)) = ((one b (x - 1) (y - 1) + one b (x + 1) (y - 1) : Nat) : Int) := wrapNN (by omega)
  have s3 : IntKind.i64.wrap ((one b x (y - 1) : Int) + (one b x (y + 1) : Int)) = ((one b x (y - 1) + one b x (y + 1) : Nat) : Int) := wrapNN (by omega)
  have s4 : IntKind.i64.wrap (((one b (x - 1) (y - 1) + one b (x + 1) (y - 1) : Nat) : Int) + (one b (x - 1) (y + 1) : Int)) = ((one b (x - 1) (y - 1) + one b (x + 1) (y - 1) + one b (x - 1) (y + 1) : Nat) : Int) := wrapNN (by omega)
  have s5 : IntKind.i64.wrap (((one b (x - 1) (y - 1) + one b (x + 1) (y - 1) + one b (x - 1) (y + 1) : Nat) : Int) + (one b (x + 1) (y + 1) : Int)) = ((one b (x - 1) (y - 1) + one b (x + 1) (y - 1) + one b (x - 1) (y + 1) + one b (x + 1) (y + 1) : Nat) : Int) := wrapNN (by omega)
  have s6 : IntKind.i64.wrap ((one b (x - 1) (y + 1) : Int) + (one b (x + 1) (y + 1) : Int)) = ((one b (x - 1) (y + 1) + one b (x + 1) (y + 1) : Nat) : Int) := wrapNN (by omega)
  have s7 : IntKind.i64.wrap (((one b (x - 1) (y - 1) + one b (x + 1) (y - 1) : Nat) : Int) + ((one b (x - 1) (y + 1) + one b (x + 1) (y + 1) : Nat) : Int)) = ((one b (x - 1) (y - 1) + one b (x + 1) (y - 1) + (one b (x - 1) (y + 1) + one b (x + 1) (y + 1)) : Nat) : Int) := wrapNN (by omega)
  have hassoc : one b (x - 1) (y - 1) + one b (x + 1) (y - 1) + one b (x - 1) (y + 1) + one b (x + 1) (y + 1) = one b (x - 1) (y - 1) + one b (x + 1) (y - 1) + (one b (x - 1) (y + 1) + one b (x + 1) (y + 1)) := by omega
  have hg : nbH b x y = one b (x - 1) y + one b (x + 1) y := rfl
  rw [enter161, B161]
  generalize e1 : one b (x - 1) y = o1 at *
  generalize e2 : one b (x + 1) y = o2 at *
  generalize e3 : one b x (y - 1) = o3 at *
  generalize e4 : one b x (y + 1) = o4 at *
  generalize e5 : one b (x - 1) (y - 1) = o5 at *
  generalize e6 : one b (x + 1) (y - 1) = o6 at *
  generalize e7 : one b (x - 1) (y + 1) = o7 at *
  generalize e8 : one b (x + 1) (y + 1) = o8 at *
  rw [hassoc] at s5
  cases q
  · simp [-Int.natCast_add, k_guard, hlp, hlc, ha, hn, w1, w2, w3, w4, w5, e1, e2, e3, e4, e5, e6, e7, e8, s1, s2, s3, s4, s5, s6, s7, fin161, nbH, nbV, nbD]
  · by_cases hy : y % 4 = 3
    · have hy' : (y % 4 != 3) = false := by simp [hy]
      simp [-Int.natCast_add, k_guard, hlp, hlc, ha, hn, w1, w2, w3, w4, w5, e1, e2, e3, e4, e5, e6, e7, e8, s1, s2, s3, s4, s5, s6, s7, hy, hy', fin161, nbH, nbV, nbD]
    · have hy' : (y % 4 != 3) = true := by simp [hy]
      simp [-Int.natCast_add, k_guard, hlp, hlc, ha, hn, w1, w2, w3, w4, w5, e1, e2, e3, e4, e5, e6, e7, e8, s1, s2, s3, s4, s5, s6, s7, hy, hy', fin161, nbH, nbV, nbD]

theorem signs_r (hb : CB h f p c b) (hi : b.inb x y) (q : Bool) : Ret tab 187 [ptr p, .int .i64 x, .int .i64 y, .bool q] h R = R (.tuple #[.int .i64 (sgH b x y), .int .i64 (sgV b x y q)]) h := by
  have hlp := blk?_lt hb.blkp
  have hlc := blk?_lt hb.blkc
  obtain ⟨w1, w2, w3, w4, w5⟩ := BS.wraps hb.ok hi
  have hn : ∀ x y R, Ret tab 192 [ptr p, .int .i64 x, .int .i64 y] (frz h) R = R (.int .i64 (sgn b x y)) (frz h) := fun x y R => sign_r hb.frz
  have ha := fun R => in_r hb.frz hi (R := R)
  have j1 : ∀ R, Ret tab 193 [.int .i64 (sgn b (x - 1) y), .int .i64 (sgn b (x + 1) y)] (frz h) R = R (.int .i64 (joint (sgn b (x - 1) y) (sgn b (x + 1) y))) (frz h) := fun R => contribution_r (sgn_range _ _ _) (sgn_range _ _ _)
  have j2 : ∀ R, Ret tab 193 [.int .i64 (sgn b x (y - 1)), .int .i64 (sgn b x (y + 1))] (frz h) R = R (.int .i64 (joint (sgn b x (y - 1)) (sgn b x (y + 1)))) (frz h) := fun R => contribution_r (sgn_range _ _ _) (sgn_range _ _ _)
  have j3 : ∀ R, Ret tab 193 [.int .i64 (sgn b x (y - 1)), .int .i64 0] (frz h) R = R (.int .i64 (joint (sgn b x (y - 1)) 0)) (frz h) := fun R => contribution_r (sgn_range _ _ _) (.inr (.inl rfl))
  rw [enter187, B187]
  cases q
  · simp [k_guard, hlp, hlc, ha, hn, w1, w2, w3, w4, w5, j1, j2, j3, fin187, sgH, sgV]
  · by_cases hy : y % 4 = 3
    · have hy' : (y % 4 != 3) = false := by simp [hy]
      have hy2 : (y % 4 == 3) = true := by simp [hy]
      simp [k_guard, hlp, hlc, ha, hn, w1, w2, w3, w4, w5, hy, hy', hy2, j1, j2, j3, fin187, sgH, sgV]
    · have hy' : (y % 4 != 3) = true := by simp [hy]
      have hy2 : (y % 4 == 3) = false := by simp [hy]
      simp [k_guard, hlp, hlc, ha, hn, w1, w2, w3, w4, w5, hy, hy', hy2, j1, j2, j3, fin187, sgH, sgV]


theorem set_r (hb : CB h false p c b) (hi : b.inb x y) {v : Int} (hv : -1152921504606846976 < v ∧ v < 1152921504606846976) : Ret tab 66 [ptr p, .int .i64 x, .int .i64 y, .int .i64 v] h R = R (.int .i64 0) (h.set c (some ⟨false, encC (b.upd x y fun z => { z with v := v }).cs⟩)) := by
  have hlp := blk?_lt hb.blkp
  have hp := hb.blkp
  have hc := hb.blkc
  have hl := BS.idx_lt hb.ok hi
  have hg := BS.getElem_in hb.ok hi
  obtain ⟨a1, a2, a3, a4⟩ := hb.at hi
  have h4 : b.idx x y * 4 + 1 ≤ (encC b.cs).length := by rw [encC_len]; omega
  have hset := encC_set1 hl (v := v)
  rw [hg] at hset
  rw [Int.natCast_mul] at a2
  rw [enter66, B66]
  simp [k_guard, hlp, error_r hb hi, hp, hc, a1, a2, h4, hset, show ¬ 1152921504606846976 ≤ v by omega, show ¬ v ≤ -1152921504606846976 by omega, fin66, BS.upd]

theorem mark_r (hb : CB h false p c b) (hi : b.inb x y) : Ret tab 68 [ptr p, .int .i64 x, .int .i64 y] h R = R (.int .i64 0) (h.set c (some ⟨false, encC (b.upd x y fun z => { z with s := true }).cs⟩)) := by
  have hlp := blk?_lt hb.blkp
  have hp := hb.blkp
  have hc := hb.blkc
  have hl := BS.idx_lt hb.ok hi
  have hg := BS.getElem_in hb.ok hi
  obtain ⟨a1, a2, a3, a4⟩ := hb.at hi
  have h4 : b.idx x y * 4 + 2 ≤ (encC b.cs).length := by rw [encC_len]; omega
  have hset := encC_set2 hl (b := true)
  rw [hg] at hset
  rw [Int.natCast_mul] at a2
  rw [enter68, B68]
  simp [k_guard, hlp, error_r hb hi, hp, hc, a1, a2, h4, hset, fin68, BS.upd]

theorem touch_r (hb : CB h false p c b) (hi : b.inb x y) {v : Bool} : Ret tab 70 [ptr p, .int .i64 x, .int .i64 y, .bool v] h R = R (.int .i64 0) (h.set c (some ⟨false, encC (b.upd x y fun z => { z with t := v }).cs⟩)) := by
  have hlp := blk?_lt hb.blkp
  have hp := hb.blkp
  have hc := hb.blkc
  have hl := BS.idx_lt hb.ok hi
  have hg := BS.getElem_in hb.ok hi
  obtain ⟨a1, a2, a3, a4⟩ := hb.at hi
  have h4 : b.idx x y * 4 + 3 ≤ (encC b.cs).length := by rw [encC_len]; omega
  have hset := encC_set3 hl (b := v)
  rw [hg] at hset
  rw [Int.natCast_mul] at a2
  rw [enter70, B70]
  simp [k_guard, hlp, error_r hb hi, hp, hc, a1, a2, h4, hset, fin70, BS.upd]

theorem refine_r (hb : CB h false p c b) (hi : b.inb x y) : Ret tab 72 [ptr p, .int .i64 x, .int .i64 y] h R = R (.int .i64 0) (h.set c (some ⟨false, encC (b.upd x y fun z => { z with r := true }).cs⟩)) := by
  have hlp := blk?_lt hb.blkp
  have hp := hb.blkp
  have hc := hb.blkc
  have hl := BS.idx_lt hb.ok hi
  have hg := BS.getElem_in hb.ok hi
  obtain ⟨a1, a2, a3, a4⟩ := hb.at hi
  have h4 : b.idx x y * 4 + 4 ≤ (encC b.cs).length := by rw [encC_len]; omega
  have hset := encC_set4 hl (b := true)
  rw [hg] at hset
  rw [Int.natCast_mul] at a2
  rw [enter72, B72]
  simp [k_guard, hlp, error_r hb hi, hp, hc, a1, a2, h4, hset, fin72, BS.upd]
end
def strt (p s d : Nat) : Nat := if p = 2 then 8 else if p = 1 then (if 0 < s then 7 else 5 + min d 1) else if 0 < s then 2 + s else min d 2
def diag (n d : Nat) : Nat := if 3 ≤ d then 8 else if d = 2 then 6 + min n 1 else 3 * d + min n 2
/-- The context of a bit. -/
def sigCtx (o h v d : Nat) : Nat := if o = 3 then diag (h + v) d else if o = 1 then strt v h d else strt h v d
/-- The context of a sign, and whether it is turned. -/
def signCtx (h v : Int) : Nat := if h < 0 ∨ h = 0 ∧ v < 0 then (9 - 3 * h - v).toNat else (9 + 3 * h + v).toNat
def signFlip (h v : Int) : Nat := if h < 0 ∨ h = 0 ∧ v < 0 then 1 else 0
def refCtx (first near : Bool) : Nat := if first = true then (if near = true then 15 else 14) else 16


section
variable {h : Heap} {R : Value → Heap → Prop}
theorem le2 {n : Nat} (h : n ≤ 2) : n = 0 ∨ n = 1 ∨ n = 2 := by omega
theorem le4 {n : Nat} (h : n ≤ 4) : n = 0 ∨ n = 1 ∨ n = 2 ∨ n = 3 ∨ n = 4 := by omega
theorem minN {d k : Nat} : (if (k : Int) < (d : Int) then (k : Int) else (d : Int)) = ((min d k : Nat) : Int) := by split <;> omega
theorem min0 {d k : Nat} : (min (d : Int) (k : Int)) = ((min d k : Nat) : Int) := by omega
theorem lim0 {d k : Nat} (hd : d ≤ k) : min (max (d : Int) 0) (k : Int) = (d : Int) := by omega
theorem lim02 {d : Nat} (hd : d ≤ 2) : min (d : Int) 2 = (d : Int) := by omega
theorem lim04 {d : Nat} (hd : d ≤ 4) : min (d : Int) 4 = (d : Int) := by omega
theorem mm1 : min (-1 : Int) 1 = -1 := by decide
theorem mm2 : max (0 : Int) (-1) = 0 := by decide
theorem mm3 : max (1 : Int) (-1) = 1 := by decide
theorem mm4 : min (0 : Int) 1 = 0 := by decide
theorem mm5 : min (1 : Int) 1 = 1 := by decide
theorem limS {s : Int} (hs : s = -1 ∨ s = 0 ∨ s = 1) : min (max s (-1)) 1 = s := by omega

theorem straight_c {p s d : Nat} (hp : p ≤ 2) (hs : s ≤ 2) (hd : d ≤ 4) : Ret tab 180 [.int .i64 p, .int .i64 s, .int .i64 d] h R = R (.int .i64 (strt p s d)) h := by
  rw [enter180, B180]
  rcases le2 hp with rfl | rfl | rfl <;> rcases le2 hs with rfl | rfl | rfl <;> rcases le4 hd with rfl | rfl | rfl | rfl | rfl <;> (simp [k_guard, fold1, foldO, min2V, wrapI, fin180, strt]; try exact Iff.rfl)
theorem straight_r {p s d : Nat} (hp : p ≤ 2) (hs : s ≤ 2) (hd : d ≤ 4) : Ret tab 186 [.int .i64 p, .int .i64 s, .int .i64 d] h R = R (.int .i64 (strt p s d)) h := by
  rw [enter186, B186]
  rcases le2 hp with rfl | rfl | rfl <;> rcases le2 hs with rfl | rfl | rfl <;> rcases le4 hd with rfl | rfl | rfl | rfl | rfl <;> (simp [k_guard, fold1, foldO, min2V, wrapI, fin186, strt]; try exact Iff.rfl)
theorem diagonal_c {n d : Nat} (hn : n ≤ 4) (hd : d ≤ 4) : Ret tab 179 [.int .i64 n, .int .i64 d] h R = R (.int .i64 (diag n d)) h := by
  have hls : ∀ x : Option Blk, ((frz h) ++ [x]).length = h.length + 1 := fun x => by simp
  have hnn : ∀ y : Blk, blk? (frz h ++ [some y]) h.length = some y := fun y => by
    have := blk?_push_eq (h := frz h) (x := some y)
    rwa [len_frz] at this
  rw [enter179, B179]
  rcases le4 hn with rfl | rfl | rfl | rfl | rfl <;> rcases le4 hd with rfl | rfl | rfl | rfl | rfl <;> (simp [hls, hnn, fold1, foldO, min2V, wrapI, fin179, diag]; try exact Iff.rfl)
theorem diagonal_r {n d : Nat} (hn : n ≤ 4) (hd : d ≤ 4) : Ret tab 185 [.int .i64 n, .int .i64 d] h R = R (.int .i64 (diag n d)) h := by
  rw [enter185, B185]
  rcases le4 hn with rfl | rfl | rfl | rfl | rfl <;> rcases le4 hd with rfl | rfl | rfl | rfl | rfl <;> (simp [fold1, foldO, min2V, wrapI, fin185, diag]; try exact Iff.rfl)
theorem significance_c {o a b d : Nat} (ho : o ≤ 3) (ha : a ≤ 2) (hb : b ≤ 2) (hd : d ≤ 4) : Ret tab 158 [.int .i64 o, .int .i64 a, .int .i64 b, .int .i64 d] h R = R (.int .i64 (sigCtx o a b d)) h := by
  have hs : IntKind.i64.wrap ((a : Int) + (b : Int)) = ((a + b : Nat) : Int) := wrapNN (by omega)
  have hdg := fun R => diagonal_c (h := frz h) (R := R) (n := a + b) (d := d) (by omega) hd
  have ho' : o = 0 ∨ o = 1 ∨ o = 2 ∨ o = 3 := by omega
  rw [enter158, B158]
  rcases ho' with rfl | rfl | rfl | rfl <;> simp [-Int.natCast_add, limit_c, lim02 ha, lim02 hb, lim04 hd, hs, hdg, straight_c ha hb hd, straight_c hb ha hd, fin158, sigCtx]
theorem significance_r {o a b d : Nat} (ho : o ≤ 3) (ha : a ≤ 2) (hb : b ≤ 2) (hd : d ≤ 4) : Ret tab 162 [.int .i64 o, .int .i64 a, .int .i64 b, .int .i64 d] h R = R (.int .i64 (sigCtx o a b d)) h := by
  have hs : IntKind.i64.wrap ((a : Int) + (b : Int)) = ((a + b : Nat) : Int) := wrapNN (by omega)
  have hdg := fun R => diagonal_r (h := frz h) (R := R) (n := a + b) (d := d) (by omega) hd
  have ho' : o = 0 ∨ o = 1 ∨ o = 2 ∨ o = 3 := by omega
  rw [enter162, B162]
  rcases ho' with rfl | rfl | rfl | rfl <;> simp [-Int.natCast_add, limit13_r, lim02 ha, lim02 hb, lim04 hd, hs, hdg, straight_r ha hb hd, straight_r hb ha hd, fin162, sigCtx]
theorem ctxSign_c {s t : Int} (hs : s = -1 ∨ s = 0 ∨ s = 1) (ht : t = -1 ∨ t = 0 ∨ t = 1) : Ret tab 159 [.int .i64 s, .int .i64 t] h R = R (.tuple #[.int .i64 (signCtx s t), .int .i64 (signFlip s t)]) h := by
  have hls : ∀ x : Option Blk, ((frz h) ++ [x]).length = h.length + 1 := fun x => by simp
  have hnn : ∀ y : Blk, blk? (frz h ++ [some y]) h.length = some y := fun y => by
    have := blk?_push_eq (h := frz h) (x := some y)
    rwa [len_frz] at this
  rw [enter159, B159]
  rcases hs with rfl | rfl | rfl <;> rcases ht with rfl | rfl | rfl <;> (simp [k_guard, k_guardU, hls, hnn, limit_c, mm1, mm2, mm3, mm4, mm5, wrapI, fin159, signCtx, signFlip]; try exact Iff.rfl)
theorem ctxSign_r1 {s t : Int} (hs : s = -1 ∨ s = 0 ∨ s = 1) (ht : t = -1 ∨ t = 0 ∨ t = 1) (hn : ¬ (s < 0 ∨ s = 0 ∧ t < 0)) : Ret tab 188 [.int .i64 s, .int .i64 t] h R = R (.tuple #[.int .i64 (signCtx s t), .int .i64 0]) h := by
  rw [enter188, B188]
  rcases hs with rfl | rfl | rfl <;> rcases ht with rfl | rfl | rfl <;> first | exact absurd (by decide) hn | (simp [k_guard, k_guardU, limit13_r, mm1, mm2, mm3, mm4, mm5, wrapI, fin188, signCtx, signFlip]; try exact Iff.rfl)
theorem ctxSign_r {s t : Int} (hs : s = -1 ∨ s = 0 ∨ s = 1) (ht : t = -1 ∨ t = 0 ∨ t = 1) : Ret tab 188 [.int .i64 s, .int .i64 t] h R = R (.tuple #[.int .i64 (signCtx s t), .int .i64 (signFlip s t)]) h := by
  by_cases hn : s < 0 ∨ s = 0 ∧ t < 0
  · have h1 := fun R => ctxSign_r1 (h := frz h) (R := R) (s := 0 - s) (t := 0 - t) (by omega) (by omega) (by omega)
    rw [enter188, B188]
    rcases hs with rfl | rfl | rfl <;> rcases ht with rfl | rfl | rfl <;> first | exact absurd hn (by decide) | (simp at h1; simp [k_guard, k_guardU, limit13_r, mm1, mm2, mm3, mm4, mm5, wrapI, h1, fin188, signCtx, signFlip]; try exact Iff.rfl)
  · rw [ctxSign_r1 hs ht hn]
    simp [signFlip, hn]
theorem ctxRefine_c {a b : Bool} : Ret tab 122 [.bool a, .bool b] h R = R (.int .i64 (refCtx a b)) h := by
  rw [enter122, B122]
  cases a <;> cases b <;> simp [fin122, refCtx]
theorem ctxRefine_r {a b : Bool} : Ret tab 130 [.bool a, .bool b] h R = R (.int .i64 (refCtx a b)) h := by
  rw [enter130, B130]
  cases a <;> cases b <;> simp [fin130, refCtx]
end
def bitOf (v : Int) (s : Nat) : Nat := v.natAbs / 2 ^ s % 2
def near (b : BS) (x y : Int) (q : Bool) : Bool := decide (0 < nbH b x y + nbV b x y q + nbD b x y q)

/-- What does not change in a pass: the weight of the plane, the orientation, the modes. -/
structure PP where
  s : Nat
  o : Nat
  cz : Bool
  rw : Bool
structure PP.Ok (P : PP) : Prop where
  s1 : P.s ≤ 59
  o1 : P.o ≤ 3
/-- A pass in progress: the block, the symbols. -/
structure ES where
  b : BS
  out : List (Int × Nat)

def ES.emit (P : PP) (σ : ES) (ctx : Int) (bit : Nat) : ES := ⟨σ.b, σ.out ++ [(if P.rw = true then -1 else ctx, bit)]⟩
def negOf (v : Int) : Nat := if v < 0 then 1 else 0
def signBit (P : PP) (b : BS) (x y : Int) : Nat := (negOf (b.get x y).v + if P.rw = true then 0 else signFlip (sgH b x y) (sgV b x y P.cz)) % 2
def mark (c : Cell) : Cell := { c with s := true }
def touch (v : Bool) (c : Cell) : Cell := { c with t := v }
def refine' (c : Cell) : Cell := { c with r := true }
def ES.map (σ : ES) (x y : Int) (f : Cell → Cell) : ES := ⟨σ.b.upd x y f, σ.out⟩
def ES.sign (P : PP) (σ : ES) (x y : Int) : ES := (σ.emit P (signCtx (sgH σ.b x y) (sgV σ.b x y P.cz)) (signBit P σ.b x y)).map x y mark
def ctxOf (P : PP) (b : BS) (x y : Int) : Nat := sigCtx P.o (nbH b x y) (nbV b x y P.cz) (nbD b x y P.cz)
def ES.code (P : PP) (σ : ES) (x y : Int) : ES :=
  if bitOf (σ.b.get x y).v P.s = 1 then (σ.emit P (ctxOf P σ.b x y) (bitOf (σ.b.get x y).v P.s)).sign P x y else σ.emit P (ctxOf P σ.b x y) (bitOf (σ.b.get x y).v P.s)
def ES.sig1 (P : PP) (σ : ES) (x y : Int) : ES :=
  if (σ.b.get x y).s = false ∧ near σ.b x y P.cz = true then (σ.code P x y).map x y (touch true) else σ
def ES.ref1 (P : PP) (σ : ES) (x y : Int) : ES :=
  if (σ.b.get x y).s = false ∨ (σ.b.get x y).t = true then σ
  else ((σ.emit P (refCtx (!(σ.b.get x y).r) (near σ.b x y P.cz)) (bitOf (σ.b.get x y).v P.s)).map x y refine').map x y (touch true)
def ES.cln1 (P : PP) (σ : ES) (x y : Int) : ES :=
  if (σ.b.get x y).s = false ∧ (σ.b.get x y).t = false then σ.code P x y else σ

def still (b : BS) (x y : Int) (q : Bool) : Bool := !(b.get x y).s && !(b.get x y).t && !near b x y q
def quietFrom (b : BS) (x y : Int) (q : Bool) : Nat → Bool
  | 0 => true
  | n + 1 => still b x y q && quietFrom b x (y + 1) q n
def quiet (b : BS) (x top : Int) (q : Bool) : Bool := decide (top + 4 ≤ b.h) && quietFrom b x top q 4

/-- The first row from y on, of n, whose bit is 1. -/
def firstBit (b : BS) (s : Nat) (x y : Int) : Nat → Option Nat
  | 0 => none
  | n + 1 => if bitOf (b.get x y).v s = 1 then some 0 else (firstBit b s x (y + 1) n).map (· + 1)
/-- The run length, and the row behind it. -/
def ES.run (P : PP) (σ : ES) (x top : Int) : ES × Int :=
  match firstBit σ.b P.s x top 4 with
  | some k => ((((σ.emit P 17 1).emit P 18 (k / 2)).emit P 18 (k % 2)).sign P x (top + k), top + k + 1)
  | none => (σ.emit P 17 0, top + 4)
def ES.rows (P : PP) (σ : ES) (x y : Int) : Nat → ES
  | 0 => σ
  | n + 1 => (σ.cln1 P x y).rows P x (y + 1) n
/-- A column of a stripe in a cleanup pass. -/
def ES.col (P : PP) (σ : ES) (x top : Int) : ES :=
  if quiet σ.b x top P.cz = true then ((σ.run P x top).1).rows P x (σ.run P x top).2 (min (top + 4) σ.b.h - (σ.run P x top).2).toNat
  else σ.rows P x top (min (top + 4) σ.b.h - top).toNat
def ES.cols (P : PP) (σ : ES) (x top : Int) : Nat → ES
  | 0 => σ
  | n + 1 => (σ.col P x top).cols P (x + 1) top n
def ES.stripes (P : PP) (σ : ES) (top : Int) : Nat → ES
  | 0 => σ
  | n + 1 => (σ.cols P 0 top σ.b.w).stripes P (top + 4) n

/-- The points of a column, of a stripe, of a block. -/
def colPts (x y : Int) : Nat → List (Int × Int)
  | 0 => []
  | n + 1 => (x, y) :: colPts x (y + 1) n
def stripePts (h : Nat) (x top : Int) : Nat → List (Int × Int)
  | 0 => []
  | n + 1 => colPts x top (min (top + 4) h - top).toNat ++ stripePts h (x + 1) top n
def scanPts (w h : Nat) (top : Int) : Nat → List (Int × Int)
  | 0 => []
  | n + 1 => stripePts h 0 top w ++ scanPts w h (top + 4) n
def stripesOf (h : Nat) : Nat := (h + 3) / 4
def scan (w h : Nat) : List (Int × Int) := scanPts w h 0 (stripesOf h)

def ES.sigs (P : PP) (σ : ES) (l : List (Int × Int)) : ES := l.foldl (fun σ p => σ.sig1 P p.1 p.2) σ
def ES.refs (P : PP) (σ : ES) (l : List (Int × Int)) : ES := l.foldl (fun σ p => σ.ref1 P p.1 p.2) σ
def ES.clear (σ : ES) (l : List (Int × Int)) : ES := l.foldl (fun σ p => σ.map p.1 p.2 (touch false)) σ
def ES.check (P : PP) (σ : ES) (on : Bool) : ES := if on = true then (((σ.emit P 18 1).emit P 18 0).emit P 18 1).emit P 18 0 else σ
def ES.clean (P : PP) (σ : ES) (on : Bool) : ES := ((σ.stripes P 0 (stripesOf σ.b.h)).clear (scan σ.b.w σ.b.h)).check P on

/-! The shape of a block stays. -/
structure Same (a b : BS) : Prop where
  w : a.w = b.w
  h : a.h = b.h
theorem Same.refl (a : BS) : Same a a := ⟨rfl, rfl⟩
theorem Same.trans {a b c : BS} (h : Same a b) (k : Same b c) : Same a c := ⟨h.w.trans k.w, h.h.trans k.h⟩
theorem Same.upd (b : BS) (x y : Int) (f : Cell → Cell) : Same (b.upd x y f) b := ⟨rfl, rfl⟩

/-- Values stay as they are, within the range. -/
def BS.Rng (b : BS) : Prop := ∀ x y, -1152921504606846976 < (b.get x y).v ∧ (b.get x y).v < 1152921504606846976
structure BS.Good (b : BS) : Prop where
  ok : b.Ok
  rng : b.Rng
def keepsV (f : Cell → Cell) : Prop := ∀ c, (f c).v = c.v
theorem BS.Good.upd {b : BS} (hg : b.Good) {x y : Int} (hi : b.inb x y) {f : Cell → Cell} (hf : keepsV f) : (b.upd x y f).Good := by
  refine ⟨hg.ok.upd x y f, fun x' y' => ?_⟩
  rw [BS.get_upd hg.ok hi]
  split
  · rw [hf]; exact hg.rng x y
  · exact hg.rng x' y'
theorem kv_mark : keepsV mark := fun _ => rfl
theorem kv_touch (v : Bool) : keepsV (touch v) := fun _ => rfl
theorem kv_refine : keepsV refine' := fun _ => rfl

theorem ES.emit_b (P : PP) (σ : ES) (c : Int) (n : Nat) : (σ.emit P c n).b = σ.b := rfl
theorem ES.map_b (σ : ES) (x y : Int) (f : Cell → Cell) : (σ.map x y f).b = σ.b.upd x y f := rfl
theorem ES.sign_b (P : PP) (σ : ES) (x y : Int) : (σ.sign P x y).b = σ.b.upd x y mark := rfl

/-- What a part of a pass leaves: a good block of the same shape, n symbols more at most. -/
structure ES.Le (σ τ : ES) (n : Nat) : Prop where
  w : τ.b.w = σ.b.w
  h : τ.b.h = σ.b.h
  good : τ.b.Good
  len : τ.out.length ≤ σ.out.length + n
  v : ∀ x y, (τ.b.get x y).v = (σ.b.get x y).v
theorem ES.Le.refl {σ : ES} (hg : σ.b.Good) (n : Nat) : σ.Le σ n := ⟨rfl, rfl, hg, by omega, fun _ _ => rfl⟩
theorem ES.Le.trans {σ τ υ : ES} {n m : Nat} (h : σ.Le τ n) (k : τ.Le υ m) : σ.Le υ (n + m) := ⟨k.w.trans h.w, k.h.trans h.h, k.good, by have := h.len; have := k.len; omega, fun x y => (k.v x y).trans (h.v x y)⟩
theorem ES.Le.mono {σ τ : ES} {n m : Nat} (h : σ.Le τ n) (hm : n ≤ m) : σ.Le τ m := ⟨h.w, h.h, h.good, by have := h.len; omega, h.v⟩
theorem ES.Le.inb {σ τ : ES} {n : Nat} (h : σ.Le τ n) {x y : Int} (hi : σ.b.inb x y) : τ.b.inb x y := by
  obtain ⟨a, b, c, d⟩ := hi
  exact ⟨a, by rw [h.w]; exact b, c, by rw [h.h]; exact d⟩
theorem le_emit {P : PP} {σ : ES} (hg : σ.b.Good) (c : Int) (n : Nat) : σ.Le (σ.emit P c n) 1 := ⟨rfl, rfl, hg, by simp [ES.emit], fun _ _ => rfl⟩
theorem le_map {σ : ES} (hg : σ.b.Good) {x y : Int} (hi : σ.b.inb x y) {f : Cell → Cell} (hf : keepsV f) : σ.Le (σ.map x y f) 0 := by
  refine ⟨rfl, rfl, hg.upd hi hf, by simp [ES.map], fun x' y' => ?_⟩
  show ((σ.b.upd x y f).get x' y').v = _
  rw [BS.get_upd hg.ok hi]
  split
  · rename_i e; obtain ⟨rfl, rfl⟩ := e; exact hf _
  · rfl
theorem le_sign {P : PP} {σ : ES} (hg : σ.b.Good) {x y : Int} (hi : σ.b.inb x y) : σ.Le (σ.sign P x y) 1 := by
  have h1 := le_emit (P := P) hg (signCtx (sgH σ.b x y) (sgV σ.b x y P.cz)) (signBit P σ.b x y)
  exact h1.trans (le_map h1.good (h1.inb hi) kv_mark)
theorem le_code {P : PP} {σ : ES} (hg : σ.b.Good) {x y : Int} (hi : σ.b.inb x y) : σ.Le (σ.code P x y) 2 := by
  unfold ES.code
  have h1 := le_emit (P := P) hg (ctxOf P σ.b x y) (bitOf (σ.b.get x y).v P.s)
  split
  · exact h1.trans (le_sign h1.good (h1.inb hi))
  · exact h1.mono (by omega)
theorem le_sig1 {P : PP} {σ : ES} (hg : σ.b.Good) {x y : Int} (hi : σ.b.inb x y) : σ.Le (σ.sig1 P x y) 2 := by
  unfold ES.sig1
  split
  · have h1 := le_code (P := P) hg hi
    exact h1.trans (le_map h1.good (h1.inb hi) (kv_touch _))
  · exact ES.Le.refl hg 2
theorem le_ref1 {P : PP} {σ : ES} (hg : σ.b.Good) {x y : Int} (hi : σ.b.inb x y) : σ.Le (σ.ref1 P x y) 2 := by
  unfold ES.ref1
  split
  · exact ES.Le.refl hg 2
  · have h1 := le_emit (P := P) hg (refCtx (!(σ.b.get x y).r) (near σ.b x y P.cz)) (bitOf (σ.b.get x y).v P.s)
    have h2 := h1.trans (le_map h1.good (h1.inb hi) kv_refine)
    exact (h2.trans (le_map h2.good (h2.inb hi) (kv_touch true))).mono (by omega)
theorem le_cln1 {P : PP} {σ : ES} (hg : σ.b.Good) {x y : Int} (hi : σ.b.inb x y) : σ.Le (σ.cln1 P x y) 2 := by
  unfold ES.cln1
  split
  · exact le_code hg hi
  · exact ES.Le.refl hg 2
theorem firstBit_lt {b : BS} {s : Nat} {x : Int} : ∀ {n : Nat} {y : Int} {k : Nat}, firstBit b s x y n = some k → k < n
  | 0, _, _, h => by simp [firstBit] at h
  | n + 1, y, k, h => by
    simp only [firstBit] at h
    split at h
    · injection h with h; omega
    · rw [Option.map_eq_some_iff] at h
      obtain ⟨j, hj, rfl⟩ := h
      have := firstBit_lt hj
      omega
theorem le_run {P : PP} {σ : ES} (hg : σ.b.Good) {x top : Int} (h0 : σ.b.inb x top) (h1 : top + 4 ≤ σ.b.h) : σ.Le (σ.run P x top).1 4 ∧ top < (σ.run P x top).2 ∧ (σ.run P x top).2 ≤ top + 4 := by
  unfold ES.run
  split
  · rename_i k hk
    have hlt := firstBit_lt hk
    have a1 := le_emit (P := P) hg 17 1
    have a2 := a1.trans (le_emit (P := P) a1.good 18 (k / 2))
    have a3 := a2.trans (le_emit (P := P) a2.good 18 (k % 2))
    refine ⟨a3.trans (le_sign a3.good (a3.inb ?_)), by simp only; omega, by simp only; omega⟩
    obtain ⟨a, b, c, d⟩ := h0
    exact ⟨a, b, by omega, by omega⟩
  · exact ⟨(le_emit hg 17 0).mono (by omega), by simp only; omega, by simp only; omega⟩
theorem le_rows {P : PP} : ∀ {n : Nat} {σ : ES} {x y : Int}, σ.b.Good → 0 ≤ x → x < σ.b.w → 0 ≤ y → y + n ≤ σ.b.h → σ.Le (σ.rows P x y n) (2 * n)
  | 0, σ, x, y, hg, _, _, _, _ => ES.Le.refl hg _
  | n + 1, σ, x, y, hg, h1, h2, h3, h4 => by
    have a := le_cln1 (P := P) hg (x := x) (y := y) ⟨h1, h2, h3, by omega⟩
    have b := le_rows (P := P) (n := n) (x := x) (y := y + 1) a.good h1 (by rw [a.w]; exact h2) (by omega) (by rw [a.h]; omega)
    exact (a.trans b).mono (by omega)
theorem le_col {P : PP} {σ : ES} (hg : σ.b.Good) {x top : Int} (hi : σ.b.inb x top) : σ.Le (σ.col P x top) 12 := by
  obtain ⟨h1, h2, h3, h4⟩ := hi
  unfold ES.col
  split
  · rename_i hq
    simp only [quiet, Bool.and_eq_true, decide_eq_true_eq] at hq
    obtain ⟨a, b, c⟩ := le_run (P := P) hg (x := x) (top := top) ⟨h1, h2, h3, h4⟩ hq.1
    refine (a.trans (le_rows (P := P) (n := (min (top + 4) σ.b.h - (σ.run P x top).2).toNat) a.good h1 (by rw [a.w]; exact h2) (by omega) (by rw [a.h]; omega))).mono (by omega)
  · exact (le_rows hg h1 h2 h3 (by omega)).mono (by omega)
theorem le_cols {P : PP} : ∀ {n : Nat} {σ : ES} {x top : Int}, σ.b.Good → 0 ≤ x → x + n ≤ σ.b.w → 0 ≤ top → top < σ.b.h → σ.Le (σ.cols P x top n) (12 * n)
  | 0, σ, x, top, hg, _, _, _, _ => ES.Le.refl hg _
  | n + 1, σ, x, top, hg, h1, h2, h3, h4 => by
    have a := le_col (P := P) hg (x := x) (top := top) ⟨h1, by omega, h3, h4⟩
    have b := le_cols (P := P) (n := n) (x := x + 1) (top := top) a.good (by omega) (by rw [a.w]; omega) h3 (by rw [a.h]; exact h4)
    exact (a.trans b).mono (by omega)
theorem le_stripes {P : PP} : ∀ {n : Nat} {σ : ES} {top : Int}, σ.b.Good → 0 ≤ top → top + 4 * n ≤ σ.b.h + 3 → σ.Le (σ.stripes P top n) (12 * σ.b.w * n)
  | 0, σ, top, hg, _, _ => ES.Le.refl hg _
  | n + 1, σ, top, hg, h1, h2 => by
    have a := le_cols (P := P) (n := σ.b.w) hg (x := 0) (top := top) (by omega) (by omega) h1 (by omega)
    have b := le_stripes (P := P) (n := n) (top := top + 4) a.good (by omega) (by rw [a.h]; omega)
    rw [a.w] at b
    exact (a.trans b).mono (by rw [Nat.mul_add]; omega)

/-- Points that lie in the block. -/
def AllIn (b : BS) (l : List (Int × Int)) : Prop := ∀ p ∈ l, b.inb p.1 p.2
theorem AllIn.le {σ τ : ES} {n : Nat} {l : List (Int × Int)} (h : AllIn σ.b l) (k : σ.Le τ n) : AllIn τ.b l := fun p hp => k.inb (h p hp)
theorem colPts_in {b : BS} : ∀ {n : Nat} {x y : Int}, 0 ≤ x → x < b.w → 0 ≤ y → y + n ≤ b.h → AllIn b (colPts x y n)
  | 0, x, y, _, _, _, _ => fun p hp => by simp [colPts] at hp
  | n + 1, x, y, h1, h2, h3, h4 => fun p hp => by
    simp only [colPts, List.mem_cons] at hp
    rcases hp with rfl | hp
    · exact ⟨h1, h2, h3, by simp only; omega⟩
    · exact colPts_in h1 h2 (by omega) (by omega) p hp
theorem stripePts_in {b : BS} : ∀ {n : Nat} {x top : Int}, 0 ≤ x → x + n ≤ b.w → 0 ≤ top → AllIn b (stripePts b.h x top n)
  | 0, x, top, _, _, _ => fun p hp => by simp [stripePts] at hp
  | n + 1, x, top, h1, h2, h3 => fun p hp => by
    simp only [stripePts, List.mem_append] at hp
    rcases hp with hp | hp
    · by_cases ht : top ≤ b.h
      · exact colPts_in h1 (by omega) h3 (by omega) p hp
      · rw [show (min (top + 4) (b.h : Int) - top).toNat = 0 by omega] at hp
        simp [colPts] at hp
    · exact stripePts_in (by omega) (by omega) h3 p hp
theorem scanPts_in {b : BS} : ∀ {n : Nat} {top : Int}, 0 ≤ top → AllIn b (scanPts b.w b.h top n)
  | 0, top, _ => fun p hp => by simp [scanPts] at hp
  | n + 1, top, h => fun p hp => by
    simp only [scanPts, List.mem_append] at hp
    rcases hp with hp | hp
    · exact stripePts_in (by omega) (by omega) h p hp
    · exact scanPts_in (by omega) p hp
theorem scanIn (b : BS) : AllIn b (scan b.w b.h) := scanPts_in (by omega)
theorem colPts_len : ∀ (n : Nat) (x y : Int), (colPts x y n).length = n
  | 0, _, _ => rfl
  | n + 1, x, y => by rw [colPts, List.length_cons, colPts_len n]
theorem stripePts_len (h : Nat) : ∀ (n : Nat) (x top : Int), (stripePts h x top n).length ≤ 4 * n
  | 0, _, _ => by simp [stripePts]
  | n + 1, x, top => by
    rw [stripePts, List.length_append, colPts_len]
    have := stripePts_len h n (x + 1) top
    omega
theorem scanPts_len (w h : Nat) : ∀ (n : Nat) (top : Int), (scanPts w h top n).length ≤ 4 * w * n
  | 0, _ => by simp [scanPts]
  | n + 1, top => by
    rw [scanPts, List.length_append]
    have := stripePts_len h w 0 top
    have := scanPts_len w h n (top + 4)
    rw [Nat.mul_add]; omega
theorem le_fold {f : ES → Int × Int → ES} {m : Nat} (hf : ∀ (σ : ES) (p : Int × Int), σ.b.Good → σ.b.inb p.1 p.2 → σ.Le (f σ p) m) : ∀ {l : List (Int × Int)} {σ : ES}, σ.b.Good → AllIn σ.b l → σ.Le (l.foldl f σ) (m * l.length)
  | [], σ, hg, _ => ES.Le.refl hg _
  | p :: l, σ, hg, ha => by
    have a := hf σ p hg (ha p (by simp))
    have b := le_fold hf (l := l) (σ := f σ p) a.good (AllIn.le (fun q hq => ha q (by simp [hq])) a)
    rw [List.foldl_cons, List.length_cons]
    exact (a.trans b).mono (by rw [Nat.mul_add]; omega)
theorem le_sigs {P : PP} {σ : ES} {l : List (Int × Int)} (hg : σ.b.Good) (ha : AllIn σ.b l) : σ.Le (σ.sigs P l) (2 * l.length) := le_fold (fun _ _ hg hi => le_sig1 hg hi) hg ha
theorem le_refs {P : PP} {σ : ES} {l : List (Int × Int)} (hg : σ.b.Good) (ha : AllIn σ.b l) : σ.Le (σ.refs P l) (2 * l.length) := le_fold (fun _ _ hg hi => le_ref1 hg hi) hg ha
theorem le_clear {σ : ES} {l : List (Int × Int)} (hg : σ.b.Good) (ha : AllIn σ.b l) : σ.Le (σ.clear l) 0 := (le_fold (m := 0) (fun _ _ hg hi => le_map hg hi (kv_touch false)) hg ha).mono (by omega)
theorem near_eq (b : BS) (x y : Int) (k : Bool) : near b x y k = decide (0 < nbH b x y + nbV b x y k + nbD b x y k) := rfl
theorem nb_le (b : BS) (x y : Int) (k : Bool) : nbH b x y ≤ 2 ∧ nbV b x y k ≤ 2 ∧ nbD b x y k ≤ 4 := by
  obtain ⟨⟨a1, a2, a3, a4⟩, ⟨b1, b2, b3, b4⟩⟩ := nb_facts b x y
  unfold nbH nbV nbD
  refine ⟨by omega, ?_, ?_⟩ <;> split <;> omega
def ES.emits (P : PP) (σ : ES) (l : List Nat) : ES := l.foldl (fun σ b => σ.emit P 18 b) σ
theorem emits_b (P : PP) : ∀ (l : List Nat) (σ : ES), (σ.emits P l).b = σ.b
  | [], _ => rfl
  | x :: l, σ => by rw [ES.emits, List.foldl_cons]; exact emits_b P l _
theorem emits_len (P : PP) : ∀ (l : List Nat) (σ : ES), (σ.emits P l).out.length = σ.out.length + l.length
  | [], _ => rfl
  | x :: l, σ => by
    rw [ES.emits, List.foldl_cons]
    have := emits_len P l (σ.emit P 18 x)
    unfold ES.emits at this
    rw [this]; simp [ES.emit]; omega
theorem clean_eq (P : PP) (σ : ES) (on : Bool) (h : on = true) : σ.clean P on = ((σ.stripes P 0 (stripesOf σ.b.h)).clear (scan σ.b.w σ.b.h)).emits P [1, 0, 1, 0] := by
  subst h; rfl
/-- The options of the block coder. -/
structure MD where
  byp : Bool
  res : Bool
  rst : Bool
  cz : Bool
  sy : Bool
def MD.val (m : MD) : Value := .agg #[.bool m.byp, .bool m.res, .bool m.rst, .bool m.cz, .bool m.sy]
def planeOf (n : Nat) : Nat := if n = 0 then 0 else (n - 1) / 3 + 1
def kindOf (n : Nat) : Nat := if n = 0 then 2 else (n - 1) % 3
def rawOf (m : MD) (n : Nat) : Bool := m.byp && decide (4 ≤ planeOf n) && decide (kindOf n ≠ 2)
def runPP (m : MD) (n planes o : Nat) : PP := ⟨planes - 1 - planeOf n, o, m.cz, rawOf m n⟩
/-- What a pass does. -/
def runSt (m : MD) (b : BS) (n planes o : Nat) : ES :=
  if kindOf n = 0 then ES.sigs (runPP m n planes o) ⟨b, []⟩ (scan b.w b.h)
  else if kindOf n = 1 then ES.refs (runPP m n planes o) ⟨b, []⟩ (scan b.w b.h)
  else ES.clean (runPP m n planes o) ⟨b, []⟩ m.sy
def runErr (n planes o : Int) : Int := if planes < 1 ∨ 60 < planes ∨ n < 0 ∨ 3 * planes - 3 < n then 2 else if o < 0 ∨ 3 < o then 3 else 0
def runOut (m : MD) (b : BS) (n planes o : Int) : ES := if runErr n planes o = 0 then runSt m b n.toNat planes.toNat o.toNat else ⟨b, []⟩
theorem planeOf_le {n planes : Nat} (h : n ≤ 3 * planes - 3) (h1 : 1 ≤ planes) : planeOf n ≤ planes - 1 := by
  unfold planeOf; split <;> omega
def blen (n : Nat) : Nat := if n = 0 then 0 else n.log2 + 1
theorem blen_le {n k : Nat} : blen n ≤ k ↔ n < 2 ^ k := by
  unfold blen
  by_cases h : n = 0
  · subst h; simp [Nat.two_pow_pos]
  · rw [if_neg h]
    exact Nat.log2_lt h
theorem lt_blen {n k : Nat} : k < blen n ↔ 2 ^ k ≤ n := by
  have := @blen_le n k
  omega
theorem blen_half {n : Nat} (h : n ≠ 0) : blen n = blen (n / 2) + 1 := by
  apply Nat.le_antisymm
  · rw [blen_le]
    have := (@blen_le (n / 2) (blen (n / 2))).1 (Nat.le_refl _)
    rw [Nat.pow_succ]; omega
  · have h1 : blen (n / 2) < blen n := by
      rw [lt_blen]
      by_cases h0 : n / 2 = 0
      · rw [h0]
        show 2 ^ 0 ≤ n
        omega
      · have := (@lt_blen (n / 2) (blen (n / 2) - 1)).1 (by unfold blen; rw [if_neg h0]; omega)
        have h2 : blen (n / 2) = blen (n / 2) - 1 + 1 := by unfold blen; rw [if_neg h0]; omega
        rw [h2, Nat.pow_succ]; omega
    exact h1
theorem blen_or (a b : Nat) : blen (a ||| b) = max (blen a) (blen b) := by
  apply Nat.le_antisymm
  · rw [blen_le]
    apply Nat.or_lt_two_pow
    · exact blen_le.1 (Nat.le_max_left _ _)
    · exact blen_le.1 (Nat.le_max_right _ _)
  · apply Nat.max_le.2
    constructor
    · rw [blen_le]
      exact Nat.lt_of_le_of_lt Nat.left_le_or (blen_le.1 (Nat.le_refl _))
    · rw [blen_le]
      exact Nat.lt_of_le_of_lt Nat.right_le_or (blen_le.1 (Nat.le_refl _))
/-- The number of bit planes. -/
def planesOf (xs : List Int) : Nat := xs.foldl (fun n v => max n (blen v.natAbs)) 0
theorem planes_fold (xs : List Int) : ∀ n, xs.foldl (fun n v => max n (blen v.natAbs)) n = max n (planesOf xs) := by
  induction xs with
  | nil => intro n; simp [planesOf]
  | cons v xs ih =>
    intro n
    show List.foldl _ n (v :: xs) = max n (List.foldl _ 0 (v :: xs))
    rw [List.foldl_cons, List.foldl_cons, ih, ih (max 0 _)]
    omega
theorem planes_le {xs : List Int} {n : Nat} : planesOf xs ≤ n ↔ ∀ v ∈ xs, v.natAbs < 2 ^ n := by
  induction xs with
  | nil => simp [planesOf]
  | cons v xs ih =>
    have : planesOf (v :: xs) = max (blen v.natAbs) (planesOf xs) := by
      rw [planesOf, List.foldl_cons, planes_fold]; omega
    rw [this, Nat.max_le, blen_le, ih]; simp
def blank (n : Nat) : List Cell := List.replicate n .zero
def newBS (w h : Nat) : BS := ⟨w, h, blank (w * h)⟩
theorem newBS_good {w h : Nat} (w1 : 1 ≤ w) (w2 : w ≤ 64) (h1 : 1 ≤ h) (h2 : h ≤ 64) : (newBS w h).Good := by
  refine ⟨⟨w1, w2, h1, h2, by simp [newBS, blank]⟩, fun x y => ?_⟩
  have : (newBS w h).get x y = .zero := by
    unfold BS.get
    split
    · simp only [newBS, blank, List.getD_eq_getElem?_getD, List.getElem?_replicate]
      split <;> rfl
    · rfl
  rw [this]; simp [Cell.zero]
def sized (w h : Int) : Bool := decide (1 ≤ w ∧ w ≤ 64 ∧ 1 ≤ h ∧ h ≤ 64)
def cellOf (v : Int) : Cell := ⟨v, false, false, false⟩
/-- A block into which the first i values have been put. -/
def fillTo (w h : Nat) (xs : List Int) (i : Nat) : BS := ⟨w, h, (xs.take i).map cellOf ++ blank (w * h - i)⟩
def setV (v : Int) (c : Cell) : Cell := { c with v := v }
theorem fillTo_zero (w h : Nat) (xs : List Int) : fillTo w h xs 0 = newBS w h := by simp [fillTo, newBS]
theorem idx_divmod {w h i : Nat} (hw : 0 < w) (cs : List Cell) : BS.idx ⟨w, h, cs⟩ ((i % w : Nat) : Int) ((i / w : Nat) : Int) = i := by
  unfold BS.idx
  have : ((i / w : Nat) : Int) * (w : Int) + ((i % w : Nat) : Int) = ((i / w * w + i % w : Nat) : Int) := by simp
  simp only
  rw [this, Int.toNat_natCast, Nat.mul_comm]
  exact Nat.div_add_mod i w
theorem inb_divmod {w h i : Nat} (hw : 0 < w) (hi : i < w * h) (cs : List Cell) : BS.inb ⟨w, h, cs⟩ ((i % w : Nat) : Int) ((i / w : Nat) : Int) := by
  have h1 := Nat.mod_lt i hw
  have h2 : i / w < h := by rw [Nat.div_lt_iff_lt_mul hw]; rw [Nat.mul_comm]; exact hi
  exact ⟨Int.natCast_nonneg _, Int.ofNat_lt.2 h1, Int.natCast_nonneg _, Int.ofNat_lt.2 h2⟩
theorem fillTo_step {w h : Nat} {xs : List Int} {i : Nat} (hw : 0 < w) (hi : i < xs.length) (hl : xs.length = w * h) :
    (fillTo w h xs i).upd ((i % w : Nat) : Int) ((i / w : Nat) : Int) (setV xs[i]) = fillTo w h xs (i + 1) := by
  have hlen : ((xs.take i).map cellOf).length = i := by simp; omega
  have hidx := idx_divmod (h := h) (i := i) hw ((xs.take i).map cellOf ++ blank (w * h - i))
  have hinb := inb_divmod (i := i) (h := h) hw (by omega) ((xs.take i).map cellOf ++ blank (w * h - i))
  have hget : (fillTo w h xs i).get ((i % w : Nat) : Int) ((i / w : Nat) : Int) = .zero := by
    unfold BS.get fillTo
    rw [if_pos hinb, hidx]
    simp only [List.getD_eq_getElem?_getD]
    rw [List.getElem?_append_right (by omega), hlen]
    simp only [blank, List.getElem?_replicate]
    split <;> rfl
  unfold BS.upd
  rw [hget]
  unfold fillTo at *
  rw [hidx]
  congr 1
  rw [List.set_append_right _ _ (by omega), hlen, Nat.sub_self, List.take_succ_eq_append_getElem hi, List.map_append]
  rw [show w * h - i = (w * h - (i + 1)) + 1 by omega]
  simp [blank, List.replicate_succ, setV, cellOf, Cell.zero]
theorem fillTo_good {w h : Nat} {xs : List Int} (hn : (newBS w h).Good) (hl : xs.length = w * h) : ∀ i, i ≤ xs.length → (∀ v ∈ xs.take i, -1152921504606846976 < v ∧ v < 1152921504606846976) → (fillTo w h xs i).Good := by
  intro i hi hr
  refine ⟨⟨hn.ok.w1, hn.ok.w2, hn.ok.h1, hn.ok.h2, by simp [fillTo, blank]; omega⟩, fun x y => ?_⟩
  unfold BS.get
  split
  · simp only [fillTo, List.getD_eq_getElem?_getD]
    generalize BS.idx _ x y = j
    by_cases hj : j < i
    · rw [List.getElem?_append_left (by simp; omega)]
      have : j < (xs.take i).length := by simp; omega
      rw [List.getElem?_map, List.getElem?_eq_getElem this]
      exact hr _ (List.getElem_mem this)
    · rw [List.getElem?_append_right (by simp; omega)]
      simp only [blank, List.getElem?_replicate]
      split <;> simp [Cell.zero]
  · simp [Cell.zero]
/-- The passes from k on, n of them. -/
def passesOf (m : MD) (planes o : Nat) : Nat → Nat → BS → List (List (Int × Nat))
  | 0, _, _ => []
  | n + 1, k, b => (runSt m b k planes o).out :: passesOf m planes o n (k + 1) (runSt m b k planes o).b
theorem passesOf_len (m : MD) (planes o : Nat) : ∀ n k b, (passesOf m planes o n k b).length = n
  | 0, _, _ => rfl
  | n + 1, k, b => by rw [passesOf, List.length_cons, passesOf_len m planes o n]
def inR (v : Int) : Prop := -1152921504606846976 < v ∧ v < 1152921504606846976
instance (v : Int) : Decidable (inR v) := by unfold inR; exact inferInstance
/-- What Symbols answers: the error, the passes. -/
def symRes (xs : List Int) (w h o : Int) (m : MD) : Int × List (List (Int × Nat)) :=
  if sized w h = false then (2, [])
  else if (xs.length : Int) ≠ w * h then (4, [])
  else if o < 0 ∨ 3 < o then (3, [])
  else if ∀ v ∈ xs, inR v then (0, passesOf m (planesOf xs) o.toNat (3 * planesOf xs - 2) 0 (fillTo w.toNat h.toNat xs xs.length))
  else (2, [])
theorem inR_planes {xs : List Int} : (∀ v ∈ xs, inR v) ↔ planesOf xs ≤ 60 := by
  rw [planes_le]
  constructor
  · intro h v hv; have := h v hv; unfold inR at this; omega
  · intro h v hv; have := h v hv; unfold inR; omega
end Go.Proofs.Ytjpjohchdfoeaaa
