/-
  RawbitsWrites: the walk. Both writers answer alike, so the law returns true.
-/
import Derived.Test.YtlflfkdnpalhlaaTm
import Derived.Test.YtlflfkdnpalhlaaReads
namespace Go.Proofs.Ytlflfkdnpalhlaa
open Go Go.Sim
set_option linter.unusedSimpArgs false

/-- Both writers, holding bs; the blocks below B are as in h0. -/
structure WInv (B : Nat) (h0 h : Heap) (p q : Nat) (s1 s2 : Value) (bs : List Nat) : Prop where
  pw : PW h p s1 bs
  qw : QW h q s2 bs
  pq : p ≠ q
  bp : B ≤ p
  bq : B ≤ q
  i1 : ∀ id, sid s1 = some id → B ≤ id ∧ id ≠ q
  i2 : ∀ id, sid s2 = some id → B ≤ id ∧ id ≠ p ∧ sid s1 ≠ some id
  low : ∀ id, id < B → blk? h id = blk? h0 id
  len : B ≤ h.length

theorem PW.keep {h h' : Heap} {p : Nat} {s : Value} {bs : List Nat} (hw : PW h p s bs) (hk : ∀ id, (id = p ∨ sid s = some id) → id < h.length → blk? h' id = blk? h id) : PW h' p s bs :=
  ⟨by rw [hk p (.inl rfl) (blk?_lt hw.blk)]; exact hw.blk, hw.own.of_blk fun id hid hb => by rw [hk id (.inr hid) (blk?_lt hb)]; exact hb, hw.ne, hw.bits⟩
theorem QW.keep {h h' : Heap} {p : Nat} {s : Value} {bs : List Nat} (hw : QW h p s bs) (hk : ∀ id, (id = p ∨ sid s = some id) → id < h.length → blk? h' id = blk? h id) : QW h' p s bs :=
  ⟨by rw [hk p (.inl rfl) (blk?_lt hw.blk)]; exact hw.blk, hw.own.of_blk fun id hid hb => by rw [hk id (.inr hid) (blk?_lt hb)]; exact hb, hw.ne, hw.bits⟩

theorem WInv.push {B : Nat} {h0 h : Heap} {p q : Nat} {s1 s2 : Value} {bs : List Nat} (w : WInv B h0 h p q s1 s2 bs) (x : Option Blk) : WInv B h0 (h ++ [x]) p q s1 s2 bs :=
  { w with
    pw := w.pw.keep fun _ _ hid => blk?_push_lt hid
    qw := w.qw.keep fun _ _ hid => blk?_push_lt hid
    low := fun id hid => by rw [blk?_push_lt (by have := w.len; omega)]; exact w.low id hid
    len := by have := w.len; simp; omega }

theorem WInv.setNew {B : Nat} {h0 h : Heap} {p q : Nat} {s1 s2 : Value} {bs : List Nat} (w : WInv B h0 h p q s1 s2 bs) (x y : Option Blk) : WInv B h0 ((h ++ [x]).set h.length y) p q s1 s2 bs := by
  have : (h ++ [x]).set h.length y = h ++ [y] := by rw [List.set_append_right _ _ (Nat.le_refl _)]; simp
  rw [this]; exact w.push y

/-- Both write a bit. -/
theorem WInv.put {B : Nat} {h0 h : Heap} {p q : Nat} {s1 s2 : Value} {bs : List Nat} (w : WInv B h0 h p q s1 s2 bs) {b : Nat} (hb : b ≤ 1) (hl : bs.length < 1000000) :
    ∃ s1' h1 s2' h2, (∀ R : Value → Heap → Prop, Ret tab 20 [ptr p, .int .i64 b] h R = R (.int .i64 0) h1) ∧ (∀ R : Value → Heap → Prop, Ret tab 21 [ptr q, .int .i64 b] h1 R = R (.int .i64 0) h2) ∧
      WInv B h0 h2 p q s1' s2' (bs ++ [b]) ∧ (∀ id, id < h.length → id ≠ p → sid s1 ≠ some id → blk? h1 id = blk? h id) := by
  obtain ⟨s1', h1, e1, p1, f1⟩ := put20 w.pw hb hl
  have q1 : QW h1 q s2 bs := w.qw.keep fun id hid hlt => by
    rcases hid with rfl | hid
    · exact f1.same _ hlt (Ne.symm w.pq) (fun e => (w.i1 _ e).2 rfl)
    · exact f1.same _ hlt (w.i2 _ hid).2.1 (w.i2 _ hid).2.2
  obtain ⟨s2', h2, e2, q2, f2⟩ := put21 q1 hb hl
  have hq1 := blk?_lt q1.blk
  have n1 : ∀ id, sid s1' = some id → B ≤ id ∧ id ≠ q ∧ sid s2 ≠ some id := fun id hid => by
    rcases f1.fresh id hid with h | ⟨h, _⟩
    · exact ⟨(w.i1 id h).1, (w.i1 id h).2, fun e => (w.i2 id e).2.2 h⟩
    · have hq := blk?_lt w.qw.blk
      exact ⟨by have := w.len; omega, by omega, fun e => by have := w.qw.own.lt e; omega⟩
  have p2 : PW h2 p s1' (bs ++ [b]) := p1.keep fun id hid hlt => by
    rcases hid with rfl | hid
    · exact f2.same _ hlt w.pq (fun e => (w.i2 _ e).2.1 rfl)
    · exact f2.same _ hlt (n1 _ hid).2.1 (n1 _ hid).2.2
  refine ⟨s1', h1, s2', h2, e1, e2, ⟨p2, q2, w.pq, w.bp, w.bq, fun id hid => ⟨(n1 id hid).1, (n1 id hid).2.1⟩, fun id hid => ?_, fun id hid => ?_, ?_⟩, f1.same⟩
  · rcases f2.fresh id hid with h | ⟨h, _⟩
    · exact ⟨(w.i2 id h).1, (w.i2 id h).2.1, fun e => (n1 id e).2.2 h⟩
    · have := f1.len
      have hp := blk?_lt w.pw.blk
      exact ⟨by have := w.len; omega, by omega, fun e => by have := p1.own.lt e; omega⟩
  · have hlen := w.len
    have l1 := f1.len
    rw [f2.same id (by omega) (by have := w.bq; omega) (fun e => by have := (w.i2 id e).1; omega), f1.same id (by omega) (by have := w.bp; omega) (fun e => by have := (w.i1 id e).1; omega)]
    exact w.low id hid
  · have := w.len; have := f1.len; have := f2.len; omega

/-- Both end a segment. -/
theorem WInv.term {B : Nat} {h0 h : Heap} {p q : Nat} {s1 s2 : Value} {bs : List Nat} (w : WInv B h0 h p q s1 s2 bs) (hl : bs.length < 1000000) :
    ∃ t1 h1 t2 h2, (∀ R : Value → Heap → Prop, Ret tab 18 [ptr p] h R = R t1 h1) ∧ (∀ R : Value → Heap → Prop, Ret tab 19 [ptr q] h1 R = R t2 h2) ∧
      WInv B h0 h2 p q (.slice none 0 0) (.slice none 0 0) [] ∧ (∀ R : Value → Heap → Prop, Ret tab 17 [t1, t2] h2 R = R (.bool true) h2) := by
  obtain ⟨t1, h1, e1, sl1, p1, l1, f1, i1⟩ := term18 w.pw hl
  have q1 : QW h1 q s2 bs := w.qw.keep fun id hid hlt => by
    rcases hid with rfl | hid
    · exact f1 _ (Ne.symm w.pq)
    · exact f1 _ (w.i2 _ hid).2.1
  obtain ⟨t2, h2, e2, sl2, q2, l2, f2, i2⟩ := term19 q1 hl
  have hp1 := blk?_lt p1.blk
  have hs : (segOf bs).length < 1000000 := by
    rw [segOf, List.length_take, pack_length]; omega
  refine ⟨t1, h1, t2, h2, e1, e2, ⟨?_, q2, w.pq, w.bp, w.bq, fun id hid => by simp [sid] at hid, fun id hid => by simp [sid] at hid, fun id hid => ?_, ?_⟩, same17 ?_ sl2 hs⟩
  · refine p1.keep fun id hid hlt => ?_
    rcases hid with rfl | hid
    · exact f2 _ hlt w.pq
    · simp [sid] at hid
  · have := w.len
    rw [f2 id (by omega) (by have := w.bq; omega), f1 id (by have := w.bp; omega)]
    exact w.low id hid
  · have := w.len; omega
  · exact sl1.of_sid fun id b hid hb => by rw [f2 id (blk?_lt hb) (w.i1 id (i1 id hid)).2]; exact hb

/-- Two cells in a row. -/
theorem two {l : List Value} {m : Nat} {x y : Value} (h1 : l[m]? = some x) (h2 : l[m + 1]? = some y) : (l.drop m).take 2 = [x, y] ∧ m + 2 ≤ l.length := by
  have hl := (List.getElem?_eq_some_iff.1 h2).1
  refine ⟨?_, by omega⟩
  apply List.ext_getElem?
  intro j
  rw [List.getElem?_take]
  match j with
  | 0 => simpa using h1
  | 1 => simpa using h2
  | j + 2 => rw [if_neg (by omega)]; simp

theorem loop3 {B : Nat} {h0 : Heap} {p q n : Nat} {s : Value} {cs : List Value} (hs : Sl h0 2 s n cs) (hsB : ∀ id b, sid s = some id → blk? h0 id = some b → id < B) (hn : n ≤ 2000)
    (hcs : ∀ i, i < n → ∃ a b : Int, cs[i * 2]? = some (.int .i64 a) ∧ cs[i * 2 + 1]? = some (.int .i64 b)) {k : List RItem} {R : Value → Heap → Prop}
    (hk : ∀ (h : Heap) (s1 s2 : Value) (bs : List Nat) (t1 t2 t5 t6 t7 t8 t9 t10 t11 t12 t14 t15 t16 t17 t18 t19 t20 t21 t22 t23 t24 t25 t26 t27 t28 t29 t30 t31 t32 t33 t34 t35 t36 t37 t38 t39 t40 t41 t42 t43 t44 t45 t46 t47 t48 t49 t50 : Value), WInv B h0 h p q s1 s2 bs → bs.length ≤ 2000 → Ok tab R3 k #[s, t1, t2, ptr p, ptr q, t5, t6, t7, t8, t9, t10, t11, t12, s, t14, t15, t16, t17, t18, t19, t20, t21, t22, t23, t24, t25, t26, t27, t28, t29, t30, t31, t32, t33, t34, t35, t36, t37, t38, t39, t40, t41, t42, t43, t44, t45, t46, t47, t48, t49, t50] h R) :
    ∀ (m i : Nat) (h : Heap) (s1 s2 : Value) (bs : List Nat) (t1 t2 t5 t6 t7 t8 t9 t10 t11 t12 t16 t17 t18 t19 t20 t21 t22 t23 t24 t25 t26 t27 t28 t29 t30 t31 t32 t33 t34 t35 t36 t37 t38 t39 t40 t41 t42 t43 t44 t45 t46 t47 t48 t49 t50 : Value), m = n - i → i ≤ n → WInv B h0 h p q s1 s2 bs → bs.length ≤ i →
      Ok tab R3 (.inLoop L3_0 :: .inBlock 0 :: k) #[s, t1, t2, ptr p, ptr q, t5, t6, t7, t8, t9, t10, t11, t12, s, .int .i64 n, .int .i64 i, t16, t17, t18, t19, t20, t21, t22, t23, t24, t25, t26, t27, t28, t29, t30, t31, t32, t33, t34, t35, t36, t37, t38, t39, t40, t41, t42, t43, t44, t45, t46, t47, t48, t49, t50] h R := by
  intro m
  induction m with
  | zero =>
    intro i h s1 s2 bs t1 t2 t5 t6 t7 t8 t9 t10 t11 t12 t16 t17 t18 t19 t20 t21 t22 t23 t24 t25 t26 t27 t28 t29 t30 t31 t32 t33 t34 t35 t36 t37 t38 t39 t40 t41 t42 t43 t44 t45 t46 t47 t48 t49 t50 hm hi w hbl
    have hlt : ¬ ((i : Int) < n) := by omega
    rw [ok_round, l3_0, L3_0a, L3_0b]
    simp [hlt]
    exact hk h s1 s2 bs _ _ _ _ _ _ _ _ _ _ _ _ _ _ _ _ _ _ _ _ _ _ _ _ _ _ _ _ _ _ _ _ _ _ _ _ _ _ _ _ _ _ _ _ _ _ _ w (by omega)
  | succ m ih =>
    intro i h s1 s2 bs t1 t2 t5 t6 t7 t8 t9 t10 t11 t12 t16 t17 t18 t19 t20 t21 t22 t23 t24 t25 t26 t27 t28 t29 t30 t31 t32 t33 t34 t35 t36 t37 t38 t39 t40 t41 t42 t43 t44 t45 t46 t47 t48 t49 t50 hm hi w hbl
    have hlt : ((i : Int) < n) := by omega
    have hw : IntKind.i64.wrap ((i : Int) + 1) = (i : Int) + 1 := wrapN (n := i + 1) (by omega)
    obtain ⟨a, b, ha, hb⟩ := hcs i (by omega)
    obtain ⟨id, off, blk, rfl, hblk, hcell⟩ := hs.get (i := i) (by omega)
    have c0 := hcell 0 (by omega)
    have c1 := hcell 1 (by omega)
    rw [Nat.add_zero, Nat.add_zero, ha] at c0
    rw [hb] at c1
    obtain ⟨ht, hle⟩ := two c0 c1
    have hidB := hsB id blk rfl hblk
    have hhid : blk? h id = some blk := by rw [w.low id hidB]; exact hblk
    rw [ok_round, l3_0, L3_0a, L3_0b]
    have w1 := w.setNew (some ⟨false, [.int .i64 0, .int .i64 0]⟩) (some ⟨false, [.int .i64 a, .int .i64 b]⟩)
    have hK : blk? ((h ++ [some (⟨false, [.int .i64 0, .int .i64 0]⟩ : Blk)]).set h.length (some ⟨false, [.int .i64 a, .int .i64 b]⟩)) h.length = some ⟨false, [.int .i64 a, .int .i64 b]⟩ := blk?_set_eq (by simp)
    have hK0 : blk? (h ++ [some (⟨false, [.int .i64 0, .int .i64 0]⟩ : Blk)]) h.length = some ⟨false, [.int .i64 0, .int .i64 0]⟩ := blk?_push_eq
    generalize hH : (h ++ [some (⟨false, [.int .i64 0, .int .i64 0]⟩ : Blk)]).set h.length (some ⟨false, [.int .i64 a, .int .i64 b]⟩) = H at w1 hK
    by_cases hka : a = 1
    · subst hka
      obtain ⟨t1, h1, t2, h2, e1, e2, w2, e3⟩ := w1.term (by omega)
      simp [hlt, hw, hhid, ht, hle, hK0, hH, hK, e1, e2, e3, size22 w2.pw, size23 w2.qw (by simp)]
      exact ih (i + 1) h2 _ _ [] _ _ _ _ _ _ _ _ _ _ _ _ _ _ _ _ _ _ _ _ _ _ _ _ _ _ _ _ _ _ _ _ _ _ _ _ _ _ _ _ _ _ _ _ _ (by omega) (by omega) w2 (by simp)
    · have hka' : (a == 1) = false := by simp [hka]
      by_cases hbb : b = 0 ∨ b = 1
      · obtain ⟨b', hb', hb1⟩ : ∃ b' : Nat, b = b' ∧ b' ≤ 1 := by
          rcases hbb with rfl | rfl
          · exact ⟨0, rfl, by omega⟩
          · exact ⟨1, rfl, by omega⟩
        subst hb'
        obtain ⟨s1', h1, s2', h2, e1, e2, w2, f1⟩ := w1.put hb1 (by omega)
        have hK1 : blk? h1 h.length = some ⟨false, [.int .i64 a, .int .i64 b']⟩ := by
          rw [f1 h.length (by rw [← hH]; simp) (fun e => by have := blk?_lt w.pw.blk; omega) (fun e => by have := w.pw.own.lt e; omega)]
          exact hK
        simp [hlt, hw, hhid, ht, hle, hK0, hH, hK, hK1, hka', e1, e2, book, logOf, addLog, chk1, lookL, reload, veq, size22 w2.pw, size23 w2.qw (by simp; omega)]
        exact ih (i + 1) h2 s1' s2' (bs ++ [b']) _ _ _ _ _ _ _ _ _ _ _ _ _ _ _ _ _ _ _ _ _ _ _ _ _ _ _ _ _ _ _ _ _ _ _ _ _ _ _ _ _ _ _ _ _ (by omega) (by omega) w2 (by simp; omega)
      · simp [hlt, hw, hhid, ht, hle, hK0, hH, hK, hka', put20_bad w1.pw (b := b) (by omega), put21_bad w1.qw (b := b) (by omega), book, logOf, addLog, chk1, lookL, reload, veq, size22 w1.pw, size23 w1.qw (by omega)]
        exact ih (i + 1) H s1 s2 bs _ _ _ _ _ _ _ _ _ _ _ _ _ _ _ _ _ _ _ _ _ _ _ _ _ _ _ _ _ _ _ _ _ _ _ _ _ _ _ _ _ _ _ _ _ (by omega) (by omega) w1 (by omega)

theorem ret3 {h : Heap} {s : Value} {n : Nat} {cs : List Value} (hs : Sl h 2 s n cs) (hcs : ∀ i, i < n → ∃ a b : Int, cs[i * 2]? = some (.int .i64 a) ∧ cs[i * 2 + 1]? = some (.int .i64 b)) :
    Ret tab 3 [s] h (fun v _ => v = .bool true) := by
  obtain ⟨a, c, hsv⟩ := hs.shape
  rw [enter3, B3]
  by_cases hl : 2000 < n
  · have h1 : (2000 : Int) < n := by omega
    simp [hsv, h1, awake_eq, fin3]
  · have h1 : ¬ (2000 : Int) < n := by omega
    obtain ⟨h', e1, p1, l1, f1⟩ := new15 h
    obtain ⟨h'', e2, q2, l2, f2⟩ := new16 h'
    have p2 : PW h'' h.length (.slice none 0 0) [] := p1.keep fun id hid hlt => f2 id hlt
    have w : WInv h.length h h'' h.length h'.length (.slice none 0 0) (.slice none 0 0) [] :=
      ⟨p2, q2, by omega, Nat.le_refl _, by omega, fun id hid => by simp [sid] at hid, fun id hid => by simp [sid] at hid, fun id hid => by rw [f2 id (by omega), f1 id hid], by omega⟩
    simp [hsv, h1, e1, e2]
    rw [← hsv]
    refine loop3 hs (fun id b _ hb => blk?_lt hb) (by omega) hcs ?_ n 0 h'' _ _ [] _ _ _ _ _ _ _ _ _ _ _ _ _ _ _ _ _ _ _ _ _ _ _ _ _ _ _ _ _ _ _ _ _ _ _ _ _ _ _ _ _ _ _ _ _ (by omega) (by omega) w (by simp)
    intro h s1 s2 bs t1 t2 t5 t6 t7 t8 t9 t10 t11 t12 t14 t15 t16 t17 t18 t19 t20 t21 t22 t23 t24 t25 t26 t27 t28 t29 t30 t31 t32 t33 t34 t35 t36 t37 t38 t39 t40 t41 t42 t43 t44 t45 t46 t47 t48 t49 t50 w hbl
    obtain ⟨t1, h1, t2, h2, e1, e2, w2, e3⟩ := w.term (by omega)
    simp [k_guard, e1, e2, e3, awake_eq, fin3]
end Go.Proofs.Ytlflfkdnpalhlaa
