/-
  The writers: what NewWriter, Put and Size do, the program's and the reference's.
-/
import Derived.Test.YtlflfkdnpalhlaaTab
import Derived.Test.YtlflfkdnpalhlaaSimT
import Derived.Test.YtlflfkdnpalhlaaPack
namespace Go.Proofs.Ytlflfkdnpalhlaa
open Go Go.Sim
set_option linter.unusedSimpArgs false

def u8s (xs : List Nat) : List Value := xs.map fun (x : Nat) => .int .u8 x
def i64s (xs : List Nat) : List Value := xs.map fun (x : Nat) => .int .i64 x

/-- The program's writer at p, holding bs. -/
structure PW (h : Heap) (p : Nat) (s : Value) (bs : List Nat) : Prop where
  blk : blk? h p = some ⟨false, [.bool true, s, .int .i64 bs.length]⟩
  own : OwnS h 1 s (pack bs).length (u8s (pack bs))
  ne : sid s ≠ some p
  bits : AreBits bs
/-- The reference's writer at p, holding bs. -/
structure QW (h : Heap) (p : Nat) (s : Value) (bs : List Nat) : Prop where
  blk : blk? h p = some ⟨false, [.bool true, s]⟩
  own : OwnS h 1 s bs.length (i64s bs)
  ne : sid s ≠ some p
  bits : AreBits bs

/-- What a method call on the object at p, whose slice was s and is s', leaves. -/
structure Fr (h h' : Heap) (p : Nat) (s s' : Value) : Prop where
  len : h.length ≤ h'.length
  same : ∀ id, id < h.length → id ≠ p → sid s ≠ some id → blk? h' id = blk? h id
  fresh : ∀ id, sid s' = some id → sid s = some id ∨ (h.length ≤ id ∧ id < h'.length)

theorem pack_nil : pack [] = [] := rfl

theorem new15 (h : Heap) : ∃ h', (∀ R : Value → Heap → Prop, Ret tab 15 [] h R = R (ptr h.length) h') ∧ PW h' h.length (.slice none 0 0) [] ∧ h'.length = h.length + 1 ∧ ∀ id, id < h.length → blk? h' id = blk? h id := by
  refine ⟨h ++ [some ⟨false, [.bool true, .slice none 0 0, .int .i64 0]⟩], fun R => ?_, ⟨blk?_push_eq, OwnS.nil _ _, by simp [sid], fun b hb => by cases hb⟩, by simp, fun id hid => blk?_push_lt hid⟩
  rw [enter15, B15]
  simp [fin15]

theorem new16 (h : Heap) : ∃ h', (∀ R : Value → Heap → Prop, Ret tab 16 [] h R = R (ptr h.length) h') ∧ QW h' h.length (.slice none 0 0) [] ∧ h'.length = h.length + 1 ∧ ∀ id, id < h.length → blk? h' id = blk? h id := by
  refine ⟨h ++ [some ⟨false, [.bool true, .slice none 0 0]⟩], fun R => ?_, ⟨blk?_push_eq, OwnS.nil _ _, by simp [sid], fun b hb => by cases hb⟩, by simp, fun id hid => blk?_push_lt hid⟩
  rw [enter16, B16]
  simp [fin16]

theorem size22 {h : Heap} {p : Nat} {s : Value} {bs : List Nat} (hb : PW h p s bs) (R : Value → Heap → Prop) :
    Ret tab 22 [ptr p] h R = R (.int .i64 ((bs.length + 7) / 8 : Nat)) h := by
  have hp := hb.blk
  obtain ⟨a, c, rfl⟩ := hb.own.sl.shape
  rw [enter22, B22]
  simp [k_guard, hp, fin22, pack_length]

theorem size23 {h : Heap} {p : Nat} {s : Value} {bs : List Nat} (hb : QW h p s bs) (hl : bs.length < 1000000) (R : Value → Heap → Prop) :
    Ret tab 23 [ptr p] h R = R (.int .i64 ((bs.length + 7) / 8 : Nat)) h := by
  have hp := hb.blk
  obtain ⟨a, c, rfl⟩ := hb.own.sl.shape
  have h1 : IntKind.i64.wrap ((bs.length : Int) + 7) = (bs.length : Int) + 7 := wrapN (n := bs.length + 7) (by omega)
  have h2 : ((bs.length : Int) + 7).tdiv 8 = ((bs.length : Int) + 7) / 8 := Int.tdiv_eq_ediv_of_nonneg (by omega)
  have h3 : IntKind.i64.wrap (((bs.length : Int) + 7) / 8) = ((bs.length : Int) + 7) / 8 := wrapN (n := (bs.length + 7) / 8) (by omega)
  rw [enter23, B23]
  simp [hp, fin23, h1, h2, h3]

theorem or_bit : ∀ (x : Fin 256) (j : Fin 8) (b : Fin 2), x.1 % 2 ^ (j.1 + 1) = 0 →
    orI .u8 (x.1 : Int) (IntKind.u8.wrap (shlI .i64 (b.1 : Int) (j.1 : Int))) = ((x.1 + b.1 * 2 ^ j.1 : Nat) : Int) := by decide +kernel

def fstC : RCode → RCode
  | .seq a _ => a
  | c => c
def sndC : RCode → RCode
  | .seq _ b => b
  | c => c

/-- The bit goes into the byte that is there. -/
theorem put48_on {h : Heap} {p id : Nat} {xs : List Nat} {n b : Nat} (hp : blk? h p = some ⟨false, [.bool true, .slice (some ⟨id, 0, none⟩) xs.length 1, .int .i64 n]⟩) (hid : blk? h id = some ⟨false, u8s xs⟩) (hne : p ≠ id)
    (hi : n / 8 < xs.length) (hx : xs[n / 8] < 256) (hz : xs[n / 8] % 2 ^ (8 - n % 8) = 0) (hb : b ≤ 1) (hn : n < 1000000) {ys : List Nat} (hy : xs.set (n / 8) (xs[n / 8] + b * 2 ^ (7 - n % 8)) = ys) (t2 t3 t4 t5 t6 t7 t8 t9 t10 t11 t12 t13 t14 t15 t16 t17 t18 t19 t20 t21 t22 t23 t24 t25 t26 t27 t28 t29 t30 t31 t32 t33 t34 t35 t36 t37 t38 t39 t40 t41 t42 t43 t44 t45 t46 t47 t48 : Value) (R : Value → Heap → Prop) :
    Ok tab R48 [.code (sndC B48)] #[ptr p, .int .i64 b, t2, t3, t4, t5, t6, t7, t8, t9, t10, t11, t12, t13, t14, t15, t16, t17, t18, t19, t20, t21, t22, t23, t24, t25, t26, t27, t28, t29, t30, t31, t32, t33, t34, t35, t36, t37, t38, t39, t40, t41, t42, t43, t44, t45, t46, t47, t48] h R =
      R (.tuple #[]) ((h.set id (some ⟨false, u8s ys⟩)).set p (some ⟨false, [.bool true, .slice (some ⟨id, 0, none⟩) xs.length 1, .int .i64 ((n : Int) + 1)]⟩)) := by
  simp only [sndC, B48]
  have hw : IntKind.i64.wrap ((n : Int) + 1) = (n : Int) + 1 := wrapN (n := n + 1) (by omega)
  have hq : IntKind.i64.wrap ((n : Int) / 8) = (n : Int) / 8 := wrapN (n := n / 8) (by omega)
  have h2 : (0 : Int) ≤ (n : Int) / 8 ∧ (n : Int) / 8 < xs.length := by omega
  have h3 : ((n : Int) / 8).toNat = n / 8 := by omega
  have h5 : IntKind.u64.wrap (IntKind.i64.wrap (7 - (n : Int).tmod 8)) = ((7 - n % 8 : Nat) : Int) := by
    rw [show (n : Int).tmod 8 = ((n % 8 : Nat) : Int) from rfl, wrapI (by omega) (by omega), IntKind.wrap_u64]; omega
  have h6 : ¬ ((7 - n % 8 : Nat) : Int) < 0 := by omega
  have hlp := blk?_lt hp
  have hli := blk?_lt hid
  have h7 := or_bit ⟨xs[n / 8], hx⟩ ⟨7 - n % 8, by omega⟩ ⟨b, by omega⟩ (by simp only; rw [show 7 - n % 8 + 1 = 8 - n % 8 by omega]; exact hz)
  simp only at h7
  have hg : (u8s xs)[n / 8]? = some (.int .u8 xs[n / 8]) := by simp [u8s, hi]
  have hlen : (u8s xs).length = xs.length := by simp [u8s]
  have hset : ∀ y : Nat, (u8s xs).set (n / 8) (.int .u8 y) = u8s (xs.set (n / 8) y) := fun y => by simp [u8s, List.map_set]
  have h8 : n / 8 + 1 ≤ xs.length := hi
  generalize xs[n / 8] + b * 2 ^ (7 - n % 8) = y at h7 hy
  simp [hp, hid, hlp, hli, hw, hq, h2, h3, h5, h6, h7, h8, hg, hlen, hset, blk?_set_eq, blk?_set_ne hne, blk?_set_ne (Ne.symm hne), fin48, hy]

theorem pack_byte {bs : List Nat} (hi : bs.length / 8 < (pack bs).length) : (pack bs)[bs.length / 8] = byteAt bs (bs.length / 8) := by
  have := pack_getD bs (bs.length / 8)
  rw [List.getD_eq_getElem?_getD, List.getElem?_eq_getElem hi] at this
  exact this

theorem put48 {h : Heap} {p : Nat} {s : Value} {bs : List Nat} {b : Nat} (hw : PW h p s bs) (hb : b ≤ 1) (hl : bs.length < 1000000) :
    ∃ s' h', (∀ R : Value → Heap → Prop, Ret tab 48 [ptr p, .int .i64 b] h R = R (.tuple #[]) h') ∧ PW h' p s' (bs ++ [b]) ∧ Fr h h' p s s' := by
  obtain ⟨hp, ho, hne, hbits⟩ := hw
  have hlp := blk?_lt hp
  have hpl := pack_length bs
  by_cases h8 : bs.length % 8 = 0
  · -- a byte more
    have h0 : ((bs.length : Int).tmod 8 == 0) = true := by
      rw [show (bs.length : Int).tmod 8 = ((bs.length % 8 : Nat) : Int) from rfl, h8]; rfl
    have hsl : Sl (h ++ [some ⟨false, [.int .u8 0]⟩]) 1 (.slice (some ⟨h.length, 0, none⟩) 1 1) 1 [.int .u8 0] :=
      ⟨by simp, .inr ⟨h.length, 0, rfl, .inr ⟨_, blk?_push_eq, by simp, by simp⟩⟩⟩
    have ho' : OwnS (h ++ [some ⟨false, [.int .u8 0]⟩]) 1 s (pack bs).length (u8s (pack bs)) := ho.of_blk fun id _ hb => blk?_push hb
    obtain ⟨H, ha, hK, hHl, hHs⟩ := own_append (bytes := 1) ho' hsl (by unfold roomCells; omega) (by omega) (by omega)
    simp only [List.length_append, List.length_singleton] at ha hK hHl hHs
    have hHp : blk? H p = some ⟨false, [.bool true, s, .int .i64 bs.length]⟩ := by
      rw [hHs p (by omega) hne, blk?_push_lt hlp]; exact hp
    have hlpH := blk?_lt hHp
    have hlen1 : (pack bs ++ [0]).length = (pack bs).length + 1 := by simp
    have hq : bs.length / 8 = (pack bs).length := by omega
    have hys : (pack bs ++ [0]).set (bs.length / 8) ((pack bs ++ [0])[bs.length / 8]'(by omega) + b * 2 ^ (7 - bs.length % 8)) = pack (bs ++ [b]) := by
      rw [pack_push0 h8, h8]
      simp [hq]
    have hlen2 : (pack (bs ++ [b])).length = (pack bs).length + 1 := by rw [pack_push0 h8]; simp
    generalize hH1 : H.set p (some ⟨false, [.bool true, .slice (some ⟨h.length + 1, 0, none⟩) ((pack bs).length + 1) 1, .int .i64 bs.length]⟩) = H1
    have hH1l : H1.length = h.length + 2 := by rw [← hH1]; simp [hHl]
    have hon := put48_on (h := H1) (p := p) (id := h.length + 1) (xs := pack bs ++ [0]) (n := bs.length) (b := b)
      (by rw [← hH1, blk?_set_eq hlpH, hlen1]) (by rw [← hH1, blk?_set_ne (by omega), hK]; simp [u8s]) (by omega) (by omega) (by simp [hq]) (by simp [hq]) hb hl hys
    refine ⟨.slice (some ⟨h.length + 1, 0, none⟩) ((pack bs).length + 1) 1, (H1.set (h.length + 1) (some ⟨false, u8s (pack (bs ++ [b]))⟩)).set p (some ⟨false, [.bool true, .slice (some ⟨h.length + 1, 0, none⟩) ((pack bs).length + 1) 1, .int .i64 ((bs.length : Int) + 1)]⟩), fun R => ?_, ⟨?_, ?_, ?_, hbits.push hb⟩, ⟨?_, ?_, ?_⟩⟩
    · rw [enter48, show B48 = .seq (fstC B48) (sndC B48) from rfl, s_seq]
      generalize hT : sndC B48 = tl
      simp only [fstC, B48]
      simp [hp, h0, ha, hHp, hlpH, hH1, repL]
      rw [← hT, hon, hlen1]
    · rw [blk?_set_eq (by simp; omega)]; simp
    · refine ⟨by simp [u8s], .inr ⟨h.length + 1, by rw [hlen2], ?_⟩⟩
      rw [blk?_set_ne (by omega), blk?_set_eq (by omega)]
    · simp [sid]; omega
    · simp; omega
    · intro id hid hidp hids
      rw [blk?_set_ne (Ne.symm hidp), blk?_set_ne (by omega), ← hH1, blk?_set_ne (Ne.symm hidp), hHs id (by omega) hids, blk?_push_lt hid]
    · intro id hid
      simp [sid] at hid
      exact .inr (by simp; omega)
  · -- the byte goes on
    obtain ⟨id, rfl, hid⟩ := ho.ne_nil (by omega)
    have h0 : ((bs.length : Int).tmod 8 == 0) = false := by
      rw [show (bs.length : Int).tmod 8 = ((bs.length % 8 : Nat) : Int) from rfl]
      simp; omega
    have hq : bs.length / 8 < (pack bs).length := by omega
    have hne' : p ≠ id := fun e => hne (by rw [e]; rfl)
    have hby := pack_byte hq
    have hon := put48_on (p := p) (id := id) (xs := pack bs) (n := bs.length) (b := b) hp hid hne' hq (by rw [hby]; exact byteAt_lt hbits _) (by rw [hby]; exact byteAt_mod bs) hb hl (ys := pack (bs ++ [b])) (by rw [hby, pack_push1 h8])
    have hlen2 : (pack (bs ++ [b])).length = (pack bs).length := by rw [pack_push1 h8]; simp
    have hli := blk?_lt hid
    refine ⟨.slice (some ⟨id, 0, none⟩) (pack bs).length 1, (h.set id (some ⟨false, u8s (pack (bs ++ [b]))⟩)).set p (some ⟨false, [.bool true, .slice (some ⟨id, 0, none⟩) (pack bs).length 1, .int .i64 ((bs.length : Int) + 1)]⟩), fun R => ?_, ⟨?_, ?_, ?_, hbits.push hb⟩, ⟨?_, ?_, ?_⟩⟩
    · rw [enter48, show B48 = .seq (fstC B48) (sndC B48) from rfl, s_seq]
      generalize hT : sndC B48 = tl
      simp only [fstC, B48]
      simp [hp, h0]
      rw [← hT, hon]
    · rw [blk?_set_eq (by simp; omega)]; simp
    · refine ⟨by simp [u8s], .inr ⟨id, by rw [hlen2], ?_⟩⟩
      rw [blk?_set_ne (by omega), blk?_set_eq (by omega)]
    · exact hne
    · simp
    · intro j hj hjp hjs
      rw [blk?_set_ne (Ne.symm hjp), blk?_set_ne (fun e => hjs (by rw [e]; rfl))]
    · intro j hj
      exact .inl hj

theorem put20 {h : Heap} {p : Nat} {s : Value} {bs : List Nat} {b : Nat} (hw : PW h p s bs) (hb : b ≤ 1) (hl : bs.length < 1000000) :
    ∃ s' h', (∀ R : Value → Heap → Prop, Ret tab 20 [ptr p, .int .i64 b] h R = R (.int .i64 0) h') ∧ PW h' p s' (bs ++ [b]) ∧ Fr h h' p s s' := by
  obtain ⟨s', h', e, w, f⟩ := put48 hw hb hl
  refine ⟨s', h', fun R => ?_, w, f⟩
  have hp := hw.blk
  rw [enter20, B20]
  have : b = 0 ∨ b = 1 := by omega
  rcases this with rfl | rfl <;> simp at e <;> simp [k_guard, hp, fin20, e]

theorem put20_bad {h : Heap} {p : Nat} {s : Value} {bs : List Nat} {b : Int} (hw : PW h p s bs) (hb : b ≠ 0 ∧ b ≠ 1) (R : Value → Heap → Prop) : Ret tab 20 [ptr p, .int .i64 b] h R = R (.int .i64 2) h := by
  have hp := hw.blk
  have h1 : (b != 0) = true := by simp [hb.1]
  have h2 : (b != 1) = true := by simp [hb.2]
  rw [enter20, B20]
  simp [k_guard, hp, fin20, h1, h2]

theorem put21 {h : Heap} {p : Nat} {s : Value} {bs : List Nat} {b : Nat} (hw : QW h p s bs) (hb : b ≤ 1) (hl : bs.length < 1000000) :
    ∃ s' h', (∀ R : Value → Heap → Prop, Ret tab 21 [ptr p, .int .i64 b] h R = R (.int .i64 0) h') ∧ QW h' p s' (bs ++ [b]) ∧ Fr h h' p s s' := by
  obtain ⟨hp, ho, hne, hbits⟩ := hw
  have hlp := blk?_lt hp
  have hsl : Sl (h ++ [some ⟨false, [.int .i64 b]⟩]) 1 (.slice (some ⟨h.length, 0, none⟩) 1 1) 1 [.int .i64 b] :=
    ⟨by simp, .inr ⟨h.length, 0, rfl, .inr ⟨_, blk?_push_eq, by simp, by simp⟩⟩⟩
  have ho' : OwnS (h ++ [some ⟨false, [.int .i64 b]⟩]) 1 s bs.length (i64s bs) := ho.of_blk fun id _ hb => blk?_push hb
  obtain ⟨H, ha, hK, hHl, hHs⟩ := own_append (bytes := 8) ho' hsl (by unfold roomCells; omega) (by omega) (by omega)
  simp only [List.length_append, List.length_singleton] at ha hK hHl hHs
  have hHp : blk? H p = some ⟨false, [.bool true, s]⟩ := by
    rw [hHs p (by omega) hne, blk?_push_lt hlp]; exact hp
  have hlpH := blk?_lt hHp
  refine ⟨.slice (some ⟨h.length + 1, 0, none⟩) (bs.length + 1) 1, H.set p (some ⟨false, [.bool true, .slice (some ⟨h.length + 1, 0, none⟩) (bs.length + 1) 1]⟩), fun R => ?_, ⟨?_, ?_, ?_, hbits.push hb⟩, ⟨?_, ?_, ?_⟩⟩
  · have h1 : ¬ ((b : Int) < 0) := by omega
    have h2 : ¬ ((1 : Int) < b) := by omega
    rw [enter21, B21]
    simp [k_guard, hp, h1, h2, ha, hHp, fin21, repL]
  · rw [blk?_set_eq (by omega)]
  · refine ⟨by simp [i64s], .inr ⟨h.length + 1, by simp, ?_⟩⟩
    rw [blk?_set_ne (by omega), hK]; simp [i64s]
  · simp [sid]; omega
  · simp; omega
  · intro id hid hidp hids
    rw [blk?_set_ne (Ne.symm hidp), hHs id (by omega) hids, blk?_push_lt hid]
  · intro id hid
    simp [sid] at hid
    exact .inr (by simp; omega)

theorem put21_bad {h : Heap} {p : Nat} {s : Value} {bs : List Nat} {b : Int} (hw : QW h p s bs) (hb : b < 0 ∨ 1 < b) (R : Value → Heap → Prop) : Ret tab 21 [ptr p, .int .i64 b] h R = R (.int .i64 2) h := by
  have hp := hw.blk
  rw [enter21, B21]
  by_cases h1 : b < 0
  · simp [k_guard, hp, fin21, h1]
  · have h2 : 1 < b := by omega
    simp [k_guard, hp, fin21, h1, h2]
end Go.Proofs.Ytlflfkdnpalhlaa
