/-
  Rows of integers, compared; the examples of the chapter hold.
-/
import Derived.Test.YtjpjohchdfoeaaaInp
import Derived.Test.YtjpjohchdfoeaaaSimX
namespace Go.Proofs.Ytjpjohchdfoeaaa
open Go Go.Sim
set_option linter.unusedSimpArgs false
set_option linter.unusedVariables false

/-- A row of integers of any size. -/
structure Iw (h : Heap) (s : Value) (xs : List Int) : Prop where
  sl : Sl h 1 s xs.length (i64s xs)
  sb : below h.length s = true
  bl : ∀ id b, sid s = some id → blk? h id = some b → ∀ n, belowL n b.cells = true
theorem Ints.iw {h : Heap} {s : Value} {xs : List Int} (hi : Ints h s xs) : Iw h s xs := ⟨hi.sl, hi.sb, hi.bl⟩
theorem i64s_below (n : Nat) (xs : List Int) : belowL n (i64s xs) = true := by
  rw [belowL_iff]
  intro v hv
  simp only [i64s, List.mem_map] at hv
  obtain ⟨x, _, rfl⟩ := hv
  simp
theorem iw_own {h : Heap} {s : Value} {xs : List Int} (ho : OwnS h 1 s xs.length (i64s xs)) : Iw h s xs := by
  refine ⟨ho.sl, own_below ho (Nat.le_refl _), fun id b hid hb n => ?_⟩
  rcases ho.2 with ⟨rfl, _⟩ | ⟨id', rfl, hb'⟩
  · simp [sid] at hid
  · simp [sid] at hid; subst hid
    rw [hb'] at hb; injection hb with hb; subst hb
    exact i64s_below n xs
theorem Iw.frz {h : Heap} {s : Value} {xs : List Int} (hi : Iw h s xs) : Iw (frz h) s xs := by
  refine ⟨Sl_of_cells hi.sl fun id b hid hb => ⟨_, blk_frz hb (hi.bl id b hid hb _), rfl⟩, by rw [len_frz]; exact hi.sb, fun id b hid hb => ?_⟩
  obtain ⟨b0, h0, rfl, _⟩ := frz_some hb
  exact hi.bl id b0 hid h0
theorem Iw.keep {h h' : Heap} {s : Value} {xs : List Int} (hi : Iw h s xs) (hl : h.length ≤ h'.length) (hk : ∀ id, id < h.length → blk? h' id = blk? h id) : Iw h' s xs := by
  refine ⟨hi.sl.of_sid fun id b _ hb => by rw [hk id (blk?_lt hb)]; exact hb, below_mono hl _ hi.sb, fun id b hid hb => ?_⟩
  have hlt : id < h.length := by
    obtain ⟨a, c, hs⟩ := hi.sl.shape
    have := hi.sb
    rw [hs] at this hid
    cases a with
    | none => simp [sid] at hid
    | some a => simp [sid] at hid this; omega
  rw [hk id hlt] at hb
  exact hi.bl id b hid hb
theorem Iw.get {h : Heap} {s : Value} {xs : List Int} (hi : Iw h s xs) {i : Nat} (hil : i < xs.length) :
    ∃ id off b, s = .slice (some ⟨id, off, none⟩) xs.length 1 ∧ blk? h id = some b ∧ b.cells[off + i]? = some (.int .i64 xs[i]) := by
  obtain ⟨id, off, b, e, hb, hc⟩ := hi.sl.get hil
  have := hc 0 (by omega)
  refine ⟨id, off, b, e, hb, ?_⟩
  rw [Nat.mul_one, Nat.add_zero, Nat.add_zero] at this
  rw [this]; simp [i64s, hil]

section
variable {h : Heap} {R : Value → Heap → Prop}
theorem sameInts_loop {s t v4 : Value} {a b : List Int} (ha : Iw h s a) (hb : Iw h t b) (hlen : a.length = b.length) (hl : a.length < 9000000000) {k : List RItem}
    (hk : ∀ K2 K3 K5 K6 K7 K8 K9 Ka Kb Kc Kd Ke Kf Kg Kh Ki Kj Kk Kl Km Kn Ko Kp : Value, Ok tab R31 k #[s,t,K2,K3,v4,K5,K6,K7,K8,K9,Ka,Kb,Kc,Kd,Ke,Kf,Kg,Kh,Ki,Kj,Kk,Kl,Km,Kn,Ko,Kp] h R = R (.bool true) h) :
    ∀ (n i : Nat) (K2 K3 K5 K6 K7 K8 K9 Ka Kb Ke Kf Kg Kh Ki Kj Kk Kl Km Kn Ko Kp : Value), n = a.length - i → i ≤ a.length →
      Ok tab R31 (.inLoop L31_0 :: .inBlock 0 :: k) #[s,t,K2,K3,v4,K5,K6,K7,K8,K9,Ka,Kb,.int .i64 a.length,.int .i64 i,Ke,Kf,Kg,Kh,Ki,Kj,Kk,Kl,Km,Kn,Ko,Kp] h R = R (.bool (decide (a.drop i = b.drop i))) h := by
  intro n
  induction n with
  | zero =>
    intro i K2 K3 K5 K6 K7 K8 K9 Ka Kb Ke Kf Kg Kh Ki Kj Kk Kl Km Kn Ko Kp hn hi
    have hlt : ¬ ((i : Int) < a.length) := by omega
    rw [ok_round, l31_0, L31_0a, L31_0b]
    simp [hlt, hk]
    rw [List.drop_of_length_le (by omega), List.drop_of_length_le (by omega)]; simp
  | succ n ih =>
    intro i K2 K3 K5 K6 K7 K8 K9 Ka Kb Ke Kf Kg Kh Ki Kj Kk Kl Km Kn Ko Kp hn hi
    have hlt : ((i : Int) < a.length) := by omega
    have hia : i < a.length := by omega
    have hib : i < b.length := by omega
    have hw : IntKind.i64.wrap ((i : Int) + 1) = ((i + 1 : Nat) : Int) := wrapN (n := i + 1) (by omega)
    obtain ⟨id1, off1, b1, hs, hb1, hc1⟩ := ha.get hia
    obtain ⟨id2, off2, b2, ht, hb2, hc2⟩ := hb.get hib
    have hltb : ((i : Int) < b.length) := by omega
    have ih' := fun K2 K3 K5 K6 K7 K8 K9 Ka Kb Ke Kf Kg Kh Ki Kj Kk Kl Km Kn Ko Kp => ih (i + 1) K2 K3 K5 K6 K7 K8 K9 Ka Kb Ke Kf Kg Kh Ki Kj Kk Kl Km Kn Ko Kp (by omega) (by omega)
    have hda : a.drop i = a[i] :: a.drop (i + 1) := List.drop_eq_getElem_cons hia
    have hdb : b.drop i = b[i] :: b.drop (i + 1) := List.drop_eq_getElem_cons hib
    rw [hda, hdb]
    rw [ok_round, l31_0, L31_0a, L31_0b]
    subst hs; subst ht
    generalize a[i] = p at *
    generalize b[i] = q at *
    generalize ((i + 1 : Nat) : Int) = i1 at *
    by_cases hpq : p = q
    · subst hpq
      simp [hlt, hltb, hia, hib, hb1, hb2, hc1, hc2, hw, ih']
    · have hpq' : (p != q) = true := by simp [hpq]
      simp [hlt, hltb, hia, hib, hb1, hb2, hc1, hc2, hpq, hpq', fin31]
theorem sameInts_r {s t : Value} {a b : List Int} (ha : Iw h s a) (hb : Iw h t b) (hl : a.length < 9000000000) (hl2 : b.length < 9000000000) : Ret tab 31 [s, t] h R = R (.bool (decide (a = b))) h := by
  obtain ⟨a1, c1, hs⟩ := ha.sl.shape
  obtain ⟨a2, c2, ht⟩ := hb.sl.shape
  rw [enter31, B31]
  by_cases hlen : a.length = b.length
  · have hc := sameInts_loop ha.frz hb.frz hlen hl (v4 := .bool false) (k := [.code ((RCode.region [⟨some 4, .mov (.const (.bool true)), none⟩] []).seq .ret)]) (R := fun v _ => below h.length v = true ∧ R v h)
      (fun K2 K3 K5 K6 K7 K8 K9 Ka Kb Kc Kd Ke Kf Kg Kh Ki Kj Kk Kl Km Kn Ko Kp => by simp [fin31])
    have hb1 := ha.sb
    have hb2 := hb.sb
    have hle : ((a.length : Int) != (b.length : Int)) = false := by simp; omega
    have hc' := fun K2 K3 K5 K6 K7 K8 K9 Ka Kb Ke Kf Kg Kh Ki Kj Kk Kl Km Kn Ko Kp => hc a.length 0 K2 K3 K5 K6 K7 K8 K9 Ka Kb Ke Kf Kg Kh Ki Kj Kk Kl Km Kn Ko Kp (by omega) (by omega)
    simp only [List.drop_zero] at hc'
    rw [hs, ht] at *
    simp [-bl_slice, hb1, hb2, hle]
    simp at hc'
    rw [hc']
  · have hle : ((a.length : Int) != (b.length : Int)) = true := by simp; omega
    have hne : decide (a = b) = false := decide_eq_false fun e => hlen (by rw [e])
    have hb1 := ha.sb
    have hb2 := hb.sb
    rw [hne]
    rw [hs, ht] at *
    simp [-bl_slice, hb1, hb2, hle, fin31]
end
end Go.Proofs.Ytjpjohchdfoeaaa
