/-
  Rows of any flat element that came in, as blocks.
-/
import Derived.Test.YtlflfkdnpalhlaaSimT
import Derived.ChangeSlices
import Derived.ChangeSame
import Derived.DataElems
namespace Go.Sim
open Go.RowKit Go.ChangeShapes Go.WideShapes

section
variable {H : Type} {enc : TypeId × Value → H} {P : Program} {w : World} {base : Nat} {held : Bool}

theorem open_row {t e : TypeId} {fuel sz len cap : Nat} {a : Option Addr} {x : DataW H × List MemPlace} {Good : List Value → Prop} (ht : P.underlying t = some (.slice e)) (hsz : P.cellsOf e = sz) (h0 : 0 < sz)
    (hflat : ∀ cs, Good cs → ∀ v ∈ cs, Sim.isCell v = true ∧ noAddr v = true)
    (hg : ∀ n cs y, cs.length = sz → DataW.trod enc P w base (fun _ => true) held n e cs = some y → Good cs)
    (h : DataW.trod enc P w base (fun _ => true) held fuel t [.slice a len cap] = some x) :
    ∃ cs, (⟨sz, a, len, cap, cs⟩ : Row).ok w ∧ cap ≤ maxLen ∧ ∀ i, i < cap → Good ((cs.drop (i * sz)).take sz) := by
  rcases DataW.trod_slice ht h with ⟨h1, _⟩ | ⟨ad, len', cap', elems, rest, n, _, h1, _, hb, hl, hm, hlen, hel, hsp, hns⟩
  · simp only [List.cons.injEq, Value.slice.injEq, and_true] at h1
    obtain ⟨rfl, rfl, rfl⟩ := h1
    exact ⟨[], .inl ⟨rfl, rfl, rfl, rfl⟩, Nat.zero_le _, fun i hi => by omega⟩
  · simp only [List.cons.injEq, Value.slice.injEq, and_true] at h1
    obtain ⟨rfl, rfl, rfl⟩ := h1
    obtain ⟨hrl, hr⟩ := hsp rfl
    have each : ∀ i, i < cap → ∃ cs', cs'.length = sz ∧ Good cs' ∧ ∀ k, k < sz → w.cell? (ad.add (i * sz + k)) = cs'[k]? := by
      intro i hi
      have hb' : ∃ y, (w.cells? base (ad.add (i * sz)) sz).bind (DataW.trod enc P w base (fun _ => true) held n e) = some y := by
        by_cases hil : i < len
        · have := hel i hil
          rw [hsz] at this
          rw [this]
          exact ⟨_, List.getElem?_eq_getElem (by omega)⟩
        · have := hr (i - len) (by omega)
          rw [hsz, show len + (i - len) = i by omega] at this
          rw [this]
          exact ⟨_, List.getElem?_eq_getElem (by omega)⟩
      obtain ⟨y, hy⟩ := hb'
      rw [Option.bind_eq_some_iff] at hy
      obtain ⟨cs', hcs, hy'⟩ := hy
      obtain ⟨_, c2, c3⟩ := World.cells?_some hcs
      exact ⟨cs', c2, hg n cs' y c2 hy', fun k hk => by rw [← Addr.add_add]; exact c3 k hk⟩
    have hget : ∀ j, j < cap * sz → ((List.range (cap * sz)).map fun j => (w.cell? (ad.add j)).getD undef)[j]? = some ((w.cell? (ad.add j)).getD undef) := fun j hj => by simp [hj]
    have hrow : ∀ i cs', i < cap → cs'.length = sz → (∀ k, k < sz → w.cell? (ad.add (i * sz + k)) = cs'[k]?) →
        (((List.range (cap * sz)).map fun j => (w.cell? (ad.add j)).getD undef).drop (i * sz)).take sz = cs' := by
      intro i cs' hi hl' hc
      have hm' : i * sz + sz ≤ cap * sz := by
        have := Nat.mul_le_mul_right sz (show i + 1 ≤ cap by omega)
        rw [Nat.add_mul] at this; omega
      apply List.ext_getElem?
      intro k
      rw [List.getElem?_take]
      by_cases hk : k < sz
      · rw [if_pos hk, List.getElem?_drop, hget _ (by omega), hc k hk, List.getElem?_eq_getElem (by omega)]; rfl
      · rw [if_neg hk, List.getElem?_eq_none (by omega)]
    refine ⟨(List.range (cap * sz)).map fun j => (w.cell? (ad.add j)).getD undef, .inr ⟨ad, rfl, hl, by simp, fun j v hv => ?_⟩, hm, fun i hi => ?_⟩
    · have hj : j < cap * sz := by have := (List.getElem?_eq_some_iff.1 hv).1; simpa using this
      have hi : j / sz < cap := by
        rw [Nat.div_lt_iff_lt_mul h0]; exact hj
      obtain ⟨cs', c1, c2, c3⟩ := each (j / sz) hi
      have hk := Nat.mod_lt j h0
      have e := c3 (j % sz) hk
      rw [Nat.mul_comm, Nat.div_add_mod] at e
      rw [hget j hj] at hv
      injection hv with hv
      have hx : cs'[j % sz]? = some (cs'[j % sz]'(by omega)) := List.getElem?_eq_getElem (by omega)
      rw [hx] at e
      rw [e] at hv
      simp only [Option.getD_some] at hv
      have := hflat cs' c2 v (by rw [← hv]; exact List.getElem_mem _)
      exact ⟨this.1, this.2, by rw [e, hv]⟩
    · obtain ⟨cs', c1, c2, c3⟩ := each i hi
      rw [hrow i cs' hi c1 c3]
      exact c2

/-- A pair of integers, as a struct of two. -/
theorem struct2_ints {n : Nat} {e t0 t1 : TypeId} {f0 f1 : Field} {k0 k1 : IntKind} {cs : List Value} {y : DataW H × List MemPlace} (he : P.underlying e = some (.struct #[f0, f1])) (hsz : P.cellsOf e = 2)
    (ht0 : f0.type = t0) (ht1 : f1.type = t1) (u0 : P.underlying t0 = some (.int k0)) (u1 : P.underlying t1 = some (.int k1)) (ho0 : f0.offset = 0) (ho1 : f1.offset = 1) (c0 : P.cellsOf t0 = 1) (c1 : P.cellsOf t1 = 1)
    (h : DataW.trod enc P w base (fun _ => true) held n e cs = some y) : ∃ a b : Int, cs = [.int k0 a, .int k1 b] ∧ (Lit.int k0 a).wf = true ∧ (Lit.int k1 b).wf = true := by
  obtain ⟨y0, y1, m, _, hl, h0, h1⟩ := trod_struct2 he h
  rw [hsz] at hl
  subst ht0; subst ht1
  rw [ho0, c0, List.drop_zero] at h0
  rw [ho1, c1] at h1
  obtain ⟨a, e0, _, w0⟩ := DataW.trod_int u0 h0
  obtain ⟨b, e1, _, w1⟩ := DataW.trod_int u1 h1
  match cs, hl with
  | [x, y], _ =>
    simp at e0 e1
    exact ⟨a, b, by rw [e0, e1], w0, w1⟩
end
end Go.Sim
