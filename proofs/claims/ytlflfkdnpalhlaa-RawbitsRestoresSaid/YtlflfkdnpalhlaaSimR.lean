/-
  Rows of integers that came in, as blocks.
-/
import Derived.Test.YtlflfkdnpalhlaaSimQ
namespace Go.Sim
open Go.RowKit

/-- A slice of integers that came in: nil, or a row of 'cap' cells, the numbers 'zs' (the first 'len' are its elements). -/
def IsRow (k : IntKind) (w : World) (a : Option Addr) (len cap : Nat) (zs : List Int) : Prop :=
  (a = none ∧ len = 0 ∧ cap = 0 ∧ zs = []) ∨
  ∃ x, a = some x ∧ len ≤ cap ∧ cap ≤ maxLen ∧ zs.length = cap ∧ (∀ i, i < zs.length → w.cell? (x.add i) = some (.int k (zs.getD i 0))) ∧ ∀ n ∈ zs, (Lit.int k n).wf = true

def rowOf (k : IntKind) (a : Option Addr) (len cap : Nat) (zs : List Int) : Row := ⟨1, a, len, cap, zs.map fun n => .int k n⟩

theorem IsRow.ok {k : IntKind} {w : World} {a : Option Addr} {len cap : Nat} {zs : List Int} (hr : IsRow k w a len cap zs) : (rowOf k a len cap zs).ok w := by
  rcases hr with ⟨h1, h2, h3, h4⟩ | ⟨x, h1, h2, _, h4, h5, _⟩
  · exact .inl ⟨h1, h2, h3, by simp [rowOf, h4]⟩
  · refine .inr ⟨x, h1, h2, by simp [rowOf, h4], fun i v hv => ?_⟩
    simp only [rowOf, List.getElem?_map] at hv
    cases hz : zs[i]? with
    | none => rw [hz] at hv; cases hv
    | some z =>
      rw [hz] at hv
      simp only [Option.map_some, Option.some.injEq] at hv
      subst hv
      refine ⟨rfl, rfl, ?_⟩
      have := h5 i (List.getElem?_eq_some_iff.1 hz).1
      rw [this, List.getD_eq_getElem?_getD, hz]; rfl

theorem IsRow.le {k : IntKind} {w : World} {a : Option Addr} {len cap : Nat} {zs : List Int} (hr : IsRow k w a len cap zs) : len ≤ zs.length := by
  rcases hr with ⟨_, h2, _, _⟩ | ⟨_, _, h2, _, h4, _⟩ <;> omega

theorem IsRow.wf {k : IntKind} {w : World} {a : Option Addr} {len cap : Nat} {zs : List Int} (hr : IsRow k w a len cap zs) : ∀ n ∈ zs, (Lit.int k n).wf = true := by
  rcases hr with ⟨_, _, _, h4⟩ | ⟨_, _, _, _, _, _, h⟩
  · subst h4; intro n hn; cases hn
  · exact h

/-- The elements of a row of integers. -/
theorem IsRow.sl {k : IntKind} {w : World} {a : Option Addr} {len cap : Nat} {zs : List Int} (hr : IsRow k w a len cap zs) {rs : List Row} {id : Nat} (hid : rs[id]? = some (rowOf k a len cap zs)) :
    Sl (heapOf rs) 1 ((rowOf k a len cap zs).val id) len ((zs.take len).map fun n => .int k n) := by
  have := sl_row hid hr.ok (by simp [rowOf])
  simpa [rowOf, List.map_take] using this

theorem wf_u8 {n : Int} (h : (Lit.int .u8 n).wf = true) : 0 ≤ n ∧ n < 256 := by
  have : (Lit.int .u8 n).wf = (decide (0 ≤ n) && decide (n ≤ 255)) := rfl
  rw [this] at h
  simp at h; omega
theorem wf_i64 {n : Int} (h : (Lit.int .i64 n).wf = true) : -9223372036854775808 ≤ n ∧ n < 9223372036854775808 := by
  have : (Lit.int .i64 n).wf = (decide (-9223372036854775808 ≤ n) && decide (n ≤ 9223372036854775807)) := rfl
  rw [this] at h
  simp at h; omega

/-- Bytes that came in. -/
theorem IsRow.bytes {w : World} {a : Option Addr} {len cap : Nat} {zs : List Int} (hr : IsRow .u8 w a len cap zs) {rs : List Row} {id : Nat} (hid : rs[id]? = some (rowOf .u8 a len cap zs)) :
    ∃ xs : List Nat, xs.length = len ∧ (∀ x ∈ xs, x < 256) ∧ Sl (heapOf rs) 1 ((rowOf .u8 a len cap zs).val id) xs.length (xs.map fun (x : Nat) => .int .u8 x) := by
  have hl : ((zs.take len).map Int.toNat).length = len := by
    have := hr.le
    simp; omega
  refine ⟨(zs.take len).map Int.toNat, hl, ?_, ?_⟩
  · intro x hx
    rw [List.mem_map] at hx
    obtain ⟨z, hz, rfl⟩ := hx
    have := wf_u8 (hr.wf z (List.mem_of_mem_take hz))
    omega
  · rw [hl]
    have := hr.sl hid
    refine (congrArg (Sl (heapOf rs) 1 ((rowOf .u8 a len cap zs).val id) len) ?_).mp this
    rw [List.map_map]
    apply List.map_congr_left
    intro z hz
    have := wf_u8 (hr.wf z (List.mem_of_mem_take hz))
    simp only [Function.comp]
    congr 1; omega
end Go.Sim
