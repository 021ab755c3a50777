/-
  The block that comes in.
-/
import Derived.Test.YtjpjohchdfoeaaaVals2
namespace Go.Proofs.Ytjpjohchdfoeaaa
open Go Go.Sim
set_option linter.unusedSimpArgs false
set_option linter.unusedVariables false

theorem ints_row {w : World} {a : Option Addr} {len cap : Nat} {zs : List Int} (hr : IsRow .i64 w a len cap zs) {rs : List Row} {id : Nat} (hid : rs[id]? = some (rowOf .i64 a len cap zs)) :
    Ints (heapOf rs) ((rowOf .i64 a len cap zs).val id) (zs.take len) := by
  have hl : (zs.take len).length = len := by have := hr.le; simp; omega
  have hlt := (List.getElem?_eq_some_iff.1 hid).1
  refine ⟨by rw [hl]; exact hr.sl hid, ?_, fun j b hj hb n => ?_, fun v hv => wf_i64 (hr.wf v (List.mem_of_mem_take hv))⟩
  · unfold Row.val
    split
    · simp
    · simp [heapOf]; exact hlt
  · obtain ⟨r, h1, _, rfl⟩ := blk_heapOf hb
    have : j = id := by
      unfold Row.val at hj
      split at hj
      · simp [sid] at hj
      · simp [sid] at hj; exact hj.symm
    subst this
    rw [hid] at h1; injection h1 with h1; subst h1
    rw [belowL_iff]
    intro v hv
    simp only [rowOf, List.mem_map] at hv
    obtain ⟨x, _, rfl⟩ := hv
    simp
/-- The input of the laws. -/
structure Inp where
  w : Int
  h : Int
  xs : List Int
  fl : Nat
  o : Int
  m : MD
def Inp.val (i : Inp) (s t : Value) : Value := .agg #[.int .i64 i.w, .int .i64 i.h, s, t, .int .i64 i.o, .bool i.m.byp, .bool i.m.res, .bool i.m.rst, .bool i.m.cz, .bool i.m.sy]
end Go.Proofs.Ytjpjohchdfoeaaa
