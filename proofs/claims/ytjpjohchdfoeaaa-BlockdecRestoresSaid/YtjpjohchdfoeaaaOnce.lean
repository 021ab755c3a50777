/-
  What is asked of the program alone, once for all statements.
-/
import Derived.Test.YtjpjohchdfoeaaaRows
import Derived.WalkKit
import Derived.ProofKit
namespace Go.Proofs.Ytjpjohchdfoeaaa
open Go Go.RowKit
set_option maxRecDepth 100000 in
theorem once : (Try.prog.mayEnter && (Rows.blockdecTruncatesRow.lifted == Try.prog.liftsFinal) && (Try.prog.make == some Rows.blockdecTruncatesRow.make)) = true := by kernel_rfl
theorem once_all : Try.prog.mayEnter = true ∧ Try.prog.liftsFinal = Rows.blockdecTruncatesRow.lifted ∧ Try.prog.make = some Rows.blockdecTruncatesRow.make := by
  have h := once
  simp only [Bool.and_eq_true, beq_iff_eq] at h
  exact ⟨h.1.1, h.1.2.symm, h.2⟩
theorem and_intro {a b : Bool} (ha : a = true) (hb : b = true) : (a && b) = true := by rw [ha, hb]; rfl
end Go.Proofs.Ytjpjohchdfoeaaa
