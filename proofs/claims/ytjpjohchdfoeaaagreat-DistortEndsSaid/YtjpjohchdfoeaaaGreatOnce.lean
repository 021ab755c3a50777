/-
  What is asked of the program alone, once for all statements.
-/
import Derived.Test.YtjpjohchdfoeaaaGreatRows
import Derived.WalkKit
import Derived.ProofKit
namespace Go.Proofs.YtjpjohchdfoeaaaGreat
open Go Go.RowKit
set_option maxRecDepth 100000 in
theorem once : (Tryz.prog.mayEnter && (Rows.blockdecPrefixesRow.lifted == Tryz.prog.liftsFinal) && (Tryz.prog.make == some Rows.blockdecPrefixesRow.make)) = true:=by kernel_rfl
theorem once_all : Tryz.prog.mayEnter = true∧Tryz.prog.liftsFinal = Rows.blockdecPrefixesRow.lifted∧Tryz.prog.make = some Rows.blockdecPrefixesRow.make:=by
  have h:=once
  simp only [Bool.and_eq_true, beq_iff_eq] at h
  exact ⟨h.1.1, h.1.2.symm, h.2⟩
theorem and_intro {a b : Bool} (ha : a = true) (hb : b = true) : (a && b) = true:=by rw [ha, hb]; rfl
end Go.Proofs.YtjpjohchdfoeaaaGreat
