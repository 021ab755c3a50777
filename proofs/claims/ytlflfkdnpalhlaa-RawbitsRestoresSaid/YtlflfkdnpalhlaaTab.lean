/-
  The table of the functions, resolved: it is the program's. Laid by program (gentab.py).
-/
import Derived.Test.YtlflfkdnpalhlaaTabA
namespace Go.Proofs.Ytlflfkdnpalhlaa
open Go Go.Sim
def tab : Tab := fun g => match g with
  | 3 => some R3
  | 4 => some R4
  | 5 => some R5
  | 6 => some R6
  | 14 => some R14
  | 15 => some R15
  | 16 => some R16
  | 17 => some R17
  | 18 => some R18
  | 19 => some R19
  | 20 => some R20
  | 21 => some R21
  | 22 => some R22
  | 23 => some R23
  | 24 => some R24
  | 25 => some R25
  | 26 => some R26
  | 27 => some R27
  | 28 => some R28
  | 29 => some R29
  | 30 => some R30
  | 31 => some R31
  | 48 => some R48
  | 49 => some R49
  | _ => none
theorem tabOk : TabOk Try.prog tab := by
  intro g G h
  unfold tab at h
  split at h <;> try (cases h; done)
  · exact Eq.subst (motive := fun X => compileF Try.prog 3 X.iso = some X) (Option.some.inj h) c3
  · exact Eq.subst (motive := fun X => compileF Try.prog 4 X.iso = some X) (Option.some.inj h) c4
  · exact Eq.subst (motive := fun X => compileF Try.prog 5 X.iso = some X) (Option.some.inj h) c5
  · exact Eq.subst (motive := fun X => compileF Try.prog 6 X.iso = some X) (Option.some.inj h) c6
  · exact Eq.subst (motive := fun X => compileF Try.prog 14 X.iso = some X) (Option.some.inj h) c14
  · exact Eq.subst (motive := fun X => compileF Try.prog 15 X.iso = some X) (Option.some.inj h) c15
  · exact Eq.subst (motive := fun X => compileF Try.prog 16 X.iso = some X) (Option.some.inj h) c16
  · exact Eq.subst (motive := fun X => compileF Try.prog 17 X.iso = some X) (Option.some.inj h) c17
  · exact Eq.subst (motive := fun X => compileF Try.prog 18 X.iso = some X) (Option.some.inj h) c18
  · exact Eq.subst (motive := fun X => compileF Try.prog 19 X.iso = some X) (Option.some.inj h) c19
  · exact Eq.subst (motive := fun X => compileF Try.prog 20 X.iso = some X) (Option.some.inj h) c20
  · exact Eq.subst (motive := fun X => compileF Try.prog 21 X.iso = some X) (Option.some.inj h) c21
  · exact Eq.subst (motive := fun X => compileF Try.prog 22 X.iso = some X) (Option.some.inj h) c22
  · exact Eq.subst (motive := fun X => compileF Try.prog 23 X.iso = some X) (Option.some.inj h) c23
  · exact Eq.subst (motive := fun X => compileF Try.prog 24 X.iso = some X) (Option.some.inj h) c24
  · exact Eq.subst (motive := fun X => compileF Try.prog 25 X.iso = some X) (Option.some.inj h) c25
  · exact Eq.subst (motive := fun X => compileF Try.prog 26 X.iso = some X) (Option.some.inj h) c26
  · exact Eq.subst (motive := fun X => compileF Try.prog 27 X.iso = some X) (Option.some.inj h) c27
  · exact Eq.subst (motive := fun X => compileF Try.prog 28 X.iso = some X) (Option.some.inj h) c28
  · exact Eq.subst (motive := fun X => compileF Try.prog 29 X.iso = some X) (Option.some.inj h) c29
  · exact Eq.subst (motive := fun X => compileF Try.prog 30 X.iso = some X) (Option.some.inj h) c30
  · exact Eq.subst (motive := fun X => compileF Try.prog 31 X.iso = some X) (Option.some.inj h) c31
  · exact Eq.subst (motive := fun X => compileF Try.prog 48 X.iso = some X) (Option.some.inj h) c48
  · exact Eq.subst (motive := fun X => compileF Try.prog 49 X.iso = some X) (Option.some.inj h) c49
theorem enter3 (h : Heap) (R : Value → Heap → Prop) (v0 : Value) : Ret tab 3 [v0] h R = Ok tab R3 [.code B3] #[v0, undef, undef, undef, undef, undef, undef, undef, undef, undef, undef, undef, undef, undef, undef, undef, undef, undef, undef, undef, undef, undef, undef, undef, undef, undef, undef, undef, undef, undef, undef, undef, undef, undef, undef, undef, undef, undef, undef, undef, undef, undef, undef, undef, undef, undef, undef, undef, undef, undef, undef] h R :=
  (ret_eq rfl rfl).trans (by rw [env3]; rfl)
theorem enter4 (h : Heap) (R : Value → Heap → Prop) (v0 v1 : Value) : Ret tab 4 [v0, v1] h R = Ok tab R4 [.code B4] #[v0, v1, undef, undef, undef, undef, undef, undef, undef, undef, undef, undef, undef, undef, undef, undef, undef, undef, undef, undef, undef, undef, undef, undef, undef, undef, undef, undef, undef, undef, undef, undef, undef, undef, undef, undef, undef, undef] h R :=
  (ret_eq rfl rfl).trans (by rw [env4]; rfl)
theorem enter5 (h : Heap) (R : Value → Heap → Prop) (v0 v1 v2 : Value) : Ret tab 5 [v0, v1, v2] h R = Ok tab R5 [.code B5] #[v0, v1, v2, undef, undef, undef, undef, undef, undef, undef, undef, undef, undef, undef, undef, undef, undef, undef, undef, undef, undef, undef, undef, undef, undef, undef, undef, undef, undef, undef, undef, undef, undef, undef, undef, undef, undef, undef, undef, undef, undef, undef, undef, undef, undef, undef, undef, undef, undef, undef, undef, undef, undef, undef, undef, undef, undef, undef, undef, undef, undef, undef, undef, undef, undef, undef, undef, undef, undef, undef, undef, undef, undef, undef, undef, undef, undef, undef, undef, undef, undef, undef, undef, undef, undef, undef, undef, undef, undef, undef, undef, undef, undef, undef, undef, undef, undef, undef, undef, undef, undef, undef, undef, undef, undef, undef, undef, undef, undef, undef, undef, undef, undef, undef, undef, undef, undef, undef, undef, undef, undef, undef, undef, undef, undef, undef, undef, undef, undef, undef, undef, undef, undef, undef, undef, undef, undef, undef, undef, undef, undef] h R :=
  (ret_eq rfl rfl).trans (by rw [env5]; rfl)
theorem enter6 (h : Heap) (R : Value → Heap → Prop) (v0 : Value) : Ret tab 6 [v0] h R = Ok tab R6 [.code B6] #[v0, undef, undef, undef, undef, undef, undef, undef, undef, undef, undef, undef, undef, undef, undef, undef, undef, undef, undef, undef, undef, undef, undef, undef, undef, undef, undef, undef, undef, undef, undef, undef, undef, undef, undef, undef, undef, undef] h R :=
  (ret_eq rfl rfl).trans (by rw [env6]; rfl)
theorem enter15 (h : Heap) (R : Value → Heap → Prop) : Ret tab 15 [] h R = Ok tab R15 [.code B15] #[undef, undef, undef, undef] h R :=
  (ret_eq rfl rfl).trans (by rw [env15]; rfl)
theorem enter16 (h : Heap) (R : Value → Heap → Prop) : Ret tab 16 [] h R = Ok tab R16 [.code B16] #[undef, undef, undef] h R :=
  (ret_eq rfl rfl).trans (by rw [env16]; rfl)
theorem enter17 (h : Heap) (R : Value → Heap → Prop) (v0 v1 : Value) : Ret tab 17 [v0, v1] h R = Ok tab R17 [.code B17] #[v0, v1, undef, undef, undef, undef, undef, undef, undef, undef, undef, undef, undef, undef, undef, undef, undef, undef, undef, undef, undef, undef, undef, undef, undef, undef] h R :=
  (ret_eq rfl rfl).trans (by rw [env17]; rfl)
theorem enter18 (h : Heap) (R : Value → Heap → Prop) (v0 : Value) : Ret tab 18 [v0] h R = Ok tab R18 [.code B18] #[v0, undef, undef, undef, undef, undef, undef, undef, undef, undef, undef, undef, undef, undef, undef, undef, undef, undef, undef, undef, undef, undef, undef, undef, undef, undef, undef, undef, undef, undef, undef, undef, undef, undef, undef, undef, undef, undef, undef, undef, undef, undef, undef, undef, undef] h R :=
  (ret_eq rfl rfl).trans (by rw [env18]; rfl)
theorem enter19 (h : Heap) (R : Value → Heap → Prop) (v0 : Value) : Ret tab 19 [v0] h R = Ok tab R19 [.code B19] #[v0, undef, undef, undef, undef, undef, undef, undef, undef, undef, undef, undef, undef, undef, undef, undef, undef, undef, undef, undef, undef, undef, undef, undef, undef, undef, undef, undef, undef, undef, undef, undef, undef, undef, undef, undef, undef, undef, undef, undef, undef, undef, undef, undef, undef, undef, undef, undef, undef, undef, undef, undef, undef, undef, undef, undef] h R :=
  (ret_eq rfl rfl).trans (by rw [env19]; rfl)
theorem enter20 (h : Heap) (R : Value → Heap → Prop) (v0 v1 : Value) : Ret tab 20 [v0, v1] h R = Ok tab R20 [.code B20] #[v0, v1, undef, undef, undef, undef, undef, undef, undef, undef, undef, undef, undef, undef, undef, undef, undef, undef, undef, undef, undef, undef, undef, undef, undef, undef] h R :=
  (ret_eq rfl rfl).trans (by rw [env20]; rfl)
theorem enter21 (h : Heap) (R : Value → Heap → Prop) (v0 v1 : Value) : Ret tab 21 [v0, v1] h R = Ok tab R21 [.code B21] #[v0, v1, undef, undef, undef, undef, undef, undef, undef, undef, undef, undef, undef, undef, undef, undef, undef, undef, undef, undef, undef, undef, undef, undef, undef, undef, undef, undef, undef, undef] h R :=
  (ret_eq rfl rfl).trans (by rw [env21]; rfl)
theorem enter22 (h : Heap) (R : Value → Heap → Prop) (v0 : Value) : Ret tab 22 [v0] h R = Ok tab R22 [.code B22] #[v0, undef, undef, undef, undef, undef, undef, undef, undef, undef, undef, undef, undef, undef, undef, undef, undef, undef, undef] h R :=
  (ret_eq rfl rfl).trans (by rw [env22]; rfl)
theorem enter23 (h : Heap) (R : Value → Heap → Prop) (v0 : Value) : Ret tab 23 [v0] h R = Ok tab R23 [.code B23] #[v0, undef, undef, undef, undef, undef, undef, undef, undef, undef, undef, undef] h R :=
  (ret_eq rfl rfl).trans (by rw [env23]; rfl)
theorem enter24 (h : Heap) (R : Value → Heap → Prop) (v0 : Value) : Ret tab 24 [v0] h R = Ok tab R24 [.code B24] #[v0, undef, undef, undef, undef, undef, undef, undef] h R :=
  (ret_eq rfl rfl).trans (by rw [env24]; rfl)
theorem enter25 (h : Heap) (R : Value → Heap → Prop) (v0 : Value) : Ret tab 25 [v0] h R = Ok tab R25 [.code B25] #[v0, undef, undef, undef, undef, undef, undef, undef] h R :=
  (ret_eq rfl rfl).trans (by rw [env25]; rfl)
theorem enter26 (h : Heap) (R : Value → Heap → Prop) (v0 : Value) : Ret tab 26 [v0] h R = Ok tab R26 [.code B26] #[v0, undef, undef, undef, undef, undef, undef, undef, undef, undef, undef, undef, undef, undef, undef, undef, undef] h R :=
  (ret_eq rfl rfl).trans (by rw [env26]; rfl)
theorem enter27 (h : Heap) (R : Value → Heap → Prop) (v0 : Value) : Ret tab 27 [v0] h R = Ok tab R27 [.code B27] #[v0, undef, undef, undef, undef, undef, undef, undef, undef, undef, undef, undef, undef, undef, undef, undef, undef, undef, undef, undef, undef, undef, undef, undef, undef, undef, undef, undef, undef, undef, undef, undef, undef, undef, undef, undef, undef, undef, undef, undef, undef, undef, undef, undef, undef, undef] h R :=
  (ret_eq rfl rfl).trans (by rw [env27]; rfl)
theorem enter28 (h : Heap) (R : Value → Heap → Prop) (v0 : Value) : Ret tab 28 [v0] h R = Ok tab R28 [.code B28] #[v0, undef, undef, undef, undef, undef, undef, undef, undef, undef, undef, undef, undef, undef, undef, undef, undef, undef] h R :=
  (ret_eq rfl rfl).trans (by rw [env28]; rfl)
theorem enter29 (h : Heap) (R : Value → Heap → Prop) (v0 : Value) : Ret tab 29 [v0] h R = Ok tab R29 [.code B29] #[v0, undef, undef, undef, undef, undef, undef, undef, undef] h R :=
  (ret_eq rfl rfl).trans (by rw [env29]; rfl)
theorem enter30 (h : Heap) (R : Value → Heap → Prop) (v0 : Value) : Ret tab 30 [v0] h R = Ok tab R30 [.code B30] #[v0, undef, undef, undef, undef, undef, undef, undef, undef, undef, undef, undef, undef, undef, undef, undef, undef, undef, undef, undef, undef, undef, undef, undef, undef, undef, undef, undef, undef] h R :=
  (ret_eq rfl rfl).trans (by rw [env30]; rfl)
theorem enter31 (h : Heap) (R : Value → Heap → Prop) (v0 v1 v2 : Value) : Ret tab 31 [v0, v1, v2] h R = Ok tab R31 [.code B31] #[v0, v1, v2, undef, undef, undef, undef, undef, undef, undef, undef, undef, undef, undef, undef, undef, undef, undef, undef, undef, undef, undef, undef, undef, undef, undef, undef, undef, undef, undef, undef, undef, undef, undef, undef, undef, undef, undef] h R :=
  (ret_eq rfl rfl).trans (by rw [env31]; rfl)
theorem enter48 (h : Heap) (R : Value → Heap → Prop) (v0 v1 : Value) : Ret tab 48 [v0, v1] h R = Ok tab R48 [.code B48] #[v0, v1, undef, undef, undef, undef, undef, undef, undef, undef, undef, undef, undef, undef, undef, undef, undef, undef, undef, undef, undef, undef, undef, undef, undef, undef, undef, undef, undef, undef, undef, undef, undef, undef, undef, undef, undef, undef, undef, undef, undef, undef, undef, undef, undef, undef, undef, undef, undef] h R :=
  (ret_eq rfl rfl).trans (by rw [env48]; rfl)
theorem enter49 (h : Heap) (R : Value → Heap → Prop) (v0 : Value) : Ret tab 49 [v0] h R = Ok tab R49 [.code B49] #[v0, undef, undef, undef, undef, undef, undef, undef, undef, undef, undef, undef, undef, undef, undef, undef, undef, undef, undef, undef, undef, undef, undef, undef, undef, undef, undef, undef, undef, undef, undef, undef, undef, undef, undef, undef, undef, undef] h R :=
  (ret_eq rfl rfl).trans (by rw [env49]; rfl)
end Go.Proofs.Ytlflfkdnpalhlaa
