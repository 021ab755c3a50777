/-
  The table of the functions, resolved: it is the program's. Laid by program (gentab.py).
-/
import Derived.Test.YtjpjohchdfoeaaaTabA
namespace Go.Proofs.Ytjpjohchdfoeaaa
open Go Go.Sim
def tab : Tab := fun g => match g with
  | 14 => some R14
  | 15 => some R15
  | 16 => some R16
  | 17 => some R17
  | 18 => some R18
  | 29 => some R29
  | 33 => some R33
  | 43 => some R43
  | 48 => some R48
  | 53 => some R53
  | 54 => some R54
  | 55 => some R55
  | 56 => some R56
  | 57 => some R57
  | 58 => some R58
  | 59 => some R59
  | 60 => some R60
  | 61 => some R61
  | 62 => some R62
  | 74 => some R74
  | 75 => some R75
  | 86 => some R86
  | 90 => some R90
  | 94 => some R94
  | 96 => some R96
  | 100 => some R100
  | 101 => some R101
  | 102 => some R102
  | 104 => some R104
  | 107 => some R107
  | 108 => some R108
  | 109 => some R109
  | 110 => some R110
  | 111 => some R111
  | 112 => some R112
  | 113 => some R113
  | 114 => some R114
  | 116 => some R116
  | 138 => some R138
  | 143 => some R143
  | 145 => some R145
  | 146 => some R146
  | 147 => some R147
  | 148 => some R148
  | 149 => some R149
  | 150 => some R150
  | 151 => some R151
  | 152 => some R152
  | 153 => some R153
  | 154 => some R154
  | 155 => some R155
  | 172 => some R172
  | 173 => some R173
  | 174 => some R174
  | 175 => some R175
  | 176 => some R176
  | _ => none
theorem tabOk : TabOk Try.prog tab := by
  intro g G h
  unfold tab at h
  split at h <;> try (cases h; done)
  · exact Eq.subst (motive := fun X => compileF Try.prog 14 X.iso = some X) (Option.some.inj h) c14
  · exact Eq.subst (motive := fun X => compileF Try.prog 15 X.iso = some X) (Option.some.inj h) c15
  · exact Eq.subst (motive := fun X => compileF Try.prog 16 X.iso = some X) (Option.some.inj h) c16
  · exact Eq.subst (motive := fun X => compileF Try.prog 17 X.iso = some X) (Option.some.inj h) c17
  · exact Eq.subst (motive := fun X => compileF Try.prog 18 X.iso = some X) (Option.some.inj h) c18
  · exact Eq.subst (motive := fun X => compileF Try.prog 29 X.iso = some X) (Option.some.inj h) c29
  · exact Eq.subst (motive := fun X => compileF Try.prog 33 X.iso = some X) (Option.some.inj h) c33
  · exact Eq.subst (motive := fun X => compileF Try.prog 43 X.iso = some X) (Option.some.inj h) c43
  · exact Eq.subst (motive := fun X => compileF Try.prog 48 X.iso = some X) (Option.some.inj h) c48
  · exact Eq.subst (motive := fun X => compileF Try.prog 53 X.iso = some X) (Option.some.inj h) c53
  · exact Eq.subst (motive := fun X => compileF Try.prog 54 X.iso = some X) (Option.some.inj h) c54
  · exact Eq.subst (motive := fun X => compileF Try.prog 55 X.iso = some X) (Option.some.inj h) c55
  · exact Eq.subst (motive := fun X => compileF Try.prog 56 X.iso = some X) (Option.some.inj h) c56
  · exact Eq.subst (motive := fun X => compileF Try.prog 57 X.iso = some X) (Option.some.inj h) c57
  · exact Eq.subst (motive := fun X => compileF Try.prog 58 X.iso = some X) (Option.some.inj h) c58
  · exact Eq.subst (motive := fun X => compileF Try.prog 59 X.iso = some X) (Option.some.inj h) c59
  · exact Eq.subst (motive := fun X => compileF Try.prog 60 X.iso = some X) (Option.some.inj h) c60
  · exact Eq.subst (motive := fun X => compileF Try.prog 61 X.iso = some X) (Option.some.inj h) c61
  · exact Eq.subst (motive := fun X => compileF Try.prog 62 X.iso = some X) (Option.some.inj h) c62
  · exact Eq.subst (motive := fun X => compileF Try.prog 74 X.iso = some X) (Option.some.inj h) c74
  · exact Eq.subst (motive := fun X => compileF Try.prog 75 X.iso = some X) (Option.some.inj h) c75
  · exact Eq.subst (motive := fun X => compileF Try.prog 86 X.iso = some X) (Option.some.inj h) c86
  · exact Eq.subst (motive := fun X => compileF Try.prog 90 X.iso = some X) (Option.some.inj h) c90
  · exact Eq.subst (motive := fun X => compileF Try.prog 94 X.iso = some X) (Option.some.inj h) c94
  · exact Eq.subst (motive := fun X => compileF Try.prog 96 X.iso = some X) (Option.some.inj h) c96
  · exact Eq.subst (motive := fun X => compileF Try.prog 100 X.iso = some X) (Option.some.inj h) c100
  · exact Eq.subst (motive := fun X => compileF Try.prog 101 X.iso = some X) (Option.some.inj h) c101
  · exact Eq.subst (motive := fun X => compileF Try.prog 102 X.iso = some X) (Option.some.inj h) c102
  · exact Eq.subst (motive := fun X => compileF Try.prog 104 X.iso = some X) (Option.some.inj h) c104
  · exact Eq.subst (motive := fun X => compileF Try.prog 107 X.iso = some X) (Option.some.inj h) c107
  · exact Eq.subst (motive := fun X => compileF Try.prog 108 X.iso = some X) (Option.some.inj h) c108
  · exact Eq.subst (motive := fun X => compileF Try.prog 109 X.iso = some X) (Option.some.inj h) c109
  · exact Eq.subst (motive := fun X => compileF Try.prog 110 X.iso = some X) (Option.some.inj h) c110
  · exact Eq.subst (motive := fun X => compileF Try.prog 111 X.iso = some X) (Option.some.inj h) c111
  · exact Eq.subst (motive := fun X => compileF Try.prog 112 X.iso = some X) (Option.some.inj h) c112
  · exact Eq.subst (motive := fun X => compileF Try.prog 113 X.iso = some X) (Option.some.inj h) c113
  · exact Eq.subst (motive := fun X => compileF Try.prog 114 X.iso = some X) (Option.some.inj h) c114
  · exact Eq.subst (motive := fun X => compileF Try.prog 116 X.iso = some X) (Option.some.inj h) c116
  · exact Eq.subst (motive := fun X => compileF Try.prog 138 X.iso = some X) (Option.some.inj h) c138
  · exact Eq.subst (motive := fun X => compileF Try.prog 143 X.iso = some X) (Option.some.inj h) c143
  · exact Eq.subst (motive := fun X => compileF Try.prog 145 X.iso = some X) (Option.some.inj h) c145
  · exact Eq.subst (motive := fun X => compileF Try.prog 146 X.iso = some X) (Option.some.inj h) c146
  · exact Eq.subst (motive := fun X => compileF Try.prog 147 X.iso = some X) (Option.some.inj h) c147
  · exact Eq.subst (motive := fun X => compileF Try.prog 148 X.iso = some X) (Option.some.inj h) c148
  · exact Eq.subst (motive := fun X => compileF Try.prog 149 X.iso = some X) (Option.some.inj h) c149
  · exact Eq.subst (motive := fun X => compileF Try.prog 150 X.iso = some X) (Option.some.inj h) c150
  · exact Eq.subst (motive := fun X => compileF Try.prog 151 X.iso = some X) (Option.some.inj h) c151
  · exact Eq.subst (motive := fun X => compileF Try.prog 152 X.iso = some X) (Option.some.inj h) c152
  · exact Eq.subst (motive := fun X => compileF Try.prog 153 X.iso = some X) (Option.some.inj h) c153
  · exact Eq.subst (motive := fun X => compileF Try.prog 154 X.iso = some X) (Option.some.inj h) c154
  · exact Eq.subst (motive := fun X => compileF Try.prog 155 X.iso = some X) (Option.some.inj h) c155
  · exact Eq.subst (motive := fun X => compileF Try.prog 172 X.iso = some X) (Option.some.inj h) c172
  · exact Eq.subst (motive := fun X => compileF Try.prog 173 X.iso = some X) (Option.some.inj h) c173
  · exact Eq.subst (motive := fun X => compileF Try.prog 174 X.iso = some X) (Option.some.inj h) c174
  · exact Eq.subst (motive := fun X => compileF Try.prog 175 X.iso = some X) (Option.some.inj h) c175
  · exact Eq.subst (motive := fun X => compileF Try.prog 176 X.iso = some X) (Option.some.inj h) c176
theorem enter14 (h : Heap) (R : Value → Heap → Prop) (v0 v1 : Value) : Ret tab 14 [v0, v1] h R = Ok tab R14 [.code B14] #[v0, v1, undef, undef, undef, undef, undef, undef, undef, undef, undef, undef, undef, undef, undef] h R :=
  (ret_eq rfl rfl).trans (by rw [env14]; rfl)
theorem enter15 (h : Heap) (R : Value → Heap → Prop) (v0 v1 v2 : Value) : Ret tab 15 [v0, v1, v2] h R = Ok tab R15 [.code B15] #[v0, v1, v2, undef, undef, undef, undef, undef, undef, undef, undef, undef, undef, undef, undef, undef, undef, undef, undef, undef, undef, undef, undef, undef, undef, undef, undef, undef, undef, undef, undef] h R :=
  (ret_eq rfl rfl).trans (by rw [env15]; rfl)
theorem enter16 (h : Heap) (R : Value → Heap → Prop) (v0 v1 v2 : Value) : Ret tab 16 [v0, v1, v2] h R = Ok tab R16 [.code B16] #[v0, v1, v2, undef, undef, undef, undef, undef, undef, undef, undef, undef, undef, undef, undef, undef, undef, undef, undef, undef, undef, undef, undef, undef, undef, undef, undef, undef, undef, undef, undef, undef, undef, undef, undef, undef, undef, undef, undef, undef, undef, undef, undef, undef, undef, undef, undef, undef, undef, undef, undef, undef, undef, undef, undef, undef, undef, undef, undef, undef, undef, undef, undef, undef, undef, undef, undef, undef, undef] h R :=
  (ret_eq rfl rfl).trans (by rw [env16]; rfl)
theorem enter17 (h : Heap) (R : Value → Heap → Prop) (v0 v1 v2 : Value) : Ret tab 17 [v0, v1, v2] h R = Ok tab R17 [.code B17] #[v0, v1, v2, undef, undef, undef, undef, undef, undef, undef, undef, undef, undef, undef, undef, undef, undef, undef, undef, undef, undef, undef, undef, undef, undef, undef, undef, undef, undef, undef, undef, undef, undef, undef, undef, undef, undef, undef, undef, undef, undef, undef, undef, undef, undef, undef, undef, undef, undef, undef, undef, undef, undef, undef, undef, undef, undef, undef, undef, undef, undef, undef, undef, undef, undef, undef, undef, undef, undef, undef, undef, undef, undef, undef, undef, undef, undef, undef, undef, undef, undef, undef, undef, undef, undef, undef, undef, undef, undef, undef, undef, undef, undef, undef, undef, undef, undef, undef, undef, undef, undef, undef, undef, undef, undef, undef, undef, undef, undef, undef, undef, undef, undef, undef, undef, undef, undef, undef, undef, undef, undef, undef, undef, undef, undef, undef, undef, undef, undef, undef, undef, undef, undef, undef, undef, undef, undef, undef, undef, undef, undef, undef, undef, undef, undef, undef, undef, undef, undef, undef, undef, undef, undef, undef, undef, undef, undef, undef, undef, undef, undef, undef, undef, undef, undef, undef, undef, undef, undef, undef, undef, undef, undef, undef, undef, undef, undef, undef, undef, undef, undef, undef, undef, undef, undef, undef, undef, undef, undef, undef, undef, undef, undef, undef, undef, undef, undef, undef, undef, undef, undef, undef, undef, undef, undef, undef, undef, undef, undef, undef, undef, undef, undef, undef, undef, undef, undef, undef, undef, undef, undef, undef, undef, undef, undef, undef, undef, undef, undef, undef, undef, undef, undef, undef, undef, undef, undef, undef, undef, undef, undef, undef, undef, undef, undef, undef, undef, undef, undef, undef, undef, undef, undef, undef, undef, undef, undef, undef, undef, undef, undef, undef, undef, undef, undef, undef, undef, undef, undef, undef, undef, undef] h R :=
  (ret_eq rfl rfl).trans (by rw [env17]; rfl)
theorem enter18 (h : Heap) (R : Value → Heap → Prop) (v0 v1 : Value) : Ret tab 18 [v0, v1] h R = Ok tab R18 [.code B18] #[v0, v1, undef, undef, undef, undef, undef, undef, undef, undef, undef, undef, undef, undef, undef, undef, undef, undef, undef, undef, undef, undef, undef, undef, undef, undef, undef, undef, undef, undef, undef, undef, undef, undef, undef, undef, undef, undef, undef, undef, undef, undef, undef, undef, undef, undef, undef, undef, undef, undef, undef, undef, undef, undef, undef, undef] h R :=
  (ret_eq rfl rfl).trans (by rw [env18]; rfl)
theorem enter29 (h : Heap) (R : Value → Heap → Prop) (v0 v1 v2 v3 v4 v5 : Value) : Ret tab 29 [v0, v1, v2, v3, v4, v5] h R = Ok tab R29 [.code B29] #[v0, v1, v2, v3, v4, v5, undef, undef, undef, undef, undef, undef, undef, undef, undef, undef, undef, undef, undef, undef, undef, undef, undef, undef, undef, undef, undef, undef, undef, undef, undef, undef, undef, undef, undef, undef, undef, undef, undef, undef, undef, undef, undef, undef, undef, undef, undef, undef, undef, undef, undef, undef, undef, undef, undef, undef, undef, undef, undef, undef, undef, undef, undef, undef, undef, undef, undef, undef, undef, undef, undef, undef, undef, undef, undef, undef, undef, undef, undef, undef, undef, undef, undef, undef, undef, undef, undef, undef, undef, undef, undef, undef, undef, undef, undef, undef, undef, undef, undef, undef, undef, undef, undef, undef, undef, undef, undef, undef, undef, undef, undef, undef, undef, undef, undef, undef, undef, undef, undef, undef, undef, undef, undef, undef, undef, undef, undef, undef, undef, undef, undef, undef, undef, undef, undef, undef, undef, undef, undef, undef, undef, undef, undef, undef, undef] h R :=
  (ret_eq rfl rfl).trans (by rw [env29]; rfl)
theorem enter33 (h : Heap) (R : Value → Heap → Prop) (v0 v1 : Value) : Ret tab 33 [v0, v1] h R = Ok tab R33 [.code B33] #[v0, v1, undef, undef, undef, undef, undef, undef, undef, undef, undef, undef, undef, undef, undef, undef, undef, undef] h R :=
  (ret_eq rfl rfl).trans (by rw [env33]; rfl)
theorem enter43 (h : Heap) (R : Value → Heap → Prop) (v0 v1 v2 v3 v4 v5 : Value) : Ret tab 43 [v0, v1, v2, v3, v4, v5] h R = Ok tab R43 [.code B43] #[v0, v1, v2, v3, v4, v5, undef, undef, undef, undef, undef, undef, undef, undef, undef, undef, undef, undef, undef, undef, undef, undef, undef, undef, undef, undef, undef, undef, undef, undef, undef, undef, undef, undef, undef, undef, undef, undef, undef, undef, undef, undef, undef, undef, undef, undef, undef, undef, undef, undef, undef, undef, undef] h R :=
  (ret_eq rfl rfl).trans (by rw [env43]; rfl)
theorem enter48 (h : Heap) (R : Value → Heap → Prop) (v0 v1 : Value) : Ret tab 48 [v0, v1] h R = Ok tab R48 [.code B48] #[v0, v1, undef, undef, undef, undef, undef, undef, undef, undef, undef, undef, undef, undef, undef, undef, undef, undef, undef, undef, undef, undef, undef, undef, undef, undef, undef, undef, undef, undef, undef, undef, undef, undef, undef, undef, undef, undef, undef, undef, undef, undef, undef, undef, undef, undef] h R :=
  (ret_eq rfl rfl).trans (by rw [env48]; rfl)
theorem enter53 (h : Heap) (R : Value → Heap → Prop) (v0 v1 : Value) : Ret tab 53 [v0, v1] h R = Ok tab R53 [.code B53] #[v0, v1, undef, undef, undef, undef, undef, undef, undef, undef, undef, undef, undef, undef, undef, undef, undef, undef, undef, undef, undef, undef, undef, undef, undef, undef, undef] h R :=
  (ret_eq rfl rfl).trans (by rw [env53]; rfl)
theorem enter54 (h : Heap) (R : Value → Heap → Prop) (v0 v1 : Value) : Ret tab 54 [v0, v1] h R = Ok tab R54 [.code B54] #[v0, v1, undef, undef, undef, undef, undef, undef, undef, undef, undef, undef, undef, undef, undef, undef, undef, undef, undef, undef, undef, undef, undef, undef, undef, undef, undef, undef] h R :=
  (ret_eq rfl rfl).trans (by rw [env54]; rfl)
theorem enter56 (h : Heap) (R : Value → Heap → Prop) (v0 v1 v2 v3 v4 : Value) : Ret tab 56 [v0, v1, v2, v3, v4] h R = Ok tab R56 [.code B56] #[v0, v1, v2, v3, v4, undef, undef, undef, undef, undef, undef, undef, undef, undef, undef, undef, undef, undef, undef, undef, undef, undef, undef, undef, undef, undef, undef, undef, undef, undef, undef, undef, undef, undef] h R :=
  (ret_eq rfl rfl).trans (by rw [env56]; rfl)
theorem enter57 (h : Heap) (R : Value → Heap → Prop) (v0 v1 v2 v3 v4 : Value) : Ret tab 57 [v0, v1, v2, v3, v4] h R = Ok tab R57 [.code B57] #[v0, v1, v2, v3, v4, undef, undef, undef, undef, undef, undef, undef, undef, undef, undef, undef, undef, undef, undef, undef, undef, undef, undef, undef, undef, undef, undef, undef] h R :=
  (ret_eq rfl rfl).trans (by rw [env57]; rfl)
theorem enter58 (h : Heap) (R : Value → Heap → Prop) (v0 v1 v2 v3 v4 v5 : Value) : Ret tab 58 [v0, v1, v2, v3, v4, v5] h R = Ok tab R58 [.code B58] #[v0, v1, v2, v3, v4, v5, undef, undef, undef, undef, undef, undef, undef, undef, undef, undef, undef, undef, undef, undef, undef, undef, undef, undef, undef, undef, undef, undef, undef, undef, undef, undef, undef, undef, undef, undef, undef, undef, undef, undef, undef, undef, undef, undef, undef, undef, undef, undef, undef, undef, undef, undef, undef, undef, undef, undef, undef, undef, undef, undef, undef, undef, undef, undef, undef, undef, undef, undef, undef, undef, undef, undef, undef, undef, undef, undef, undef, undef, undef, undef, undef, undef, undef, undef, undef] h R :=
  (ret_eq rfl rfl).trans (by rw [env58]; rfl)
theorem enter59 (h : Heap) (R : Value → Heap → Prop) (v0 v1 v2 v3 v4 v5 : Value) : Ret tab 59 [v0, v1, v2, v3, v4, v5] h R = Ok tab R59 [.code B59] #[v0, v1, v2, v3, v4, v5, undef, undef, undef, undef, undef, undef, undef, undef, undef, undef, undef, undef, undef, undef, undef, undef, undef, undef, undef, undef, undef, undef, undef, undef, undef, undef, undef, undef, undef, undef, undef, undef, undef, undef, undef, undef, undef, undef, undef, undef, undef, undef, undef, undef, undef, undef, undef, undef, undef, undef, undef, undef, undef, undef, undef, undef, undef, undef, undef, undef, undef, undef, undef, undef, undef, undef, undef, undef, undef, undef, undef, undef, undef, undef, undef, undef, undef, undef, undef] h R :=
  (ret_eq rfl rfl).trans (by rw [env59]; rfl)
theorem enter60 (h : Heap) (R : Value → Heap → Prop) (v0 v1 : Value) : Ret tab 60 [v0, v1] h R = Ok tab R60 [.code B60] #[v0, v1, undef, undef, undef, undef, undef, undef, undef, undef, undef, undef, undef, undef, undef, undef, undef, undef, undef] h R :=
  (ret_eq rfl rfl).trans (by rw [env60]; rfl)
theorem enter61 (h : Heap) (R : Value → Heap → Prop) (v0 v1 v2 : Value) : Ret tab 61 [v0, v1, v2] h R = Ok tab R61 [.code B61] #[v0, v1, v2, undef, undef, undef, undef, undef, undef, undef, undef, undef, undef, undef, undef, undef, undef, undef, undef, undef, undef, undef, undef, undef, undef, undef, undef, undef, undef, undef, undef, undef, undef] h R :=
  (ret_eq rfl rfl).trans (by rw [env61]; rfl)
theorem enter62 (h : Heap) (R : Value → Heap → Prop) (v0 v1 : Value) : Ret tab 62 [v0, v1] h R = Ok tab R62 [.code B62] #[v0, v1, undef, undef, undef, undef, undef, undef, undef, undef, undef, undef, undef, undef] h R :=
  (ret_eq rfl rfl).trans (by rw [env62]; rfl)
theorem enter74 (h : Heap) (R : Value → Heap → Prop) (v0 : Value) : Ret tab 74 [v0] h R = Ok tab R74 [.code B74] #[v0, undef, undef, undef, undef, undef, undef, undef, undef, undef, undef, undef, undef, undef, undef] h R :=
  (ret_eq rfl rfl).trans (by rw [env74]; rfl)
theorem enter75 (h : Heap) (R : Value → Heap → Prop) (v0 v1 : Value) : Ret tab 75 [v0, v1] h R = Ok tab R75 [.code B75] #[v0, v1, undef, undef, undef, undef, undef, undef, undef, undef, undef, undef, undef, undef, undef, undef, undef, undef, undef, undef, undef, undef, undef, undef, undef] h R :=
  (ret_eq rfl rfl).trans (by rw [env75]; rfl)
theorem enter86 (h : Heap) (R : Value → Heap → Prop) (v0 v1 v2 : Value) : Ret tab 86 [v0, v1, v2] h R = Ok tab R86 [.code B86] #[v0, v1, v2, undef, undef, undef, undef, undef, undef, undef, undef, undef, undef, undef, undef, undef, undef, undef] h R :=
  (ret_eq rfl rfl).trans (by rw [env86]; rfl)
theorem enter90 (h : Heap) (R : Value → Heap → Prop) (v0 v1 v2 : Value) : Ret tab 90 [v0, v1, v2] h R = Ok tab R90 [.code B90] #[v0, v1, v2, undef, undef, undef, undef, undef, undef, undef, undef, undef, undef, undef, undef, undef, undef, undef, undef, undef] h R :=
  (ret_eq rfl rfl).trans (by rw [env90]; rfl)
theorem enter94 (h : Heap) (R : Value → Heap → Prop) (v0 v1 : Value) : Ret tab 94 [v0, v1] h R = Ok tab R94 [.code B94] #[v0, v1, undef, undef, undef, undef, undef, undef, undef, undef, undef, undef, undef, undef, undef, undef, undef, undef, undef, undef, undef, undef, undef, undef, undef, undef, undef, undef, undef, undef, undef, undef, undef, undef, undef, undef, undef, undef, undef, undef, undef, undef, undef, undef, undef, undef, undef, undef, undef, undef, undef, undef, undef, undef, undef, undef, undef, undef, undef, undef, undef, undef, undef, undef, undef, undef] h R :=
  (ret_eq rfl rfl).trans (by rw [env94]; rfl)
theorem enter96 (h : Heap) (R : Value → Heap → Prop) (v0 v1 : Value) : Ret tab 96 [v0, v1] h R = Ok tab R96 [.code B96] #[v0, v1, undef, undef, undef, undef, undef, undef, undef, undef, undef, undef, undef, undef, undef, undef, undef, undef, undef] h R :=
  (ret_eq rfl rfl).trans (by rw [env96]; rfl)
theorem enter100 (h : Heap) (R : Value → Heap → Prop) (v0 v1 : Value) : Ret tab 100 [v0, v1] h R = Ok tab R100 [.code B100] #[v0, v1, undef, undef, undef, undef, undef, undef, undef, undef, undef, undef, undef, undef, undef, undef, undef, undef] h R :=
  (ret_eq rfl rfl).trans (by rw [env100]; rfl)
theorem enter101 (h : Heap) (R : Value → Heap → Prop) (v0 v1 v2 v3 v4 v5 : Value) : Ret tab 101 [v0, v1, v2, v3, v4, v5] h R = Ok tab R101 [.code B101] #[v0, v1, v2, v3, v4, v5, undef, undef, undef, undef, undef, undef, undef, undef, undef, undef, undef, undef, undef, undef, undef, undef, undef, undef, undef, undef, undef, undef, undef, undef, undef, undef, undef, undef, undef, undef, undef, undef, undef, undef, undef, undef, undef, undef, undef, undef, undef, undef, undef, undef, undef] h R :=
  (ret_eq rfl rfl).trans (by rw [env101]; rfl)
theorem enter102 (h : Heap) (R : Value → Heap → Prop) (v0 v1 v2 v3 v4 v5 : Value) : Ret tab 102 [v0, v1, v2, v3, v4, v5] h R = Ok tab R102 [.code B102] #[v0, v1, v2, v3, v4, v5, undef, undef, undef, undef, undef, undef, undef, undef, undef, undef, undef, undef, undef, undef, undef, undef, undef, undef, undef, undef, undef, undef, undef, undef, undef, undef, undef, undef, undef, undef, undef, undef, undef, undef, undef, undef, undef, undef, undef, undef, undef, undef, undef, undef, undef, undef, undef, undef, undef, undef, undef, undef, undef, undef, undef, undef, undef, undef, undef, undef, undef, undef, undef, undef, undef, undef, undef, undef, undef, undef, undef, undef, undef, undef, undef, undef, undef, undef, undef, undef, undef, undef, undef, undef, undef, undef, undef, undef, undef, undef, undef, undef, undef, undef, undef, undef, undef, undef, undef, undef, undef, undef, undef, undef, undef, undef, undef, undef, undef, undef, undef, undef, undef, undef, undef, undef, undef, undef, undef, undef, undef, undef, undef, undef, undef] h R :=
  (ret_eq rfl rfl).trans (by rw [env102]; rfl)
theorem enter104 (h : Heap) (R : Value → Heap → Prop) (v0 v1 : Value) : Ret tab 104 [v0, v1] h R = Ok tab R104 [.code B104] #[v0, v1, undef, undef, undef, undef, undef, undef, undef, undef, undef, undef, undef, undef, undef, undef, undef, undef, undef, undef, undef, undef, undef, undef, undef, undef, undef, undef, undef, undef, undef, undef, undef, undef, undef, undef, undef, undef, undef, undef, undef, undef, undef] h R :=
  (ret_eq rfl rfl).trans (by rw [env104]; rfl)
theorem enter107 (h : Heap) (R : Value → Heap → Prop) (v0 v1 : Value) : Ret tab 107 [v0, v1] h R = Ok tab R107 [.code B107] #[v0, v1, undef, undef, undef, undef, undef, undef, undef, undef, undef, undef, undef, undef, undef, undef, undef, undef, undef, undef, undef, undef, undef, undef, undef, undef, undef, undef, undef, undef, undef] h R :=
  (ret_eq rfl rfl).trans (by rw [env107]; rfl)
theorem enter108 (h : Heap) (R : Value → Heap → Prop) (v0 v1 : Value) : Ret tab 108 [v0, v1] h R = Ok tab R108 [.code B108] #[v0, v1, undef, undef, undef, undef, undef, undef, undef, undef, undef, undef, undef, undef, undef, undef, undef, undef, undef, undef, undef, undef, undef, undef, undef, undef, undef, undef, undef, undef, undef] h R :=
  (ret_eq rfl rfl).trans (by rw [env108]; rfl)
theorem enter109 (h : Heap) (R : Value → Heap → Prop) (v0 v1 v2 v3 v4 v5 v6 v7 v8 v9 : Value) : Ret tab 109 [v0, v1, v2, v3, v4, v5, v6, v7, v8, v9] h R = Ok tab R109 [.code B109] #[v0, v1, v2, v3, v4, v5, v6, v7, v8, v9, undef, undef, undef, undef, undef, undef, undef, undef, undef, undef, undef, undef, undef, undef, undef, undef, undef, undef, undef, undef, undef, undef, undef, undef, undef, undef, undef, undef, undef, undef, undef, undef, undef, undef, undef, undef, undef, undef, undef, undef, undef, undef, undef, undef, undef, undef, undef, undef, undef, undef, undef, undef, undef, undef, undef, undef, undef, undef, undef, undef, undef, undef, undef, undef, undef, undef, undef, undef, undef, undef, undef, undef, undef, undef, undef, undef, undef, undef, undef, undef, undef, undef, undef, undef, undef, undef, undef, undef, undef, undef, undef, undef, undef, undef, undef, undef, undef, undef, undef, undef, undef, undef, undef] h R :=
  (ret_eq rfl rfl).trans (by rw [env109]; rfl)
theorem enter110 (h : Heap) (R : Value → Heap → Prop) (v0 v1 : Value) : Ret tab 110 [v0, v1] h R = Ok tab R110 [.code B110] #[v0, v1, undef, undef, undef, undef, undef, undef, undef, undef, undef, undef, undef, undef, undef, undef, undef, undef, undef, undef, undef, undef, undef, undef, undef, undef] h R :=
  (ret_eq rfl rfl).trans (by rw [env110]; rfl)
theorem enter111 (h : Heap) (R : Value → Heap → Prop) (v0 v1 v2 v3 : Value) : Ret tab 111 [v0, v1, v2, v3] h R = Ok tab R111 [.code B111] #[v0, v1, v2, v3, undef, undef, undef, undef, undef, undef, undef, undef, undef, undef, undef, undef, undef, undef, undef, undef, undef, undef, undef, undef, undef, undef, undef, undef, undef, undef, undef, undef, undef, undef, undef, undef, undef, undef, undef, undef] h R :=
  (ret_eq rfl rfl).trans (by rw [env111]; rfl)
theorem enter112 (h : Heap) (R : Value → Heap → Prop) (v0 v1 v2 v3 : Value) : Ret tab 112 [v0, v1, v2, v3] h R = Ok tab R112 [.code B112] #[v0, v1, v2, v3, undef, undef, undef, undef, undef, undef, undef, undef, undef, undef, undef, undef, undef, undef, undef, undef, undef, undef, undef, undef, undef, undef, undef, undef, undef, undef, undef, undef, undef, undef, undef, undef, undef, undef, undef, undef, undef, undef, undef, undef, undef] h R :=
  (ret_eq rfl rfl).trans (by rw [env112]; rfl)
theorem enter113 (h : Heap) (R : Value → Heap → Prop) (v0 v1 : Value) : Ret tab 113 [v0, v1] h R = Ok tab R113 [.code B113] #[v0, v1, undef, undef, undef, undef, undef, undef, undef, undef, undef, undef, undef, undef, undef, undef, undef, undef, undef] h R :=
  (ret_eq rfl rfl).trans (by rw [env113]; rfl)
theorem enter114 (h : Heap) (R : Value → Heap → Prop) (v0 v1 : Value) : Ret tab 114 [v0, v1] h R = Ok tab R114 [.code B114] #[v0, v1, undef, undef, undef, undef, undef, undef, undef, undef, undef] h R :=
  (ret_eq rfl rfl).trans (by rw [env114]; rfl)
theorem enter116 (h : Heap) (R : Value → Heap → Prop) (v0 v1 v2 : Value) : Ret tab 116 [v0, v1, v2] h R = Ok tab R116 [.code B116] #[v0, v1, v2, undef, undef, undef, undef, undef, undef, undef, undef, undef, undef, undef, undef, undef, undef, undef, undef, undef, undef, undef, undef, undef, undef, undef, undef, undef, undef, undef, undef, undef, undef, undef, undef, undef, undef, undef, undef, undef, undef, undef, undef, undef, undef, undef] h R :=
  (ret_eq rfl rfl).trans (by rw [env116]; rfl)
theorem enter138 (h : Heap) (R : Value → Heap → Prop) (v0 : Value) : Ret tab 138 [v0] h R = Ok tab R138 [.code B138] #[v0, undef, undef, undef, undef, undef, undef, undef, undef, undef, undef, undef, undef, undef] h R :=
  (ret_eq rfl rfl).trans (by rw [env138]; rfl)
theorem enter143 (h : Heap) (R : Value → Heap → Prop) (v0 : Value) : Ret tab 143 [v0] h R = Ok tab R143 [.code B143] #[v0, undef, undef, undef, undef, undef, undef, undef, undef] h R :=
  (ret_eq rfl rfl).trans (by rw [env143]; rfl)
theorem enter145 (h : Heap) (R : Value → Heap → Prop) (v0 : Value) : Ret tab 145 [v0] h R = Ok tab R145 [.code B145] #[v0, undef, undef, undef, undef, undef, undef, undef, undef, undef, undef, undef, undef, undef, undef, undef, undef, undef] h R :=
  (ret_eq rfl rfl).trans (by rw [env145]; rfl)
theorem enter146 (h : Heap) (R : Value → Heap → Prop) (v0 : Value) : Ret tab 146 [v0] h R = Ok tab R146 [.code B146] #[v0, undef, undef, undef, undef, undef, undef, undef, undef] h R :=
  (ret_eq rfl rfl).trans (by rw [env146]; rfl)
theorem enter147 (h : Heap) (R : Value → Heap → Prop) (v0 : Value) : Ret tab 147 [v0] h R = Ok tab R147 [.code B147] #[v0, undef, undef, undef, undef, undef, undef, undef, undef, undef, undef, undef] h R :=
  (ret_eq rfl rfl).trans (by rw [env147]; rfl)
theorem enter148 (h : Heap) (R : Value → Heap → Prop) (v0 v1 v2 v3 v4 v5 v6 v7 v8 v9 v10 : Value) : Ret tab 148 [v0, v1, v2, v3, v4, v5, v6, v7, v8, v9, v10] h R = Ok tab R148 [.code B148] #[v0, v1, v2, v3, v4, v5, v6, v7, v8, v9, v10, undef, undef, undef, undef, undef, undef, undef, undef, undef, undef, undef, undef, undef, undef, undef, undef, undef, undef, undef, undef, undef, undef, undef, undef, undef, undef, undef, undef, undef, undef, undef, undef, undef, undef, undef, undef, undef, undef, undef, undef, undef, undef, undef, undef, undef, undef, undef, undef, undef, undef, undef, undef, undef, undef, undef] h R :=
  (ret_eq rfl rfl).trans (by rw [env148]; rfl)
theorem enter149 (h : Heap) (R : Value → Heap → Prop) (v0 v1 v2 : Value) : Ret tab 149 [v0, v1, v2] h R = Ok tab R149 [.code B149] #[v0, v1, v2, undef, undef, undef, undef, undef, undef, undef, undef, undef, undef, undef, undef, undef, undef, undef, undef, undef, undef, undef, undef, undef, undef, undef, undef, undef, undef, undef, undef, undef, undef, undef, undef, undef, undef, undef, undef, undef, undef] h R :=
  (ret_eq rfl rfl).trans (by rw [env149]; rfl)
theorem enter150 (h : Heap) (R : Value → Heap → Prop) (v0 v1 v2 : Value) : Ret tab 150 [v0, v1, v2] h R = Ok tab R150 [.code B150] #[v0, v1, v2, undef, undef, undef, undef, undef, undef, undef, undef, undef, undef, undef, undef, undef, undef, undef] h R :=
  (ret_eq rfl rfl).trans (by rw [env150]; rfl)
theorem enter151 (h : Heap) (R : Value → Heap → Prop) (v0 v1 v2 v3 : Value) : Ret tab 151 [v0, v1, v2, v3] h R = Ok tab R151 [.code B151] #[v0, v1, v2, v3, undef, undef, undef, undef, undef, undef, undef, undef, undef, undef, undef, undef, undef, undef, undef, undef, undef, undef, undef, undef, undef, undef, undef, undef, undef, undef, undef, undef, undef, undef, undef, undef, undef, undef, undef, undef, undef, undef] h R :=
  (ret_eq rfl rfl).trans (by rw [env151]; rfl)
theorem enter152 (h : Heap) (R : Value → Heap → Prop) (v0 : Value) : Ret tab 152 [v0] h R = Ok tab R152 [.code B152] #[v0, undef, undef, undef, undef, undef, undef, undef, undef] h R :=
  (ret_eq rfl rfl).trans (by rw [env152]; rfl)
theorem enter153 (h : Heap) (R : Value → Heap → Prop) (v0 v1 v2 : Value) : Ret tab 153 [v0, v1, v2] h R = Ok tab R153 [.code B153] #[v0, v1, v2, undef, undef, undef, undef, undef, undef, undef, undef, undef] h R :=
  (ret_eq rfl rfl).trans (by rw [env153]; rfl)
theorem enter154 (h : Heap) (R : Value → Heap → Prop) (v0 v1 v2 : Value) : Ret tab 154 [v0, v1, v2] h R = Ok tab R154 [.code B154] #[v0, v1, v2, undef, undef, undef, undef, undef, undef, undef, undef, undef, undef, undef, undef, undef, undef, undef] h R :=
  (ret_eq rfl rfl).trans (by rw [env154]; rfl)
theorem enter155 (h : Heap) (R : Value → Heap → Prop) (v0 v1 v2 v3 : Value) : Ret tab 155 [v0, v1, v2, v3] h R = Ok tab R155 [.code B155] #[v0, v1, v2, v3, undef, undef, undef, undef, undef, undef, undef, undef, undef, undef, undef, undef, undef, undef, undef, undef, undef, undef, undef, undef, undef] h R :=
  (ret_eq rfl rfl).trans (by rw [env155]; rfl)
theorem enter172 (h : Heap) (R : Value → Heap → Prop) (v0 : Value) : Ret tab 172 [v0] h R = Ok tab R172 [.code B172] #[v0, undef, undef, undef, undef, undef, undef, undef, undef] h R :=
  (ret_eq rfl rfl).trans (by rw [env172]; rfl)
theorem enter173 (h : Heap) (R : Value → Heap → Prop) (v0 v1 : Value) : Ret tab 173 [v0, v1] h R = Ok tab R173 [.code B173] #[v0, v1, undef, undef, undef, undef, undef, undef, undef, undef, undef, undef, undef, undef] h R :=
  (ret_eq rfl rfl).trans (by rw [env173]; rfl)
theorem enter174 (h : Heap) (R : Value → Heap → Prop) (v0 v1 : Value) : Ret tab 174 [v0, v1] h R = Ok tab R174 [.code B174] #[v0, v1, undef, undef, undef, undef, undef, undef, undef, undef, undef, undef, undef, undef, undef, undef, undef] h R :=
  (ret_eq rfl rfl).trans (by rw [env174]; rfl)
theorem enter175 (h : Heap) (R : Value → Heap → Prop) (v0 v1 : Value) : Ret tab 175 [v0, v1] h R = Ok tab R175 [.code B175] #[v0, v1, undef, undef, undef, undef, undef, undef, undef, undef, undef, undef, undef, undef, undef, undef] h R :=
  (ret_eq rfl rfl).trans (by rw [env175]; rfl)
theorem enter176 (h : Heap) (R : Value → Heap → Prop) (v0 v1 : Value) : Ret tab 176 [v0, v1] h R = Ok tab R176 [.code B176] #[v0, v1, undef, undef, undef, undef, undef, undef, undef, undef, undef, undef, undef, undef, undef, undef] h R :=
  (ret_eq rfl rfl).trans (by rw [env176]; rfl)
end Go.Proofs.Ytjpjohchdfoeaaa
