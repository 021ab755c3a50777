/-
  The table of the functions, resolved: it is the program's. Laid by program (gentab.py).
-/
import Derived.Test.YtjpjohchdfoeaaaTabA
namespace Go.Proofs.Ytjpjohchdfoeaaa
open Go Go.Sim
def tab : Tab := fun g => match g with
  | 9 => some R9
  | 23 => some R23
  | 29 => some R29
  | 33 => some R33
  | 40 => some R40
  | 41 => some R41
  | 42 => some R42
  | 43 => some R43
  | 44 => some R44
  | 45 => some R45
  | 48 => some R48
  | 65 => some R65
  | 67 => some R67
  | 69 => some R69
  | 71 => some R71
  | 73 => some R73
  | 74 => some R74
  | 75 => some R75
  | 76 => some R76
  | 77 => some R77
  | 78 => some R78
  | 79 => some R79
  | 86 => some R86
  | 88 => some R88
  | 90 => some R90
  | 92 => some R92
  | 94 => some R94
  | 96 => some R96
  | 101 => some R101
  | 102 => some R102
  | 104 => some R104
  | 116 => some R116
  | 117 => some R117
  | 119 => some R119
  | 120 => some R120
  | 121 => some R121
  | 122 => some R122
  | 123 => some R123
  | 124 => some R124
  | 125 => some R125
  | 134 => some R134
  | 138 => some R138
  | 139 => some R139
  | 140 => some R140
  | 141 => some R141
  | 142 => some R142
  | 143 => some R143
  | 145 => some R145
  | 157 => some R157
  | 158 => some R158
  | 159 => some R159
  | 160 => some R160
  | 170 => some R170
  | 171 => some R171
  | 177 => some R177
  | 178 => some R178
  | 179 => some R179
  | 180 => some R180
  | 181 => some R181
  | 182 => some R182
  | 221 => some R221
  | 222 => some R222
  | 223 => some R223
  | 224 => some R224
  | 232 => some R232
  | 233 => some R233
  | 235 => some R235
  | 236 => some R236
  | 237 => some R237
  | _ => none
theorem tabOk : TabOk Try.prog tab := by
  intro g G h
  unfold tab at h
  split at h <;> try (cases h; done)
  · exact Eq.subst (motive := fun X => compileF Try.prog 9 X.iso = some X) (Option.some.inj h) c9
  · exact Eq.subst (motive := fun X => compileF Try.prog 23 X.iso = some X) (Option.some.inj h) c23
  · exact Eq.subst (motive := fun X => compileF Try.prog 29 X.iso = some X) (Option.some.inj h) c29
  · exact Eq.subst (motive := fun X => compileF Try.prog 33 X.iso = some X) (Option.some.inj h) c33
  · exact Eq.subst (motive := fun X => compileF Try.prog 40 X.iso = some X) (Option.some.inj h) c40
  · exact Eq.subst (motive := fun X => compileF Try.prog 41 X.iso = some X) (Option.some.inj h) c41
  · exact Eq.subst (motive := fun X => compileF Try.prog 42 X.iso = some X) (Option.some.inj h) c42
  · exact Eq.subst (motive := fun X => compileF Try.prog 43 X.iso = some X) (Option.some.inj h) c43
  · exact Eq.subst (motive := fun X => compileF Try.prog 44 X.iso = some X) (Option.some.inj h) c44
  · exact Eq.subst (motive := fun X => compileF Try.prog 45 X.iso = some X) (Option.some.inj h) c45
  · exact Eq.subst (motive := fun X => compileF Try.prog 48 X.iso = some X) (Option.some.inj h) c48
  · exact Eq.subst (motive := fun X => compileF Try.prog 65 X.iso = some X) (Option.some.inj h) c65
  · exact Eq.subst (motive := fun X => compileF Try.prog 67 X.iso = some X) (Option.some.inj h) c67
  · exact Eq.subst (motive := fun X => compileF Try.prog 69 X.iso = some X) (Option.some.inj h) c69
  · exact Eq.subst (motive := fun X => compileF Try.prog 71 X.iso = some X) (Option.some.inj h) c71
  · exact Eq.subst (motive := fun X => compileF Try.prog 73 X.iso = some X) (Option.some.inj h) c73
  · exact Eq.subst (motive := fun X => compileF Try.prog 74 X.iso = some X) (Option.some.inj h) c74
  · exact Eq.subst (motive := fun X => compileF Try.prog 75 X.iso = some X) (Option.some.inj h) c75
  · exact Eq.subst (motive := fun X => compileF Try.prog 76 X.iso = some X) (Option.some.inj h) c76
  · exact Eq.subst (motive := fun X => compileF Try.prog 77 X.iso = some X) (Option.some.inj h) c77
  · exact Eq.subst (motive := fun X => compileF Try.prog 78 X.iso = some X) (Option.some.inj h) c78
  · exact Eq.subst (motive := fun X => compileF Try.prog 79 X.iso = some X) (Option.some.inj h) c79
  · exact Eq.subst (motive := fun X => compileF Try.prog 86 X.iso = some X) (Option.some.inj h) c86
  · exact Eq.subst (motive := fun X => compileF Try.prog 88 X.iso = some X) (Option.some.inj h) c88
  · exact Eq.subst (motive := fun X => compileF Try.prog 90 X.iso = some X) (Option.some.inj h) c90
  · exact Eq.subst (motive := fun X => compileF Try.prog 92 X.iso = some X) (Option.some.inj h) c92
  · exact Eq.subst (motive := fun X => compileF Try.prog 94 X.iso = some X) (Option.some.inj h) c94
  · exact Eq.subst (motive := fun X => compileF Try.prog 96 X.iso = some X) (Option.some.inj h) c96
  · exact Eq.subst (motive := fun X => compileF Try.prog 101 X.iso = some X) (Option.some.inj h) c101
  · exact Eq.subst (motive := fun X => compileF Try.prog 102 X.iso = some X) (Option.some.inj h) c102
  · exact Eq.subst (motive := fun X => compileF Try.prog 104 X.iso = some X) (Option.some.inj h) c104
  · exact Eq.subst (motive := fun X => compileF Try.prog 116 X.iso = some X) (Option.some.inj h) c116
  · exact Eq.subst (motive := fun X => compileF Try.prog 117 X.iso = some X) (Option.some.inj h) c117
  · exact Eq.subst (motive := fun X => compileF Try.prog 119 X.iso = some X) (Option.some.inj h) c119
  · exact Eq.subst (motive := fun X => compileF Try.prog 120 X.iso = some X) (Option.some.inj h) c120
  · exact Eq.subst (motive := fun X => compileF Try.prog 121 X.iso = some X) (Option.some.inj h) c121
  · exact Eq.subst (motive := fun X => compileF Try.prog 122 X.iso = some X) (Option.some.inj h) c122
  · exact Eq.subst (motive := fun X => compileF Try.prog 123 X.iso = some X) (Option.some.inj h) c123
  · exact Eq.subst (motive := fun X => compileF Try.prog 124 X.iso = some X) (Option.some.inj h) c124
  · exact Eq.subst (motive := fun X => compileF Try.prog 125 X.iso = some X) (Option.some.inj h) c125
  · exact Eq.subst (motive := fun X => compileF Try.prog 134 X.iso = some X) (Option.some.inj h) c134
  · exact Eq.subst (motive := fun X => compileF Try.prog 138 X.iso = some X) (Option.some.inj h) c138
  · exact Eq.subst (motive := fun X => compileF Try.prog 139 X.iso = some X) (Option.some.inj h) c139
  · exact Eq.subst (motive := fun X => compileF Try.prog 140 X.iso = some X) (Option.some.inj h) c140
  · exact Eq.subst (motive := fun X => compileF Try.prog 141 X.iso = some X) (Option.some.inj h) c141
  · exact Eq.subst (motive := fun X => compileF Try.prog 142 X.iso = some X) (Option.some.inj h) c142
  · exact Eq.subst (motive := fun X => compileF Try.prog 143 X.iso = some X) (Option.some.inj h) c143
  · exact Eq.subst (motive := fun X => compileF Try.prog 145 X.iso = some X) (Option.some.inj h) c145
  · exact Eq.subst (motive := fun X => compileF Try.prog 157 X.iso = some X) (Option.some.inj h) c157
  · exact Eq.subst (motive := fun X => compileF Try.prog 158 X.iso = some X) (Option.some.inj h) c158
  · exact Eq.subst (motive := fun X => compileF Try.prog 159 X.iso = some X) (Option.some.inj h) c159
  · exact Eq.subst (motive := fun X => compileF Try.prog 160 X.iso = some X) (Option.some.inj h) c160
  · exact Eq.subst (motive := fun X => compileF Try.prog 170 X.iso = some X) (Option.some.inj h) c170
  · exact Eq.subst (motive := fun X => compileF Try.prog 171 X.iso = some X) (Option.some.inj h) c171
  · exact Eq.subst (motive := fun X => compileF Try.prog 177 X.iso = some X) (Option.some.inj h) c177
  · exact Eq.subst (motive := fun X => compileF Try.prog 178 X.iso = some X) (Option.some.inj h) c178
  · exact Eq.subst (motive := fun X => compileF Try.prog 179 X.iso = some X) (Option.some.inj h) c179
  · exact Eq.subst (motive := fun X => compileF Try.prog 180 X.iso = some X) (Option.some.inj h) c180
  · exact Eq.subst (motive := fun X => compileF Try.prog 181 X.iso = some X) (Option.some.inj h) c181
  · exact Eq.subst (motive := fun X => compileF Try.prog 182 X.iso = some X) (Option.some.inj h) c182
  · exact Eq.subst (motive := fun X => compileF Try.prog 221 X.iso = some X) (Option.some.inj h) c221
  · exact Eq.subst (motive := fun X => compileF Try.prog 222 X.iso = some X) (Option.some.inj h) c222
  · exact Eq.subst (motive := fun X => compileF Try.prog 223 X.iso = some X) (Option.some.inj h) c223
  · exact Eq.subst (motive := fun X => compileF Try.prog 224 X.iso = some X) (Option.some.inj h) c224
  · exact Eq.subst (motive := fun X => compileF Try.prog 232 X.iso = some X) (Option.some.inj h) c232
  · exact Eq.subst (motive := fun X => compileF Try.prog 233 X.iso = some X) (Option.some.inj h) c233
  · exact Eq.subst (motive := fun X => compileF Try.prog 235 X.iso = some X) (Option.some.inj h) c235
  · exact Eq.subst (motive := fun X => compileF Try.prog 236 X.iso = some X) (Option.some.inj h) c236
  · exact Eq.subst (motive := fun X => compileF Try.prog 237 X.iso = some X) (Option.some.inj h) c237
theorem enter9 (h : Heap) (R : Value → Heap → Prop) (v0 v1 v2 : Value) : Ret tab 9 [v0, v1, v2] h R = Ok tab R9 [.code B9] #[v0, v1, v2, undef, undef, undef, undef, undef, undef, undef, undef, undef, undef, undef, undef, undef, undef, undef, undef, undef, undef, undef, undef, undef, undef, undef, undef, undef, undef, undef, undef, undef, undef, undef, undef, undef, undef, undef, undef, undef, undef, undef, undef, undef, undef, undef, undef, undef, undef, undef, undef, undef, undef, undef, undef, undef, undef, undef, undef, undef, undef, undef, undef, undef, undef, undef, undef, undef, undef, undef, undef, undef, undef, undef, undef, undef, undef, undef, undef, undef, undef, undef, undef, undef, undef, undef, undef, undef, undef, undef, undef, undef, undef, undef, undef, undef, undef, undef, undef, undef, undef, undef, undef, undef, undef, undef, undef, undef, undef, undef, undef, undef, undef, undef, undef, undef, undef, undef, undef, undef, undef, undef, undef, undef, undef, undef, undef, undef, undef, undef, undef] h R :=
  (ret_eq rfl rfl).trans (by rw [env9]; rfl)
theorem enter23 (h : Heap) (R : Value → Heap → Prop) (v0 v1 v2 v3 v4 v5 : Value) : Ret tab 23 [v0, v1, v2, v3, v4, v5] h R = Ok tab R23 [.code B23] #[v0, v1, v2, v3, v4, v5, undef, undef, undef, undef, undef, undef, undef, undef, undef, undef, undef, undef, undef, undef, undef, undef, undef, undef, undef, undef, undef, undef, undef, undef, undef, undef, undef, undef, undef, undef, undef, undef, undef, undef, undef, undef, undef, undef, undef, undef, undef, undef, undef, undef, undef, undef, undef, undef, undef, undef, undef, undef, undef, undef, undef, undef, undef, undef, undef, undef, undef, undef, undef, undef, undef, undef, undef, undef, undef, undef, undef, undef, undef, undef, undef, undef, undef, undef, undef, undef, undef, undef] h R :=
  (ret_eq rfl rfl).trans (by rw [env23]; rfl)
theorem enter29 (h : Heap) (R : Value → Heap → Prop) (v0 v1 v2 v3 v4 v5 : Value) : Ret tab 29 [v0, v1, v2, v3, v4, v5] h R = Ok tab R29 [.code B29] #[v0, v1, v2, v3, v4, v5, undef, undef, undef, undef, undef, undef, undef, undef, undef, undef, undef, undef, undef, undef, undef, undef, undef, undef, undef, undef, undef, undef, undef, undef, undef, undef, undef, undef, undef, undef, undef, undef, undef, undef, undef, undef, undef, undef, undef, undef, undef, undef, undef, undef, undef, undef, undef, undef, undef, undef, undef, undef, undef, undef, undef, undef, undef, undef, undef, undef, undef, undef, undef, undef, undef, undef, undef, undef, undef, undef, undef, undef, undef, undef, undef, undef, undef, undef, undef, undef, undef, undef, undef, undef, undef, undef, undef, undef, undef, undef, undef, undef, undef, undef, undef, undef, undef, undef, undef, undef, undef, undef, undef, undef, undef, undef, undef, undef, undef, undef, undef, undef, undef, undef, undef, undef, undef, undef, undef, undef, undef, undef, undef, undef, undef, undef, undef, undef, undef, undef, undef, undef, undef, undef, undef, undef, undef, undef, undef] h R :=
  (ret_eq rfl rfl).trans (by rw [env29]; rfl)
theorem enter33 (h : Heap) (R : Value → Heap → Prop) (v0 v1 : Value) : Ret tab 33 [v0, v1] h R = Ok tab R33 [.code B33] #[v0, v1, undef, undef, undef, undef, undef, undef, undef, undef, undef, undef, undef, undef, undef, undef, undef, undef] h R :=
  (ret_eq rfl rfl).trans (by rw [env33]; rfl)
theorem enter40 (h : Heap) (R : Value → Heap → Prop) (v0 v1 : Value) : Ret tab 40 [v0, v1] h R = Ok tab R40 [.code B40] #[v0, v1, undef, undef, undef, undef, undef, undef, undef, undef, undef, undef, undef, undef, undef, undef, undef, undef, undef, undef, undef, undef, undef, undef, undef, undef, undef, undef, undef, undef, undef, undef, undef, undef, undef, undef, undef, undef, undef, undef, undef, undef, undef] h R :=
  (ret_eq rfl rfl).trans (by rw [env40]; rfl)
theorem enter41 (h : Heap) (R : Value → Heap → Prop) : Ret tab 41 [] h R = Ok tab R41 [.code B41] #[undef, undef, undef, undef, undef, undef, undef, undef, undef, undef, undef, undef, undef, undef, undef, undef, undef, undef, undef, undef, undef, undef, undef, undef, undef, undef, undef, undef, undef, undef, undef, undef, undef, undef, undef, undef, undef, undef, undef, undef, undef, undef, undef, undef, undef, undef, undef, undef, undef, undef, undef, undef, undef, undef, undef, undef, undef, undef, undef, undef, undef, undef, undef, undef, undef, undef, undef, undef] h R :=
  (ret_eq rfl rfl).trans (by rw [env41]; rfl)
theorem enter42 (h : Heap) (R : Value → Heap → Prop) (v0 v1 v2 : Value) : Ret tab 42 [v0, v1, v2] h R = Ok tab R42 [.code B42] #[v0, v1, v2, undef, undef, undef, undef, undef, undef, undef, undef, undef, undef, undef, undef, undef, undef, undef, undef, undef, undef, undef, undef, undef, undef, undef, undef, undef, undef, undef, undef, undef, undef, undef, undef, undef, undef, undef, undef, undef, undef, undef, undef, undef, undef, undef, undef, undef, undef, undef, undef] h R :=
  (ret_eq rfl rfl).trans (by rw [env42]; rfl)
theorem enter43 (h : Heap) (R : Value → Heap → Prop) (v0 v1 v2 v3 v4 v5 : Value) : Ret tab 43 [v0, v1, v2, v3, v4, v5] h R = Ok tab R43 [.code B43] #[v0, v1, v2, v3, v4, v5, undef, undef, undef, undef, undef, undef, undef, undef, undef, undef, undef, undef, undef, undef, undef, undef, undef, undef, undef, undef, undef, undef, undef, undef, undef, undef, undef, undef, undef, undef, undef, undef, undef, undef, undef, undef, undef, undef, undef, undef, undef, undef, undef, undef, undef, undef, undef] h R :=
  (ret_eq rfl rfl).trans (by rw [env43]; rfl)
theorem enter44 (h : Heap) (R : Value → Heap → Prop) (v0 v1 v2 v3 v4 v5 : Value) : Ret tab 44 [v0, v1, v2, v3, v4, v5] h R = Ok tab R44 [.code B44] #[v0, v1, v2, v3, v4, v5, undef, undef, undef, undef, undef, undef, undef, undef, undef, undef, undef, undef, undef, undef, undef, undef, undef, undef, undef, undef, undef, undef, undef, undef, undef, undef, undef, undef, undef, undef, undef, undef, undef, undef, undef, undef, undef, undef, undef] h R :=
  (ret_eq rfl rfl).trans (by rw [env44]; rfl)
theorem enter45 (h : Heap) (R : Value → Heap → Prop) (v0 v1 : Value) : Ret tab 45 [v0, v1] h R = Ok tab R45 [.code B45] #[v0, v1, undef, undef, undef, undef, undef, undef, undef, undef, undef, undef, undef, undef, undef, undef, undef, undef, undef, undef, undef, undef, undef, undef, undef, undef] h R :=
  (ret_eq rfl rfl).trans (by rw [env45]; rfl)
theorem enter48 (h : Heap) (R : Value → Heap → Prop) (v0 v1 : Value) : Ret tab 48 [v0, v1] h R = Ok tab R48 [.code B48] #[v0, v1, undef, undef, undef, undef, undef, undef, undef, undef, undef, undef, undef, undef, undef, undef, undef, undef, undef, undef, undef, undef, undef, undef, undef, undef, undef, undef, undef, undef, undef, undef, undef, undef, undef, undef, undef, undef, undef, undef, undef, undef, undef, undef, undef, undef] h R :=
  (ret_eq rfl rfl).trans (by rw [env48]; rfl)
theorem enter65 (h : Heap) (R : Value → Heap → Prop) (v0 v1 v2 v3 : Value) : Ret tab 65 [v0, v1, v2, v3] h R = Ok tab R65 [.code B65] #[v0, v1, v2, v3, undef, undef, undef, undef, undef, undef, undef, undef, undef, undef, undef, undef, undef, undef, undef, undef, undef, undef, undef, undef, undef, undef, undef, undef] h R :=
  (ret_eq rfl rfl).trans (by rw [env65]; rfl)
theorem enter67 (h : Heap) (R : Value → Heap → Prop) (v0 v1 v2 : Value) : Ret tab 67 [v0, v1, v2] h R = Ok tab R67 [.code B67] #[v0, v1, v2, undef, undef, undef, undef, undef, undef, undef, undef, undef, undef, undef, undef, undef, undef, undef, undef] h R :=
  (ret_eq rfl rfl).trans (by rw [env67]; rfl)
theorem enter69 (h : Heap) (R : Value → Heap → Prop) (v0 v1 v2 v3 : Value) : Ret tab 69 [v0, v1, v2, v3] h R = Ok tab R69 [.code B69] #[v0, v1, v2, v3, undef, undef, undef, undef, undef, undef, undef, undef, undef, undef, undef, undef, undef, undef, undef, undef, undef, undef] h R :=
  (ret_eq rfl rfl).trans (by rw [env69]; rfl)
theorem enter71 (h : Heap) (R : Value → Heap → Prop) (v0 v1 v2 : Value) : Ret tab 71 [v0, v1, v2] h R = Ok tab R71 [.code B71] #[v0, v1, v2, undef, undef, undef, undef, undef, undef, undef, undef, undef, undef, undef, undef, undef, undef, undef, undef] h R :=
  (ret_eq rfl rfl).trans (by rw [env71]; rfl)
theorem enter73 (h : Heap) (R : Value → Heap → Prop) (v0 : Value) : Ret tab 73 [v0] h R = (belowL h.length [v0] = true ∧ Ok tab R73 [.code B73] #[v0, undef, undef, undef, undef, undef, undef, undef, undef, undef, undef, undef, undef, undef] (frz h) fun v _ => below h.length v = true ∧ R v h) :=
  (ret_rd rfl rfl).trans (by rw [env73]; rfl)
theorem enter74 (h : Heap) (R : Value → Heap → Prop) (v0 : Value) : Ret tab 74 [v0] h R = (belowL h.length [v0] = true ∧ Ok tab R74 [.code B74] #[v0, undef, undef, undef, undef, undef, undef, undef, undef, undef, undef, undef, undef, undef, undef] (frz h) fun v _ => below h.length v = true ∧ R v h) :=
  (ret_rd rfl rfl).trans (by rw [env74]; rfl)
theorem enter75 (h : Heap) (R : Value → Heap → Prop) (v0 v1 : Value) : Ret tab 75 [v0, v1] h R = (belowL h.length [v0, v1] = true ∧ Ok tab R75 [.code B75] #[v0, v1, undef, undef, undef, undef, undef, undef, undef, undef, undef, undef, undef, undef, undef, undef, undef, undef, undef, undef, undef, undef, undef, undef, undef] (frz h) fun v _ => below h.length v = true ∧ R v h) :=
  (ret_rd rfl rfl).trans (by rw [env75]; rfl)
theorem enter76 (h : Heap) (R : Value → Heap → Prop) (v0 v1 v2 : Value) : Ret tab 76 [v0, v1, v2] h R = Ok tab R76 [.code B76] #[v0, v1, v2, undef, undef, undef, undef, undef, undef, undef, undef, undef, undef] h R :=
  (ret_eq rfl rfl).trans (by rw [env76]; rfl)
theorem enter77 (h : Heap) (R : Value → Heap → Prop) (v0 : Value) : Ret tab 77 [v0] h R = Ok tab R77 [.code B77] #[v0, undef, undef, undef, undef, undef, undef, undef, undef, undef, undef, undef, undef, undef, undef, undef, undef, undef, undef, undef, undef, undef, undef, undef, undef, undef, undef, undef, undef, undef, undef, undef, undef, undef, undef, undef, undef, undef, undef, undef, undef, undef, undef, undef, undef, undef, undef, undef, undef, undef, undef, undef] h R :=
  (ret_eq rfl rfl).trans (by rw [env77]; rfl)
theorem enter78 (h : Heap) (R : Value → Heap → Prop) (v0 : Value) : Ret tab 78 [v0] h R = Ok tab R78 [.code B78] #[v0, undef, undef, undef, undef, undef, undef, undef, undef, undef, undef, undef, undef, undef, undef, undef, undef, undef, undef, undef, undef, undef, undef, undef, undef, undef, undef, undef, undef, undef, undef, undef, undef, undef, undef, undef, undef, undef, undef, undef, undef, undef, undef, undef, undef, undef, undef, undef, undef, undef, undef, undef, undef, undef, undef, undef, undef, undef, undef, undef, undef, undef, undef, undef, undef, undef, undef, undef, undef, undef, undef, undef, undef, undef, undef, undef, undef, undef, undef, undef, undef, undef, undef, undef, undef, undef, undef] h R :=
  (ret_eq rfl rfl).trans (by rw [env78]; rfl)
theorem enter79 (h : Heap) (R : Value → Heap → Prop) (v0 v1 : Value) : Ret tab 79 [v0, v1] h R = Ok tab R79 [.code B79] #[v0, v1, undef, undef, undef, undef, undef, undef, undef, undef, undef, undef, undef, undef, undef, undef, undef, undef, undef, undef, undef, undef, undef, undef, undef, undef, undef, undef, undef, undef, undef, undef, undef, undef, undef, undef, undef, undef, undef, undef, undef, undef, undef, undef, undef, undef, undef, undef, undef, undef, undef, undef, undef, undef, undef, undef, undef, undef, undef, undef, undef, undef, undef, undef, undef, undef, undef, undef, undef, undef, undef, undef, undef, undef, undef, undef, undef, undef, undef, undef, undef, undef, undef, undef, undef, undef, undef, undef, undef, undef, undef, undef, undef, undef, undef, undef, undef, undef, undef, undef, undef, undef, undef, undef, undef, undef, undef, undef, undef, undef, undef, undef, undef, undef, undef, undef, undef, undef, undef, undef, undef, undef, undef, undef, undef, undef, undef, undef, undef, undef, undef, undef, undef, undef, undef, undef, undef, undef, undef] h R :=
  (ret_eq rfl rfl).trans (by rw [env79]; rfl)
theorem enter86 (h : Heap) (R : Value → Heap → Prop) (v0 v1 v2 : Value) : Ret tab 86 [v0, v1, v2] h R = (belowL h.length [v0, v1, v2] = true ∧ Ok tab R86 [.code B86] #[v0, v1, v2, undef, undef, undef, undef, undef, undef, undef, undef, undef, undef, undef, undef, undef, undef, undef] (frz h) fun v _ => below h.length v = true ∧ R v h) :=
  (ret_rd rfl rfl).trans (by rw [env86]; rfl)
theorem enter88 (h : Heap) (R : Value → Heap → Prop) (v0 v1 v2 : Value) : Ret tab 88 [v0, v1, v2] h R = (belowL h.length [v0, v1, v2] = true ∧ Ok tab R88 [.code B88] #[v0, v1, v2, undef, undef, undef, undef, undef, undef, undef, undef, undef, undef, undef, undef, undef, undef, undef, undef, undef] (frz h) fun v _ => below h.length v = true ∧ R v h) :=
  (ret_rd rfl rfl).trans (by rw [env88]; rfl)
theorem enter90 (h : Heap) (R : Value → Heap → Prop) (v0 v1 v2 : Value) : Ret tab 90 [v0, v1, v2] h R = (belowL h.length [v0, v1, v2] = true ∧ Ok tab R90 [.code B90] #[v0, v1, v2, undef, undef, undef, undef, undef, undef, undef, undef, undef, undef, undef, undef, undef, undef, undef, undef, undef] (frz h) fun v _ => below h.length v = true ∧ R v h) :=
  (ret_rd rfl rfl).trans (by rw [env90]; rfl)
theorem enter92 (h : Heap) (R : Value → Heap → Prop) (v0 v1 v2 : Value) : Ret tab 92 [v0, v1, v2] h R = (belowL h.length [v0, v1, v2] = true ∧ Ok tab R92 [.code B92] #[v0, v1, v2, undef, undef, undef, undef, undef, undef, undef, undef, undef, undef, undef, undef, undef, undef, undef, undef, undef] (frz h) fun v _ => below h.length v = true ∧ R v h) :=
  (ret_rd rfl rfl).trans (by rw [env92]; rfl)
theorem enter94 (h : Heap) (R : Value → Heap → Prop) (v0 v1 : Value) : Ret tab 94 [v0, v1] h R = Ok tab R94 [.code B94] #[v0, v1, undef, undef, undef, undef, undef, undef, undef, undef, undef, undef, undef, undef, undef, undef, undef, undef, undef, undef, undef, undef, undef, undef, undef, undef, undef, undef, undef, undef, undef, undef, undef, undef, undef, undef, undef, undef, undef, undef, undef, undef, undef, undef, undef, undef, undef, undef, undef, undef, undef, undef, undef, undef, undef, undef, undef, undef, undef, undef, undef, undef, undef, undef, undef, undef] h R :=
  (ret_eq rfl rfl).trans (by rw [env94]; rfl)
theorem enter96 (h : Heap) (R : Value → Heap → Prop) (v0 v1 : Value) : Ret tab 96 [v0, v1] h R = (belowL h.length [v0, v1] = true ∧ Ok tab R96 [.code B96] #[v0, v1, undef, undef, undef, undef, undef, undef, undef, undef, undef, undef, undef, undef, undef, undef, undef, undef, undef] (frz h) fun v _ => below h.length v = true ∧ R v h) :=
  (ret_rd rfl rfl).trans (by rw [env96]; rfl)
theorem enter101 (h : Heap) (R : Value → Heap → Prop) (v0 v1 v2 v3 v4 v5 : Value) : Ret tab 101 [v0, v1, v2, v3, v4, v5] h R = Ok tab R101 [.code B101] #[v0, v1, v2, v3, v4, v5, undef, undef, undef, undef, undef, undef, undef, undef, undef, undef, undef, undef, undef, undef, undef, undef, undef, undef, undef, undef, undef, undef, undef, undef, undef, undef, undef, undef, undef, undef, undef, undef, undef, undef, undef, undef, undef, undef, undef, undef, undef, undef, undef, undef, undef] h R :=
  (ret_eq rfl rfl).trans (by rw [env101]; rfl)
theorem enter102 (h : Heap) (R : Value → Heap → Prop) (v0 v1 v2 v3 v4 v5 : Value) : Ret tab 102 [v0, v1, v2, v3, v4, v5] h R = Ok tab R102 [.code B102] #[v0, v1, v2, v3, v4, v5, undef, undef, undef, undef, undef, undef, undef, undef, undef, undef, undef, undef, undef, undef, undef, undef, undef, undef, undef, undef, undef, undef, undef, undef, undef, undef, undef, undef, undef, undef, undef, undef, undef, undef, undef, undef, undef, undef, undef, undef, undef, undef, undef, undef, undef, undef, undef, undef, undef, undef, undef, undef, undef, undef, undef, undef, undef, undef, undef, undef, undef, undef, undef, undef, undef, undef, undef, undef, undef, undef, undef, undef, undef, undef, undef, undef, undef, undef, undef, undef, undef, undef, undef, undef, undef, undef, undef, undef, undef, undef, undef, undef, undef, undef, undef, undef, undef, undef, undef, undef, undef, undef, undef, undef, undef, undef, undef, undef, undef, undef, undef, undef, undef, undef, undef, undef, undef, undef, undef, undef, undef, undef, undef, undef, undef] h R :=
  (ret_eq rfl rfl).trans (by rw [env102]; rfl)
theorem enter104 (h : Heap) (R : Value → Heap → Prop) (v0 v1 : Value) : Ret tab 104 [v0, v1] h R = Ok tab R104 [.code B104] #[v0, v1, undef, undef, undef, undef, undef, undef, undef, undef, undef, undef, undef, undef, undef, undef, undef, undef, undef, undef, undef, undef, undef, undef, undef, undef, undef, undef, undef, undef, undef, undef, undef, undef, undef, undef, undef, undef, undef, undef, undef, undef, undef] h R :=
  (ret_eq rfl rfl).trans (by rw [env104]; rfl)
theorem enter116 (h : Heap) (R : Value → Heap → Prop) (v0 v1 v2 : Value) : Ret tab 116 [v0, v1, v2] h R = (belowL h.length [v0, v1, v2] = true ∧ Ok tab R116 [.code B116] #[v0, v1, v2, undef, undef, undef, undef, undef, undef, undef, undef, undef, undef, undef, undef, undef, undef, undef, undef, undef, undef, undef, undef, undef, undef, undef, undef, undef, undef, undef, undef, undef, undef, undef, undef, undef, undef, undef, undef, undef, undef, undef, undef, undef, undef, undef] (frz h) fun v _ => below h.length v = true ∧ R v h) :=
  (ret_rd rfl rfl).trans (by rw [env116]; rfl)
theorem enter117 (h : Heap) (R : Value → Heap → Prop) (v0 : Value) : Ret tab 117 [v0] h R = (belowL h.length [v0] = true ∧ Ok tab R117 [.code B117] #[v0, undef, undef, undef, undef, undef, undef, undef, undef, undef, undef, undef, undef] (frz h) fun v _ => below h.length v = true ∧ R v h) :=
  (ret_rd rfl rfl).trans (by rw [env117]; rfl)
theorem enter119 (h : Heap) (R : Value → Heap → Prop) (v0 v1 : Value) : Ret tab 119 [v0, v1] h R = Ok tab R119 [.code B119] #[v0, v1, undef, undef, undef, undef, undef, undef, undef, undef, undef, undef, undef, undef, undef, undef, undef, undef, undef, undef, undef, undef, undef, undef, undef, undef, undef, undef, undef, undef, undef, undef, undef, undef, undef, undef, undef, undef, undef, undef, undef, undef, undef] h R :=
  (ret_eq rfl rfl).trans (by rw [env119]; rfl)
theorem enter120 (h : Heap) (R : Value → Heap → Prop) (v0 v1 v2 : Value) : Ret tab 120 [v0, v1, v2] h R = (belowL h.length [v0, v1, v2] = true ∧ Ok tab R120 [.code B120] #[v0, v1, v2, undef, undef, undef, undef, undef, undef, undef, undef, undef, undef, undef, undef, undef, undef, undef, undef, undef, undef, undef, undef, undef, undef, undef, undef, undef, undef, undef, undef] (frz h) fun v _ => below h.length v = true ∧ R v h) :=
  (ret_rd rfl rfl).trans (by rw [env120]; rfl)
theorem enter121 (h : Heap) (R : Value → Heap → Prop) (v0 v1 v2 : Value) : Ret tab 121 [v0, v1, v2] h R = Ok tab R121 [.code B121] #[v0, v1, v2, undef, undef, undef, undef, undef, undef, undef, undef, undef, undef, undef, undef, undef, undef, undef, undef, undef, undef, undef, undef, undef, undef, undef, undef, undef, undef, undef, undef, undef, undef, undef, undef, undef, undef, undef, undef, undef, undef, undef] h R :=
  (ret_eq rfl rfl).trans (by rw [env121]; rfl)
theorem enter122 (h : Heap) (R : Value → Heap → Prop) (v0 v1 : Value) : Ret tab 122 [v0, v1] h R = (belowL h.length [v0, v1] = true ∧ Ok tab R122 [.code B122] #[v0, v1, undef, undef, undef, undef, undef, undef, undef, undef] (frz h) fun v _ => below h.length v = true ∧ R v h) :=
  (ret_rd rfl rfl).trans (by rw [env122]; rfl)
theorem enter123 (h : Heap) (R : Value → Heap → Prop) (v0 v1 v2 : Value) : Ret tab 123 [v0, v1, v2] h R = Ok tab R123 [.code B123] #[v0, v1, v2, undef, undef, undef, undef, undef, undef, undef, undef, undef, undef, undef, undef, undef, undef, undef, undef, undef, undef, undef, undef, undef, undef, undef, undef, undef, undef, undef, undef, undef, undef, undef, undef, undef, undef, undef, undef, undef, undef, undef, undef, undef, undef] h R :=
  (ret_eq rfl rfl).trans (by rw [env123]; rfl)
theorem enter124 (h : Heap) (R : Value → Heap → Prop) (v0 v1 v2 : Value) : Ret tab 124 [v0, v1, v2] h R = (belowL h.length [v0, v1, v2] = true ∧ Ok tab R124 [.code B124] #[v0, v1, v2, undef, undef, undef, undef, undef, undef, undef, undef, undef, undef, undef, undef, undef, undef, undef, undef, undef, undef, undef, undef, undef, undef, undef, undef, undef, undef, undef, undef, undef, undef, undef, undef, undef, undef, undef, undef, undef, undef, undef, undef, undef] (frz h) fun v _ => below h.length v = true ∧ R v h) :=
  (ret_rd rfl rfl).trans (by rw [env124]; rfl)
theorem enter125 (h : Heap) (R : Value → Heap → Prop) (v0 v1 v2 : Value) : Ret tab 125 [v0, v1, v2] h R = Ok tab R125 [.code B125] #[v0, v1, v2, undef, undef, undef, undef, undef, undef, undef, undef, undef, undef, undef, undef, undef, undef, undef, undef, undef, undef, undef, undef, undef, undef, undef, undef, undef, undef, undef, undef, undef, undef, undef, undef, undef, undef, undef, undef, undef, undef, undef, undef, undef, undef, undef, undef, undef, undef, undef, undef, undef, undef, undef, undef, undef, undef, undef, undef, undef, undef, undef] h R :=
  (ret_eq rfl rfl).trans (by rw [env125]; rfl)
theorem enter134 (h : Heap) (R : Value → Heap → Prop) (v0 v1 v2 v3 : Value) : Ret tab 134 [v0, v1, v2, v3] h R = Ok tab R134 [.code B134] #[v0, v1, v2, v3, undef, undef, undef, undef, undef, undef, undef, undef, undef, undef, undef, undef] h R :=
  (ret_eq rfl rfl).trans (by rw [env134]; rfl)
theorem enter138 (h : Heap) (R : Value → Heap → Prop) (v0 : Value) : Ret tab 138 [v0] h R = Ok tab R138 [.code B138] #[v0, undef, undef, undef, undef, undef, undef, undef, undef, undef, undef, undef, undef, undef] h R :=
  (ret_eq rfl rfl).trans (by rw [env138]; rfl)
theorem enter139 (h : Heap) (R : Value → Heap → Prop) (v0 : Value) : Ret tab 139 [v0] h R = Ok tab R139 [.code B139] #[v0, undef, undef, undef, undef, undef, undef, undef] h R :=
  (ret_eq rfl rfl).trans (by rw [env139]; rfl)
theorem enter140 (h : Heap) (R : Value → Heap → Prop) (v0 v1 : Value) : Ret tab 140 [v0, v1] h R = Ok tab R140 [.code B140] #[v0, v1, undef, undef, undef, undef, undef, undef, undef, undef, undef, undef, undef, undef, undef, undef, undef, undef, undef, undef, undef, undef, undef, undef, undef, undef, undef, undef, undef, undef, undef, undef, undef, undef, undef, undef, undef, undef, undef, undef, undef, undef, undef, undef, undef, undef, undef] h R :=
  (ret_eq rfl rfl).trans (by rw [env140]; rfl)
theorem enter141 (h : Heap) (R : Value → Heap → Prop) (v0 : Value) : Ret tab 141 [v0] h R = Ok tab R141 [.code B141] #[v0, undef, undef, undef, undef, undef, undef, undef] h R :=
  (ret_eq rfl rfl).trans (by rw [env141]; rfl)
theorem enter142 (h : Heap) (R : Value → Heap → Prop) (v0 v1 v2 : Value) : Ret tab 142 [v0, v1, v2] h R = Ok tab R142 [.code B142] #[v0, v1, v2, undef, undef, undef, undef, undef, undef, undef, undef, undef, undef, undef, undef, undef] h R :=
  (ret_eq rfl rfl).trans (by rw [env142]; rfl)
theorem enter143 (h : Heap) (R : Value → Heap → Prop) (v0 : Value) : Ret tab 143 [v0] h R = Ok tab R143 [.code B143] #[v0, undef, undef, undef, undef, undef, undef, undef, undef] h R :=
  (ret_eq rfl rfl).trans (by rw [env143]; rfl)
theorem enter145 (h : Heap) (R : Value → Heap → Prop) (v0 : Value) : Ret tab 145 [v0] h R = Ok tab R145 [.code B145] #[v0, undef, undef, undef, undef, undef, undef, undef, undef, undef, undef, undef, undef, undef, undef, undef, undef, undef] h R :=
  (ret_eq rfl rfl).trans (by rw [env145]; rfl)
theorem enter157 (h : Heap) (R : Value → Heap → Prop) (v0 v1 v2 v3 : Value) : Ret tab 157 [v0, v1, v2, v3] h R = (belowL h.length [v0, v1, v2, v3] = true ∧ Ok tab R157 [.code B157] #[v0, v1, v2, v3, undef, undef, undef, undef, undef, undef, undef, undef, undef, undef, undef, undef, undef, undef, undef, undef, undef, undef, undef, undef, undef, undef, undef, undef, undef, undef, undef, undef, undef, undef, undef, undef, undef, undef, undef, undef, undef, undef, undef, undef, undef, undef, undef, undef, undef, undef, undef, undef, undef, undef, undef, undef, undef, undef, undef, undef, undef, undef, undef, undef, undef, undef, undef, undef, undef, undef, undef, undef, undef, undef, undef, undef, undef] (frz h) fun v _ => below h.length v = true ∧ R v h) :=
  (ret_rd rfl rfl).trans (by rw [env157]; rfl)
theorem enter158 (h : Heap) (R : Value → Heap → Prop) (v0 v1 v2 v3 : Value) : Ret tab 158 [v0, v1, v2, v3] h R = (belowL h.length [v0, v1, v2, v3] = true ∧ Ok tab R158 [.code B158] #[v0, v1, v2, v3, undef, undef, undef, undef, undef, undef, undef, undef, undef, undef, undef, undef, undef, undef, undef, undef, undef, undef, undef, undef, undef, undef, undef, undef, undef, undef, undef, undef, undef, undef, undef, undef] (frz h) fun v _ => below h.length v = true ∧ R v h) :=
  (ret_rd rfl rfl).trans (by rw [env158]; rfl)
theorem enter159 (h : Heap) (R : Value → Heap → Prop) (v0 v1 : Value) : Ret tab 159 [v0, v1] h R = (belowL h.length [v0, v1] = true ∧ Ok tab R159 [.code B159] #[v0, v1, undef, undef, undef, undef, undef, undef, undef, undef, undef, undef, undef, undef, undef, undef, undef, undef, undef, undef, undef, undef, undef, undef, undef, undef, undef, undef, undef, undef, undef, undef, undef, undef, undef, undef, undef] (frz h) fun v _ => below h.length v = true ∧ R v h) :=
  (ret_rd rfl rfl).trans (by rw [env159]; rfl)
theorem enter160 (h : Heap) (R : Value → Heap → Prop) (v0 v1 v2 v3 : Value) : Ret tab 160 [v0, v1, v2, v3] h R = (belowL h.length [v0, v1, v2, v3] = true ∧ Ok tab R160 [.code B160] #[v0, v1, v2, v3, undef, undef, undef, undef, undef, undef, undef, undef, undef, undef, undef, undef, undef, undef, undef, undef, undef, undef, undef, undef, undef, undef, undef, undef, undef, undef, undef, undef, undef, undef, undef, undef, undef, undef, undef, undef, undef, undef, undef, undef, undef, undef] (frz h) fun v _ => below h.length v = true ∧ R v h) :=
  (ret_rd rfl rfl).trans (by rw [env160]; rfl)
theorem enter170 (h : Heap) (R : Value → Heap → Prop) (v0 : Value) : Ret tab 170 [v0] h R = Ok tab R170 [.code B170] #[v0, undef, undef, undef, undef, undef, undef, undef, undef, undef, undef, undef, undef, undef] h R :=
  (ret_eq rfl rfl).trans (by rw [env170]; rfl)
theorem enter171 (h : Heap) (R : Value → Heap → Prop) (v0 : Value) : Ret tab 171 [v0] h R = Ok tab R171 [.code B171] #[v0, undef, undef, undef, undef, undef, undef, undef, undef, undef, undef, undef, undef, undef, undef, undef, undef, undef, undef, undef, undef, undef, undef, undef, undef, undef, undef, undef, undef, undef, undef, undef] h R :=
  (ret_eq rfl rfl).trans (by rw [env171]; rfl)
theorem enter177 (h : Heap) (R : Value → Heap → Prop) (v0 v1 v2 : Value) : Ret tab 177 [v0, v1, v2] h R = (belowL h.length [v0, v1, v2] = true ∧ Ok tab R177 [.code B177] #[v0, v1, v2, undef, undef, undef, undef, undef, undef, undef, undef] (frz h) fun v _ => below h.length v = true ∧ R v h) :=
  (ret_rd rfl rfl).trans (by rw [env177]; rfl)
theorem enter178 (h : Heap) (R : Value → Heap → Prop) (v0 v1 v2 : Value) : Ret tab 178 [v0, v1, v2] h R = (belowL h.length [v0, v1, v2] = true ∧ Ok tab R178 [.code B178] #[v0, v1, v2, undef, undef, undef, undef, undef, undef, undef, undef, undef] (frz h) fun v _ => below h.length v = true ∧ R v h) :=
  (ret_rd rfl rfl).trans (by rw [env178]; rfl)
theorem enter179 (h : Heap) (R : Value → Heap → Prop) (v0 v1 : Value) : Ret tab 179 [v0, v1] h R = (belowL h.length [v0, v1] = true ∧ Ok tab R179 [.code B179] #[v0, v1, undef, undef, undef, undef, undef, undef, undef, undef, undef, undef, undef, undef, undef, undef, undef, undef] (frz h) fun v _ => below h.length v = true ∧ R v h) :=
  (ret_rd rfl rfl).trans (by rw [env179]; rfl)
theorem enter180 (h : Heap) (R : Value → Heap → Prop) (v0 v1 v2 : Value) : Ret tab 180 [v0, v1, v2] h R = (belowL h.length [v0, v1, v2] = true ∧ Ok tab R180 [.code B180] #[v0, v1, v2, undef, undef, undef, undef, undef, undef, undef, undef, undef, undef, undef, undef, undef, undef, undef, undef, undef, undef, undef, undef, undef, undef, undef, undef, undef, undef, undef] (frz h) fun v _ => below h.length v = true ∧ R v h) :=
  (ret_rd rfl rfl).trans (by rw [env180]; rfl)
theorem enter181 (h : Heap) (R : Value → Heap → Prop) (v0 v1 v2 : Value) : Ret tab 181 [v0, v1, v2] h R = (belowL h.length [v0, v1, v2] = true ∧ Ok tab R181 [.code B181] #[v0, v1, v2, undef, undef, undef, undef, undef, undef, undef, undef, undef, undef, undef, undef, undef, undef, undef, undef, undef, undef, undef, undef, undef, undef, undef] (frz h) fun v _ => below h.length v = true ∧ R v h) :=
  (ret_rd rfl rfl).trans (by rw [env181]; rfl)
theorem enter182 (h : Heap) (R : Value → Heap → Prop) (v0 v1 : Value) : Ret tab 182 [v0, v1] h R = (belowL h.length [v0, v1] = true ∧ Ok tab R182 [.code B182] #[v0, v1, undef, undef, undef, undef, undef, undef, undef, undef] (frz h) fun v _ => below h.length v = true ∧ R v h) :=
  (ret_rd rfl rfl).trans (by rw [env182]; rfl)
theorem enter221 (h : Heap) (R : Value → Heap → Prop) (v0 v1 : Value) : Ret tab 221 [v0, v1] h R = Ok tab R221 [.code B221] #[v0, v1, undef, undef, undef, undef, undef, undef, undef, undef, undef, undef, undef, undef, undef, undef] h R :=
  (ret_eq rfl rfl).trans (by rw [env221]; rfl)
theorem enter222 (h : Heap) (R : Value → Heap → Prop) (v0 v1 v2 : Value) : Ret tab 222 [v0, v1, v2] h R = Ok tab R222 [.code B222] #[v0, v1, v2, undef, undef, undef, undef, undef, undef, undef, undef, undef, undef, undef, undef, undef, undef] h R :=
  (ret_eq rfl rfl).trans (by rw [env222]; rfl)
theorem enter223 (h : Heap) (R : Value → Heap → Prop) (v0 v1 v2 : Value) : Ret tab 223 [v0, v1, v2] h R = Ok tab R223 [.code B223] #[v0, v1, v2, undef, undef, undef, undef, undef, undef, undef, undef, undef, undef, undef, undef, undef, undef, undef, undef, undef, undef] h R :=
  (ret_eq rfl rfl).trans (by rw [env223]; rfl)
theorem enter224 (h : Heap) (R : Value → Heap → Prop) (v0 v1 : Value) : Ret tab 224 [v0, v1] h R = Ok tab R224 [.code B224] #[v0, v1, undef, undef, undef, undef, undef, undef, undef, undef, undef, undef, undef, undef, undef, undef, undef, undef, undef, undef, undef, undef, undef, undef, undef] h R :=
  (ret_eq rfl rfl).trans (by rw [env224]; rfl)
theorem enter232 (h : Heap) (R : Value → Heap → Prop) (v0 v1 : Value) : Ret tab 232 [v0, v1] h R = Ok tab R232 [.code B232] #[v0, v1, undef, undef, undef, undef, undef, undef, undef, undef, undef, undef, undef, undef, undef] h R :=
  (ret_eq rfl rfl).trans (by rw [env232]; rfl)
theorem enter233 (h : Heap) (R : Value → Heap → Prop) (v0 v1 : Value) : Ret tab 233 [v0, v1] h R = Ok tab R233 [.code B233] #[v0, v1, undef, undef, undef, undef, undef, undef, undef, undef, undef, undef, undef, undef, undef, undef, undef, undef, undef, undef, undef, undef, undef, undef, undef, undef, undef, undef, undef, undef, undef, undef, undef, undef, undef, undef, undef, undef, undef, undef, undef, undef, undef, undef, undef, undef, undef, undef, undef, undef, undef, undef, undef, undef, undef, undef, undef, undef, undef, undef, undef, undef, undef, undef, undef, undef, undef, undef, undef, undef, undef, undef, undef, undef, undef, undef, undef, undef, undef, undef, undef, undef, undef, undef, undef, undef, undef, undef, undef] h R :=
  (ret_eq rfl rfl).trans (by rw [env233]; rfl)
theorem enter235 (h : Heap) (R : Value → Heap → Prop) (v0 v1 : Value) : Ret tab 235 [v0, v1] h R = Ok tab R235 [.code B235] #[v0, v1, undef, undef, undef, undef, undef, undef] h R :=
  (ret_eq rfl rfl).trans (by rw [env235]; rfl)
theorem enter236 (h : Heap) (R : Value → Heap → Prop) (v0 : Value) : Ret tab 236 [v0] h R = Ok tab R236 [.code B236] #[v0, undef, undef, undef, undef, undef, undef, undef, undef, undef, undef, undef, undef, undef, undef, undef, undef] h R :=
  (ret_eq rfl rfl).trans (by rw [env236]; rfl)
theorem enter237 (h : Heap) (R : Value → Heap → Prop) (v0 : Value) : Ret tab 237 [v0] h R = Ok tab R237 [.code B237] #[v0, undef, undef, undef, undef, undef, undef, undef, undef, undef, undef, undef, undef, undef, undef, undef, undef, undef, undef, undef, undef, undef, undef, undef, undef, undef, undef, undef, undef, undef, undef, undef, undef, undef, undef, undef, undef, undef] h R :=
  (ret_eq rfl rfl).trans (by rw [env237]; rfl)
end Go.Proofs.Ytjpjohchdfoeaaa
