/-
  The table of the functions, resolved: it is the program's. Laid by program (gentab.py).
-/
import Derived.Test.YtjpjohchdfoeaaaTabA
import Derived.Test.YtjpjohchdfoeaaaTabB
namespace Go.Proofs.Ytjpjohchdfoeaaa
open Go Go.Sim
def tab : Tab := fun g => match g with
  | 10 => some R10
  | 11 => some R11
  | 12 => some R12
  | 13 => some R13
  | 33 => some R33
  | 34 => some R34
  | 35 => some R35
  | 36 => some R36
  | 37 => some R37
  | 38 => some R38
  | 42 => some R42
  | 46 => some R46
  | 47 => some R47
  | 48 => some R48
  | 49 => some R49
  | 50 => some R50
  | 51 => some R51
  | 52 => some R52
  | 63 => some R63
  | 64 => some R64
  | 65 => some R65
  | 66 => some R66
  | 67 => some R67
  | 68 => some R68
  | 69 => some R69
  | 70 => some R70
  | 71 => some R71
  | 72 => some R72
  | 73 => some R73
  | 74 => some R74
  | 75 => some R75
  | 80 => some R80
  | 81 => some R81
  | 82 => some R82
  | 86 => some R86
  | 87 => some R87
  | 88 => some R88
  | 89 => some R89
  | 90 => some R90
  | 91 => some R91
  | 92 => some R92
  | 93 => some R93
  | 96 => some R96
  | 97 => some R97
  | 98 => some R98
  | 99 => some R99
  | 100 => some R100
  | 103 => some R103
  | 104 => some R104
  | 105 => some R105
  | 106 => some R106
  | 115 => some R115
  | 116 => some R116
  | 117 => some R117
  | 118 => some R118
  | 119 => some R119
  | 122 => some R122
  | 126 => some R126
  | 130 => some R130
  | 133 => some R133
  | 134 => some R134
  | 135 => some R135
  | 136 => some R136
  | 137 => some R137
  | 143 => some R143
  | 144 => some R144
  | 145 => some R145
  | 156 => some R156
  | 157 => some R157
  | 158 => some R158
  | 159 => some R159
  | 160 => some R160
  | 161 => some R161
  | 162 => some R162
  | 165 => some R165
  | 166 => some R166
  | 167 => some R167
  | 168 => some R168
  | 169 => some R169
  | 177 => some R177
  | 178 => some R178
  | 179 => some R179
  | 180 => some R180
  | 181 => some R181
  | 182 => some R182
  | 183 => some R183
  | 184 => some R184
  | 185 => some R185
  | 186 => some R186
  | 187 => some R187
  | 188 => some R188
  | 191 => some R191
  | 192 => some R192
  | 193 => some R193
  | 213 => some R213
  | 214 => some R214
  | 215 => some R215
  | 216 => some R216
  | 217 => some R217
  | 218 => some R218
  | 219 => some R219
  | 220 => some R220
  | 221 => some R221
  | 222 => some R222
  | 223 => some R223
  | 224 => some R224
  | 225 => some R225
  | 226 => some R226
  | 227 => some R227
  | 228 => some R228
  | 229 => some R229
  | 230 => some R230
  | 231 => some R231
  | _ => none
theorem tabOk : TabOk Try.prog tab := by
  intro g G h
  unfold tab at h
  split at h <;> try (cases h; done)
  · exact Eq.subst (motive := fun X => compileF Try.prog 10 X.iso = some X) (Option.some.inj h) c10
  · exact Eq.subst (motive := fun X => compileF Try.prog 11 X.iso = some X) (Option.some.inj h) c11
  · exact Eq.subst (motive := fun X => compileF Try.prog 12 X.iso = some X) (Option.some.inj h) c12
  · exact Eq.subst (motive := fun X => compileF Try.prog 13 X.iso = some X) (Option.some.inj h) c13
  · exact Eq.subst (motive := fun X => compileF Try.prog 33 X.iso = some X) (Option.some.inj h) c33
  · exact Eq.subst (motive := fun X => compileF Try.prog 34 X.iso = some X) (Option.some.inj h) c34
  · exact Eq.subst (motive := fun X => compileF Try.prog 35 X.iso = some X) (Option.some.inj h) c35
  · exact Eq.subst (motive := fun X => compileF Try.prog 36 X.iso = some X) (Option.some.inj h) c36
  · exact Eq.subst (motive := fun X => compileF Try.prog 37 X.iso = some X) (Option.some.inj h) c37
  · exact Eq.subst (motive := fun X => compileF Try.prog 38 X.iso = some X) (Option.some.inj h) c38
  · exact Eq.subst (motive := fun X => compileF Try.prog 42 X.iso = some X) (Option.some.inj h) c42
  · exact Eq.subst (motive := fun X => compileF Try.prog 46 X.iso = some X) (Option.some.inj h) c46
  · exact Eq.subst (motive := fun X => compileF Try.prog 47 X.iso = some X) (Option.some.inj h) c47
  · exact Eq.subst (motive := fun X => compileF Try.prog 48 X.iso = some X) (Option.some.inj h) c48
  · exact Eq.subst (motive := fun X => compileF Try.prog 49 X.iso = some X) (Option.some.inj h) c49
  · exact Eq.subst (motive := fun X => compileF Try.prog 50 X.iso = some X) (Option.some.inj h) c50
  · exact Eq.subst (motive := fun X => compileF Try.prog 51 X.iso = some X) (Option.some.inj h) c51
  · exact Eq.subst (motive := fun X => compileF Try.prog 52 X.iso = some X) (Option.some.inj h) c52
  · exact Eq.subst (motive := fun X => compileF Try.prog 63 X.iso = some X) (Option.some.inj h) c63
  · exact Eq.subst (motive := fun X => compileF Try.prog 64 X.iso = some X) (Option.some.inj h) c64
  · exact Eq.subst (motive := fun X => compileF Try.prog 65 X.iso = some X) (Option.some.inj h) c65
  · exact Eq.subst (motive := fun X => compileF Try.prog 66 X.iso = some X) (Option.some.inj h) c66
  · exact Eq.subst (motive := fun X => compileF Try.prog 67 X.iso = some X) (Option.some.inj h) c67
  · exact Eq.subst (motive := fun X => compileF Try.prog 68 X.iso = some X) (Option.some.inj h) c68
  · exact Eq.subst (motive := fun X => compileF Try.prog 69 X.iso = some X) (Option.some.inj h) c69
  · exact Eq.subst (motive := fun X => compileF Try.prog 70 X.iso = some X) (Option.some.inj h) c70
  · exact Eq.subst (motive := fun X => compileF Try.prog 71 X.iso = some X) (Option.some.inj h) c71
  · exact Eq.subst (motive := fun X => compileF Try.prog 72 X.iso = some X) (Option.some.inj h) c72
  · exact Eq.subst (motive := fun X => compileF Try.prog 73 X.iso = some X) (Option.some.inj h) c73
  · exact Eq.subst (motive := fun X => compileF Try.prog 74 X.iso = some X) (Option.some.inj h) c74
  · exact Eq.subst (motive := fun X => compileF Try.prog 75 X.iso = some X) (Option.some.inj h) c75
  · exact Eq.subst (motive := fun X => compileF Try.prog 80 X.iso = some X) (Option.some.inj h) c80
  · exact Eq.subst (motive := fun X => compileF Try.prog 81 X.iso = some X) (Option.some.inj h) c81
  · exact Eq.subst (motive := fun X => compileF Try.prog 82 X.iso = some X) (Option.some.inj h) c82
  · exact Eq.subst (motive := fun X => compileF Try.prog 86 X.iso = some X) (Option.some.inj h) c86
  · exact Eq.subst (motive := fun X => compileF Try.prog 87 X.iso = some X) (Option.some.inj h) c87
  · exact Eq.subst (motive := fun X => compileF Try.prog 88 X.iso = some X) (Option.some.inj h) c88
  · exact Eq.subst (motive := fun X => compileF Try.prog 89 X.iso = some X) (Option.some.inj h) c89
  · exact Eq.subst (motive := fun X => compileF Try.prog 90 X.iso = some X) (Option.some.inj h) c90
  · exact Eq.subst (motive := fun X => compileF Try.prog 91 X.iso = some X) (Option.some.inj h) c91
  · exact Eq.subst (motive := fun X => compileF Try.prog 92 X.iso = some X) (Option.some.inj h) c92
  · exact Eq.subst (motive := fun X => compileF Try.prog 93 X.iso = some X) (Option.some.inj h) c93
  · exact Eq.subst (motive := fun X => compileF Try.prog 96 X.iso = some X) (Option.some.inj h) c96
  · exact Eq.subst (motive := fun X => compileF Try.prog 97 X.iso = some X) (Option.some.inj h) c97
  · exact Eq.subst (motive := fun X => compileF Try.prog 98 X.iso = some X) (Option.some.inj h) c98
  · exact Eq.subst (motive := fun X => compileF Try.prog 99 X.iso = some X) (Option.some.inj h) c99
  · exact Eq.subst (motive := fun X => compileF Try.prog 100 X.iso = some X) (Option.some.inj h) c100
  · exact Eq.subst (motive := fun X => compileF Try.prog 103 X.iso = some X) (Option.some.inj h) c103
  · exact Eq.subst (motive := fun X => compileF Try.prog 104 X.iso = some X) (Option.some.inj h) c104
  · exact Eq.subst (motive := fun X => compileF Try.prog 105 X.iso = some X) (Option.some.inj h) c105
  · exact Eq.subst (motive := fun X => compileF Try.prog 106 X.iso = some X) (Option.some.inj h) c106
  · exact Eq.subst (motive := fun X => compileF Try.prog 115 X.iso = some X) (Option.some.inj h) c115
  · exact Eq.subst (motive := fun X => compileF Try.prog 116 X.iso = some X) (Option.some.inj h) c116
  · exact Eq.subst (motive := fun X => compileF Try.prog 117 X.iso = some X) (Option.some.inj h) c117
  · exact Eq.subst (motive := fun X => compileF Try.prog 118 X.iso = some X) (Option.some.inj h) c118
  · exact Eq.subst (motive := fun X => compileF Try.prog 119 X.iso = some X) (Option.some.inj h) c119
  · exact Eq.subst (motive := fun X => compileF Try.prog 122 X.iso = some X) (Option.some.inj h) c122
  · exact Eq.subst (motive := fun X => compileF Try.prog 126 X.iso = some X) (Option.some.inj h) c126
  · exact Eq.subst (motive := fun X => compileF Try.prog 130 X.iso = some X) (Option.some.inj h) c130
  · exact Eq.subst (motive := fun X => compileF Try.prog 133 X.iso = some X) (Option.some.inj h) c133
  · exact Eq.subst (motive := fun X => compileF Try.prog 134 X.iso = some X) (Option.some.inj h) c134
  · exact Eq.subst (motive := fun X => compileF Try.prog 135 X.iso = some X) (Option.some.inj h) c135
  · exact Eq.subst (motive := fun X => compileF Try.prog 136 X.iso = some X) (Option.some.inj h) c136
  · exact Eq.subst (motive := fun X => compileF Try.prog 137 X.iso = some X) (Option.some.inj h) c137
  · exact Eq.subst (motive := fun X => compileF Try.prog 143 X.iso = some X) (Option.some.inj h) c143
  · exact Eq.subst (motive := fun X => compileF Try.prog 144 X.iso = some X) (Option.some.inj h) c144
  · exact Eq.subst (motive := fun X => compileF Try.prog 145 X.iso = some X) (Option.some.inj h) c145
  · exact Eq.subst (motive := fun X => compileF Try.prog 156 X.iso = some X) (Option.some.inj h) c156
  · exact Eq.subst (motive := fun X => compileF Try.prog 157 X.iso = some X) (Option.some.inj h) c157
  · exact Eq.subst (motive := fun X => compileF Try.prog 158 X.iso = some X) (Option.some.inj h) c158
  · exact Eq.subst (motive := fun X => compileF Try.prog 159 X.iso = some X) (Option.some.inj h) c159
  · exact Eq.subst (motive := fun X => compileF Try.prog 160 X.iso = some X) (Option.some.inj h) c160
  · exact Eq.subst (motive := fun X => compileF Try.prog 161 X.iso = some X) (Option.some.inj h) c161
  · exact Eq.subst (motive := fun X => compileF Try.prog 162 X.iso = some X) (Option.some.inj h) c162
  · exact Eq.subst (motive := fun X => compileF Try.prog 165 X.iso = some X) (Option.some.inj h) c165
  · exact Eq.subst (motive := fun X => compileF Try.prog 166 X.iso = some X) (Option.some.inj h) c166
  · exact Eq.subst (motive := fun X => compileF Try.prog 167 X.iso = some X) (Option.some.inj h) c167
  · exact Eq.subst (motive := fun X => compileF Try.prog 168 X.iso = some X) (Option.some.inj h) c168
  · exact Eq.subst (motive := fun X => compileF Try.prog 169 X.iso = some X) (Option.some.inj h) c169
  · exact Eq.subst (motive := fun X => compileF Try.prog 177 X.iso = some X) (Option.some.inj h) c177
  · exact Eq.subst (motive := fun X => compileF Try.prog 178 X.iso = some X) (Option.some.inj h) c178
  · exact Eq.subst (motive := fun X => compileF Try.prog 179 X.iso = some X) (Option.some.inj h) c179
  · exact Eq.subst (motive := fun X => compileF Try.prog 180 X.iso = some X) (Option.some.inj h) c180
  · exact Eq.subst (motive := fun X => compileF Try.prog 181 X.iso = some X) (Option.some.inj h) c181
  · exact Eq.subst (motive := fun X => compileF Try.prog 182 X.iso = some X) (Option.some.inj h) c182
  · exact Eq.subst (motive := fun X => compileF Try.prog 183 X.iso = some X) (Option.some.inj h) c183
  · exact Eq.subst (motive := fun X => compileF Try.prog 184 X.iso = some X) (Option.some.inj h) c184
  · exact Eq.subst (motive := fun X => compileF Try.prog 185 X.iso = some X) (Option.some.inj h) c185
  · exact Eq.subst (motive := fun X => compileF Try.prog 186 X.iso = some X) (Option.some.inj h) c186
  · exact Eq.subst (motive := fun X => compileF Try.prog 187 X.iso = some X) (Option.some.inj h) c187
  · exact Eq.subst (motive := fun X => compileF Try.prog 188 X.iso = some X) (Option.some.inj h) c188
  · exact Eq.subst (motive := fun X => compileF Try.prog 191 X.iso = some X) (Option.some.inj h) c191
  · exact Eq.subst (motive := fun X => compileF Try.prog 192 X.iso = some X) (Option.some.inj h) c192
  · exact Eq.subst (motive := fun X => compileF Try.prog 193 X.iso = some X) (Option.some.inj h) c193
  · exact Eq.subst (motive := fun X => compileF Try.prog 213 X.iso = some X) (Option.some.inj h) c213
  · exact Eq.subst (motive := fun X => compileF Try.prog 214 X.iso = some X) (Option.some.inj h) c214
  · exact Eq.subst (motive := fun X => compileF Try.prog 215 X.iso = some X) (Option.some.inj h) c215
  · exact Eq.subst (motive := fun X => compileF Try.prog 216 X.iso = some X) (Option.some.inj h) c216
  · exact Eq.subst (motive := fun X => compileF Try.prog 217 X.iso = some X) (Option.some.inj h) c217
  · exact Eq.subst (motive := fun X => compileF Try.prog 218 X.iso = some X) (Option.some.inj h) c218
  · exact Eq.subst (motive := fun X => compileF Try.prog 219 X.iso = some X) (Option.some.inj h) c219
  · exact Eq.subst (motive := fun X => compileF Try.prog 220 X.iso = some X) (Option.some.inj h) c220
  · exact Eq.subst (motive := fun X => compileF Try.prog 221 X.iso = some X) (Option.some.inj h) c221
  · exact Eq.subst (motive := fun X => compileF Try.prog 222 X.iso = some X) (Option.some.inj h) c222
  · exact Eq.subst (motive := fun X => compileF Try.prog 223 X.iso = some X) (Option.some.inj h) c223
  · exact Eq.subst (motive := fun X => compileF Try.prog 224 X.iso = some X) (Option.some.inj h) c224
  · exact Eq.subst (motive := fun X => compileF Try.prog 225 X.iso = some X) (Option.some.inj h) c225
  · exact Eq.subst (motive := fun X => compileF Try.prog 226 X.iso = some X) (Option.some.inj h) c226
  · exact Eq.subst (motive := fun X => compileF Try.prog 227 X.iso = some X) (Option.some.inj h) c227
  · exact Eq.subst (motive := fun X => compileF Try.prog 228 X.iso = some X) (Option.some.inj h) c228
  · exact Eq.subst (motive := fun X => compileF Try.prog 229 X.iso = some X) (Option.some.inj h) c229
  · exact Eq.subst (motive := fun X => compileF Try.prog 230 X.iso = some X) (Option.some.inj h) c230
  · exact Eq.subst (motive := fun X => compileF Try.prog 231 X.iso = some X) (Option.some.inj h) c231
theorem enter10 (h : Heap) (R : Value → Heap → Prop) (v0 v1 : Value) : Ret tab 10 [v0, v1] h R = Ok tab R10 [.code B10] #[v0, v1, undef, undef, undef, undef, undef, undef, undef, undef, undef, undef, undef, undef, undef, undef, undef, undef, undef] h R :=
  (ret_eq rfl rfl).trans (by rw [env10]; rfl)
theorem enter11 (h : Heap) (R : Value → Heap → Prop) (v0 v1 v2 : Value) : Ret tab 11 [v0, v1, v2] h R = Ok tab R11 [.code B11] #[v0, v1, v2, undef, undef, undef, undef, undef, undef, undef, undef, undef, undef, undef, undef, undef, undef, undef, undef, undef, undef, undef, undef, undef, undef, undef, undef, undef, undef, undef, undef, undef, undef, undef, undef, undef, undef, undef, undef, undef] h R :=
  (ret_eq rfl rfl).trans (by rw [env11]; rfl)
theorem enter12 (h : Heap) (R : Value → Heap → Prop) (v0 v1 : Value) : Ret tab 12 [v0, v1] h R = Ok tab R12 [.code B12] #[v0, v1, undef, undef, undef, undef, undef, undef, undef, undef, undef, undef, undef, undef, undef, undef, undef, undef, undef, undef, undef, undef, undef, undef, undef, undef, undef, undef, undef, undef, undef, undef, undef, undef, undef, undef, undef, undef, undef, undef, undef, undef, undef, undef, undef, undef, undef, undef, undef, undef, undef, undef, undef, undef, undef, undef, undef, undef, undef, undef, undef, undef, undef, undef, undef, undef, undef, undef, undef, undef, undef, undef, undef, undef, undef, undef, undef, undef, undef, undef, undef, undef, undef, undef, undef, undef, undef, undef, undef, undef, undef, undef, undef, undef, undef, undef, undef, undef] h R :=
  (ret_eq rfl rfl).trans (by rw [env12]; rfl)
theorem enter13 (h : Heap) (R : Value → Heap → Prop) (v0 v1 v2 : Value) : Ret tab 13 [v0, v1, v2] h R = Ok tab R13 [.code B13] #[v0, v1, v2, undef, undef, undef, undef, undef, undef, undef, undef, undef, undef, undef, undef, undef, undef, undef, undef, undef, undef, undef, undef, undef, undef, undef, undef, undef, undef, undef, undef, undef, undef, undef, undef, undef, undef, undef, undef, undef, undef, undef, undef, undef, undef, undef, undef, undef, undef, undef, undef, undef, undef, undef, undef, undef, undef, undef, undef, undef, undef, undef, undef, undef, undef, undef, undef, undef, undef, undef, undef, undef, undef, undef, undef, undef, undef, undef, undef, undef, undef, undef, undef, undef, undef, undef, undef, undef, undef, undef, undef, undef, undef, undef, undef, undef, undef, undef, undef, undef, undef, undef, undef, undef, undef, undef, undef, undef, undef, undef, undef, undef, undef, undef, undef, undef, undef, undef, undef, undef, undef, undef] h R :=
  (ret_eq rfl rfl).trans (by rw [env13]; rfl)
theorem enter33 (h : Heap) (R : Value → Heap → Prop) (v0 v1 : Value) : Ret tab 33 [v0, v1] h R = Ok tab R33 [.code B33] #[v0, v1, undef, undef, undef, undef, undef, undef, undef, undef, undef, undef, undef, undef, undef, undef, undef, undef] h R :=
  (ret_eq rfl rfl).trans (by rw [env33]; rfl)
theorem enter34 (h : Heap) (R : Value → Heap → Prop) (v0 : Value) : Ret tab 34 [v0] h R = (belowL h.length [v0] = true ∧ Ok tab R34 [.code B34] #[v0, undef, undef, undef, undef, undef, undef, undef, undef] (frz h) fun v _ => below h.length v = true ∧ R v h) :=
  (ret_rd rfl rfl).trans (by rw [env34]; rfl)
theorem enter35 (h : Heap) (R : Value → Heap → Prop) (v0 v1 v2 v3 v4 : Value) : Ret tab 35 [v0, v1, v2, v3, v4] h R = Ok tab R35 [.code B35] #[v0, v1, v2, v3, v4, undef, undef, undef, undef, undef, undef, undef, undef, undef, undef, undef, undef, undef, undef, undef, undef, undef, undef, undef, undef, undef, undef, undef, undef, undef, undef, undef, undef, undef, undef, undef, undef, undef, undef, undef, undef, undef, undef, undef, undef, undef, undef, undef, undef, undef, undef, undef, undef, undef, undef, undef, undef, undef, undef, undef, undef, undef, undef, undef, undef, undef, undef, undef, undef, undef, undef, undef, undef, undef, undef, undef, undef, undef, undef, undef, undef, undef, undef, undef, undef, undef, undef, undef, undef, undef, undef] h R :=
  (ret_eq rfl rfl).trans (by rw [env35]; rfl)
theorem enter36 (h : Heap) (R : Value → Heap → Prop) (v0 : Value) : Ret tab 36 [v0] h R = (belowL h.length [v0] = true ∧ Ok tab R36 [.code B36] #[v0, undef, undef, undef, undef, undef, undef, undef, undef, undef, undef, undef, undef, undef, undef, undef, undef, undef, undef, undef, undef, undef, undef, undef, undef] (frz h) fun v _ => below h.length v = true ∧ R v h) :=
  (ret_rd rfl rfl).trans (by rw [env36]; rfl)
theorem enter37 (h : Heap) (R : Value → Heap → Prop) (v0 : Value) : Ret tab 37 [v0] h R = (belowL h.length [v0] = true ∧ Ok tab R37 [.code B37] #[v0, undef, undef, undef, undef, undef, undef, undef, undef, undef, undef, undef, undef, undef, undef, undef, undef, undef, undef, undef, undef, undef, undef, undef, undef, undef] (frz h) fun v _ => below h.length v = true ∧ R v h) :=
  (ret_rd rfl rfl).trans (by rw [env37]; rfl)
theorem enter38 (h : Heap) (R : Value → Heap → Prop) (v0 : Value) : Ret tab 38 [v0] h R = (belowL h.length [v0] = true ∧ Ok tab R38 [.code B38] #[v0, undef, undef, undef, undef, undef, undef, undef, undef, undef, undef, undef, undef, undef, undef] (frz h) fun v _ => below h.length v = true ∧ R v h) :=
  (ret_rd rfl rfl).trans (by rw [env38]; rfl)
theorem enter42 (h : Heap) (R : Value → Heap → Prop) (v0 v1 v2 : Value) : Ret tab 42 [v0, v1, v2] h R = Ok tab R42 [.code B42] #[v0, v1, v2, undef, undef, undef, undef, undef, undef, undef, undef, undef, undef, undef, undef, undef, undef, undef, undef, undef, undef, undef, undef, undef, undef, undef, undef, undef, undef, undef, undef, undef, undef, undef, undef, undef, undef, undef, undef, undef, undef, undef, undef, undef, undef, undef, undef, undef, undef, undef, undef] h R :=
  (ret_eq rfl rfl).trans (by rw [env42]; rfl)
theorem enter46 (h : Heap) (R : Value → Heap → Prop) (v0 : Value) : Ret tab 46 [v0] h R = Ok tab R46 [.code B46] #[v0, undef, undef, undef, undef, undef, undef, undef, undef, undef, undef, undef, undef] h R :=
  (ret_eq rfl rfl).trans (by rw [env46]; rfl)
theorem enter47 (h : Heap) (R : Value → Heap → Prop) : Ret tab 47 [] h R = Ok tab R47 [.code B47] #[undef, undef, undef, undef, undef, undef, undef, undef, undef, undef, undef, undef, undef, undef, undef, undef, undef, undef, undef, undef, undef, undef, undef, undef, undef, undef, undef, undef, undef, undef, undef, undef, undef, undef, undef, undef, undef, undef, undef, undef, undef, undef, undef, undef, undef, undef, undef, undef, undef, undef, undef, undef, undef, undef, undef, undef, undef, undef, undef, undef, undef, undef, undef, undef, undef, undef, undef, undef, undef, undef, undef, undef, undef, undef, undef, undef, undef, undef, undef, undef, undef, undef, undef, undef, undef, undef, undef, undef, undef, undef, undef, undef, undef, undef, undef, undef, undef, undef, undef, undef, undef, undef, undef, undef, undef, undef, undef, undef, undef, undef, undef, undef, undef, undef, undef, undef, undef, undef, undef, undef, undef, undef, undef] h R :=
  (ret_eq rfl rfl).trans (by rw [env47]; rfl)
theorem enter48 (h : Heap) (R : Value → Heap → Prop) (v0 v1 : Value) : Ret tab 48 [v0, v1] h R = Ok tab R48 [.code B48] #[v0, v1, undef, undef, undef, undef, undef, undef, undef, undef, undef, undef, undef, undef, undef, undef, undef, undef, undef, undef, undef, undef, undef, undef, undef, undef, undef, undef, undef, undef, undef, undef, undef, undef, undef, undef, undef, undef, undef, undef, undef, undef, undef, undef, undef, undef] h R :=
  (ret_eq rfl rfl).trans (by rw [env48]; rfl)
theorem enter49 (h : Heap) (R : Value → Heap → Prop) (v0 v1 : Value) : Ret tab 49 [v0, v1] h R = Ok tab R49 [.code B49] #[v0, v1, undef, undef, undef, undef, undef, undef, undef, undef, undef, undef, undef, undef, undef, undef, undef, undef, undef, undef, undef, undef, undef, undef, undef, undef, undef, undef, undef, undef, undef, undef, undef, undef, undef, undef, undef, undef, undef, undef, undef, undef, undef, undef, undef, undef, undef, undef, undef, undef, undef, undef] h R :=
  (ret_eq rfl rfl).trans (by rw [env49]; rfl)
theorem enter50 (h : Heap) (R : Value → Heap → Prop) (v0 v1 v2 : Value) : Ret tab 50 [v0, v1, v2] h R = Ok tab R50 [.code B50] #[v0, v1, v2, undef, undef, undef, undef, undef, undef, undef, undef, undef, undef, undef, undef, undef, undef, undef, undef, undef, undef, undef, undef, undef, undef, undef, undef, undef, undef, undef, undef, undef, undef, undef, undef, undef, undef, undef, undef, undef, undef, undef, undef, undef, undef, undef, undef, undef, undef, undef, undef, undef] h R :=
  (ret_eq rfl rfl).trans (by rw [env50]; rfl)
theorem enter51 (h : Heap) (R : Value → Heap → Prop) (v0 v1 : Value) : Ret tab 51 [v0, v1] h R = Ok tab R51 [.code B51] #[v0, v1, undef, undef, undef, undef, undef, undef, undef, undef, undef, undef, undef, undef, undef, undef, undef, undef, undef, undef, undef, undef, undef, undef, undef, undef, undef, undef, undef, undef, undef, undef, undef, undef, undef, undef, undef, undef, undef, undef, undef, undef, undef, undef, undef, undef, undef, undef, undef, undef, undef, undef, undef, undef, undef, undef, undef, undef, undef, undef, undef, undef, undef, undef, undef, undef] h R :=
  (ret_eq rfl rfl).trans (by rw [env51]; rfl)
theorem enter52 (h : Heap) (R : Value → Heap → Prop) (v0 v1 v2 v3 v4 : Value) : Ret tab 52 [v0, v1, v2, v3, v4] h R = Ok tab R52 [.code B52] #[v0, v1, v2, v3, v4, undef, undef, undef, undef, undef, undef, undef, undef, undef, undef, undef, undef, undef, undef, undef, undef, undef, undef, undef, undef, undef, undef, undef, undef, undef, undef, undef, undef, undef, undef, undef, undef, undef, undef, undef, undef, undef, undef, undef, undef, undef, undef, undef, undef, undef, undef, undef, undef, undef, undef, undef, undef, undef, undef, undef, undef, undef, undef, undef, undef, undef, undef, undef, undef, undef, undef, undef, undef, undef, undef, undef, undef, undef, undef, undef, undef, undef, undef, undef, undef, undef, undef, undef, undef, undef, undef, undef, undef, undef, undef, undef, undef, undef, undef, undef, undef, undef, undef, undef, undef, undef, undef, undef, undef, undef, undef, undef, undef, undef, undef, undef, undef, undef, undef, undef, undef, undef, undef, undef, undef, undef, undef, undef, undef, undef, undef, undef, undef, undef, undef, undef, undef, undef, undef, undef, undef, undef, undef, undef, undef, undef, undef, undef] h R :=
  (ret_eq rfl rfl).trans (by rw [env52]; rfl)
theorem enter63 (h : Heap) (R : Value → Heap → Prop) (v0 v1 : Value) : Ret tab 63 [v0, v1] h R = (belowL h.length [v0, v1] = true ∧ Ok tab R63 [.code B63] #[v0, v1, undef, undef, undef, undef, undef, undef, undef] (frz h) fun v _ => below h.length v = true ∧ R v h) :=
  (ret_rd rfl rfl).trans (by rw [env63]; rfl)
theorem enter64 (h : Heap) (R : Value → Heap → Prop) (v0 v1 : Value) : Ret tab 64 [v0, v1] h R = Ok tab R64 [.code B64] #[v0, v1, undef, undef, undef, undef, undef, undef, undef, undef, undef, undef, undef, undef, undef, undef, undef, undef] h R :=
  (ret_eq rfl rfl).trans (by rw [env64]; rfl)
theorem enter65 (h : Heap) (R : Value → Heap → Prop) (v0 v1 v2 v3 : Value) : Ret tab 65 [v0, v1, v2, v3] h R = Ok tab R65 [.code B65] #[v0, v1, v2, v3, undef, undef, undef, undef, undef, undef, undef, undef, undef, undef, undef, undef, undef, undef, undef, undef, undef, undef, undef, undef, undef, undef, undef, undef] h R :=
  (ret_eq rfl rfl).trans (by rw [env65]; rfl)
theorem enter66 (h : Heap) (R : Value → Heap → Prop) (v0 v1 v2 v3 : Value) : Ret tab 66 [v0, v1, v2, v3] h R = Ok tab R66 [.code B66] #[v0, v1, v2, v3, undef, undef, undef, undef, undef, undef, undef, undef, undef, undef, undef, undef, undef, undef, undef, undef, undef, undef, undef, undef, undef, undef, undef, undef, undef, undef, undef, undef, undef, undef, undef, undef, undef, undef] h R :=
  (ret_eq rfl rfl).trans (by rw [env66]; rfl)
theorem enter67 (h : Heap) (R : Value → Heap → Prop) (v0 v1 v2 : Value) : Ret tab 67 [v0, v1, v2] h R = Ok tab R67 [.code B67] #[v0, v1, v2, undef, undef, undef, undef, undef, undef, undef, undef, undef, undef, undef, undef, undef, undef, undef, undef] h R :=
  (ret_eq rfl rfl).trans (by rw [env67]; rfl)
theorem enter68 (h : Heap) (R : Value → Heap → Prop) (v0 v1 v2 : Value) : Ret tab 68 [v0, v1, v2] h R = Ok tab R68 [.code B68] #[v0, v1, v2, undef, undef, undef, undef, undef, undef, undef, undef, undef, undef, undef, undef, undef, undef, undef, undef, undef, undef, undef, undef, undef, undef, undef, undef, undef, undef] h R :=
  (ret_eq rfl rfl).trans (by rw [env68]; rfl)
theorem enter69 (h : Heap) (R : Value → Heap → Prop) (v0 v1 v2 v3 : Value) : Ret tab 69 [v0, v1, v2, v3] h R = Ok tab R69 [.code B69] #[v0, v1, v2, v3, undef, undef, undef, undef, undef, undef, undef, undef, undef, undef, undef, undef, undef, undef, undef, undef, undef, undef] h R :=
  (ret_eq rfl rfl).trans (by rw [env69]; rfl)
theorem enter70 (h : Heap) (R : Value → Heap → Prop) (v0 v1 v2 v3 : Value) : Ret tab 70 [v0, v1, v2, v3] h R = Ok tab R70 [.code B70] #[v0, v1, v2, v3, undef, undef, undef, undef, undef, undef, undef, undef, undef, undef, undef, undef, undef, undef, undef, undef, undef, undef, undef, undef, undef, undef, undef, undef, undef, undef, undef, undef] h R :=
  (ret_eq rfl rfl).trans (by rw [env70]; rfl)
theorem enter71 (h : Heap) (R : Value → Heap → Prop) (v0 v1 v2 : Value) : Ret tab 71 [v0, v1, v2] h R = Ok tab R71 [.code B71] #[v0, v1, v2, undef, undef, undef, undef, undef, undef, undef, undef, undef, undef, undef, undef, undef, undef, undef, undef] h R :=
  (ret_eq rfl rfl).trans (by rw [env71]; rfl)
theorem enter72 (h : Heap) (R : Value → Heap → Prop) (v0 v1 v2 : Value) : Ret tab 72 [v0, v1, v2] h R = Ok tab R72 [.code B72] #[v0, v1, v2, undef, undef, undef, undef, undef, undef, undef, undef, undef, undef, undef, undef, undef, undef, undef, undef, undef, undef, undef, undef, undef, undef, undef, undef, undef, undef] h R :=
  (ret_eq rfl rfl).trans (by rw [env72]; rfl)
theorem enter73 (h : Heap) (R : Value → Heap → Prop) (v0 : Value) : Ret tab 73 [v0] h R = (belowL h.length [v0] = true ∧ Ok tab R73 [.code B73] #[v0, undef, undef, undef, undef, undef, undef, undef, undef, undef, undef, undef, undef, undef] (frz h) fun v _ => below h.length v = true ∧ R v h) :=
  (ret_rd rfl rfl).trans (by rw [env73]; rfl)
theorem enter74 (h : Heap) (R : Value → Heap → Prop) (v0 : Value) : Ret tab 74 [v0] h R = (belowL h.length [v0] = true ∧ Ok tab R74 [.code B74] #[v0, undef, undef, undef, undef, undef, undef, undef, undef, undef, undef, undef, undef, undef, undef] (frz h) fun v _ => below h.length v = true ∧ R v h) :=
  (ret_rd rfl rfl).trans (by rw [env74]; rfl)
theorem enter75 (h : Heap) (R : Value → Heap → Prop) (v0 v1 : Value) : Ret tab 75 [v0, v1] h R = (belowL h.length [v0, v1] = true ∧ Ok tab R75 [.code B75] #[v0, v1, undef, undef, undef, undef, undef, undef, undef, undef, undef, undef, undef, undef, undef, undef, undef, undef, undef, undef, undef, undef, undef, undef, undef] (frz h) fun v _ => below h.length v = true ∧ R v h) :=
  (ret_rd rfl rfl).trans (by rw [env75]; rfl)
theorem enter80 (h : Heap) (R : Value → Heap → Prop) (v0 : Value) : Ret tab 80 [v0] h R = (belowL h.length [v0] = true ∧ Ok tab R80 [.code B80] #[v0, undef, undef, undef, undef, undef, undef, undef, undef, undef, undef, undef, undef, undef, undef] (frz h) fun v _ => below h.length v = true ∧ R v h) :=
  (ret_rd rfl rfl).trans (by rw [env80]; rfl)
theorem enter81 (h : Heap) (R : Value → Heap → Prop) (v0 v1 : Value) : Ret tab 81 [v0, v1] h R = (belowL h.length [v0, v1] = true ∧ Ok tab R81 [.code B81] #[v0, v1, undef, undef, undef, undef, undef, undef, undef, undef, undef, undef, undef, undef, undef, undef, undef, undef, undef, undef, undef, undef] (frz h) fun v _ => below h.length v = true ∧ R v h) :=
  (ret_rd rfl rfl).trans (by rw [env81]; rfl)
theorem enter82 (h : Heap) (R : Value → Heap → Prop) (v0 v1 : Value) : Ret tab 82 [v0, v1] h R = Ok tab R82 [.code B82] #[v0, v1, undef, undef, undef, undef, undef, undef, undef, undef, undef, undef, undef, undef, undef, undef, undef, undef, undef, undef, undef, undef, undef, undef, undef, undef, undef, undef, undef, undef, undef, undef, undef, undef, undef, undef, undef, undef, undef] h R :=
  (ret_eq rfl rfl).trans (by rw [env82]; rfl)
theorem enter86 (h : Heap) (R : Value → Heap → Prop) (v0 v1 v2 : Value) : Ret tab 86 [v0, v1, v2] h R = (belowL h.length [v0, v1, v2] = true ∧ Ok tab R86 [.code B86] #[v0, v1, v2, undef, undef, undef, undef, undef, undef, undef, undef, undef, undef, undef, undef, undef, undef, undef] (frz h) fun v _ => below h.length v = true ∧ R v h) :=
  (ret_rd rfl rfl).trans (by rw [env86]; rfl)
theorem enter87 (h : Heap) (R : Value → Heap → Prop) (v0 v1 v2 : Value) : Ret tab 87 [v0, v1, v2] h R = (belowL h.length [v0, v1, v2] = true ∧ Ok tab R87 [.code B87] #[v0, v1, v2, undef, undef, undef, undef, undef, undef, undef, undef, undef] (frz h) fun v _ => below h.length v = true ∧ R v h) :=
  (ret_rd rfl rfl).trans (by rw [env87]; rfl)
theorem enter88 (h : Heap) (R : Value → Heap → Prop) (v0 v1 v2 : Value) : Ret tab 88 [v0, v1, v2] h R = (belowL h.length [v0, v1, v2] = true ∧ Ok tab R88 [.code B88] #[v0, v1, v2, undef, undef, undef, undef, undef, undef, undef, undef, undef, undef, undef, undef, undef, undef, undef, undef, undef] (frz h) fun v _ => below h.length v = true ∧ R v h) :=
  (ret_rd rfl rfl).trans (by rw [env88]; rfl)
theorem enter89 (h : Heap) (R : Value → Heap → Prop) (v0 v1 v2 : Value) : Ret tab 89 [v0, v1, v2] h R = (belowL h.length [v0, v1, v2] = true ∧ Ok tab R89 [.code B89] #[v0, v1, v2, undef, undef, undef, undef, undef, undef, undef, undef, undef] (frz h) fun v _ => below h.length v = true ∧ R v h) :=
  (ret_rd rfl rfl).trans (by rw [env89]; rfl)
theorem enter90 (h : Heap) (R : Value → Heap → Prop) (v0 v1 v2 : Value) : Ret tab 90 [v0, v1, v2] h R = (belowL h.length [v0, v1, v2] = true ∧ Ok tab R90 [.code B90] #[v0, v1, v2, undef, undef, undef, undef, undef, undef, undef, undef, undef, undef, undef, undef, undef, undef, undef, undef, undef] (frz h) fun v _ => below h.length v = true ∧ R v h) :=
  (ret_rd rfl rfl).trans (by rw [env90]; rfl)
theorem enter91 (h : Heap) (R : Value → Heap → Prop) (v0 v1 v2 : Value) : Ret tab 91 [v0, v1, v2] h R = (belowL h.length [v0, v1, v2] = true ∧ Ok tab R91 [.code B91] #[v0, v1, v2, undef, undef, undef, undef, undef, undef, undef, undef, undef] (frz h) fun v _ => below h.length v = true ∧ R v h) :=
  (ret_rd rfl rfl).trans (by rw [env91]; rfl)
theorem enter92 (h : Heap) (R : Value → Heap → Prop) (v0 v1 v2 : Value) : Ret tab 92 [v0, v1, v2] h R = (belowL h.length [v0, v1, v2] = true ∧ Ok tab R92 [.code B92] #[v0, v1, v2, undef, undef, undef, undef, undef, undef, undef, undef, undef, undef, undef, undef, undef, undef, undef, undef, undef] (frz h) fun v _ => below h.length v = true ∧ R v h) :=
  (ret_rd rfl rfl).trans (by rw [env92]; rfl)
theorem enter93 (h : Heap) (R : Value → Heap → Prop) (v0 v1 v2 : Value) : Ret tab 93 [v0, v1, v2] h R = (belowL h.length [v0, v1, v2] = true ∧ Ok tab R93 [.code B93] #[v0, v1, v2, undef, undef, undef, undef, undef, undef, undef, undef, undef] (frz h) fun v _ => below h.length v = true ∧ R v h) :=
  (ret_rd rfl rfl).trans (by rw [env93]; rfl)
theorem enter96 (h : Heap) (R : Value → Heap → Prop) (v0 v1 : Value) : Ret tab 96 [v0, v1] h R = (belowL h.length [v0, v1] = true ∧ Ok tab R96 [.code B96] #[v0, v1, undef, undef, undef, undef, undef, undef, undef, undef, undef, undef, undef, undef, undef, undef, undef, undef, undef] (frz h) fun v _ => below h.length v = true ∧ R v h) :=
  (ret_rd rfl rfl).trans (by rw [env96]; rfl)
theorem enter97 (h : Heap) (R : Value → Heap → Prop) (v0 v1 v2 v3 v4 : Value) : Ret tab 97 [v0, v1, v2, v3, v4] h R = Ok tab R97 [.code B97] #[v0, v1, v2, v3, v4, undef, undef, undef, undef, undef, undef, undef, undef, undef, undef, undef, undef, undef, undef, undef, undef, undef, undef, undef, undef, undef, undef, undef, undef, undef, undef, undef, undef, undef, undef, undef, undef, undef, undef, undef, undef, undef, undef, undef, undef, undef, undef, undef, undef, undef, undef, undef, undef, undef, undef, undef, undef, undef, undef, undef, undef, undef, undef, undef, undef, undef, undef, undef, undef, undef, undef, undef, undef, undef, undef, undef, undef, undef, undef, undef, undef, undef, undef, undef, undef, undef] h R :=
  (ret_eq rfl rfl).trans (by rw [env97]; rfl)
theorem enter98 (h : Heap) (R : Value → Heap → Prop) (v0 : Value) : Ret tab 98 [v0] h R = (belowL h.length [v0] = true ∧ Ok tab R98 [.code B98] #[v0, undef, undef, undef, undef, undef, undef, undef, undef, undef] (frz h) fun v _ => below h.length v = true ∧ R v h) :=
  (ret_rd rfl rfl).trans (by rw [env98]; rfl)
theorem enter99 (h : Heap) (R : Value → Heap → Prop) (v0 : Value) : Ret tab 99 [v0] h R = (belowL h.length [v0] = true ∧ Ok tab R99 [.code B99] #[v0, undef, undef, undef, undef, undef, undef, undef, undef, undef] (frz h) fun v _ => below h.length v = true ∧ R v h) :=
  (ret_rd rfl rfl).trans (by rw [env99]; rfl)
theorem enter100 (h : Heap) (R : Value → Heap → Prop) (v0 v1 : Value) : Ret tab 100 [v0, v1] h R = (belowL h.length [v0, v1] = true ∧ Ok tab R100 [.code B100] #[v0, v1, undef, undef, undef, undef, undef, undef, undef, undef, undef, undef, undef, undef, undef, undef, undef, undef] (frz h) fun v _ => below h.length v = true ∧ R v h) :=
  (ret_rd rfl rfl).trans (by rw [env100]; rfl)
theorem enter103 (h : Heap) (R : Value → Heap → Prop) (v0 : Value) : Ret tab 103 [v0] h R = Ok tab R103 [.code B103] #[v0, undef, undef, undef, undef, undef, undef, undef, undef, undef, undef, undef, undef, undef] h R :=
  (ret_eq rfl rfl).trans (by rw [env103]; rfl)
theorem enter104 (h : Heap) (R : Value → Heap → Prop) (v0 v1 : Value) : Ret tab 104 [v0, v1] h R = Ok tab R104 [.code B104] #[v0, v1, undef, undef, undef, undef, undef, undef, undef, undef, undef, undef, undef, undef, undef, undef, undef, undef, undef, undef, undef, undef, undef, undef, undef, undef, undef, undef, undef, undef, undef, undef, undef, undef, undef, undef, undef, undef, undef, undef, undef, undef, undef] h R :=
  (ret_eq rfl rfl).trans (by rw [env104]; rfl)
theorem enter105 (h : Heap) (R : Value → Heap → Prop) : Ret tab 105 [] h R = Ok tab R105 [.code B105] #[undef, undef, undef, undef] h R :=
  (ret_eq rfl rfl).trans (by rw [env105]; rfl)
theorem enter106 (h : Heap) (R : Value → Heap → Prop) (v0 : Value) : Ret tab 106 [v0] h R = Ok tab R106 [.code B106] #[v0, undef, undef, undef, undef, undef, undef, undef] h R :=
  (ret_eq rfl rfl).trans (by rw [env106]; rfl)
theorem enter115 (h : Heap) (R : Value → Heap → Prop) (v0 v1 : Value) : Ret tab 115 [v0, v1] h R = (belowL h.length [v0, v1] = true ∧ Ok tab R115 [.code B115] #[v0, v1, undef, undef, undef, undef, undef, undef, undef, undef, undef, undef, undef, undef, undef, undef, undef, undef, undef] (frz h) fun v _ => below h.length v = true ∧ R v h) :=
  (ret_rd rfl rfl).trans (by rw [env115]; rfl)
theorem enter116 (h : Heap) (R : Value → Heap → Prop) (v0 v1 v2 : Value) : Ret tab 116 [v0, v1, v2] h R = (belowL h.length [v0, v1, v2] = true ∧ Ok tab R116 [.code B116] #[v0, v1, v2, undef, undef, undef, undef, undef, undef, undef, undef, undef, undef, undef, undef, undef, undef, undef, undef, undef, undef, undef, undef, undef, undef, undef, undef, undef, undef, undef, undef, undef, undef, undef, undef, undef, undef, undef, undef, undef, undef, undef, undef, undef, undef, undef] (frz h) fun v _ => below h.length v = true ∧ R v h) :=
  (ret_rd rfl rfl).trans (by rw [env116]; rfl)
theorem enter117 (h : Heap) (R : Value → Heap → Prop) (v0 : Value) : Ret tab 117 [v0] h R = (belowL h.length [v0] = true ∧ Ok tab R117 [.code B117] #[v0, undef, undef, undef, undef, undef, undef, undef, undef, undef, undef, undef, undef] (frz h) fun v _ => below h.length v = true ∧ R v h) :=
  (ret_rd rfl rfl).trans (by rw [env117]; rfl)
theorem enter118 (h : Heap) (R : Value → Heap → Prop) (v0 v1 v2 : Value) : Ret tab 118 [v0, v1, v2] h R = (belowL h.length [v0, v1, v2] = true ∧ Ok tab R118 [.code B118] #[v0, v1, v2, undef, undef, undef, undef, undef, undef, undef, undef, undef, undef, undef, undef] (frz h) fun v _ => below h.length v = true ∧ R v h) :=
  (ret_rd rfl rfl).trans (by rw [env118]; rfl)
theorem enter119 (h : Heap) (R : Value → Heap → Prop) (v0 v1 : Value) : Ret tab 119 [v0, v1] h R = Ok tab R119 [.code B119] #[v0, v1, undef, undef, undef, undef, undef, undef, undef, undef, undef, undef, undef, undef, undef, undef, undef, undef, undef, undef, undef, undef, undef, undef, undef, undef, undef, undef, undef, undef, undef, undef, undef, undef, undef, undef, undef, undef, undef, undef, undef, undef, undef] h R :=
  (ret_eq rfl rfl).trans (by rw [env119]; rfl)
theorem enter122 (h : Heap) (R : Value → Heap → Prop) (v0 v1 : Value) : Ret tab 122 [v0, v1] h R = (belowL h.length [v0, v1] = true ∧ Ok tab R122 [.code B122] #[v0, v1, undef, undef, undef, undef, undef, undef, undef, undef] (frz h) fun v _ => below h.length v = true ∧ R v h) :=
  (ret_rd rfl rfl).trans (by rw [env122]; rfl)
theorem enter126 (h : Heap) (R : Value → Heap → Prop) (v0 : Value) : Ret tab 126 [v0] h R = (belowL h.length [v0] = true ∧ Ok tab R126 [.code B126] #[v0, undef, undef, undef, undef, undef, undef, undef, undef, undef, undef, undef, undef] (frz h) fun v _ => below h.length v = true ∧ R v h) :=
  (ret_rd rfl rfl).trans (by rw [env126]; rfl)
theorem enter130 (h : Heap) (R : Value → Heap → Prop) (v0 v1 : Value) : Ret tab 130 [v0, v1] h R = (belowL h.length [v0, v1] = true ∧ Ok tab R130 [.code B130] #[v0, v1, undef, undef, undef, undef, undef, undef] (frz h) fun v _ => below h.length v = true ∧ R v h) :=
  (ret_rd rfl rfl).trans (by rw [env130]; rfl)
theorem enter133 (h : Heap) (R : Value → Heap → Prop) (v0 v1 v2 : Value) : Ret tab 133 [v0, v1, v2] h R = (belowL h.length [v0, v1, v2] = true ∧ Ok tab R133 [.code B133] #[v0, v1, v2, undef, undef, undef, undef, undef, undef, undef, undef, undef, undef, undef, undef, undef, undef, undef, undef, undef, undef, undef, undef, undef, undef, undef, undef] (frz h) fun v _ => below h.length v = true ∧ R v h) :=
  (ret_rd rfl rfl).trans (by rw [env133]; rfl)
theorem enter134 (h : Heap) (R : Value → Heap → Prop) (v0 v1 v2 v3 : Value) : Ret tab 134 [v0, v1, v2, v3] h R = Ok tab R134 [.code B134] #[v0, v1, v2, v3, undef, undef, undef, undef, undef, undef, undef, undef, undef, undef, undef, undef] h R :=
  (ret_eq rfl rfl).trans (by rw [env134]; rfl)
theorem enter135 (h : Heap) (R : Value → Heap → Prop) (v0 : Value) : Ret tab 135 [v0] h R = Ok tab R135 [.code B135] #[v0, undef, undef, undef, undef, undef, undef, undef, undef, undef, undef, undef, undef, undef, undef, undef, undef, undef, undef, undef, undef, undef, undef, undef, undef, undef, undef, undef, undef, undef, undef, undef, undef, undef, undef, undef, undef, undef, undef, undef, undef, undef, undef, undef, undef, undef, undef, undef, undef, undef, undef, undef] h R :=
  (ret_eq rfl rfl).trans (by rw [env135]; rfl)
theorem enter136 (h : Heap) (R : Value → Heap → Prop) (v0 : Value) : Ret tab 136 [v0] h R = Ok tab R136 [.code B136] #[v0, undef, undef, undef, undef, undef, undef, undef, undef, undef, undef, undef, undef, undef, undef, undef, undef, undef, undef, undef, undef, undef, undef, undef, undef, undef, undef, undef, undef, undef, undef, undef, undef, undef, undef, undef, undef, undef, undef, undef, undef, undef, undef, undef, undef, undef, undef, undef, undef, undef, undef, undef, undef, undef, undef, undef, undef, undef, undef, undef, undef, undef, undef, undef, undef, undef, undef, undef, undef, undef, undef, undef, undef, undef, undef, undef, undef, undef, undef, undef, undef, undef, undef, undef, undef, undef] h R :=
  (ret_eq rfl rfl).trans (by rw [env136]; rfl)
theorem enter137 (h : Heap) (R : Value → Heap → Prop) (v0 v1 : Value) : Ret tab 137 [v0, v1] h R = Ok tab R137 [.code B137] #[v0, v1, undef, undef, undef, undef, undef, undef, undef, undef, undef, undef, undef, undef, undef, undef, undef, undef, undef, undef, undef, undef, undef, undef, undef, undef, undef, undef, undef, undef, undef, undef, undef, undef, undef, undef, undef, undef, undef, undef, undef, undef, undef, undef, undef, undef, undef, undef, undef, undef, undef, undef, undef, undef, undef, undef, undef, undef, undef, undef, undef, undef, undef, undef, undef, undef, undef, undef, undef, undef, undef, undef, undef, undef, undef, undef, undef, undef, undef, undef, undef, undef, undef, undef, undef, undef, undef, undef, undef, undef, undef, undef, undef, undef, undef, undef, undef, undef, undef, undef, undef, undef, undef, undef, undef, undef, undef, undef, undef, undef, undef] h R :=
  (ret_eq rfl rfl).trans (by rw [env137]; rfl)
theorem enter143 (h : Heap) (R : Value → Heap → Prop) (v0 : Value) : Ret tab 143 [v0] h R = Ok tab R143 [.code B143] #[v0, undef, undef, undef, undef, undef, undef, undef, undef] h R :=
  (ret_eq rfl rfl).trans (by rw [env143]; rfl)
theorem enter144 (h : Heap) (R : Value → Heap → Prop) (v0 : Value) : Ret tab 144 [v0] h R = Ok tab R144 [.code B144] #[v0, undef, undef, undef, undef, undef, undef, undef, undef, undef, undef, undef, undef, undef] h R :=
  (ret_eq rfl rfl).trans (by rw [env144]; rfl)
theorem enter145 (h : Heap) (R : Value → Heap → Prop) (v0 : Value) : Ret tab 145 [v0] h R = Ok tab R145 [.code B145] #[v0, undef, undef, undef, undef, undef, undef, undef, undef, undef, undef, undef, undef, undef, undef, undef, undef, undef] h R :=
  (ret_eq rfl rfl).trans (by rw [env145]; rfl)
theorem enter156 (h : Heap) (R : Value → Heap → Prop) (v0 v1 v2 : Value) : Ret tab 156 [v0, v1, v2] h R = (belowL h.length [v0, v1, v2] = true ∧ Ok tab R156 [.code B156] #[v0, v1, v2, undef, undef, undef, undef, undef, undef, undef, undef, undef, undef, undef, undef, undef, undef, undef, undef, undef, undef, undef, undef, undef, undef, undef, undef, undef, undef, undef, undef, undef, undef] (frz h) fun v _ => below h.length v = true ∧ R v h) :=
  (ret_rd rfl rfl).trans (by rw [env156]; rfl)
theorem enter157 (h : Heap) (R : Value → Heap → Prop) (v0 v1 v2 v3 : Value) : Ret tab 157 [v0, v1, v2, v3] h R = (belowL h.length [v0, v1, v2, v3] = true ∧ Ok tab R157 [.code B157] #[v0, v1, v2, v3, undef, undef, undef, undef, undef, undef, undef, undef, undef, undef, undef, undef, undef, undef, undef, undef, undef, undef, undef, undef, undef, undef, undef, undef, undef, undef, undef, undef, undef, undef, undef, undef, undef, undef, undef, undef, undef, undef, undef, undef, undef, undef, undef, undef, undef, undef, undef, undef, undef, undef, undef, undef, undef, undef, undef, undef, undef, undef, undef, undef, undef, undef, undef, undef, undef, undef, undef, undef, undef, undef, undef, undef, undef] (frz h) fun v _ => below h.length v = true ∧ R v h) :=
  (ret_rd rfl rfl).trans (by rw [env157]; rfl)
theorem enter158 (h : Heap) (R : Value → Heap → Prop) (v0 v1 v2 v3 : Value) : Ret tab 158 [v0, v1, v2, v3] h R = (belowL h.length [v0, v1, v2, v3] = true ∧ Ok tab R158 [.code B158] #[v0, v1, v2, v3, undef, undef, undef, undef, undef, undef, undef, undef, undef, undef, undef, undef, undef, undef, undef, undef, undef, undef, undef, undef, undef, undef, undef, undef, undef, undef, undef, undef, undef, undef, undef, undef] (frz h) fun v _ => below h.length v = true ∧ R v h) :=
  (ret_rd rfl rfl).trans (by rw [env158]; rfl)
theorem enter159 (h : Heap) (R : Value → Heap → Prop) (v0 v1 : Value) : Ret tab 159 [v0, v1] h R = (belowL h.length [v0, v1] = true ∧ Ok tab R159 [.code B159] #[v0, v1, undef, undef, undef, undef, undef, undef, undef, undef, undef, undef, undef, undef, undef, undef, undef, undef, undef, undef, undef, undef, undef, undef, undef, undef, undef, undef, undef, undef, undef, undef, undef, undef, undef, undef, undef] (frz h) fun v _ => below h.length v = true ∧ R v h) :=
  (ret_rd rfl rfl).trans (by rw [env159]; rfl)
theorem enter160 (h : Heap) (R : Value → Heap → Prop) (v0 v1 v2 v3 : Value) : Ret tab 160 [v0, v1, v2, v3] h R = (belowL h.length [v0, v1, v2, v3] = true ∧ Ok tab R160 [.code B160] #[v0, v1, v2, v3, undef, undef, undef, undef, undef, undef, undef, undef, undef, undef, undef, undef, undef, undef, undef, undef, undef, undef, undef, undef, undef, undef, undef, undef, undef, undef, undef, undef, undef, undef, undef, undef, undef, undef, undef, undef, undef, undef, undef, undef, undef, undef] (frz h) fun v _ => below h.length v = true ∧ R v h) :=
  (ret_rd rfl rfl).trans (by rw [env160]; rfl)
theorem enter161 (h : Heap) (R : Value → Heap → Prop) (v0 v1 v2 v3 : Value) : Ret tab 161 [v0, v1, v2, v3] h R = (belowL h.length [v0, v1, v2, v3] = true ∧ Ok tab R161 [.code B161] #[v0, v1, v2, v3, undef, undef, undef, undef, undef, undef, undef, undef, undef, undef, undef, undef, undef, undef, undef, undef, undef, undef, undef, undef, undef, undef, undef, undef, undef, undef, undef, undef, undef, undef, undef, undef, undef, undef, undef, undef, undef, undef, undef, undef, undef, undef, undef, undef, undef, undef, undef, undef, undef, undef, undef, undef, undef, undef, undef, undef, undef, undef, undef, undef, undef, undef, undef, undef, undef, undef, undef, undef, undef, undef, undef, undef, undef] (frz h) fun v _ => below h.length v = true ∧ R v h) :=
  (ret_rd rfl rfl).trans (by rw [env161]; rfl)
theorem enter162 (h : Heap) (R : Value → Heap → Prop) (v0 v1 v2 v3 : Value) : Ret tab 162 [v0, v1, v2, v3] h R = (belowL h.length [v0, v1, v2, v3] = true ∧ Ok tab R162 [.code B162] #[v0, v1, v2, v3, undef, undef, undef, undef, undef, undef, undef, undef, undef, undef, undef, undef, undef, undef, undef, undef, undef, undef, undef, undef, undef, undef, undef, undef, undef, undef, undef, undef, undef, undef, undef] (frz h) fun v _ => below h.length v = true ∧ R v h) :=
  (ret_rd rfl rfl).trans (by rw [env162]; rfl)
theorem enter165 (h : Heap) (R : Value → Heap → Prop) (v0 v1 v2 : Value) : Ret tab 165 [v0, v1, v2] h R = (belowL h.length [v0, v1, v2] = true ∧ Ok tab R165 [.code B165] #[v0, v1, v2, undef, undef, undef, undef, undef, undef, undef, undef, undef, undef, undef, undef, undef, undef, undef, undef, undef, undef, undef, undef, undef, undef, undef, undef, undef, undef, undef, undef] (frz h) fun v _ => below h.length v = true ∧ R v h) :=
  (ret_rd rfl rfl).trans (by rw [env165]; rfl)
theorem enter166 (h : Heap) (R : Value → Heap → Prop) (v0 v1 v2 : Value) : Ret tab 166 [v0, v1, v2] h R = Ok tab R166 [.code B166] #[v0, v1, v2, undef, undef, undef, undef, undef, undef, undef, undef, undef, undef, undef, undef, undef, undef, undef, undef, undef, undef, undef, undef, undef, undef, undef, undef, undef, undef, undef, undef, undef, undef, undef, undef, undef, undef, undef, undef, undef, undef, undef, undef, undef, undef, undef, undef, undef, undef] h R :=
  (ret_eq rfl rfl).trans (by rw [env166]; rfl)
theorem enter167 (h : Heap) (R : Value → Heap → Prop) (v0 v1 v2 : Value) : Ret tab 167 [v0, v1, v2] h R = (belowL h.length [v0, v1, v2] = true ∧ Ok tab R167 [.code B167] #[v0, v1, v2, undef, undef, undef, undef, undef, undef, undef, undef, undef, undef, undef, undef, undef, undef, undef, undef, undef, undef, undef, undef] (frz h) fun v _ => below h.length v = true ∧ R v h) :=
  (ret_rd rfl rfl).trans (by rw [env167]; rfl)
theorem enter168 (h : Heap) (R : Value → Heap → Prop) (v0 v1 v2 : Value) : Ret tab 168 [v0, v1, v2] h R = (belowL h.length [v0, v1, v2] = true ∧ Ok tab R168 [.code B168] #[v0, v1, v2, undef, undef, undef, undef, undef, undef, undef, undef, undef, undef, undef, undef, undef, undef, undef, undef, undef, undef, undef, undef, undef, undef, undef, undef, undef, undef, undef, undef, undef, undef, undef, undef, undef, undef, undef, undef, undef, undef, undef, undef, undef] (frz h) fun v _ => below h.length v = true ∧ R v h) :=
  (ret_rd rfl rfl).trans (by rw [env168]; rfl)
theorem enter169 (h : Heap) (R : Value → Heap → Prop) (v0 v1 v2 : Value) : Ret tab 169 [v0, v1, v2] h R = Ok tab R169 [.code B169] #[v0, v1, v2, undef, undef, undef, undef, undef, undef, undef, undef, undef, undef, undef, undef, undef, undef, undef, undef, undef, undef, undef, undef, undef, undef, undef, undef, undef, undef, undef, undef, undef, undef, undef, undef, undef, undef, undef, undef, undef, undef, undef, undef, undef, undef, undef, undef, undef, undef, undef, undef, undef, undef, undef, undef] h R :=
  (ret_eq rfl rfl).trans (by rw [env169]; rfl)
theorem enter177 (h : Heap) (R : Value → Heap → Prop) (v0 v1 v2 : Value) : Ret tab 177 [v0, v1, v2] h R = (belowL h.length [v0, v1, v2] = true ∧ Ok tab R177 [.code B177] #[v0, v1, v2, undef, undef, undef, undef, undef, undef, undef, undef] (frz h) fun v _ => below h.length v = true ∧ R v h) :=
  (ret_rd rfl rfl).trans (by rw [env177]; rfl)
theorem enter178 (h : Heap) (R : Value → Heap → Prop) (v0 v1 v2 : Value) : Ret tab 178 [v0, v1, v2] h R = (belowL h.length [v0, v1, v2] = true ∧ Ok tab R178 [.code B178] #[v0, v1, v2, undef, undef, undef, undef, undef, undef, undef, undef, undef] (frz h) fun v _ => below h.length v = true ∧ R v h) :=
  (ret_rd rfl rfl).trans (by rw [env178]; rfl)
theorem enter179 (h : Heap) (R : Value → Heap → Prop) (v0 v1 : Value) : Ret tab 179 [v0, v1] h R = (belowL h.length [v0, v1] = true ∧ Ok tab R179 [.code B179] #[v0, v1, undef, undef, undef, undef, undef, undef, undef, undef, undef, undef, undef, undef, undef, undef, undef, undef] (frz h) fun v _ => below h.length v = true ∧ R v h) :=
  (ret_rd rfl rfl).trans (by rw [env179]; rfl)
theorem enter180 (h : Heap) (R : Value → Heap → Prop) (v0 v1 v2 : Value) : Ret tab 180 [v0, v1, v2] h R = (belowL h.length [v0, v1, v2] = true ∧ Ok tab R180 [.code B180] #[v0, v1, v2, undef, undef, undef, undef, undef, undef, undef, undef, undef, undef, undef, undef, undef, undef, undef, undef, undef, undef, undef, undef, undef, undef, undef, undef, undef, undef, undef] (frz h) fun v _ => below h.length v = true ∧ R v h) :=
  (ret_rd rfl rfl).trans (by rw [env180]; rfl)
theorem enter181 (h : Heap) (R : Value → Heap → Prop) (v0 v1 v2 : Value) : Ret tab 181 [v0, v1, v2] h R = (belowL h.length [v0, v1, v2] = true ∧ Ok tab R181 [.code B181] #[v0, v1, v2, undef, undef, undef, undef, undef, undef, undef, undef, undef, undef, undef, undef, undef, undef, undef, undef, undef, undef, undef, undef, undef, undef, undef] (frz h) fun v _ => below h.length v = true ∧ R v h) :=
  (ret_rd rfl rfl).trans (by rw [env181]; rfl)
theorem enter182 (h : Heap) (R : Value → Heap → Prop) (v0 v1 : Value) : Ret tab 182 [v0, v1] h R = (belowL h.length [v0, v1] = true ∧ Ok tab R182 [.code B182] #[v0, v1, undef, undef, undef, undef, undef, undef, undef, undef] (frz h) fun v _ => below h.length v = true ∧ R v h) :=
  (ret_rd rfl rfl).trans (by rw [env182]; rfl)
theorem enter183 (h : Heap) (R : Value → Heap → Prop) (v0 v1 v2 : Value) : Ret tab 183 [v0, v1, v2] h R = (belowL h.length [v0, v1, v2] = true ∧ Ok tab R183 [.code B183] #[v0, v1, v2, undef, undef, undef, undef, undef, undef, undef, undef, undef] (frz h) fun v _ => below h.length v = true ∧ R v h) :=
  (ret_rd rfl rfl).trans (by rw [env183]; rfl)
theorem enter184 (h : Heap) (R : Value → Heap → Prop) (v0 v1 v2 : Value) : Ret tab 184 [v0, v1, v2] h R = (belowL h.length [v0, v1, v2] = true ∧ Ok tab R184 [.code B184] #[v0, v1, v2, undef, undef, undef, undef, undef, undef, undef, undef, undef] (frz h) fun v _ => below h.length v = true ∧ R v h) :=
  (ret_rd rfl rfl).trans (by rw [env184]; rfl)
theorem enter185 (h : Heap) (R : Value → Heap → Prop) (v0 v1 : Value) : Ret tab 185 [v0, v1] h R = (belowL h.length [v0, v1] = true ∧ Ok tab R185 [.code B185] #[v0, v1, undef, undef, undef, undef, undef, undef, undef, undef, undef, undef, undef, undef, undef, undef, undef] (frz h) fun v _ => below h.length v = true ∧ R v h) :=
  (ret_rd rfl rfl).trans (by rw [env185]; rfl)
theorem enter186 (h : Heap) (R : Value → Heap → Prop) (v0 v1 v2 : Value) : Ret tab 186 [v0, v1, v2] h R = (belowL h.length [v0, v1, v2] = true ∧ Ok tab R186 [.code B186] #[v0, v1, v2, undef, undef, undef, undef, undef, undef, undef, undef, undef, undef, undef, undef, undef, undef, undef, undef, undef, undef] (frz h) fun v _ => below h.length v = true ∧ R v h) :=
  (ret_rd rfl rfl).trans (by rw [env186]; rfl)
theorem enter187 (h : Heap) (R : Value → Heap → Prop) (v0 v1 v2 v3 : Value) : Ret tab 187 [v0, v1, v2, v3] h R = (belowL h.length [v0, v1, v2, v3] = true ∧ Ok tab R187 [.code B187] #[v0, v1, v2, v3, undef, undef, undef, undef, undef, undef, undef, undef, undef, undef, undef, undef, undef, undef, undef, undef, undef, undef, undef, undef, undef, undef, undef, undef, undef, undef, undef, undef, undef, undef, undef, undef, undef, undef, undef, undef, undef, undef, undef, undef, undef] (frz h) fun v _ => below h.length v = true ∧ R v h) :=
  (ret_rd rfl rfl).trans (by rw [env187]; rfl)
theorem enter188 (h : Heap) (R : Value → Heap → Prop) (v0 v1 : Value) : Ret tab 188 [v0, v1] h R = (belowL h.length [v0, v1] = true ∧ Ok tab R188 [.code B188] #[v0, v1, undef, undef, undef, undef, undef, undef, undef, undef, undef, undef, undef, undef, undef, undef, undef, undef, undef, undef, undef, undef, undef, undef, undef, undef, undef, undef, undef, undef, undef, undef, undef, undef, undef, undef, undef, undef] (frz h) fun v _ => below h.length v = true ∧ R v h) :=
  (ret_rd rfl rfl).trans (by rw [env188]; rfl)
theorem enter191 (h : Heap) (R : Value → Heap → Prop) (v0 v1 v2 : Value) : Ret tab 191 [v0, v1, v2] h R = Ok tab R191 [.code B191] #[v0, v1, v2, undef, undef, undef, undef, undef, undef, undef, undef, undef, undef, undef, undef, undef, undef, undef, undef, undef, undef, undef, undef, undef, undef, undef, undef, undef, undef, undef, undef, undef, undef, undef, undef, undef, undef, undef, undef, undef, undef, undef, undef, undef, undef, undef, undef, undef, undef, undef, undef, undef, undef, undef] h R :=
  (ret_eq rfl rfl).trans (by rw [env191]; rfl)
theorem enter192 (h : Heap) (R : Value → Heap → Prop) (v0 v1 v2 : Value) : Ret tab 192 [v0, v1, v2] h R = (belowL h.length [v0, v1, v2] = true ∧ Ok tab R192 [.code B192] #[v0, v1, v2, undef, undef, undef, undef, undef, undef, undef, undef, undef, undef, undef, undef, undef, undef, undef] (frz h) fun v _ => below h.length v = true ∧ R v h) :=
  (ret_rd rfl rfl).trans (by rw [env192]; rfl)
theorem enter193 (h : Heap) (R : Value → Heap → Prop) (v0 v1 : Value) : Ret tab 193 [v0, v1] h R = (belowL h.length [v0, v1] = true ∧ Ok tab R193 [.code B193] #[v0, v1, undef, undef, undef, undef, undef, undef, undef, undef, undef, undef, undef, undef, undef, undef, undef, undef, undef, undef, undef] (frz h) fun v _ => below h.length v = true ∧ R v h) :=
  (ret_rd rfl rfl).trans (by rw [env193]; rfl)
theorem enter213 (h : Heap) (R : Value → Heap → Prop) (v0 : Value) : Ret tab 213 [v0] h R = Ok tab R213 [.code B213] #[v0, undef, undef, undef, undef, undef] h R :=
  (ret_eq rfl rfl).trans (by rw [env213]; rfl)
theorem enter214 (h : Heap) (R : Value → Heap → Prop) (v0 : Value) : Ret tab 214 [v0] h R = Ok tab R214 [.code B214] #[v0, undef, undef, undef, undef, undef] h R :=
  (ret_eq rfl rfl).trans (by rw [env214]; rfl)
theorem enter215 (h : Heap) (R : Value → Heap → Prop) (v0 v1 : Value) : Ret tab 215 [v0, v1] h R = Ok tab R215 [.code B215] #[v0, v1, undef, undef, undef, undef, undef, undef, undef, undef, undef] h R :=
  (ret_eq rfl rfl).trans (by rw [env215]; rfl)
theorem enter216 (h : Heap) (R : Value → Heap → Prop) (v0 : Value) : Ret tab 216 [v0] h R = Ok tab R216 [.code B216] #[v0, undef, undef, undef, undef, undef, undef, undef, undef, undef, undef, undef, undef, undef, undef, undef, undef, undef, undef, undef, undef, undef, undef, undef, undef, undef, undef, undef, undef, undef, undef, undef, undef, undef, undef, undef, undef, undef, undef, undef, undef, undef, undef, undef, undef, undef, undef, undef, undef, undef, undef, undef, undef, undef, undef, undef, undef, undef, undef, undef, undef, undef, undef, undef, undef, undef, undef, undef, undef, undef, undef, undef, undef] h R :=
  (ret_eq rfl rfl).trans (by rw [env216]; rfl)
theorem enter217 (h : Heap) (R : Value → Heap → Prop) (v0 : Value) : Ret tab 217 [v0] h R = Ok tab R217 [.code B217] #[v0, undef, undef, undef, undef, undef, undef, undef, undef, undef, undef, undef, undef, undef, undef, undef, undef, undef, undef] h R :=
  (ret_eq rfl rfl).trans (by rw [env217]; rfl)
theorem enter218 (h : Heap) (R : Value → Heap → Prop) (v0 v1 v2 : Value) : Ret tab 218 [v0, v1, v2] h R = Ok tab R218 [.code B218] #[v0, v1, v2, undef, undef, undef, undef, undef, undef, undef, undef, undef, undef, undef, undef, undef, undef, undef, undef, undef, undef, undef, undef, undef, undef, undef, undef, undef, undef, undef, undef, undef, undef, undef, undef, undef, undef, undef, undef, undef, undef, undef, undef, undef, undef, undef, undef, undef, undef, undef, undef, undef, undef, undef, undef, undef, undef, undef, undef, undef, undef, undef, undef, undef, undef, undef, undef, undef, undef, undef, undef, undef, undef, undef, undef, undef, undef, undef, undef, undef, undef, undef, undef, undef, undef, undef, undef, undef, undef, undef, undef, undef, undef, undef, undef, undef, undef, undef, undef, undef, undef, undef, undef, undef, undef, undef, undef, undef, undef, undef, undef, undef, undef, undef, undef, undef, undef, undef] h R :=
  (ret_eq rfl rfl).trans (by rw [env218]; rfl)
theorem enter219 (h : Heap) (R : Value → Heap → Prop) (v0 v1 : Value) : Ret tab 219 [v0, v1] h R = Ok tab R219 [.code B219] #[v0, v1, undef, undef, undef, undef, undef, undef, undef, undef, undef, undef, undef, undef, undef, undef, undef, undef, undef, undef, undef, undef, undef, undef, undef, undef, undef, undef, undef, undef, undef, undef, undef, undef] h R :=
  (ret_eq rfl rfl).trans (by rw [env219]; rfl)
theorem enter220 (h : Heap) (R : Value → Heap → Prop) (v0 : Value) : Ret tab 220 [v0] h R = Ok tab R220 [.code B220] #[v0, undef, undef, undef, undef, undef, undef, undef, undef, undef, undef, undef, undef, undef, undef, undef, undef, undef, undef, undef, undef] h R :=
  (ret_eq rfl rfl).trans (by rw [env220]; rfl)
theorem enter221 (h : Heap) (R : Value → Heap → Prop) (v0 v1 : Value) : Ret tab 221 [v0, v1] h R = Ok tab R221 [.code B221] #[v0, v1, undef, undef, undef, undef, undef, undef, undef, undef, undef, undef, undef, undef, undef, undef] h R :=
  (ret_eq rfl rfl).trans (by rw [env221]; rfl)
theorem enter222 (h : Heap) (R : Value → Heap → Prop) (v0 v1 v2 : Value) : Ret tab 222 [v0, v1, v2] h R = Ok tab R222 [.code B222] #[v0, v1, v2, undef, undef, undef, undef, undef, undef, undef, undef, undef, undef, undef, undef, undef, undef] h R :=
  (ret_eq rfl rfl).trans (by rw [env222]; rfl)
theorem enter223 (h : Heap) (R : Value → Heap → Prop) (v0 v1 v2 : Value) : Ret tab 223 [v0, v1, v2] h R = Ok tab R223 [.code B223] #[v0, v1, v2, undef, undef, undef, undef, undef, undef, undef, undef, undef, undef, undef, undef, undef, undef, undef, undef, undef, undef] h R :=
  (ret_eq rfl rfl).trans (by rw [env223]; rfl)
theorem enter224 (h : Heap) (R : Value → Heap → Prop) (v0 v1 : Value) : Ret tab 224 [v0, v1] h R = Ok tab R224 [.code B224] #[v0, v1, undef, undef, undef, undef, undef, undef, undef, undef, undef, undef, undef, undef, undef, undef, undef, undef, undef, undef, undef, undef, undef, undef, undef] h R :=
  (ret_eq rfl rfl).trans (by rw [env224]; rfl)
theorem enter225 (h : Heap) (R : Value → Heap → Prop) (v0 : Value) : Ret tab 225 [v0] h R = Ok tab R225 [.code B225] #[v0, undef, undef, undef, undef, undef, undef, undef, undef, undef, undef, undef, undef, undef, undef, undef, undef, undef, undef] h R :=
  (ret_eq rfl rfl).trans (by rw [env225]; rfl)
theorem enter226 (h : Heap) (R : Value → Heap → Prop) (v0 : Value) : Ret tab 226 [v0] h R = Ok tab R226 [.code B226] #[v0, undef, undef, undef, undef, undef] h R :=
  (ret_eq rfl rfl).trans (by rw [env226]; rfl)
theorem enter227 (h : Heap) (R : Value → Heap → Prop) (v0 : Value) : Ret tab 227 [v0] h R = Ok tab R227 [.code B227] #[v0, undef, undef, undef, undef, undef] h R :=
  (ret_eq rfl rfl).trans (by rw [env227]; rfl)
theorem enter228 (h : Heap) (R : Value → Heap → Prop) (v0 v1 : Value) : Ret tab 228 [v0, v1] h R = Ok tab R228 [.code B228] #[v0, v1, undef, undef, undef, undef, undef, undef, undef] h R :=
  (ret_eq rfl rfl).trans (by rw [env228]; rfl)
theorem enter229 (h : Heap) (R : Value → Heap → Prop) (v0 : Value) : Ret tab 229 [v0] h R = Ok tab R229 [.code B229] #[v0, undef, undef, undef, undef, undef, undef, undef, undef, undef, undef, undef, undef, undef, undef, undef, undef, undef, undef, undef, undef, undef, undef, undef, undef, undef, undef, undef, undef, undef, undef, undef, undef, undef, undef, undef, undef, undef, undef, undef, undef, undef, undef, undef, undef] h R :=
  (ret_eq rfl rfl).trans (by rw [env229]; rfl)
theorem enter230 (h : Heap) (R : Value → Heap → Prop) (v0 v1 : Value) : Ret tab 230 [v0, v1] h R = Ok tab R230 [.code B230] #[v0, v1, undef, undef, undef, undef, undef, undef, undef, undef, undef, undef, undef, undef, undef, undef, undef, undef, undef, undef, undef, undef, undef, undef, undef, undef] h R :=
  (ret_eq rfl rfl).trans (by rw [env230]; rfl)
theorem enter231 (h : Heap) (R : Value → Heap → Prop) (v0 v1 : Value) : Ret tab 231 [v0, v1] h R = Ok tab R231 [.code B231] #[v0, v1, undef, undef, undef, undef, undef, undef, undef, undef, undef, undef, undef, undef, undef, undef, undef, undef, undef, undef, undef, undef, undef, undef, undef, undef, undef, undef, undef, undef, undef, undef, undef, undef, undef, undef, undef, undef, undef, undef, undef, undef, undef, undef, undef, undef, undef, undef, undef] h R :=
  (ret_eq rfl rfl).trans (by rw [env231]; rfl)
end Go.Proofs.Ytjpjohchdfoeaaa
