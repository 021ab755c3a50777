/-
  The table of the functions, resolved: it is the program's. Laid by program (gentab.py).
-/
import Derived.Test.YtjpjohchdfoeaaaTabA
import Derived.Test.YtjpjohchdfoeaaaTabB
namespace Go.Proofs.Ytjpjohchdfoeaaa
open Go Go.Sim
def tab : Tab := fun g => match g with
  | 4 => some R4
  | 21 => some R21
  | 23 => some R23
  | 26 => some R26
  | 29 => some R29
  | 30 => some R30
  | 31 => some R31
  | 33 => some R33
  | 34 => some R34
  | 35 => some R35
  | 36 => some R36
  | 37 => some R37
  | 38 => some R38
  | 63 => some R63
  | 64 => some R64
  | 65 => some R65
  | 66 => some R66
  | 67 => some R67
  | 68 => some R68
  | 69 => some R69
  | 70 => some R70
  | 71 => some R71
  | 72 => some R72
  | 73 => some R73
  | 74 => some R74
  | 75 => some R75
  | 76 => some R76
  | 77 => some R77
  | 78 => some R78
  | 79 => some R79
  | 80 => some R80
  | 81 => some R81
  | 82 => some R82
  | 83 => some R83
  | 84 => some R84
  | 85 => some R85
  | 86 => some R86
  | 87 => some R87
  | 88 => some R88
  | 89 => some R89
  | 90 => some R90
  | 91 => some R91
  | 92 => some R92
  | 93 => some R93
  | 94 => some R94
  | 95 => some R95
  | 96 => some R96
  | 97 => some R97
  | 98 => some R98
  | 99 => some R99
  | 100 => some R100
  | 115 => some R115
  | 116 => some R116
  | 117 => some R117
  | 118 => some R118
  | 119 => some R119
  | 120 => some R120
  | 121 => some R121
  | 122 => some R122
  | 123 => some R123
  | 124 => some R124
  | 125 => some R125
  | 126 => some R126
  | 127 => some R127
  | 128 => some R128
  | 129 => some R129
  | 130 => some R130
  | 131 => some R131
  | 132 => some R132
  | 133 => some R133
  | 134 => some R134
  | 135 => some R135
  | 136 => some R136
  | 137 => some R137
  | 156 => some R156
  | 157 => some R157
  | 158 => some R158
  | 159 => some R159
  | 160 => some R160
  | 161 => some R161
  | 162 => some R162
  | 163 => some R163
  | 164 => some R164
  | 165 => some R165
  | 166 => some R166
  | 167 => some R167
  | 168 => some R168
  | 169 => some R169
  | 177 => some R177
  | 178 => some R178
  | 179 => some R179
  | 180 => some R180
  | 181 => some R181
  | 182 => some R182
  | 183 => some R183
  | 184 => some R184
  | 185 => some R185
  | 186 => some R186
  | 187 => some R187
  | 188 => some R188
  | 189 => some R189
  | 190 => some R190
  | 191 => some R191
  | 192 => some R192
  | 193 => some R193
  | 194 => some R194
  | 195 => some R195
  | _ => none
theorem tabOk : TabOk Try.prog tab := by
  intro g G h
  unfold tab at h
  split at h <;> try (cases h; done)
  · exact Eq.subst (motive := fun X => compileF Try.prog 4 X.iso = some X) (Option.some.inj h) c4
  · exact Eq.subst (motive := fun X => compileF Try.prog 21 X.iso = some X) (Option.some.inj h) c21
  · exact Eq.subst (motive := fun X => compileF Try.prog 23 X.iso = some X) (Option.some.inj h) c23
  · exact Eq.subst (motive := fun X => compileF Try.prog 26 X.iso = some X) (Option.some.inj h) c26
  · exact Eq.subst (motive := fun X => compileF Try.prog 29 X.iso = some X) (Option.some.inj h) c29
  · exact Eq.subst (motive := fun X => compileF Try.prog 30 X.iso = some X) (Option.some.inj h) c30
  · exact Eq.subst (motive := fun X => compileF Try.prog 31 X.iso = some X) (Option.some.inj h) c31
  · exact Eq.subst (motive := fun X => compileF Try.prog 33 X.iso = some X) (Option.some.inj h) c33
  · exact Eq.subst (motive := fun X => compileF Try.prog 34 X.iso = some X) (Option.some.inj h) c34
  · exact Eq.subst (motive := fun X => compileF Try.prog 35 X.iso = some X) (Option.some.inj h) c35
  · exact Eq.subst (motive := fun X => compileF Try.prog 36 X.iso = some X) (Option.some.inj h) c36
  · exact Eq.subst (motive := fun X => compileF Try.prog 37 X.iso = some X) (Option.some.inj h) c37
  · exact Eq.subst (motive := fun X => compileF Try.prog 38 X.iso = some X) (Option.some.inj h) c38
  · exact Eq.subst (motive := fun X => compileF Try.prog 63 X.iso = some X) (Option.some.inj h) c63
  · exact Eq.subst (motive := fun X => compileF Try.prog 64 X.iso = some X) (Option.some.inj h) c64
  · exact Eq.subst (motive := fun X => compileF Try.prog 65 X.iso = some X) (Option.some.inj h) c65
  · exact Eq.subst (motive := fun X => compileF Try.prog 66 X.iso = some X) (Option.some.inj h) c66
  · exact Eq.subst (motive := fun X => compileF Try.prog 67 X.iso = some X) (Option.some.inj h) c67
  · exact Eq.subst (motive := fun X => compileF Try.prog 68 X.iso = some X) (Option.some.inj h) c68
  · exact Eq.subst (motive := fun X => compileF Try.prog 69 X.iso = some X) (Option.some.inj h) c69
  · exact Eq.subst (motive := fun X => compileF Try.prog 70 X.iso = some X) (Option.some.inj h) c70
  · exact Eq.subst (motive := fun X => compileF Try.prog 71 X.iso = some X) (Option.some.inj h) c71
  · exact Eq.subst (motive := fun X => compileF Try.prog 72 X.iso = some X) (Option.some.inj h) c72
  · exact Eq.subst (motive := fun X => compileF Try.prog 73 X.iso = some X) (Option.some.inj h) c73
  · exact Eq.subst (motive := fun X => compileF Try.prog 74 X.iso = some X) (Option.some.inj h) c74
  · exact Eq.subst (motive := fun X => compileF Try.prog 75 X.iso = some X) (Option.some.inj h) c75
  · exact Eq.subst (motive := fun X => compileF Try.prog 76 X.iso = some X) (Option.some.inj h) c76
  · exact Eq.subst (motive := fun X => compileF Try.prog 77 X.iso = some X) (Option.some.inj h) c77
  · exact Eq.subst (motive := fun X => compileF Try.prog 78 X.iso = some X) (Option.some.inj h) c78
  · exact Eq.subst (motive := fun X => compileF Try.prog 79 X.iso = some X) (Option.some.inj h) c79
  · exact Eq.subst (motive := fun X => compileF Try.prog 80 X.iso = some X) (Option.some.inj h) c80
  · exact Eq.subst (motive := fun X => compileF Try.prog 81 X.iso = some X) (Option.some.inj h) c81
  · exact Eq.subst (motive := fun X => compileF Try.prog 82 X.iso = some X) (Option.some.inj h) c82
  · exact Eq.subst (motive := fun X => compileF Try.prog 83 X.iso = some X) (Option.some.inj h) c83
  · exact Eq.subst (motive := fun X => compileF Try.prog 84 X.iso = some X) (Option.some.inj h) c84
  · exact Eq.subst (motive := fun X => compileF Try.prog 85 X.iso = some X) (Option.some.inj h) c85
  · exact Eq.subst (motive := fun X => compileF Try.prog 86 X.iso = some X) (Option.some.inj h) c86
  · exact Eq.subst (motive := fun X => compileF Try.prog 87 X.iso = some X) (Option.some.inj h) c87
  · exact Eq.subst (motive := fun X => compileF Try.prog 88 X.iso = some X) (Option.some.inj h) c88
  · exact Eq.subst (motive := fun X => compileF Try.prog 89 X.iso = some X) (Option.some.inj h) c89
  · exact Eq.subst (motive := fun X => compileF Try.prog 90 X.iso = some X) (Option.some.inj h) c90
  · exact Eq.subst (motive := fun X => compileF Try.prog 91 X.iso = some X) (Option.some.inj h) c91
  · exact Eq.subst (motive := fun X => compileF Try.prog 92 X.iso = some X) (Option.some.inj h) c92
  · exact Eq.subst (motive := fun X => compileF Try.prog 93 X.iso = some X) (Option.some.inj h) c93
  · exact Eq.subst (motive := fun X => compileF Try.prog 94 X.iso = some X) (Option.some.inj h) c94
  · exact Eq.subst (motive := fun X => compileF Try.prog 95 X.iso = some X) (Option.some.inj h) c95
  · exact Eq.subst (motive := fun X => compileF Try.prog 96 X.iso = some X) (Option.some.inj h) c96
  · exact Eq.subst (motive := fun X => compileF Try.prog 97 X.iso = some X) (Option.some.inj h) c97
  · exact Eq.subst (motive := fun X => compileF Try.prog 98 X.iso = some X) (Option.some.inj h) c98
  · exact Eq.subst (motive := fun X => compileF Try.prog 99 X.iso = some X) (Option.some.inj h) c99
  · exact Eq.subst (motive := fun X => compileF Try.prog 100 X.iso = some X) (Option.some.inj h) c100
  · exact Eq.subst (motive := fun X => compileF Try.prog 115 X.iso = some X) (Option.some.inj h) c115
  · exact Eq.subst (motive := fun X => compileF Try.prog 116 X.iso = some X) (Option.some.inj h) c116
  · exact Eq.subst (motive := fun X => compileF Try.prog 117 X.iso = some X) (Option.some.inj h) c117
  · exact Eq.subst (motive := fun X => compileF Try.prog 118 X.iso = some X) (Option.some.inj h) c118
  · exact Eq.subst (motive := fun X => compileF Try.prog 119 X.iso = some X) (Option.some.inj h) c119
  · exact Eq.subst (motive := fun X => compileF Try.prog 120 X.iso = some X) (Option.some.inj h) c120
  · exact Eq.subst (motive := fun X => compileF Try.prog 121 X.iso = some X) (Option.some.inj h) c121
  · exact Eq.subst (motive := fun X => compileF Try.prog 122 X.iso = some X) (Option.some.inj h) c122
  · exact Eq.subst (motive := fun X => compileF Try.prog 123 X.iso = some X) (Option.some.inj h) c123
  · exact Eq.subst (motive := fun X => compileF Try.prog 124 X.iso = some X) (Option.some.inj h) c124
  · exact Eq.subst (motive := fun X => compileF Try.prog 125 X.iso = some X) (Option.some.inj h) c125
  · exact Eq.subst (motive := fun X => compileF Try.prog 126 X.iso = some X) (Option.some.inj h) c126
  · exact Eq.subst (motive := fun X => compileF Try.prog 127 X.iso = some X) (Option.some.inj h) c127
  · exact Eq.subst (motive := fun X => compileF Try.prog 128 X.iso = some X) (Option.some.inj h) c128
  · exact Eq.subst (motive := fun X => compileF Try.prog 129 X.iso = some X) (Option.some.inj h) c129
  · exact Eq.subst (motive := fun X => compileF Try.prog 130 X.iso = some X) (Option.some.inj h) c130
  · exact Eq.subst (motive := fun X => compileF Try.prog 131 X.iso = some X) (Option.some.inj h) c131
  · exact Eq.subst (motive := fun X => compileF Try.prog 132 X.iso = some X) (Option.some.inj h) c132
  · exact Eq.subst (motive := fun X => compileF Try.prog 133 X.iso = some X) (Option.some.inj h) c133
  · exact Eq.subst (motive := fun X => compileF Try.prog 134 X.iso = some X) (Option.some.inj h) c134
  · exact Eq.subst (motive := fun X => compileF Try.prog 135 X.iso = some X) (Option.some.inj h) c135
  · exact Eq.subst (motive := fun X => compileF Try.prog 136 X.iso = some X) (Option.some.inj h) c136
  · exact Eq.subst (motive := fun X => compileF Try.prog 137 X.iso = some X) (Option.some.inj h) c137
  · exact Eq.subst (motive := fun X => compileF Try.prog 156 X.iso = some X) (Option.some.inj h) c156
  · exact Eq.subst (motive := fun X => compileF Try.prog 157 X.iso = some X) (Option.some.inj h) c157
  · exact Eq.subst (motive := fun X => compileF Try.prog 158 X.iso = some X) (Option.some.inj h) c158
  · exact Eq.subst (motive := fun X => compileF Try.prog 159 X.iso = some X) (Option.some.inj h) c159
  · exact Eq.subst (motive := fun X => compileF Try.prog 160 X.iso = some X) (Option.some.inj h) c160
  · exact Eq.subst (motive := fun X => compileF Try.prog 161 X.iso = some X) (Option.some.inj h) c161
  · exact Eq.subst (motive := fun X => compileF Try.prog 162 X.iso = some X) (Option.some.inj h) c162
  · exact Eq.subst (motive := fun X => compileF Try.prog 163 X.iso = some X) (Option.some.inj h) c163
  · exact Eq.subst (motive := fun X => compileF Try.prog 164 X.iso = some X) (Option.some.inj h) c164
  · exact Eq.subst (motive := fun X => compileF Try.prog 165 X.iso = some X) (Option.some.inj h) c165
  · exact Eq.subst (motive := fun X => compileF Try.prog 166 X.iso = some X) (Option.some.inj h) c166
  · exact Eq.subst (motive := fun X => compileF Try.prog 167 X.iso = some X) (Option.some.inj h) c167
  · exact Eq.subst (motive := fun X => compileF Try.prog 168 X.iso = some X) (Option.some.inj h) c168
  · exact Eq.subst (motive := fun X => compileF Try.prog 169 X.iso = some X) (Option.some.inj h) c169
  · exact Eq.subst (motive := fun X => compileF Try.prog 177 X.iso = some X) (Option.some.inj h) c177
  · exact Eq.subst (motive := fun X => compileF Try.prog 178 X.iso = some X) (Option.some.inj h) c178
  · exact Eq.subst (motive := fun X => compileF Try.prog 179 X.iso = some X) (Option.some.inj h) c179
  · exact Eq.subst (motive := fun X => compileF Try.prog 180 X.iso = some X) (Option.some.inj h) c180
  · exact Eq.subst (motive := fun X => compileF Try.prog 181 X.iso = some X) (Option.some.inj h) c181
  · exact Eq.subst (motive := fun X => compileF Try.prog 182 X.iso = some X) (Option.some.inj h) c182
  · exact Eq.subst (motive := fun X => compileF Try.prog 183 X.iso = some X) (Option.some.inj h) c183
  · exact Eq.subst (motive := fun X => compileF Try.prog 184 X.iso = some X) (Option.some.inj h) c184
  · exact Eq.subst (motive := fun X => compileF Try.prog 185 X.iso = some X) (Option.some.inj h) c185
  · exact Eq.subst (motive := fun X => compileF Try.prog 186 X.iso = some X) (Option.some.inj h) c186
  · exact Eq.subst (motive := fun X => compileF Try.prog 187 X.iso = some X) (Option.some.inj h) c187
  · exact Eq.subst (motive := fun X => compileF Try.prog 188 X.iso = some X) (Option.some.inj h) c188
  · exact Eq.subst (motive := fun X => compileF Try.prog 189 X.iso = some X) (Option.some.inj h) c189
  · exact Eq.subst (motive := fun X => compileF Try.prog 190 X.iso = some X) (Option.some.inj h) c190
  · exact Eq.subst (motive := fun X => compileF Try.prog 191 X.iso = some X) (Option.some.inj h) c191
  · exact Eq.subst (motive := fun X => compileF Try.prog 192 X.iso = some X) (Option.some.inj h) c192
  · exact Eq.subst (motive := fun X => compileF Try.prog 193 X.iso = some X) (Option.some.inj h) c193
  · exact Eq.subst (motive := fun X => compileF Try.prog 194 X.iso = some X) (Option.some.inj h) c194
  · exact Eq.subst (motive := fun X => compileF Try.prog 195 X.iso = some X) (Option.some.inj h) c195
theorem enter4 (h : Heap) (R : Value → Heap → Prop) (v0 : Value) : Ret tab 4 [v0] h R = Ok tab R4 [.code B4] #[v0, undef, undef, undef, undef, undef, undef, undef, undef, undef, undef, undef, undef, undef, undef, undef, undef, undef, undef, undef, undef, undef, undef, undef, undef, undef, undef, undef, undef, undef, undef, undef, undef, undef, undef, undef, undef, undef, undef, undef, undef, undef, undef, undef, undef, undef, undef, undef, undef, undef, undef, undef, undef, undef, undef, undef, undef, undef, undef, undef, undef, undef, undef, undef, undef, undef, undef, undef, undef, undef, undef, undef, undef, undef, undef, undef, undef, undef, undef, undef, undef, undef, undef, undef, undef, undef, undef, undef, undef, undef, undef, undef, undef, undef, undef, undef, undef, undef, undef, undef, undef, undef, undef] h R :=
  (ret_eq rfl rfl).trans (by rw [env4]; rfl)
theorem enter21 (h : Heap) (R : Value → Heap → Prop) : Ret tab 21 [] h R = (belowL h.length [] = true ∧ Ok tab R21 [.code B21] #[undef, undef, undef, undef, undef, undef, undef, undef, undef, undef, undef, undef, undef, undef, undef, undef, undef, undef, undef, undef, undef, undef, undef, undef, undef, undef, undef, undef, undef, undef, undef, undef, undef, undef, undef, undef, undef, undef, undef, undef, undef, undef, undef, undef, undef, undef, undef, undef, undef, undef] (frz h) fun v _ => below h.length v = true ∧ R v h) :=
  (ret_rd rfl rfl).trans (by rw [env21]; rfl)
theorem enter23 (h : Heap) (R : Value → Heap → Prop) (v0 v1 v2 v3 v4 v5 : Value) : Ret tab 23 [v0, v1, v2, v3, v4, v5] h R = Ok tab R23 [.code B23] #[v0, v1, v2, v3, v4, v5, undef, undef, undef, undef, undef, undef, undef, undef, undef, undef, undef, undef, undef, undef, undef, undef, undef, undef, undef, undef, undef, undef, undef, undef, undef, undef, undef, undef, undef, undef, undef, undef, undef, undef, undef, undef, undef, undef, undef, undef, undef, undef, undef, undef, undef, undef, undef, undef, undef, undef, undef, undef, undef, undef, undef, undef, undef, undef, undef, undef, undef, undef, undef, undef, undef, undef, undef, undef, undef, undef, undef, undef, undef, undef, undef, undef, undef, undef, undef, undef, undef, undef] h R :=
  (ret_eq rfl rfl).trans (by rw [env23]; rfl)
theorem enter26 (h : Heap) (R : Value → Heap → Prop) (v0 v1 v2 v3 v4 v5 : Value) : Ret tab 26 [v0, v1, v2, v3, v4, v5] h R = Ok tab R26 [.code B26] #[v0, v1, v2, v3, v4, v5, undef, undef, undef, undef, undef, undef, undef, undef, undef, undef, undef, undef, undef, undef, undef, undef, undef, undef, undef, undef, undef, undef, undef, undef, undef, undef, undef, undef, undef, undef, undef, undef, undef, undef, undef, undef, undef, undef, undef, undef, undef, undef, undef, undef, undef, undef, undef, undef, undef, undef, undef, undef, undef, undef, undef, undef, undef, undef, undef, undef, undef, undef, undef, undef, undef, undef, undef, undef, undef, undef, undef, undef, undef, undef, undef, undef, undef, undef, undef] h R :=
  (ret_eq rfl rfl).trans (by rw [env26]; rfl)
theorem enter29 (h : Heap) (R : Value → Heap → Prop) (v0 v1 v2 v3 v4 v5 : Value) : Ret tab 29 [v0, v1, v2, v3, v4, v5] h R = Ok tab R29 [.code B29] #[v0, v1, v2, v3, v4, v5, undef, undef, undef, undef, undef, undef, undef, undef, undef, undef, undef, undef, undef, undef, undef, undef, undef, undef, undef, undef, undef, undef, undef, undef, undef, undef, undef, undef, undef, undef, undef, undef, undef, undef, undef, undef, undef, undef, undef, undef, undef, undef, undef, undef, undef, undef, undef, undef, undef, undef, undef, undef, undef, undef, undef, undef, undef, undef, undef, undef, undef, undef, undef, undef, undef, undef, undef, undef, undef, undef, undef, undef, undef, undef, undef, undef, undef, undef, undef, undef, undef, undef, undef, undef, undef, undef, undef, undef, undef, undef, undef, undef, undef, undef, undef, undef, undef, undef, undef, undef, undef, undef, undef, undef, undef, undef, undef, undef, undef, undef, undef, undef, undef, undef, undef, undef, undef, undef, undef, undef, undef, undef, undef, undef, undef, undef, undef, undef, undef, undef, undef, undef, undef, undef, undef, undef, undef, undef, undef] h R :=
  (ret_eq rfl rfl).trans (by rw [env29]; rfl)
theorem enter30 (h : Heap) (R : Value → Heap → Prop) (v0 v1 v2 v3 v4 v5 : Value) : Ret tab 30 [v0, v1, v2, v3, v4, v5] h R = Ok tab R30 [.code B30] #[v0, v1, v2, v3, v4, v5, undef, undef, undef, undef, undef, undef, undef, undef, undef, undef, undef, undef, undef, undef, undef, undef, undef, undef, undef, undef, undef, undef, undef, undef, undef, undef, undef, undef, undef, undef, undef, undef, undef, undef, undef, undef, undef, undef, undef, undef, undef, undef, undef, undef, undef, undef, undef, undef, undef, undef, undef, undef, undef, undef, undef, undef, undef, undef, undef, undef, undef, undef, undef, undef, undef, undef, undef, undef, undef, undef, undef, undef, undef, undef, undef, undef, undef, undef, undef, undef, undef, undef, undef, undef, undef, undef, undef, undef, undef, undef, undef, undef, undef, undef, undef, undef, undef, undef, undef, undef, undef, undef, undef, undef, undef, undef, undef, undef, undef, undef, undef, undef, undef, undef, undef, undef, undef, undef, undef, undef, undef, undef, undef, undef, undef, undef, undef, undef, undef, undef, undef, undef, undef, undef] h R :=
  (ret_eq rfl rfl).trans (by rw [env30]; rfl)
theorem enter31 (h : Heap) (R : Value → Heap → Prop) (v0 v1 : Value) : Ret tab 31 [v0, v1] h R = (belowL h.length [v0, v1] = true ∧ Ok tab R31 [.code B31] #[v0, v1, undef, undef, undef, undef, undef, undef, undef, undef, undef, undef, undef, undef, undef, undef, undef, undef, undef, undef, undef, undef, undef, undef, undef, undef] (frz h) fun v _ => below h.length v = true ∧ R v h) :=
  (ret_rd rfl rfl).trans (by rw [env31]; rfl)
theorem enter33 (h : Heap) (R : Value → Heap → Prop) (v0 v1 : Value) : Ret tab 33 [v0, v1] h R = Ok tab R33 [.code B33] #[v0, v1, undef, undef, undef, undef, undef, undef, undef, undef, undef, undef, undef, undef, undef, undef, undef, undef] h R :=
  (ret_eq rfl rfl).trans (by rw [env33]; rfl)
theorem enter34 (h : Heap) (R : Value → Heap → Prop) (v0 : Value) : Ret tab 34 [v0] h R = (belowL h.length [v0] = true ∧ Ok tab R34 [.code B34] #[v0, undef, undef, undef, undef, undef, undef, undef, undef] (frz h) fun v _ => below h.length v = true ∧ R v h) :=
  (ret_rd rfl rfl).trans (by rw [env34]; rfl)
theorem enter35 (h : Heap) (R : Value → Heap → Prop) (v0 v1 v2 v3 v4 : Value) : Ret tab 35 [v0, v1, v2, v3, v4] h R = Ok tab R35 [.code B35] #[v0, v1, v2, v3, v4, undef, undef, undef, undef, undef, undef, undef, undef, undef, undef, undef, undef, undef, undef, undef, undef, undef, undef, undef, undef, undef, undef, undef, undef, undef, undef, undef, undef, undef, undef, undef, undef, undef, undef, undef, undef, undef, undef, undef, undef, undef, undef, undef, undef, undef, undef, undef, undef, undef, undef, undef, undef, undef, undef, undef, undef, undef, undef, undef, undef, undef, undef, undef, undef, undef, undef, undef, undef, undef, undef, undef, undef, undef, undef, undef, undef, undef, undef, undef, undef, undef, undef, undef, undef, undef, undef] h R :=
  (ret_eq rfl rfl).trans (by rw [env35]; rfl)
theorem enter36 (h : Heap) (R : Value → Heap → Prop) (v0 : Value) : Ret tab 36 [v0] h R = (belowL h.length [v0] = true ∧ Ok tab R36 [.code B36] #[v0, undef, undef, undef, undef, undef, undef, undef, undef, undef, undef, undef, undef, undef, undef, undef, undef, undef, undef, undef, undef, undef, undef, undef, undef] (frz h) fun v _ => below h.length v = true ∧ R v h) :=
  (ret_rd rfl rfl).trans (by rw [env36]; rfl)
theorem enter37 (h : Heap) (R : Value → Heap → Prop) (v0 : Value) : Ret tab 37 [v0] h R = (belowL h.length [v0] = true ∧ Ok tab R37 [.code B37] #[v0, undef, undef, undef, undef, undef, undef, undef, undef, undef, undef, undef, undef, undef, undef, undef, undef, undef, undef, undef, undef, undef, undef, undef, undef, undef] (frz h) fun v _ => below h.length v = true ∧ R v h) :=
  (ret_rd rfl rfl).trans (by rw [env37]; rfl)
theorem enter38 (h : Heap) (R : Value → Heap → Prop) (v0 : Value) : Ret tab 38 [v0] h R = (belowL h.length [v0] = true ∧ Ok tab R38 [.code B38] #[v0, undef, undef, undef, undef, undef, undef, undef, undef, undef, undef, undef, undef, undef, undef] (frz h) fun v _ => below h.length v = true ∧ R v h) :=
  (ret_rd rfl rfl).trans (by rw [env38]; rfl)
theorem enter63 (h : Heap) (R : Value → Heap → Prop) (v0 v1 : Value) : Ret tab 63 [v0, v1] h R = (belowL h.length [v0, v1] = true ∧ Ok tab R63 [.code B63] #[v0, v1, undef, undef, undef, undef, undef, undef, undef] (frz h) fun v _ => below h.length v = true ∧ R v h) :=
  (ret_rd rfl rfl).trans (by rw [env63]; rfl)
theorem enter64 (h : Heap) (R : Value → Heap → Prop) (v0 v1 : Value) : Ret tab 64 [v0, v1] h R = Ok tab R64 [.code B64] #[v0, v1, undef, undef, undef, undef, undef, undef, undef, undef, undef, undef, undef, undef, undef, undef, undef, undef] h R :=
  (ret_eq rfl rfl).trans (by rw [env64]; rfl)
theorem enter65 (h : Heap) (R : Value → Heap → Prop) (v0 v1 v2 v3 : Value) : Ret tab 65 [v0, v1, v2, v3] h R = Ok tab R65 [.code B65] #[v0, v1, v2, v3, undef, undef, undef, undef, undef, undef, undef, undef, undef, undef, undef, undef, undef, undef, undef, undef, undef, undef, undef, undef, undef, undef, undef, undef] h R :=
  (ret_eq rfl rfl).trans (by rw [env65]; rfl)
theorem enter66 (h : Heap) (R : Value → Heap → Prop) (v0 v1 v2 v3 : Value) : Ret tab 66 [v0, v1, v2, v3] h R = Ok tab R66 [.code B66] #[v0, v1, v2, v3, undef, undef, undef, undef, undef, undef, undef, undef, undef, undef, undef, undef, undef, undef, undef, undef, undef, undef, undef, undef, undef, undef, undef, undef, undef, undef, undef, undef, undef, undef, undef, undef, undef, undef] h R :=
  (ret_eq rfl rfl).trans (by rw [env66]; rfl)
theorem enter67 (h : Heap) (R : Value → Heap → Prop) (v0 v1 v2 : Value) : Ret tab 67 [v0, v1, v2] h R = Ok tab R67 [.code B67] #[v0, v1, v2, undef, undef, undef, undef, undef, undef, undef, undef, undef, undef, undef, undef, undef, undef, undef, undef] h R :=
  (ret_eq rfl rfl).trans (by rw [env67]; rfl)
theorem enter68 (h : Heap) (R : Value → Heap → Prop) (v0 v1 v2 : Value) : Ret tab 68 [v0, v1, v2] h R = Ok tab R68 [.code B68] #[v0, v1, v2, undef, undef, undef, undef, undef, undef, undef, undef, undef, undef, undef, undef, undef, undef, undef, undef, undef, undef, undef, undef, undef, undef, undef, undef, undef, undef] h R :=
  (ret_eq rfl rfl).trans (by rw [env68]; rfl)
theorem enter69 (h : Heap) (R : Value → Heap → Prop) (v0 v1 v2 v3 : Value) : Ret tab 69 [v0, v1, v2, v3] h R = Ok tab R69 [.code B69] #[v0, v1, v2, v3, undef, undef, undef, undef, undef, undef, undef, undef, undef, undef, undef, undef, undef, undef, undef, undef, undef, undef] h R :=
  (ret_eq rfl rfl).trans (by rw [env69]; rfl)
theorem enter70 (h : Heap) (R : Value → Heap → Prop) (v0 v1 v2 v3 : Value) : Ret tab 70 [v0, v1, v2, v3] h R = Ok tab R70 [.code B70] #[v0, v1, v2, v3, undef, undef, undef, undef, undef, undef, undef, undef, undef, undef, undef, undef, undef, undef, undef, undef, undef, undef, undef, undef, undef, undef, undef, undef, undef, undef, undef, undef] h R :=
  (ret_eq rfl rfl).trans (by rw [env70]; rfl)
theorem enter71 (h : Heap) (R : Value → Heap → Prop) (v0 v1 v2 : Value) : Ret tab 71 [v0, v1, v2] h R = Ok tab R71 [.code B71] #[v0, v1, v2, undef, undef, undef, undef, undef, undef, undef, undef, undef, undef, undef, undef, undef, undef, undef, undef] h R :=
  (ret_eq rfl rfl).trans (by rw [env71]; rfl)
theorem enter72 (h : Heap) (R : Value → Heap → Prop) (v0 v1 v2 : Value) : Ret tab 72 [v0, v1, v2] h R = Ok tab R72 [.code B72] #[v0, v1, v2, undef, undef, undef, undef, undef, undef, undef, undef, undef, undef, undef, undef, undef, undef, undef, undef, undef, undef, undef, undef, undef, undef, undef, undef, undef, undef] h R :=
  (ret_eq rfl rfl).trans (by rw [env72]; rfl)
theorem enter73 (h : Heap) (R : Value → Heap → Prop) (v0 : Value) : Ret tab 73 [v0] h R = (belowL h.length [v0] = true ∧ Ok tab R73 [.code B73] #[v0, undef, undef, undef, undef, undef, undef, undef, undef, undef, undef, undef, undef, undef] (frz h) fun v _ => below h.length v = true ∧ R v h) :=
  (ret_rd rfl rfl).trans (by rw [env73]; rfl)
theorem enter74 (h : Heap) (R : Value → Heap → Prop) (v0 : Value) : Ret tab 74 [v0] h R = (belowL h.length [v0] = true ∧ Ok tab R74 [.code B74] #[v0, undef, undef, undef, undef, undef, undef, undef, undef, undef, undef, undef, undef, undef, undef] (frz h) fun v _ => below h.length v = true ∧ R v h) :=
  (ret_rd rfl rfl).trans (by rw [env74]; rfl)
theorem enter75 (h : Heap) (R : Value → Heap → Prop) (v0 v1 : Value) : Ret tab 75 [v0, v1] h R = (belowL h.length [v0, v1] = true ∧ Ok tab R75 [.code B75] #[v0, v1, undef, undef, undef, undef, undef, undef, undef, undef, undef, undef, undef, undef, undef, undef, undef, undef, undef, undef, undef, undef, undef, undef, undef] (frz h) fun v _ => below h.length v = true ∧ R v h) :=
  (ret_rd rfl rfl).trans (by rw [env75]; rfl)
theorem enter76 (h : Heap) (R : Value → Heap → Prop) (v0 v1 v2 : Value) : Ret tab 76 [v0, v1, v2] h R = Ok tab R76 [.code B76] #[v0, v1, v2, undef, undef, undef, undef, undef, undef, undef, undef, undef, undef] h R :=
  (ret_eq rfl rfl).trans (by rw [env76]; rfl)
theorem enter77 (h : Heap) (R : Value → Heap → Prop) (v0 : Value) : Ret tab 77 [v0] h R = Ok tab R77 [.code B77] #[v0, undef, undef, undef, undef, undef, undef, undef, undef, undef, undef, undef, undef, undef, undef, undef, undef, undef, undef, undef, undef, undef, undef, undef, undef, undef, undef, undef, undef, undef, undef, undef, undef, undef, undef, undef, undef, undef, undef, undef, undef, undef, undef, undef, undef, undef, undef, undef, undef, undef, undef, undef] h R :=
  (ret_eq rfl rfl).trans (by rw [env77]; rfl)
theorem enter78 (h : Heap) (R : Value → Heap → Prop) (v0 : Value) : Ret tab 78 [v0] h R = Ok tab R78 [.code B78] #[v0, undef, undef, undef, undef, undef, undef, undef, undef, undef, undef, undef, undef, undef, undef, undef, undef, undef, undef, undef, undef, undef, undef, undef, undef, undef, undef, undef, undef, undef, undef, undef, undef, undef, undef, undef, undef, undef, undef, undef, undef, undef, undef, undef, undef, undef, undef, undef, undef, undef, undef, undef, undef, undef, undef, undef, undef, undef, undef, undef, undef, undef, undef, undef, undef, undef, undef, undef, undef, undef, undef, undef, undef, undef, undef, undef, undef, undef, undef, undef, undef, undef, undef, undef, undef, undef, undef] h R :=
  (ret_eq rfl rfl).trans (by rw [env78]; rfl)
theorem enter79 (h : Heap) (R : Value → Heap → Prop) (v0 v1 : Value) : Ret tab 79 [v0, v1] h R = Ok tab R79 [.code B79] #[v0, v1, undef, undef, undef, undef, undef, undef, undef, undef, undef, undef, undef, undef, undef, undef, undef, undef, undef, undef, undef, undef, undef, undef, undef, undef, undef, undef, undef, undef, undef, undef, undef, undef, undef, undef, undef, undef, undef, undef, undef, undef, undef, undef, undef, undef, undef, undef, undef, undef, undef, undef, undef, undef, undef, undef, undef, undef, undef, undef, undef, undef, undef, undef, undef, undef, undef, undef, undef, undef, undef, undef, undef, undef, undef, undef, undef, undef, undef, undef, undef, undef, undef, undef, undef, undef, undef, undef, undef, undef, undef, undef, undef, undef, undef, undef, undef, undef, undef, undef, undef, undef, undef, undef, undef, undef, undef, undef, undef, undef, undef, undef, undef, undef, undef, undef, undef, undef, undef, undef, undef, undef, undef, undef, undef, undef, undef, undef, undef, undef, undef, undef, undef, undef, undef, undef, undef, undef, undef] h R :=
  (ret_eq rfl rfl).trans (by rw [env79]; rfl)
theorem enter80 (h : Heap) (R : Value → Heap → Prop) (v0 : Value) : Ret tab 80 [v0] h R = (belowL h.length [v0] = true ∧ Ok tab R80 [.code B80] #[v0, undef, undef, undef, undef, undef, undef, undef, undef, undef, undef, undef, undef, undef, undef] (frz h) fun v _ => below h.length v = true ∧ R v h) :=
  (ret_rd rfl rfl).trans (by rw [env80]; rfl)
theorem enter81 (h : Heap) (R : Value → Heap → Prop) (v0 v1 : Value) : Ret tab 81 [v0, v1] h R = (belowL h.length [v0, v1] = true ∧ Ok tab R81 [.code B81] #[v0, v1, undef, undef, undef, undef, undef, undef, undef, undef, undef, undef, undef, undef, undef, undef, undef, undef, undef, undef, undef, undef] (frz h) fun v _ => below h.length v = true ∧ R v h) :=
  (ret_rd rfl rfl).trans (by rw [env81]; rfl)
theorem enter82 (h : Heap) (R : Value → Heap → Prop) (v0 v1 : Value) : Ret tab 82 [v0, v1] h R = Ok tab R82 [.code B82] #[v0, v1, undef, undef, undef, undef, undef, undef, undef, undef, undef, undef, undef, undef, undef, undef, undef, undef, undef, undef, undef, undef, undef, undef, undef, undef, undef, undef, undef, undef, undef, undef, undef, undef, undef, undef, undef, undef, undef] h R :=
  (ret_eq rfl rfl).trans (by rw [env82]; rfl)
theorem enter83 (h : Heap) (R : Value → Heap → Prop) (v0 v1 : Value) : Ret tab 83 [v0, v1] h R = Ok tab R83 [.code B83] #[v0, v1, undef, undef, undef, undef, undef, undef, undef, undef, undef, undef, undef, undef, undef, undef, undef, undef, undef, undef, undef, undef, undef, undef, undef, undef, undef, undef, undef, undef, undef, undef, undef, undef, undef, undef, undef, undef, undef, undef, undef, undef, undef, undef, undef, undef, undef] h R :=
  (ret_eq rfl rfl).trans (by rw [env83]; rfl)
theorem enter84 (h : Heap) (R : Value → Heap → Prop) (v0 v1 : Value) : Ret tab 84 [v0, v1] h R = Ok tab R84 [.code B84] #[v0, v1, undef, undef, undef, undef, undef, undef, undef, undef, undef, undef, undef, undef, undef, undef, undef, undef, undef, undef, undef, undef, undef, undef, undef, undef, undef, undef, undef, undef, undef, undef, undef, undef, undef, undef, undef, undef, undef, undef, undef, undef, undef, undef, undef, undef, undef, undef, undef, undef, undef, undef, undef, undef, undef, undef, undef, undef, undef, undef, undef, undef, undef, undef, undef, undef, undef, undef, undef, undef, undef, undef, undef, undef, undef, undef, undef, undef, undef, undef, undef, undef, undef, undef, undef, undef, undef, undef, undef, undef, undef, undef, undef, undef, undef, undef, undef, undef, undef, undef, undef, undef, undef, undef, undef, undef, undef, undef, undef, undef, undef, undef, undef, undef, undef, undef, undef, undef, undef] h R :=
  (ret_eq rfl rfl).trans (by rw [env84]; rfl)
theorem enter85 (h : Heap) (R : Value → Heap → Prop) (v0 v1 v2 : Value) : Ret tab 85 [v0, v1, v2] h R = Ok tab R85 [.code B85] #[v0, v1, v2, undef, undef, undef, undef, undef, undef, undef, undef, undef, undef, undef, undef, undef, undef, undef, undef, undef, undef, undef, undef, undef, undef, undef, undef, undef, undef, undef, undef, undef, undef, undef, undef, undef, undef, undef, undef, undef, undef, undef, undef, undef, undef, undef, undef, undef, undef, undef, undef, undef, undef, undef, undef, undef, undef, undef, undef, undef, undef, undef, undef, undef, undef, undef, undef, undef, undef, undef, undef, undef, undef, undef, undef, undef, undef, undef, undef, undef, undef, undef, undef, undef, undef, undef, undef, undef, undef, undef, undef, undef, undef, undef, undef, undef, undef, undef, undef] h R :=
  (ret_eq rfl rfl).trans (by rw [env85]; rfl)
theorem enter86 (h : Heap) (R : Value → Heap → Prop) (v0 v1 v2 : Value) : Ret tab 86 [v0, v1, v2] h R = (belowL h.length [v0, v1, v2] = true ∧ Ok tab R86 [.code B86] #[v0, v1, v2, undef, undef, undef, undef, undef, undef, undef, undef, undef, undef, undef, undef, undef, undef, undef] (frz h) fun v _ => below h.length v = true ∧ R v h) :=
  (ret_rd rfl rfl).trans (by rw [env86]; rfl)
theorem enter87 (h : Heap) (R : Value → Heap → Prop) (v0 v1 v2 : Value) : Ret tab 87 [v0, v1, v2] h R = (belowL h.length [v0, v1, v2] = true ∧ Ok tab R87 [.code B87] #[v0, v1, v2, undef, undef, undef, undef, undef, undef, undef, undef, undef] (frz h) fun v _ => below h.length v = true ∧ R v h) :=
  (ret_rd rfl rfl).trans (by rw [env87]; rfl)
theorem enter88 (h : Heap) (R : Value → Heap → Prop) (v0 v1 v2 : Value) : Ret tab 88 [v0, v1, v2] h R = (belowL h.length [v0, v1, v2] = true ∧ Ok tab R88 [.code B88] #[v0, v1, v2, undef, undef, undef, undef, undef, undef, undef, undef, undef, undef, undef, undef, undef, undef, undef, undef, undef] (frz h) fun v _ => below h.length v = true ∧ R v h) :=
  (ret_rd rfl rfl).trans (by rw [env88]; rfl)
theorem enter89 (h : Heap) (R : Value → Heap → Prop) (v0 v1 v2 : Value) : Ret tab 89 [v0, v1, v2] h R = (belowL h.length [v0, v1, v2] = true ∧ Ok tab R89 [.code B89] #[v0, v1, v2, undef, undef, undef, undef, undef, undef, undef, undef, undef] (frz h) fun v _ => below h.length v = true ∧ R v h) :=
  (ret_rd rfl rfl).trans (by rw [env89]; rfl)
theorem enter90 (h : Heap) (R : Value → Heap → Prop) (v0 v1 v2 : Value) : Ret tab 90 [v0, v1, v2] h R = (belowL h.length [v0, v1, v2] = true ∧ Ok tab R90 [.code B90] #[v0, v1, v2, undef, undef, undef, undef, undef, undef, undef, undef, undef, undef, undef, undef, undef, undef, undef, undef, undef] (frz h) fun v _ => below h.length v = true ∧ R v h) :=
  (ret_rd rfl rfl).trans (by rw [env90]; rfl)
theorem enter91 (h : Heap) (R : Value → Heap → Prop) (v0 v1 v2 : Value) : Ret tab 91 [v0, v1, v2] h R = (belowL h.length [v0, v1, v2] = true ∧ Ok tab R91 [.code B91] #[v0, v1, v2, undef, undef, undef, undef, undef, undef, undef, undef, undef] (frz h) fun v _ => below h.length v = true ∧ R v h) :=
  (ret_rd rfl rfl).trans (by rw [env91]; rfl)
theorem enter92 (h : Heap) (R : Value → Heap → Prop) (v0 v1 v2 : Value) : Ret tab 92 [v0, v1, v2] h R = (belowL h.length [v0, v1, v2] = true ∧ Ok tab R92 [.code B92] #[v0, v1, v2, undef, undef, undef, undef, undef, undef, undef, undef, undef, undef, undef, undef, undef, undef, undef, undef, undef] (frz h) fun v _ => below h.length v = true ∧ R v h) :=
  (ret_rd rfl rfl).trans (by rw [env92]; rfl)
theorem enter93 (h : Heap) (R : Value → Heap → Prop) (v0 v1 v2 : Value) : Ret tab 93 [v0, v1, v2] h R = (belowL h.length [v0, v1, v2] = true ∧ Ok tab R93 [.code B93] #[v0, v1, v2, undef, undef, undef, undef, undef, undef, undef, undef, undef] (frz h) fun v _ => below h.length v = true ∧ R v h) :=
  (ret_rd rfl rfl).trans (by rw [env93]; rfl)
theorem enter94 (h : Heap) (R : Value → Heap → Prop) (v0 v1 : Value) : Ret tab 94 [v0, v1] h R = Ok tab R94 [.code B94] #[v0, v1, undef, undef, undef, undef, undef, undef, undef, undef, undef, undef, undef, undef, undef, undef, undef, undef, undef, undef, undef, undef, undef, undef, undef, undef, undef, undef, undef, undef, undef, undef, undef, undef, undef, undef, undef, undef, undef, undef, undef, undef, undef, undef, undef, undef, undef, undef, undef, undef, undef, undef, undef, undef, undef, undef, undef, undef, undef, undef, undef, undef, undef, undef, undef, undef] h R :=
  (ret_eq rfl rfl).trans (by rw [env94]; rfl)
theorem enter95 (h : Heap) (R : Value → Heap → Prop) (v0 v1 v2 v3 v4 v5 : Value) : Ret tab 95 [v0, v1, v2, v3, v4, v5] h R = Ok tab R95 [.code B95] #[v0, v1, v2, v3, v4, v5, undef, undef, undef, undef, undef, undef, undef, undef, undef, undef, undef, undef, undef, undef, undef, undef, undef, undef, undef, undef, undef, undef, undef, undef, undef, undef, undef, undef, undef, undef, undef, undef, undef, undef, undef, undef, undef, undef, undef, undef, undef, undef, undef, undef, undef, undef, undef, undef, undef, undef, undef, undef, undef, undef, undef, undef, undef, undef, undef, undef, undef, undef, undef, undef, undef, undef, undef, undef, undef, undef, undef, undef, undef, undef, undef, undef, undef, undef, undef, undef, undef, undef, undef, undef, undef, undef, undef, undef, undef, undef, undef, undef, undef, undef] h R :=
  (ret_eq rfl rfl).trans (by rw [env95]; rfl)
theorem enter96 (h : Heap) (R : Value → Heap → Prop) (v0 v1 : Value) : Ret tab 96 [v0, v1] h R = (belowL h.length [v0, v1] = true ∧ Ok tab R96 [.code B96] #[v0, v1, undef, undef, undef, undef, undef, undef, undef, undef, undef, undef, undef, undef, undef, undef, undef, undef, undef] (frz h) fun v _ => below h.length v = true ∧ R v h) :=
  (ret_rd rfl rfl).trans (by rw [env96]; rfl)
theorem enter97 (h : Heap) (R : Value → Heap → Prop) (v0 v1 v2 v3 v4 : Value) : Ret tab 97 [v0, v1, v2, v3, v4] h R = Ok tab R97 [.code B97] #[v0, v1, v2, v3, v4, undef, undef, undef, undef, undef, undef, undef, undef, undef, undef, undef, undef, undef, undef, undef, undef, undef, undef, undef, undef, undef, undef, undef, undef, undef, undef, undef, undef, undef, undef, undef, undef, undef, undef, undef, undef, undef, undef, undef, undef, undef, undef, undef, undef, undef, undef, undef, undef, undef, undef, undef, undef, undef, undef, undef, undef, undef, undef, undef, undef, undef, undef, undef, undef, undef, undef, undef, undef, undef, undef, undef, undef, undef, undef, undef, undef, undef, undef, undef, undef, undef] h R :=
  (ret_eq rfl rfl).trans (by rw [env97]; rfl)
theorem enter98 (h : Heap) (R : Value → Heap → Prop) (v0 : Value) : Ret tab 98 [v0] h R = (belowL h.length [v0] = true ∧ Ok tab R98 [.code B98] #[v0, undef, undef, undef, undef, undef, undef, undef, undef, undef] (frz h) fun v _ => below h.length v = true ∧ R v h) :=
  (ret_rd rfl rfl).trans (by rw [env98]; rfl)
theorem enter99 (h : Heap) (R : Value → Heap → Prop) (v0 : Value) : Ret tab 99 [v0] h R = (belowL h.length [v0] = true ∧ Ok tab R99 [.code B99] #[v0, undef, undef, undef, undef, undef, undef, undef, undef, undef] (frz h) fun v _ => below h.length v = true ∧ R v h) :=
  (ret_rd rfl rfl).trans (by rw [env99]; rfl)
theorem enter100 (h : Heap) (R : Value → Heap → Prop) (v0 v1 : Value) : Ret tab 100 [v0, v1] h R = (belowL h.length [v0, v1] = true ∧ Ok tab R100 [.code B100] #[v0, v1, undef, undef, undef, undef, undef, undef, undef, undef, undef, undef, undef, undef, undef, undef, undef, undef] (frz h) fun v _ => below h.length v = true ∧ R v h) :=
  (ret_rd rfl rfl).trans (by rw [env100]; rfl)
theorem enter115 (h : Heap) (R : Value → Heap → Prop) (v0 v1 : Value) : Ret tab 115 [v0, v1] h R = (belowL h.length [v0, v1] = true ∧ Ok tab R115 [.code B115] #[v0, v1, undef, undef, undef, undef, undef, undef, undef, undef, undef, undef, undef, undef, undef, undef, undef, undef, undef] (frz h) fun v _ => below h.length v = true ∧ R v h) :=
  (ret_rd rfl rfl).trans (by rw [env115]; rfl)
theorem enter116 (h : Heap) (R : Value → Heap → Prop) (v0 v1 v2 : Value) : Ret tab 116 [v0, v1, v2] h R = (belowL h.length [v0, v1, v2] = true ∧ Ok tab R116 [.code B116] #[v0, v1, v2, undef, undef, undef, undef, undef, undef, undef, undef, undef, undef, undef, undef, undef, undef, undef, undef, undef, undef, undef, undef, undef, undef, undef, undef, undef, undef, undef, undef, undef, undef, undef, undef, undef, undef, undef, undef, undef, undef, undef, undef, undef, undef, undef] (frz h) fun v _ => below h.length v = true ∧ R v h) :=
  (ret_rd rfl rfl).trans (by rw [env116]; rfl)
theorem enter117 (h : Heap) (R : Value → Heap → Prop) (v0 : Value) : Ret tab 117 [v0] h R = (belowL h.length [v0] = true ∧ Ok tab R117 [.code B117] #[v0, undef, undef, undef, undef, undef, undef, undef, undef, undef, undef, undef, undef] (frz h) fun v _ => below h.length v = true ∧ R v h) :=
  (ret_rd rfl rfl).trans (by rw [env117]; rfl)
theorem enter118 (h : Heap) (R : Value → Heap → Prop) (v0 v1 v2 : Value) : Ret tab 118 [v0, v1, v2] h R = (belowL h.length [v0, v1, v2] = true ∧ Ok tab R118 [.code B118] #[v0, v1, v2, undef, undef, undef, undef, undef, undef, undef, undef, undef, undef, undef, undef] (frz h) fun v _ => below h.length v = true ∧ R v h) :=
  (ret_rd rfl rfl).trans (by rw [env118]; rfl)
theorem enter119 (h : Heap) (R : Value → Heap → Prop) (v0 v1 : Value) : Ret tab 119 [v0, v1] h R = Ok tab R119 [.code B119] #[v0, v1, undef, undef, undef, undef, undef, undef, undef, undef, undef, undef, undef, undef, undef, undef, undef, undef, undef, undef, undef, undef, undef, undef, undef, undef, undef, undef, undef, undef, undef, undef, undef, undef, undef, undef, undef, undef, undef, undef, undef, undef, undef] h R :=
  (ret_eq rfl rfl).trans (by rw [env119]; rfl)
theorem enter120 (h : Heap) (R : Value → Heap → Prop) (v0 v1 v2 : Value) : Ret tab 120 [v0, v1, v2] h R = (belowL h.length [v0, v1, v2] = true ∧ Ok tab R120 [.code B120] #[v0, v1, v2, undef, undef, undef, undef, undef, undef, undef, undef, undef, undef, undef, undef, undef, undef, undef, undef, undef, undef, undef, undef, undef, undef, undef, undef, undef, undef, undef, undef] (frz h) fun v _ => below h.length v = true ∧ R v h) :=
  (ret_rd rfl rfl).trans (by rw [env120]; rfl)
theorem enter121 (h : Heap) (R : Value → Heap → Prop) (v0 v1 v2 : Value) : Ret tab 121 [v0, v1, v2] h R = Ok tab R121 [.code B121] #[v0, v1, v2, undef, undef, undef, undef, undef, undef, undef, undef, undef, undef, undef, undef, undef, undef, undef, undef, undef, undef, undef, undef, undef, undef, undef, undef, undef, undef, undef, undef, undef, undef, undef, undef, undef, undef, undef, undef, undef, undef, undef] h R :=
  (ret_eq rfl rfl).trans (by rw [env121]; rfl)
theorem enter122 (h : Heap) (R : Value → Heap → Prop) (v0 v1 : Value) : Ret tab 122 [v0, v1] h R = (belowL h.length [v0, v1] = true ∧ Ok tab R122 [.code B122] #[v0, v1, undef, undef, undef, undef, undef, undef, undef, undef] (frz h) fun v _ => below h.length v = true ∧ R v h) :=
  (ret_rd rfl rfl).trans (by rw [env122]; rfl)
theorem enter123 (h : Heap) (R : Value → Heap → Prop) (v0 v1 v2 : Value) : Ret tab 123 [v0, v1, v2] h R = Ok tab R123 [.code B123] #[v0, v1, v2, undef, undef, undef, undef, undef, undef, undef, undef, undef, undef, undef, undef, undef, undef, undef, undef, undef, undef, undef, undef, undef, undef, undef, undef, undef, undef, undef, undef, undef, undef, undef, undef, undef, undef, undef, undef, undef, undef, undef, undef, undef, undef] h R :=
  (ret_eq rfl rfl).trans (by rw [env123]; rfl)
theorem enter124 (h : Heap) (R : Value → Heap → Prop) (v0 v1 v2 : Value) : Ret tab 124 [v0, v1, v2] h R = (belowL h.length [v0, v1, v2] = true ∧ Ok tab R124 [.code B124] #[v0, v1, v2, undef, undef, undef, undef, undef, undef, undef, undef, undef, undef, undef, undef, undef, undef, undef, undef, undef, undef, undef, undef, undef, undef, undef, undef, undef, undef, undef, undef, undef, undef, undef, undef, undef, undef, undef, undef, undef, undef, undef, undef, undef] (frz h) fun v _ => below h.length v = true ∧ R v h) :=
  (ret_rd rfl rfl).trans (by rw [env124]; rfl)
theorem enter125 (h : Heap) (R : Value → Heap → Prop) (v0 v1 v2 : Value) : Ret tab 125 [v0, v1, v2] h R = Ok tab R125 [.code B125] #[v0, v1, v2, undef, undef, undef, undef, undef, undef, undef, undef, undef, undef, undef, undef, undef, undef, undef, undef, undef, undef, undef, undef, undef, undef, undef, undef, undef, undef, undef, undef, undef, undef, undef, undef, undef, undef, undef, undef, undef, undef, undef, undef, undef, undef, undef, undef, undef, undef, undef, undef, undef, undef, undef, undef, undef, undef, undef, undef, undef, undef, undef] h R :=
  (ret_eq rfl rfl).trans (by rw [env125]; rfl)
theorem enter126 (h : Heap) (R : Value → Heap → Prop) (v0 : Value) : Ret tab 126 [v0] h R = (belowL h.length [v0] = true ∧ Ok tab R126 [.code B126] #[v0, undef, undef, undef, undef, undef, undef, undef, undef, undef, undef, undef, undef] (frz h) fun v _ => below h.length v = true ∧ R v h) :=
  (ret_rd rfl rfl).trans (by rw [env126]; rfl)
theorem enter127 (h : Heap) (R : Value → Heap → Prop) (v0 v1 v2 : Value) : Ret tab 127 [v0, v1, v2] h R = (belowL h.length [v0, v1, v2] = true ∧ Ok tab R127 [.code B127] #[v0, v1, v2, undef, undef, undef, undef, undef, undef, undef, undef, undef, undef, undef, undef, undef, undef, undef, undef, undef, undef, undef, undef, undef, undef, undef, undef, undef, undef, undef, undef] (frz h) fun v _ => below h.length v = true ∧ R v h) :=
  (ret_rd rfl rfl).trans (by rw [env127]; rfl)
theorem enter128 (h : Heap) (R : Value → Heap → Prop) (v0 v1 v2 : Value) : Ret tab 128 [v0, v1, v2] h R = Ok tab R128 [.code B128] #[v0, v1, v2, undef, undef, undef, undef, undef, undef, undef, undef, undef, undef, undef, undef, undef, undef, undef, undef, undef, undef, undef, undef, undef, undef, undef, undef, undef, undef, undef, undef, undef, undef, undef, undef, undef, undef, undef, undef, undef] h R :=
  (ret_eq rfl rfl).trans (by rw [env128]; rfl)
theorem enter129 (h : Heap) (R : Value → Heap → Prop) (v0 v1 : Value) : Ret tab 129 [v0, v1] h R = Ok tab R129 [.code B129] #[v0, v1, undef, undef, undef, undef, undef, undef, undef, undef, undef, undef, undef, undef, undef, undef] h R :=
  (ret_eq rfl rfl).trans (by rw [env129]; rfl)
theorem enter130 (h : Heap) (R : Value → Heap → Prop) (v0 v1 : Value) : Ret tab 130 [v0, v1] h R = (belowL h.length [v0, v1] = true ∧ Ok tab R130 [.code B130] #[v0, v1, undef, undef, undef, undef, undef, undef] (frz h) fun v _ => below h.length v = true ∧ R v h) :=
  (ret_rd rfl rfl).trans (by rw [env130]; rfl)
theorem enter131 (h : Heap) (R : Value → Heap → Prop) (v0 v1 v2 v3 : Value) : Ret tab 131 [v0, v1, v2, v3] h R = (belowL h.length [v0, v1, v2, v3] = true ∧ Ok tab R131 [.code B131] #[v0, v1, v2, v3, undef, undef, undef, undef, undef, undef, undef, undef, undef, undef, undef, undef, undef, undef, undef, undef, undef, undef, undef, undef, undef, undef, undef, undef, undef, undef, undef, undef, undef, undef, undef, undef, undef, undef, undef, undef, undef, undef, undef, undef, undef, undef, undef, undef, undef, undef, undef, undef] (frz h) fun v _ => below h.length v = true ∧ R v h) :=
  (ret_rd rfl rfl).trans (by rw [env131]; rfl)
theorem enter132 (h : Heap) (R : Value → Heap → Prop) (v0 v1 v2 : Value) : Ret tab 132 [v0, v1, v2] h R = Ok tab R132 [.code B132] #[v0, v1, v2, undef, undef, undef, undef, undef, undef, undef, undef, undef, undef, undef, undef, undef, undef, undef, undef, undef, undef, undef, undef, undef, undef, undef] h R :=
  (ret_eq rfl rfl).trans (by rw [env132]; rfl)
theorem enter133 (h : Heap) (R : Value → Heap → Prop) (v0 v1 v2 : Value) : Ret tab 133 [v0, v1, v2] h R = (belowL h.length [v0, v1, v2] = true ∧ Ok tab R133 [.code B133] #[v0, v1, v2, undef, undef, undef, undef, undef, undef, undef, undef, undef, undef, undef, undef, undef, undef, undef, undef, undef, undef, undef, undef, undef, undef, undef, undef] (frz h) fun v _ => below h.length v = true ∧ R v h) :=
  (ret_rd rfl rfl).trans (by rw [env133]; rfl)
theorem enter134 (h : Heap) (R : Value → Heap → Prop) (v0 v1 v2 v3 : Value) : Ret tab 134 [v0, v1, v2, v3] h R = Ok tab R134 [.code B134] #[v0, v1, v2, v3, undef, undef, undef, undef, undef, undef, undef, undef, undef, undef, undef, undef] h R :=
  (ret_eq rfl rfl).trans (by rw [env134]; rfl)
theorem enter135 (h : Heap) (R : Value → Heap → Prop) (v0 : Value) : Ret tab 135 [v0] h R = Ok tab R135 [.code B135] #[v0, undef, undef, undef, undef, undef, undef, undef, undef, undef, undef, undef, undef, undef, undef, undef, undef, undef, undef, undef, undef, undef, undef, undef, undef, undef, undef, undef, undef, undef, undef, undef, undef, undef, undef, undef, undef, undef, undef, undef, undef, undef, undef, undef, undef, undef, undef, undef, undef, undef, undef, undef] h R :=
  (ret_eq rfl rfl).trans (by rw [env135]; rfl)
theorem enter136 (h : Heap) (R : Value → Heap → Prop) (v0 : Value) : Ret tab 136 [v0] h R = Ok tab R136 [.code B136] #[v0, undef, undef, undef, undef, undef, undef, undef, undef, undef, undef, undef, undef, undef, undef, undef, undef, undef, undef, undef, undef, undef, undef, undef, undef, undef, undef, undef, undef, undef, undef, undef, undef, undef, undef, undef, undef, undef, undef, undef, undef, undef, undef, undef, undef, undef, undef, undef, undef, undef, undef, undef, undef, undef, undef, undef, undef, undef, undef, undef, undef, undef, undef, undef, undef, undef, undef, undef, undef, undef, undef, undef, undef, undef, undef, undef, undef, undef, undef, undef, undef, undef, undef, undef, undef, undef] h R :=
  (ret_eq rfl rfl).trans (by rw [env136]; rfl)
theorem enter137 (h : Heap) (R : Value → Heap → Prop) (v0 v1 : Value) : Ret tab 137 [v0, v1] h R = Ok tab R137 [.code B137] #[v0, v1, undef, undef, undef, undef, undef, undef, undef, undef, undef, undef, undef, undef, undef, undef, undef, undef, undef, undef, undef, undef, undef, undef, undef, undef, undef, undef, undef, undef, undef, undef, undef, undef, undef, undef, undef, undef, undef, undef, undef, undef, undef, undef, undef, undef, undef, undef, undef, undef, undef, undef, undef, undef, undef, undef, undef, undef, undef, undef, undef, undef, undef, undef, undef, undef, undef, undef, undef, undef, undef, undef, undef, undef, undef, undef, undef, undef, undef, undef, undef, undef, undef, undef, undef, undef, undef, undef, undef, undef, undef, undef, undef, undef, undef, undef, undef, undef, undef, undef, undef, undef, undef, undef, undef, undef, undef, undef, undef, undef, undef] h R :=
  (ret_eq rfl rfl).trans (by rw [env137]; rfl)
theorem enter156 (h : Heap) (R : Value → Heap → Prop) (v0 v1 v2 : Value) : Ret tab 156 [v0, v1, v2] h R = (belowL h.length [v0, v1, v2] = true ∧ Ok tab R156 [.code B156] #[v0, v1, v2, undef, undef, undef, undef, undef, undef, undef, undef, undef, undef, undef, undef, undef, undef, undef, undef, undef, undef, undef, undef, undef, undef, undef, undef, undef, undef, undef, undef, undef, undef] (frz h) fun v _ => below h.length v = true ∧ R v h) :=
  (ret_rd rfl rfl).trans (by rw [env156]; rfl)
theorem enter157 (h : Heap) (R : Value → Heap → Prop) (v0 v1 v2 v3 : Value) : Ret tab 157 [v0, v1, v2, v3] h R = (belowL h.length [v0, v1, v2, v3] = true ∧ Ok tab R157 [.code B157] #[v0, v1, v2, v3, undef, undef, undef, undef, undef, undef, undef, undef, undef, undef, undef, undef, undef, undef, undef, undef, undef, undef, undef, undef, undef, undef, undef, undef, undef, undef, undef, undef, undef, undef, undef, undef, undef, undef, undef, undef, undef, undef, undef, undef, undef, undef, undef, undef, undef, undef, undef, undef, undef, undef, undef, undef, undef, undef, undef, undef, undef, undef, undef, undef, undef, undef, undef, undef, undef, undef, undef, undef, undef, undef, undef, undef, undef] (frz h) fun v _ => below h.length v = true ∧ R v h) :=
  (ret_rd rfl rfl).trans (by rw [env157]; rfl)
theorem enter158 (h : Heap) (R : Value → Heap → Prop) (v0 v1 v2 v3 : Value) : Ret tab 158 [v0, v1, v2, v3] h R = (belowL h.length [v0, v1, v2, v3] = true ∧ Ok tab R158 [.code B158] #[v0, v1, v2, v3, undef, undef, undef, undef, undef, undef, undef, undef, undef, undef, undef, undef, undef, undef, undef, undef, undef, undef, undef, undef, undef, undef, undef, undef, undef, undef, undef, undef, undef, undef, undef, undef] (frz h) fun v _ => below h.length v = true ∧ R v h) :=
  (ret_rd rfl rfl).trans (by rw [env158]; rfl)
theorem enter159 (h : Heap) (R : Value → Heap → Prop) (v0 v1 : Value) : Ret tab 159 [v0, v1] h R = (belowL h.length [v0, v1] = true ∧ Ok tab R159 [.code B159] #[v0, v1, undef, undef, undef, undef, undef, undef, undef, undef, undef, undef, undef, undef, undef, undef, undef, undef, undef, undef, undef, undef, undef, undef, undef, undef, undef, undef, undef, undef, undef, undef, undef, undef, undef, undef, undef] (frz h) fun v _ => below h.length v = true ∧ R v h) :=
  (ret_rd rfl rfl).trans (by rw [env159]; rfl)
theorem enter160 (h : Heap) (R : Value → Heap → Prop) (v0 v1 v2 v3 : Value) : Ret tab 160 [v0, v1, v2, v3] h R = (belowL h.length [v0, v1, v2, v3] = true ∧ Ok tab R160 [.code B160] #[v0, v1, v2, v3, undef, undef, undef, undef, undef, undef, undef, undef, undef, undef, undef, undef, undef, undef, undef, undef, undef, undef, undef, undef, undef, undef, undef, undef, undef, undef, undef, undef, undef, undef, undef, undef, undef, undef, undef, undef, undef, undef, undef, undef, undef, undef] (frz h) fun v _ => below h.length v = true ∧ R v h) :=
  (ret_rd rfl rfl).trans (by rw [env160]; rfl)
theorem enter161 (h : Heap) (R : Value → Heap → Prop) (v0 v1 v2 v3 : Value) : Ret tab 161 [v0, v1, v2, v3] h R = (belowL h.length [v0, v1, v2, v3] = true ∧ Ok tab R161 [.code B161] #[v0, v1, v2, v3, undef, undef, undef, undef, undef, undef, undef, undef, undef, undef, undef, undef, undef, undef, undef, undef, undef, undef, undef, undef, undef, undef, undef, undef, undef, undef, undef, undef, undef, undef, undef, undef, undef, undef, undef, undef, undef, undef, undef, undef, undef, undef, undef, undef, undef, undef, undef, undef, undef, undef, undef, undef, undef, undef, undef, undef, undef, undef, undef, undef, undef, undef, undef, undef, undef, undef, undef, undef, undef, undef, undef, undef, undef] (frz h) fun v _ => below h.length v = true ∧ R v h) :=
  (ret_rd rfl rfl).trans (by rw [env161]; rfl)
theorem enter162 (h : Heap) (R : Value → Heap → Prop) (v0 v1 v2 v3 : Value) : Ret tab 162 [v0, v1, v2, v3] h R = (belowL h.length [v0, v1, v2, v3] = true ∧ Ok tab R162 [.code B162] #[v0, v1, v2, v3, undef, undef, undef, undef, undef, undef, undef, undef, undef, undef, undef, undef, undef, undef, undef, undef, undef, undef, undef, undef, undef, undef, undef, undef, undef, undef, undef, undef, undef, undef, undef] (frz h) fun v _ => below h.length v = true ∧ R v h) :=
  (ret_rd rfl rfl).trans (by rw [env162]; rfl)
theorem enter163 (h : Heap) (R : Value → Heap → Prop) (v0 v1 v2 : Value) : Ret tab 163 [v0, v1, v2] h R = Ok tab R163 [.code B163] #[v0, v1, v2, undef, undef, undef, undef, undef, undef, undef, undef, undef, undef, undef, undef, undef, undef, undef, undef, undef, undef, undef, undef, undef, undef, undef, undef, undef, undef, undef, undef, undef, undef, undef, undef, undef, undef, undef, undef, undef, undef, undef, undef, undef, undef, undef, undef, undef, undef, undef, undef, undef, undef, undef, undef, undef, undef, undef, undef, undef, undef, undef, undef, undef, undef, undef, undef, undef, undef, undef, undef, undef, undef, undef, undef] h R :=
  (ret_eq rfl rfl).trans (by rw [env163]; rfl)
theorem enter164 (h : Heap) (R : Value → Heap → Prop) (v0 v1 : Value) : Ret tab 164 [v0, v1] h R = Ok tab R164 [.code B164] #[v0, v1, undef, undef, undef, undef, undef, undef, undef, undef, undef, undef, undef, undef, undef, undef, undef, undef, undef, undef, undef, undef, undef, undef, undef, undef, undef, undef, undef, undef, undef, undef, undef, undef, undef, undef, undef, undef, undef, undef, undef, undef, undef, undef, undef, undef, undef, undef, undef, undef, undef, undef, undef, undef, undef, undef, undef, undef, undef, undef, undef, undef, undef, undef, undef, undef, undef, undef, undef, undef, undef, undef, undef, undef, undef, undef] h R :=
  (ret_eq rfl rfl).trans (by rw [env164]; rfl)
theorem enter165 (h : Heap) (R : Value → Heap → Prop) (v0 v1 v2 : Value) : Ret tab 165 [v0, v1, v2] h R = (belowL h.length [v0, v1, v2] = true ∧ Ok tab R165 [.code B165] #[v0, v1, v2, undef, undef, undef, undef, undef, undef, undef, undef, undef, undef, undef, undef, undef, undef, undef, undef, undef, undef, undef, undef, undef, undef, undef, undef, undef, undef, undef, undef] (frz h) fun v _ => below h.length v = true ∧ R v h) :=
  (ret_rd rfl rfl).trans (by rw [env165]; rfl)
theorem enter166 (h : Heap) (R : Value → Heap → Prop) (v0 v1 v2 : Value) : Ret tab 166 [v0, v1, v2] h R = Ok tab R166 [.code B166] #[v0, v1, v2, undef, undef, undef, undef, undef, undef, undef, undef, undef, undef, undef, undef, undef, undef, undef, undef, undef, undef, undef, undef, undef, undef, undef, undef, undef, undef, undef, undef, undef, undef, undef, undef, undef, undef, undef, undef, undef, undef, undef, undef, undef, undef, undef, undef, undef, undef] h R :=
  (ret_eq rfl rfl).trans (by rw [env166]; rfl)
theorem enter167 (h : Heap) (R : Value → Heap → Prop) (v0 v1 v2 : Value) : Ret tab 167 [v0, v1, v2] h R = (belowL h.length [v0, v1, v2] = true ∧ Ok tab R167 [.code B167] #[v0, v1, v2, undef, undef, undef, undef, undef, undef, undef, undef, undef, undef, undef, undef, undef, undef, undef, undef, undef, undef, undef, undef] (frz h) fun v _ => below h.length v = true ∧ R v h) :=
  (ret_rd rfl rfl).trans (by rw [env167]; rfl)
theorem enter168 (h : Heap) (R : Value → Heap → Prop) (v0 v1 v2 : Value) : Ret tab 168 [v0, v1, v2] h R = (belowL h.length [v0, v1, v2] = true ∧ Ok tab R168 [.code B168] #[v0, v1, v2, undef, undef, undef, undef, undef, undef, undef, undef, undef, undef, undef, undef, undef, undef, undef, undef, undef, undef, undef, undef, undef, undef, undef, undef, undef, undef, undef, undef, undef, undef, undef, undef, undef, undef, undef, undef, undef, undef, undef, undef, undef] (frz h) fun v _ => below h.length v = true ∧ R v h) :=
  (ret_rd rfl rfl).trans (by rw [env168]; rfl)
theorem enter169 (h : Heap) (R : Value → Heap → Prop) (v0 v1 v2 : Value) : Ret tab 169 [v0, v1, v2] h R = Ok tab R169 [.code B169] #[v0, v1, v2, undef, undef, undef, undef, undef, undef, undef, undef, undef, undef, undef, undef, undef, undef, undef, undef, undef, undef, undef, undef, undef, undef, undef, undef, undef, undef, undef, undef, undef, undef, undef, undef, undef, undef, undef, undef, undef, undef, undef, undef, undef, undef, undef, undef, undef, undef, undef, undef, undef, undef, undef, undef] h R :=
  (ret_eq rfl rfl).trans (by rw [env169]; rfl)
theorem enter177 (h : Heap) (R : Value → Heap → Prop) (v0 v1 v2 : Value) : Ret tab 177 [v0, v1, v2] h R = (belowL h.length [v0, v1, v2] = true ∧ Ok tab R177 [.code B177] #[v0, v1, v2, undef, undef, undef, undef, undef, undef, undef, undef] (frz h) fun v _ => below h.length v = true ∧ R v h) :=
  (ret_rd rfl rfl).trans (by rw [env177]; rfl)
theorem enter178 (h : Heap) (R : Value → Heap → Prop) (v0 v1 v2 : Value) : Ret tab 178 [v0, v1, v2] h R = (belowL h.length [v0, v1, v2] = true ∧ Ok tab R178 [.code B178] #[v0, v1, v2, undef, undef, undef, undef, undef, undef, undef, undef, undef] (frz h) fun v _ => below h.length v = true ∧ R v h) :=
  (ret_rd rfl rfl).trans (by rw [env178]; rfl)
theorem enter179 (h : Heap) (R : Value → Heap → Prop) (v0 v1 : Value) : Ret tab 179 [v0, v1] h R = (belowL h.length [v0, v1] = true ∧ Ok tab R179 [.code B179] #[v0, v1, undef, undef, undef, undef, undef, undef, undef, undef, undef, undef, undef, undef, undef, undef, undef, undef] (frz h) fun v _ => below h.length v = true ∧ R v h) :=
  (ret_rd rfl rfl).trans (by rw [env179]; rfl)
theorem enter180 (h : Heap) (R : Value → Heap → Prop) (v0 v1 v2 : Value) : Ret tab 180 [v0, v1, v2] h R = (belowL h.length [v0, v1, v2] = true ∧ Ok tab R180 [.code B180] #[v0, v1, v2, undef, undef, undef, undef, undef, undef, undef, undef, undef, undef, undef, undef, undef, undef, undef, undef, undef, undef, undef, undef, undef, undef, undef, undef, undef, undef, undef] (frz h) fun v _ => below h.length v = true ∧ R v h) :=
  (ret_rd rfl rfl).trans (by rw [env180]; rfl)
theorem enter181 (h : Heap) (R : Value → Heap → Prop) (v0 v1 v2 : Value) : Ret tab 181 [v0, v1, v2] h R = (belowL h.length [v0, v1, v2] = true ∧ Ok tab R181 [.code B181] #[v0, v1, v2, undef, undef, undef, undef, undef, undef, undef, undef, undef, undef, undef, undef, undef, undef, undef, undef, undef, undef, undef, undef, undef, undef, undef] (frz h) fun v _ => below h.length v = true ∧ R v h) :=
  (ret_rd rfl rfl).trans (by rw [env181]; rfl)
theorem enter182 (h : Heap) (R : Value → Heap → Prop) (v0 v1 : Value) : Ret tab 182 [v0, v1] h R = (belowL h.length [v0, v1] = true ∧ Ok tab R182 [.code B182] #[v0, v1, undef, undef, undef, undef, undef, undef, undef, undef] (frz h) fun v _ => below h.length v = true ∧ R v h) :=
  (ret_rd rfl rfl).trans (by rw [env182]; rfl)
theorem enter183 (h : Heap) (R : Value → Heap → Prop) (v0 v1 v2 : Value) : Ret tab 183 [v0, v1, v2] h R = (belowL h.length [v0, v1, v2] = true ∧ Ok tab R183 [.code B183] #[v0, v1, v2, undef, undef, undef, undef, undef, undef, undef, undef, undef] (frz h) fun v _ => below h.length v = true ∧ R v h) :=
  (ret_rd rfl rfl).trans (by rw [env183]; rfl)
theorem enter184 (h : Heap) (R : Value → Heap → Prop) (v0 v1 v2 : Value) : Ret tab 184 [v0, v1, v2] h R = (belowL h.length [v0, v1, v2] = true ∧ Ok tab R184 [.code B184] #[v0, v1, v2, undef, undef, undef, undef, undef, undef, undef, undef, undef] (frz h) fun v _ => below h.length v = true ∧ R v h) :=
  (ret_rd rfl rfl).trans (by rw [env184]; rfl)
theorem enter185 (h : Heap) (R : Value → Heap → Prop) (v0 v1 : Value) : Ret tab 185 [v0, v1] h R = (belowL h.length [v0, v1] = true ∧ Ok tab R185 [.code B185] #[v0, v1, undef, undef, undef, undef, undef, undef, undef, undef, undef, undef, undef, undef, undef, undef, undef] (frz h) fun v _ => below h.length v = true ∧ R v h) :=
  (ret_rd rfl rfl).trans (by rw [env185]; rfl)
theorem enter186 (h : Heap) (R : Value → Heap → Prop) (v0 v1 v2 : Value) : Ret tab 186 [v0, v1, v2] h R = (belowL h.length [v0, v1, v2] = true ∧ Ok tab R186 [.code B186] #[v0, v1, v2, undef, undef, undef, undef, undef, undef, undef, undef, undef, undef, undef, undef, undef, undef, undef, undef, undef, undef] (frz h) fun v _ => below h.length v = true ∧ R v h) :=
  (ret_rd rfl rfl).trans (by rw [env186]; rfl)
theorem enter187 (h : Heap) (R : Value → Heap → Prop) (v0 v1 v2 v3 : Value) : Ret tab 187 [v0, v1, v2, v3] h R = (belowL h.length [v0, v1, v2, v3] = true ∧ Ok tab R187 [.code B187] #[v0, v1, v2, v3, undef, undef, undef, undef, undef, undef, undef, undef, undef, undef, undef, undef, undef, undef, undef, undef, undef, undef, undef, undef, undef, undef, undef, undef, undef, undef, undef, undef, undef, undef, undef, undef, undef, undef, undef, undef, undef, undef, undef, undef, undef] (frz h) fun v _ => below h.length v = true ∧ R v h) :=
  (ret_rd rfl rfl).trans (by rw [env187]; rfl)
theorem enter188 (h : Heap) (R : Value → Heap → Prop) (v0 v1 : Value) : Ret tab 188 [v0, v1] h R = (belowL h.length [v0, v1] = true ∧ Ok tab R188 [.code B188] #[v0, v1, undef, undef, undef, undef, undef, undef, undef, undef, undef, undef, undef, undef, undef, undef, undef, undef, undef, undef, undef, undef, undef, undef, undef, undef, undef, undef, undef, undef, undef, undef, undef, undef, undef, undef, undef, undef] (frz h) fun v _ => below h.length v = true ∧ R v h) :=
  (ret_rd rfl rfl).trans (by rw [env188]; rfl)
theorem enter189 (h : Heap) (R : Value → Heap → Prop) (v0 v1 : Value) : Ret tab 189 [v0, v1] h R = Ok tab R189 [.code B189] #[v0, v1, undef, undef, undef, undef, undef, undef, undef, undef, undef, undef, undef, undef, undef, undef, undef, undef, undef, undef, undef, undef, undef, undef, undef, undef, undef, undef, undef, undef, undef, undef, undef, undef, undef, undef, undef, undef, undef, undef, undef, undef, undef, undef, undef, undef, undef, undef, undef, undef, undef, undef, undef, undef, undef, undef, undef, undef, undef, undef, undef, undef, undef, undef, undef, undef, undef, undef, undef, undef, undef, undef, undef, undef, undef, undef, undef, undef, undef, undef, undef, undef, undef, undef, undef, undef, undef, undef, undef, undef, undef, undef, undef, undef, undef, undef, undef, undef, undef, undef, undef, undef, undef, undef, undef, undef, undef, undef, undef] h R :=
  (ret_eq rfl rfl).trans (by rw [env189]; rfl)
theorem enter190 (h : Heap) (R : Value → Heap → Prop) (v0 : Value) : Ret tab 190 [v0] h R = Ok tab R190 [.code B190] #[v0, undef, undef, undef, undef, undef, undef, undef, undef, undef, undef, undef, undef, undef, undef, undef, undef, undef, undef, undef, undef, undef, undef, undef, undef, undef, undef, undef, undef, undef, undef, undef, undef, undef, undef, undef, undef, undef, undef, undef, undef, undef, undef, undef, undef, undef] h R :=
  (ret_eq rfl rfl).trans (by rw [env190]; rfl)
theorem enter191 (h : Heap) (R : Value → Heap → Prop) (v0 v1 v2 : Value) : Ret tab 191 [v0, v1, v2] h R = Ok tab R191 [.code B191] #[v0, v1, v2, undef, undef, undef, undef, undef, undef, undef, undef, undef, undef, undef, undef, undef, undef, undef, undef, undef, undef, undef, undef, undef, undef, undef, undef, undef, undef, undef, undef, undef, undef, undef, undef, undef, undef, undef, undef, undef, undef, undef, undef, undef, undef, undef, undef, undef, undef, undef, undef, undef, undef, undef] h R :=
  (ret_eq rfl rfl).trans (by rw [env191]; rfl)
theorem enter192 (h : Heap) (R : Value → Heap → Prop) (v0 v1 v2 : Value) : Ret tab 192 [v0, v1, v2] h R = (belowL h.length [v0, v1, v2] = true ∧ Ok tab R192 [.code B192] #[v0, v1, v2, undef, undef, undef, undef, undef, undef, undef, undef, undef, undef, undef, undef, undef, undef, undef] (frz h) fun v _ => below h.length v = true ∧ R v h) :=
  (ret_rd rfl rfl).trans (by rw [env192]; rfl)
theorem enter193 (h : Heap) (R : Value → Heap → Prop) (v0 v1 : Value) : Ret tab 193 [v0, v1] h R = (belowL h.length [v0, v1] = true ∧ Ok tab R193 [.code B193] #[v0, v1, undef, undef, undef, undef, undef, undef, undef, undef, undef, undef, undef, undef, undef, undef, undef, undef, undef, undef, undef] (frz h) fun v _ => below h.length v = true ∧ R v h) :=
  (ret_rd rfl rfl).trans (by rw [env193]; rfl)
theorem enter194 (h : Heap) (R : Value → Heap → Prop) (v0 : Value) : Ret tab 194 [v0] h R = Ok tab R194 [.code B194] #[v0, undef, undef, undef, undef, undef, undef, undef, undef, undef, undef, undef, undef, undef, undef, undef, undef, undef, undef, undef, undef, undef, undef, undef, undef, undef, undef, undef, undef, undef, undef, undef] h R :=
  (ret_eq rfl rfl).trans (by rw [env194]; rfl)
theorem enter195 (h : Heap) (R : Value → Heap → Prop) (v0 v1 : Value) : Ret tab 195 [v0, v1] h R = Ok tab R195 [.code B195] #[v0, v1, undef, undef, undef, undef, undef, undef, undef, undef, undef, undef, undef, undef, undef, undef, undef, undef, undef, undef, undef, undef, undef, undef, undef] h R :=
  (ret_eq rfl rfl).trans (by rw [env195]; rfl)
end Go.Proofs.Ytjpjohchdfoeaaa
