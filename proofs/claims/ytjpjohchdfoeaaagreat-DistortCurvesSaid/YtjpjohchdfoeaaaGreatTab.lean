/-
  The table of the functions, resolved: it is the program's. Laid by program (gentab.py).
-/
import Derived.Test.YtjpjohchdfoeaaaGreatTabA
import Derived.Test.YtjpjohchdfoeaaaGreatTabB
namespace Go.Proofs.YtjpjohchdfoeaaaGreat
open Go Go.Sim
open Go.Operand renaming tmp → t,const → c,func → w
open Go.Sim.ROp renaming mov → m,bin → b,load → l,fieldAddr → f,call → z,nilCheck → y,pick → p,extract → x
open Go.Sim.RCode renaming seq → q,region → r,cond → d,skip → o
open Go.Value renaming int → i
open Go.IntKind renaming i64 → j
open Option renaming none → n,some → s
open Go renaming undef → u
variable {T : Tab} {F : RFunc} {k : List RItem} {e : Env} {h : Heap} {R : RP}
variable {v0 v1 v2 v3 v4 v5 v6 v7 v8 v9 v10 v11 v12 v13 v14 v15 : Value}
set_option maxHeartbeats 4000000
set_option maxRecDepth 100000
def tab : Tab := fun g => match g with
  | 6 => s R6
  | 11 => s R11
  | 12 => s R12
  | 20 => s R20
  | 21 => s R21
  | 22 => s R22
  | 23 => s R23
  | 24 => s R24
  | 26 => s R26
  | 27 => s R27
  | 28 => s R28
  | 29 => s R29
  | 30 => s R30
  | 31 => s R31
  | 32 => s R32
  | 34 => s R34
  | 38 => s R38
  | 39 => s R39
  | 46 => s R46
  | 48 => s R48
  | 49 => s R49
  | 50 => s R50
  | 51 => s R51
  | 52 => s R52
  | 53 => s R53
  | 54 => s R54
  | 55 => s R55
  | 56 => s R56
  | 57 => s R57
  | 58 => s R58
  | 59 => s R59
  | 60 => s R60
  | 61 => s R61
  | 62 => s R62
  | 63 => s R63
  | 64 => s R64
  | 65 => s R65
  | 66 => s R66
  | 67 => s R67
  | 68 => s R68
  | 69 => s R69
  | 70 => s R70
  | 71 => s R71
  | 72 => s R72
  | 73 => s R73
  | 74 => s R74
  | 75 => s R75
  | 76 => s R76
  | 77 => s R77
  | 78 => s R78
  | 79 => s R79
  | 81 => s R81
  | 84 => s R84
  | 85 => s R85
  | 88 => s R88
  | 98 => s R98
  | 99 => s R99
  | 100 => s R100
  | 101 => s R101
  | 102 => s R102
  | 103 => s R103
  | 104 => s R104
  | 105 => s R105
  | 106 => s R106
  | 107 => s R107
  | 108 => s R108
  | 109 => s R109
  | 110 => s R110
  | 111 => s R111
  | 112 => s R112
  | 113 => s R113
  | 114 => s R114
  | 115 => s R115
  | 116 => s R116
  | 117 => s R117
  | 118 => s R118
  | 119 => s R119
  | 120 => s R120
  | 121 => s R121
  | 122 => s R122
  | 127 => s R127
  | 131 => s R131
  | 133 => s R133
  | 134 => s R134
  | 135 => s R135
  | 136 => s R136
  | 137 => s R137
  | 138 => s R138
  | 139 => s R139
  | 140 => s R140
  | 141 => s R141
  | 142 => s R142
  | 143 => s R143
  | 144 => s R144
  | 145 => s R145
  | 146 => s R146
  | 147 => s R147
  | 148 => s R148
  | 149 => s R149
  | 150 => s R150
  | 151 => s R151
  | 152 => s R152
  | 153 => s R153
  | 154 => s R154
  | 155 => s R155
  | 156 => s R156
  | 157 => s R157
  | 158 => s R158
  | 159 => s R159
  | 160 => s R160
  | 161 => s R161
  | 173 => s R173
  | 174 => s R174
  | 175 => s R175
  | 176 => s R176
  | 177 => s R177
  | 178 => s R178
  | 179 => s R179
  | 180 => s R180
  | 181 => s R181
  | 182 => s R182
  | 183 => s R183
  | 184 => s R184
  | 185 => s R185
  | 188 => s R188
  | 189 => s R189
  | 190 => s R190
  | 191 => s R191
  | 192 => s R192
  | 193 => s R193
  | 194 => s R194
  | 195 => s R195
  | 196 => s R196
  | 197 => s R197
  | 198 => s R198
  | 199 => s R199
  | 200 => s R200
  | 201 => s R201
  | 202 => s R202
  | 203 => s R203
  | 204 => s R204
  | 205 => s R205
  | 206 => s R206
  | 207 => s R207
  | 208 => s R208
  | 209 => s R209
  | 210 => s R210
  | 234 => s R234
  | 235 => s R235
  | 236 => s R236
  | 237 => s R237
  | 245 => s R245
  | 246 => s R246
  | 248 => s R248
  | 249 => s R249
  | 250 => s R250
  | _ => n
theorem tabOk : TabOk Tryz.prog tab := by
  intro g G h
  unfold tab at h
  split at h <;> try (cases h; done)
  · exact tab_q h c6
  · exact tab_q h c11
  · exact tab_q h c12
  · exact tab_q h c20
  · exact tab_q h c21
  · exact tab_q h c22
  · exact tab_q h c23
  · exact tab_q h c24
  · exact tab_q h c26
  · exact tab_q h c27
  · exact tab_q h c28
  · exact tab_q h c29
  · exact tab_q h c30
  · exact tab_q h c31
  · exact tab_q h c32
  · exact tab_q h c34
  · exact tab_q h c38
  · exact tab_q h c39
  · exact tab_q h c46
  · exact tab_q h c48
  · exact tab_q h c49
  · exact tab_q h c50
  · exact tab_q h c51
  · exact tab_q h c52
  · exact tab_q h c53
  · exact tab_q h c54
  · exact tab_q h c55
  · exact tab_q h c56
  · exact tab_q h c57
  · exact tab_q h c58
  · exact tab_q h c59
  · exact tab_q h c60
  · exact tab_q h c61
  · exact tab_q h c62
  · exact tab_q h c63
  · exact tab_q h c64
  · exact tab_q h c65
  · exact tab_q h c66
  · exact tab_q h c67
  · exact tab_q h c68
  · exact tab_q h c69
  · exact tab_q h c70
  · exact tab_q h c71
  · exact tab_q h c72
  · exact tab_q h c73
  · exact tab_q h c74
  · exact tab_q h c75
  · exact tab_q h c76
  · exact tab_q h c77
  · exact tab_q h c78
  · exact tab_q h c79
  · exact tab_q h c81
  · exact tab_q h c84
  · exact tab_q h c85
  · exact tab_q h c88
  · exact tab_q h c98
  · exact tab_q h c99
  · exact tab_q h c100
  · exact tab_q h c101
  · exact tab_q h c102
  · exact tab_q h c103
  · exact tab_q h c104
  · exact tab_q h c105
  · exact tab_q h c106
  · exact tab_q h c107
  · exact tab_q h c108
  · exact tab_q h c109
  · exact tab_q h c110
  · exact tab_q h c111
  · exact tab_q h c112
  · exact tab_q h c113
  · exact tab_q h c114
  · exact tab_q h c115
  · exact tab_q h c116
  · exact tab_q h c117
  · exact tab_q h c118
  · exact tab_q h c119
  · exact tab_q h c120
  · exact tab_q h c121
  · exact tab_q h c122
  · exact tab_q h c127
  · exact tab_q h c131
  · exact tab_q h c133
  · exact tab_q h c134
  · exact tab_q h c135
  · exact tab_q h c136
  · exact tab_q h c137
  · exact tab_q h c138
  · exact tab_q h c139
  · exact tab_q h c140
  · exact tab_q h c141
  · exact tab_q h c142
  · exact tab_q h c143
  · exact tab_q h c144
  · exact tab_q h c145
  · exact tab_q h c146
  · exact tab_q h c147
  · exact tab_q h c148
  · exact tab_q h c149
  · exact tab_q h c150
  · exact tab_q h c151
  · exact tab_q h c152
  · exact tab_q h c153
  · exact tab_q h c154
  · exact tab_q h c155
  · exact tab_q h c156
  · exact tab_q h c157
  · exact tab_q h c158
  · exact tab_q h c159
  · exact tab_q h c160
  · exact tab_q h c161
  · exact tab_q h c173
  · exact tab_q h c174
  · exact tab_q h c175
  · exact tab_q h c176
  · exact tab_q h c177
  · exact tab_q h c178
  · exact tab_q h c179
  · exact tab_q h c180
  · exact tab_q h c181
  · exact tab_q h c182
  · exact tab_q h c183
  · exact tab_q h c184
  · exact tab_q h c185
  · exact tab_q h c188
  · exact tab_q h c189
  · exact tab_q h c190
  · exact tab_q h c191
  · exact tab_q h c192
  · exact tab_q h c193
  · exact tab_q h c194
  · exact tab_q h c195
  · exact tab_q h c196
  · exact tab_q h c197
  · exact tab_q h c198
  · exact tab_q h c199
  · exact tab_q h c200
  · exact tab_q h c201
  · exact tab_q h c202
  · exact tab_q h c203
  · exact tab_q h c204
  · exact tab_q h c205
  · exact tab_q h c206
  · exact tab_q h c207
  · exact tab_q h c208
  · exact tab_q h c209
  · exact tab_q h c210
  · exact tab_q h c234
  · exact tab_q h c235
  · exact tab_q h c236
  · exact tab_q h c237
  · exact tab_q h c245
  · exact tab_q h c246
  · exact tab_q h c248
  · exact tab_q h c249
  · exact tab_q h c250
theorem enter6 : Ret tab 6 [v0,v1,v2] h R = Ok tab R6 [.code B6] #[v0,v1,v2,u,u,u,u,u,u,u,u,u,u,u,u,u,u,u,u,u,u,u,u,u,u,u,u,u,u,u,u,u,u,u,u,u,u,u,u,u,u,u,u,u,u,u,u,u,u,u,u,u,u,u,u,u,u,u,u,u,u,u,u,u,u,u,u,u,u,u] h R :=
  ret_q rfl rfl (by kernel_rfl)
theorem enter11 : Ret tab 11 [v0,v1,v2,v3,v4,v5] h R = Ok tab R11 [.code B11] #[v0,v1,v2,v3,v4,v5,u,u,u,u,u,u,u,u,u,u,u,u,u,u,u,u,u,u,u,u,u,u,u,u,u,u,u,u,u,u,u,u,u,u,u,u,u,u,u,u,u,u,u,u,u,u,u] h R :=
  ret_q rfl rfl (by kernel_rfl)
theorem enter12 : Ret tab 12 [v0,v1,v2,v3,v4,v5] h R = Ok tab R12 [.code B12] #[v0,v1,v2,v3,v4,v5,u,u,u,u,u,u,u,u,u,u,u,u,u,u,u,u,u,u,u,u,u,u,u,u,u,u,u,u,u,u,u,u,u,u,u,u] h R :=
  ret_q rfl rfl (by kernel_rfl)
theorem enter20 : Ret tab 20 [v0,v1] h R = Ok tab R20 [.code B20] #[v0,v1,u,u,u,u,u,u,u,u,u,u,u,u,u,u,u,u,u,u,u,u,u,u,u] h R :=
  ret_q rfl rfl (by kernel_rfl)
theorem enter22 : Ret tab 22 [v0,v1,v2] h R = Ok tab R22 [.code B22] #[v0,v1,v2,u,u,u,u,u,u,u,u,u,u,u,u,u,u,u,u,u,u,u,u,u,u,u,u,u,u] h R :=
  ret_q rfl rfl (by kernel_rfl)
theorem enter23 : Ret tab 23 [v0,v1,v2,v3,v4,v5,v6,v7,v8,v9] h R = Ok tab R23 [.code B23] #[v0,v1,v2,v3,v4,v5,v6,v7,v8,v9,u,u,u,u,u,u,u,u,u,u,u,u,u,u,u,u,u,u,u,u,u,u,u,u,u,u,u,u,u,u,u,u,u,u,u,u,u,u,u,u,u,u,u,u,u,u,u,u,u,u,u,u,u,u,u,u,u,u,u,u,u,u,u,u,u,u,u,u,u,u,u,u,u,u,u,u,u,u,u,u,u,u,u,u,u,u,u,u,u,u,u,u,u,u,u,u,u,u,u,u,u,u,u,u,u,u,u,u,u,u] h R :=
  ret_q rfl rfl (by kernel_rfl)
theorem enter24 : Ret tab 24 [v0,v1] h R = Ok tab R24 [.code B24] #[v0,v1,u,u,u,u,u,u,u,u,u,u,u,u,u,u,u,u,u,u,u,u,u,u,u,u] h R :=
  ret_q rfl rfl (by kernel_rfl)
theorem enter26 : Ret tab 26 [v0,v1,v2,v3,v4,v5] h R = Ok tab R26 [.code B26] #[v0,v1,v2,v3,v4,v5,u,u,u,u,u,u,u,u,u,u,u,u,u,u,u,u,u,u,u,u,u,u,u,u,u,u,u,u,u,u,u,u,u,u,u,u,u,u,u,u,u,u,u,u,u] h R :=
  ret_q rfl rfl (by kernel_rfl)
theorem enter27 : Ret tab 27 [v0,v1,v2,v3,v4,v5] h R = Ok tab R27 [.code B27] #[v0,v1,v2,v3,v4,v5,u,u,u,u,u,u,u,u,u,u,u,u,u,u,u,u,u,u,u,u,u,u,u,u,u,u,u,u,u,u,u,u,u,u,u,u,u,u,u,u,u,u,u,u,u,u,u,u,u,u,u,u,u,u,u,u,u,u,u,u,u,u,u,u,u,u,u,u,u,u,u,u,u,u,u,u,u,u,u,u,u,u,u,u,u,u,u,u,u,u,u,u,u,u,u,u,u,u,u,u,u,u,u,u,u,u,u,u,u,u,u,u,u,u,u,u,u,u,u,u,u,u,u,u,u] h R :=
  ret_q rfl rfl (by kernel_rfl)
theorem enter28 : Ret tab 28 [v0,v1,v2,v3,v4,v5] h R = Ok tab R28 [.code B28] #[v0,v1,v2,v3,v4,v5,u,u,u,u,u,u,u,u,u,u,u,u,u,u,u,u,u,u,u,u,u,u,u,u,u,u,u,u,u,u,u,u,u,u,u,u,u,u,u,u,u,u,u,u,u,u,u,u,u,u,u,u,u,u,u,u,u,u,u,u,u,u,u,u,u,u,u,u,u,u,u,u,u,u,u,u,u,u,u,u,u,u,u,u,u,u,u,u,u,u,u,u,u,u,u,u,u,u,u,u,u,u,u,u,u,u,u,u,u,u,u,u,u,u,u,u,u,u,u,u,u,u,u,u,u,u,u,u,u,u,u,u,u,u,u,u,u,u,u] h R :=
  ret_q rfl rfl (by kernel_rfl)
theorem enter29 : Ret tab 29 [v0,v1,v2,v3,v4,v5] h R = Ok tab R29 [.code B29] #[v0,v1,v2,v3,v4,v5,u,u,u,u,u,u,u,u,u,u,u,u,u,u,u,u,u,u,u,u,u,u,u,u,u,u,u] h R :=
  ret_q rfl rfl (by kernel_rfl)
theorem enter30 : Ret tab 30 [v0,v1,v2,v3,v4,v5] h R = Ok tab R30 [.code B30] #[v0,v1,v2,v3,v4,v5,u,u,u,u,u,u,u,u,u,u,u,u,u,u,u,u,u,u,u,u,u,u,u,u,u,u,u,u,u,u,u,u,u,u,u,u,u,u,u,u,u,u,u,u,u,u,u,u,u,u,u,u,u,u,u,u,u,u,u,u,u,u,u,u,u,u,u,u,u,u,u,u,u,u,u,u,u,u,u,u,u,u,u,u,u,u,u,u,u,u,u,u,u,u,u,u,u,u,u,u,u,u,u,u,u,u,u,u,u,u,u,u,u,u,u,u,u,u,u,u,u,u,u,u,u,u,u,u,u,u,u,u,u,u] h R :=
  ret_q rfl rfl (by kernel_rfl)
theorem enter31 : Ret tab 31 [v0,v1,v2,v3,v4,v5] h R = Ok tab R31 [.code B31] #[v0,v1,v2,v3,v4,v5,u,u,u,u,u,u,u,u,u,u,u,u,u,u,u,u,u,u,u,u,u,u,u,u,u,u,u,u,u,u,u,u,u,u,u,u,u,u,u,u,u,u,u,u,u,u,u,u,u,u,u,u,u,u,u,u,u,u,u,u,u,u,u,u,u,u,u,u,u,u,u,u,u,u,u,u,u,u,u,u,u,u,u,u,u,u,u,u,u,u,u,u,u,u,u,u,u,u,u,u,u,u,u,u,u,u,u,u,u] h R :=
  ret_q rfl rfl (by kernel_rfl)
theorem enter32 : Ret tab 32 [v0] h R = (belowL h.length [v0] = true ∧ Ok tab R32 [.code B32] #[v0,u,u,u,u,u,u,u,u,u,u,u,u,u,u] (frz h) fun v _ => below h.length v = true ∧ R v h) :=
  ret_w rfl rfl (by kernel_rfl)
theorem enter34 : Ret tab 34 [v0,v1] h R = Ok tab R34 [.code B34] #[v0,v1,u,u,u,u,u,u,u,u,u,u,u,u,u,u,u,u,u,u,u,u,u,u,u,u,u,u,u,u,u,u,u,u,u,u,u,u,u,u,u,u,u,u,u,u] h R :=
  ret_q rfl rfl (by kernel_rfl)
theorem enter38 : Ret tab 38 [v0,v1] h R = Ok tab R38 [.code B38] #[v0,v1,u,u,u,u,u,u,u,u,u,u,u,u,u,u,u,u,u,u,u,u,u,u,u,u,u,u,u,u,u,u,u,u,u,u,u,u,u,u,u,u,u] h R :=
  ret_q rfl rfl (by kernel_rfl)
theorem enter39 : Ret tab 39 [v0,v1] h R = (belowL h.length [v0,v1] = true ∧ Ok tab R39 [.code B39] #[v0,v1,u,u,u,u,u,u,u,u,u,u,u,u,u,u,u,u,u,u,u,u,u,u,u] (frz h) fun v _ => below h.length v = true ∧ R v h) :=
  ret_w rfl rfl (by kernel_rfl)
theorem enter46 : Ret tab 46 [v0,v1] h R = Ok tab R46 [.code B46] #[v0,v1,u,u,u,u,u,u,u,u,u,u,u,u,u,u,u,u,u,u,u,u,u,u,u,u,u,u,u,u,u,u,u,u,u,u,u,u,u,u,u,u,u,u,u] h R :=
  ret_q rfl rfl (by kernel_rfl)
theorem enter48 : Ret tab 48 [v0,v1] h R = (belowL h.length [v0,v1] = true ∧ Ok tab R48 [.code B48] #[v0,v1,u,u,u,u,u,u,u,u,u,u,u,u,u,u,u,u,u,u,u,u] (frz h) fun v _ => below h.length v = true ∧ R v h) :=
  ret_w rfl rfl (by kernel_rfl)
theorem enter49 : Ret tab 49 [v0,v1,v2,v3,v4,v5] h R = Ok tab R49 [.code B49] #[v0,v1,v2,v3,v4,v5,u,u,u,u,u,u,u,u,u,u,u,u,u,u,u,u,u,u,u,u,u,u,u,u,u,u,u,u,u,u,u,u,u,u,u,u,u,u,u,u,u,u,u,u,u,u,u,u,u,u,u,u,u,u,u,u,u,u,u,u,u,u,u,u,u,u,u,u,u,u,u,u,u,u,u,u,u,u,u] h R :=
  ret_q rfl rfl (by kernel_rfl)
theorem enter50 : Ret tab 50 [v0,v1,v2,v3,v4,v5,v6,v7,v8,v9] h R = Ok tab R50 [.code B50] #[v0,v1,v2,v3,v4,v5,v6,v7,v8,v9,u,u,u,u,u,u,u,u,u,u,u,u,u,u,u,u,u,u,u,u,u,u,u,u,u,u,u,u,u,u,u,u,u,u,u,u,u,u,u,u,u,u,u,u,u,u,u,u,u,u,u,u,u,u,u,u,u,u,u,u,u,u,u,u,u,u,u,u,u,u,u,u,u,u,u,u,u,u,u,u,u,u,u,u,u,u,u,u,u,u,u,u,u,u,u,u,u,u,u,u,u,u,u] h R :=
  ret_q rfl rfl (by kernel_rfl)
theorem enter52 : Ret tab 52 [v0,v1,v2,v3,v4] h R = Ok tab R52 [.code B52] #[v0,v1,v2,v3,v4,u,u,u,u,u,u,u,u,u,u,u,u,u,u,u,u,u,u,u,u,u,u,u,u,u,u,u,u,u] h R :=
  ret_q rfl rfl (by kernel_rfl)
theorem enter53 : Ret tab 53 [v0,v1] h R = Ok tab R53 [.code B53] #[v0,v1,u,u,u,u,u,u,u,u,u,u,u,u,u,u,u,u,u] h R :=
  ret_q rfl rfl (by kernel_rfl)
theorem enter54 : Ret tab 54 [v0,v1,v2,v3,v4,v5,v6,v7] h R = Ok tab R54 [.code B54] #[v0,v1,v2,v3,v4,v5,v6,v7,u,u,u,u,u,u,u,u,u,u,u,u,u,u,u,u,u,u,u,u,u,u,u,u,u,u,u,u,u,u,u,u,u,u,u,u,u,u,u,u,u,u,u,u,u,u,u,u,u,u,u,u,u,u,u,u,u,u,u,u,u,u,u,u,u,u,u,u,u,u,u,u] h R :=
  ret_q rfl rfl (by kernel_rfl)
theorem enter55 : Ret tab 55 [v0,v1] h R = Ok tab R55 [.code B55] #[v0,v1,u,u,u,u,u,u,u,u,u,u,u,u,u,u,u,u] h R :=
  ret_q rfl rfl (by kernel_rfl)
theorem enter56 : Ret tab 56 [v0] h R = Ok tab R56 [.code B56] #[v0,u,u,u,u,u,u,u,u,u,u,u,u,u] h R :=
  ret_q rfl rfl (by kernel_rfl)
theorem enter57 : Ret tab 57 [v0] h R = Ok tab R57 [.code B57] #[v0,u,u,u,u,u,u,u] h R :=
  ret_q rfl rfl (by kernel_rfl)
theorem enter58 : Ret tab 58 [v0,v1] h R = Ok tab R58 [.code B58] #[v0,v1,u,u,u,u,u,u,u,u,u,u,u,u,u,u,u,u,u,u,u,u,u,u,u,u,u,u,u,u,u,u,u,u,u,u,u,u,u,u,u,u,u,u,u,u,u] h R :=
  ret_q rfl rfl (by kernel_rfl)
theorem enter59 : Ret tab 59 [v0] h R = Ok tab R59 [.code B59] #[v0,u,u,u,u,u,u,u] h R :=
  ret_q rfl rfl (by kernel_rfl)
theorem enter60 : Ret tab 60 [v0,v1,v2,v3,v4,v5] h R = Ok tab R60 [.code B60] #[v0,v1,v2,v3,v4,v5,u,u,u,u,u,u,u,u,u,u,u,u,u,u,u,u,u,u,u,u,u,u,u,u,u,u,u,u,u,u,u,u,u,u,u,u,u,u,u,u,u,u,u,u,u,u,u,u,u,u,u,u,u,u,u,u,u,u,u,u,u,u,u,u,u,u,u,u,u,u,u,u,u,u,u,u,u,u,u,u,u,u] h R :=
  ret_q rfl rfl (by kernel_rfl)
theorem enter61 : Ret tab 61 [v0,v1,v2] h R = Ok tab R61 [.code B61] #[v0,v1,v2,u,u,u,u,u,u,u,u,u,u,u,u,u] h R :=
  ret_q rfl rfl (by kernel_rfl)
theorem enter62 : Ret tab 62 [v0] h R = (belowL h.length [v0] = true ∧ Ok tab R62 [.code B62] #[v0,u,u,u,u,u,u,u,u,u,u,u,u,u,u] (frz h) fun v _ => below h.length v = true ∧ R v h) :=
  ret_w rfl rfl (by kernel_rfl)
theorem enter63 : Ret tab 63 [v0,v1] h R = Ok tab R63 [.code B63] #[v0,v1,u,u,u,u,u,u,u,u,u,u,u,u,u,u,u,u,u,u,u,u,u,u,u,u,u,u,u,u,u,u,u,u,u,u,u,u,u,u,u,u,u,u,u,u,u,u,u,u,u,u,u,u,u,u,u,u,u,u,u,u,u,u,u,u] h R :=
  ret_q rfl rfl (by kernel_rfl)
theorem enter64 : Ret tab 64 [v0,v1,v2] h R = (belowL h.length [v0,v1,v2] = true ∧ Ok tab R64 [.code B64] #[v0,v1,v2,u,u,u,u,u,u,u,u,u,u,u,u,u,u,u] (frz h) fun v _ => below h.length v = true ∧ R v h) :=
  ret_w rfl rfl (by kernel_rfl)
theorem enter65 : Ret tab 65 [v0,v1,v2] h R = (belowL h.length [v0,v1,v2] = true ∧ Ok tab R65 [.code B65] #[v0,v1,v2,u,u,u,u,u,u,u,u,u,u,u,u,u,u,u,u,u] (frz h) fun v _ => below h.length v = true ∧ R v h) :=
  ret_w rfl rfl (by kernel_rfl)
theorem enter66 : Ret tab 66 [v0,v1] h R = Ok tab R66 [.code B66] #[v0,v1,u,u,u,u,u,u,u,u,u,u,u,u,u,u,u,u,u,u,u,u,u,u,u,u,u,u,u,u,u,u,u,u,u,u,u,u,u,u,u,u,u,u,u,u,u,u,u,u,u,u] h R :=
  ret_q rfl rfl (by kernel_rfl)
theorem enter67 : Ret tab 67 [v0,v1,v2] h R = Ok tab R67 [.code B67] #[v0,v1,v2,u,u,u,u,u,u,u,u,u,u,u,u,u,u,u,u,u,u,u,u,u,u,u,u] h R :=
  ret_q rfl rfl (by kernel_rfl)
theorem enter68 : Ret tab 68 [v0] h R = (belowL h.length [v0] = true ∧ Ok tab R68 [.code B68] #[v0,u,u,u,u,u,u,u,u] (frz h) fun v _ => below h.length v = true ∧ R v h) :=
  ret_w rfl rfl (by kernel_rfl)
theorem enter69 : Ret tab 69 [v0,v1] h R = Ok tab R69 [.code B69] #[v0,v1,u,u,u,u,u,u,u,u,u,u,u,u,u,u,u,u] h R :=
  ret_q rfl rfl (by kernel_rfl)
theorem enter70 : Ret tab 70 [v0,v1,v2,v3,v4,v5] h R = Ok tab R70 [.code B70] #[v0,v1,v2,v3,v4,v5,u,u,u,u,u,u,u,u,u,u,u,u,u,u,u,u,u,u,u,u,u,u,u,u,u,u,u,u,u,u,u,u,u,u,u,u,u,u,u,u,u,u,u,u,u,u,u,u,u,u,u,u,u,u,u,u,u,u,u,u,u,u,u,u,u,u,u,u,u,u,u,u,u,u,u,u,u,u,u,u,u,u,u,u,u,u,u,u,u,u,u,u,u,u] h R :=
  ret_q rfl rfl (by kernel_rfl)
theorem enter71 : Ret tab 71 [v0,v1,v2] h R = (belowL h.length [v0,v1,v2] = true ∧ Ok tab R71 [.code B71] #[v0,v1,v2,u,u,u,u,u,u,u,u,u] (frz h) fun v _ => below h.length v = true ∧ R v h) :=
  ret_w rfl rfl (by kernel_rfl)
theorem enter72 : Ret tab 72 [v0,v1,v2] h R = (belowL h.length [v0,v1,v2] = true ∧ Ok tab R72 [.code B72] #[v0,v1,v2,u,u,u,u,u,u,u,u,u] (frz h) fun v _ => below h.length v = true ∧ R v h) :=
  ret_w rfl rfl (by kernel_rfl)
theorem enter73 : Ret tab 73 [v0] h R = Ok tab R73 [.code B73] #[v0,u,u,u,u,u,u,u,u,u,u,u,u,u] h R :=
  ret_q rfl rfl (by kernel_rfl)
theorem enter74 : Ret tab 74 [v0] h R = Ok tab R74 [.code B74] #[v0,u,u,u,u,u,u,u] h R :=
  ret_q rfl rfl (by kernel_rfl)
theorem enter75 : Ret tab 75 [v0,v1] h R = Ok tab R75 [.code B75] #[v0,v1,u,u,u,u,u,u,u,u,u,u,u,u,u,u,u,u,u,u,u,u,u,u,u,u,u,u,u,u,u,u,u,u,u,u,u,u,u,u,u,u,u,u,u,u,u,u,u,u,u,u,u,u,u,u,u] h R :=
  ret_q rfl rfl (by kernel_rfl)
theorem enter76 : Ret tab 76 [v0] h R = Ok tab R76 [.code B76] #[v0,u,u,u,u,u,u,u,u,u,u,u,u] h R :=
  ret_q rfl rfl (by kernel_rfl)
theorem enter77 : Ret tab 77 [v0,v1,v2,v3,v4,v5] h R = Ok tab R77 [.code B77] #[v0,v1,v2,v3,v4,v5,u,u,u,u,u,u,u,u,u,u,u,u,u,u,u,u,u,u,u,u,u,u,u,u,u,u,u,u,u,u,u,u,u,u,u,u,u,u,u,u,u,u,u,u,u,u,u,u,u,u,u,u,u,u,u,u,u,u,u,u,u,u,u,u,u,u,u,u,u,u,u,u,u,u,u,u,u,u,u] h R :=
  ret_q rfl rfl (by kernel_rfl)
theorem enter78 : Ret tab 78 [v0,v1] h R = (belowL h.length [v0,v1] = true ∧ Ok tab R78 [.code B78] #[v0,v1,u,u,u,u,u,u,u,u,u,u,u,u,u,u,u,u] (frz h) fun v _ => below h.length v = true ∧ R v h) :=
  ret_w rfl rfl (by kernel_rfl)
theorem enter79 : Ret tab 79 [v0,v1,v2,v3] h R = Ok tab R79 [.code B79] #[v0,v1,v2,v3,u,u,u,u,u,u,u,u,u,u,u,u,u,u,u,u,u,u,u,u,u,u,u,u] h R :=
  ret_q rfl rfl (by kernel_rfl)
theorem enter81 : Ret tab 81 [v0] h R = Ok tab R81 [.code B81] #[v0,u,u,u,u,u,u,u,u] h R :=
  ret_q rfl rfl (by kernel_rfl)
theorem enter84 : Ret tab 84 [v0] h R = Ok tab R84 [.code B84] #[v0,u,u,u,u,u,u,u,u,u,u,u,u,u,u,u,u,u] h R :=
  ret_q rfl rfl (by kernel_rfl)
theorem enter85 : Ret tab 85 [v0,v1,v2,v3] h R = Ok tab R85 [.code B85] #[v0,v1,v2,v3,u,u,u,u,u,u,u,u,u,u,u,u,u,u,u,u,u,u,u,u,u,u,u,u,u,u,u,u,u,u,u,u,u,u] h R :=
  ret_q rfl rfl (by kernel_rfl)
theorem enter88 : Ret tab 88 [v0] h R = Ok tab R88 [.code B88] #[v0,u,u,u,u,u,u,u,u,u,u,u,u,u,u] h R :=
  ret_q rfl rfl (by kernel_rfl)
theorem enter98 : Ret tab 98 [v0,v1] h R = Ok tab R98 [.code B98] #[v0,v1,u,u,u,u,u,u,u,u,u,u,u,u,u,u,u,u,u] h R :=
  ret_q rfl rfl (by kernel_rfl)
theorem enter99 : Ret tab 99 [v0,v1,v2,v3,v4,v5,v6,v7,v8,v9,v10] h R = Ok tab R99 [.code B99] #[v0,v1,v2,v3,v4,v5,v6,v7,v8,v9,v10,u,u,u,u,u,u,u,u,u,u,u,u,u,u,u,u,u,u,u,u,u,u,u,u,u,u,u,u,u,u,u,u,u,u,u,u,u,u,u,u,u,u,u,u,u,u,u,u,u,u,u,u,u,u,u] h R :=
  ret_q rfl rfl (by kernel_rfl)
theorem enter100 : Ret tab 100 [v0,v1,v2] h R = Ok tab R100 [.code B100] #[v0,v1,v2,u,u,u,u,u,u,u,u,u,u,u,u,u,u,u,u,u,u,u,u,u,u,u,u,u,u,u,u,u,u,u,u,u,u,u,u,u,u] h R :=
  ret_q rfl rfl (by kernel_rfl)
theorem enter102 : Ret tab 102 [v0,v1,v2,v3] h R = Ok tab R102 [.code B102] #[v0,v1,v2,v3,u,u,u,u,u,u,u,u,u,u,u,u,u,u,u,u,u,u,u,u,u,u,u,u,u,u,u,u,u,u,u,u,u,u,u,u] h R :=
  ret_q rfl rfl (by kernel_rfl)
theorem enter103 : Ret tab 103 [v0,v1,v2] h R = Ok tab R103 [.code B103] #[v0,v1,v2,u,u,u,u,u,u,u,u,u,u,u,u,u,u,u,u,u,u,u,u,u,u,u,u,u,u,u,u,u,u,u,u,u,u,u,u,u,u,u,u,u,u,u,u,u,u,u,u,u,u] h R :=
  ret_q rfl rfl (by kernel_rfl)
theorem enter104 : Ret tab 104 [v0,v1,v2,v3,v4,v5] h R = Ok tab R104 [.code B104] #[v0,v1,v2,v3,v4,v5,u,u,u,u,u,u,u,u,u,u,u,u,u,u,u,u,u,u,u,u,u,u,u,u,u,u,u,u,u,u,u,u,u,u,u,u,u,u,u,u,u,u,u,u,u,u,u,u,u,u,u,u,u,u,u,u,u,u,u,u,u,u,u,u,u,u,u,u,u,u,u,u,u,u,u,u,u,u,u] h R :=
  ret_q rfl rfl (by kernel_rfl)
theorem enter105 : Ret tab 105 [v0,v1] h R = (belowL h.length [v0,v1] = true ∧ Ok tab R105 [.code B105] #[v0,v1,u,u,u,u,u,u,u,u,u,u,u,u,u,u,u,u,u] (frz h) fun v _ => below h.length v = true ∧ R v h) :=
  ret_w rfl rfl (by kernel_rfl)
theorem enter106 : Ret tab 106 [v0] h R = Ok tab R106 [.code B106] #[v0,u,u,u,u,u,u,u,u,u,u,u,u,u] h R :=
  ret_q rfl rfl (by kernel_rfl)
theorem enter107 : Ret tab 107 [v0] h R = Ok tab R107 [.code B107] #[v0,u,u,u,u,u,u,u,u,u,u,u,u,u,u,u,u,u,u,u,u,u,u,u,u,u,u,u,u,u,u,u] h R :=
  ret_q rfl rfl (by kernel_rfl)
theorem enter108 : Ret tab 108 [v0] h R = (belowL h.length [v0] = true ∧ Ok tab R108 [.code B108] #[v0,u,u,u,u,u,u,u,u,u,u,u,u,u] (frz h) fun v _ => below h.length v = true ∧ R v h) :=
  ret_w rfl rfl (by kernel_rfl)
theorem enter109 : Ret tab 109 [v0,v1,v2] h R = Ok tab R109 [.code B109] #[v0,v1,v2,u,u,u,u,u,u,u,u,u,u] h R :=
  ret_q rfl rfl (by kernel_rfl)
theorem enter110 : Ret tab 110 [v0] h R = Ok tab R110 [.code B110] #[v0,u,u,u,u,u,u,u,u,u,u,u,u,u,u,u,u,u,u,u,u,u,u,u,u,u,u,u,u,u,u,u,u,u,u,u,u,u,u,u,u,u,u,u,u,u,u,u,u,u,u,u] h R :=
  ret_q rfl rfl (by kernel_rfl)
theorem enter111 : Ret tab 111 [v0] h R = Ok tab R111 [.code B111] #[v0,u,u,u,u,u,u,u,u,u,u,u,u,u,u,u,u,u,u,u,u,u,u,u,u,u,u,u,u,u,u,u,u,u,u,u,u,u,u,u,u,u,u,u,u,u,u,u,u,u,u,u,u,u,u,u,u,u,u,u,u,u,u,u,u,u,u,u,u,u,u,u,u,u,u,u,u,u,u,u,u,u,u,u,u,u,u] h R :=
  ret_q rfl rfl (by kernel_rfl)
theorem enter112 : Ret tab 112 [v0,v1] h R = Ok tab R112 [.code B112] #[v0,v1,u,u,u,u,u,u,u,u,u,u,u,u,u,u,u,u,u,u,u,u,u,u,u,u,u,u,u,u,u,u,u,u,u,u,u,u,u,u,u,u,u,u,u,u,u,u,u,u,u,u,u,u,u,u,u,u,u,u,u,u,u,u,u,u,u,u,u,u,u,u,u,u,u,u,u,u,u,u,u,u,u,u,u,u,u,u,u,u,u,u,u,u,u,u,u,u,u,u,u,u,u,u,u,u,u,u,u,u,u,u,u,u,u,u,u,u,u,u,u,u,u,u,u,u,u,u,u,u,u,u,u,u,u,u,u,u,u] h R :=
  ret_q rfl rfl (by kernel_rfl)
theorem enter113 : Ret tab 113 [v0,v1,v2] h R = (belowL h.length [v0,v1,v2] = true ∧ Ok tab R113 [.code B113] #[v0,v1,v2,u,u,u,u,u,u,u,u,u,u,u,u,u,u,u,u,u,u,u,u,u,u,u,u,u,u,u,u,u,u,u,u,u,u,u,u,u,u,u,u,u,u,u] (frz h) fun v _ => below h.length v = true ∧ R v h) :=
  ret_w rfl rfl (by kernel_rfl)
theorem enter114 : Ret tab 114 [v0,v1] h R = (belowL h.length [v0,v1] = true ∧ Ok tab R114 [.code B114] #[v0,v1,u,u,u,u,u,u,u,u,u,u,u,u,u,u,u,u,u] (frz h) fun v _ => below h.length v = true ∧ R v h) :=
  ret_w rfl rfl (by kernel_rfl)
theorem enter115 : Ret tab 115 [v0,v1,v2] h R = (belowL h.length [v0,v1,v2] = true ∧ Ok tab R115 [.code B115] #[v0,v1,v2,u,u,u,u,u,u,u,u,u,u,u,u,u,u,u,u,u,u,u,u,u,u,u,u] (frz h) fun v _ => below h.length v = true ∧ R v h) :=
  ret_w rfl rfl (by kernel_rfl)
theorem enter116 : Ret tab 116 [v0] h R = Ok tab R116 [.code B116] #[v0,u,u,u,u,u,u,u,u,u,u,u,u,u,u,u,u,u,u,u,u,u,u,u,u,u,u,u,u,u,u,u] h R :=
  ret_q rfl rfl (by kernel_rfl)
theorem enter117 : Ret tab 117 [v0] h R = (belowL h.length [v0] = true ∧ Ok tab R117 [.code B117] #[v0,u,u,u,u,u,u,u,u,u,u,u,u,u,u] (frz h) fun v _ => below h.length v = true ∧ R v h) :=
  ret_w rfl rfl (by kernel_rfl)
theorem enter118 : Ret tab 118 [v0,v1] h R = Ok tab R118 [.code B118] #[v0,v1,u,u,u,u,u,u,u,u,u,u,u,u,u,u,u,u,u,u,u,u,u,u,u,u,u,u,u,u,u,u,u,u,u,u,u,u,u] h R :=
  ret_q rfl rfl (by kernel_rfl)
theorem enter119 : Ret tab 119 [v0,v1] h R = Ok tab R119 [.code B119] #[v0,v1,u,u,u,u,u,u,u,u,u,u,u,u,u,u,u,u,u,u,u,u,u,u,u,u,u,u,u,u,u,u,u,u,u,u,u,u,u,u,u,u,u,u,u,u,u] h R :=
  ret_q rfl rfl (by kernel_rfl)
theorem enter120 : Ret tab 120 [v0,v1] h R = Ok tab R120 [.code B120] #[v0,v1,u,u,u,u,u,u,u,u,u,u,u,u,u,u,u,u,u,u,u,u,u,u,u,u,u,u,u,u,u,u,u,u,u,u,u,u,u,u,u,u,u,u,u,u,u,u,u,u,u,u,u,u,u,u,u,u,u,u,u,u,u,u,u,u,u,u,u,u,u,u,u,u,u,u,u,u,u,u,u,u,u,u,u,u,u,u,u,u,u,u,u,u,u,u,u,u,u,u,u,u,u,u,u,u,u,u,u,u,u,u,u,u,u,u,u,u,u] h R :=
  ret_q rfl rfl (by kernel_rfl)
theorem enter121 : Ret tab 121 [v0,v1,v2] h R = Ok tab R121 [.code B121] #[v0,v1,v2,u,u,u,u,u,u,u,u,u,u,u,u,u,u,u,u,u,u,u,u,u,u,u,u,u,u,u,u,u,u,u,u,u,u,u,u,u,u,u,u,u,u,u,u,u,u,u,u,u,u,u,u,u,u,u,u,u,u,u,u,u,u,u,u,u,u,u,u,u,u,u,u,u,u,u,u,u,u,u,u,u,u,u,u,u,u,u,u,u,u,u,u,u,u,u,u] h R :=
  ret_q rfl rfl (by kernel_rfl)
theorem enter127 : Ret tab 127 [v0,v1,v2] h R = (belowL h.length [v0,v1,v2] = true ∧ Ok tab R127 [.code B127] #[v0,v1,v2,u,u,u,u,u,u,u,u,u,u,u,u] (frz h) fun v _ => below h.length v = true ∧ R v h) :=
  ret_w rfl rfl (by kernel_rfl)
theorem enter131 : Ret tab 131 [v0,v1] h R = Ok tab R131 [.code B131] #[v0,v1,u,u,u,u,u,u,u,u,u,u,u,u,u,u,u,u,u,u,u,u,u,u,u] h R :=
  ret_q rfl rfl (by kernel_rfl)
theorem enter134 : Ret tab 134 [v0,v1,v2] h R = Ok tab R134 [.code B134] #[v0,v1,v2,u,u,u,u,u,u,u,u,u,u,u,u,u,u,u] h R :=
  ret_q rfl rfl (by kernel_rfl)
theorem enter135 : Ret tab 135 [v0,v1,v2,v3] h R = Ok tab R135 [.code B135] #[v0,v1,v2,v3,u,u,u,u,u,u,u,u,u,u,u,u,u,u,u,u,u,u,u,u,u,u,u,u,u,u,u,u,u,u,u,u,u,u,u,u,u,u] h R :=
  ret_q rfl rfl (by kernel_rfl)
theorem enter136 : Ret tab 136 [v0] h R = Ok tab R136 [.code B136] #[v0,u,u,u,u,u,u,u,u] h R :=
  ret_q rfl rfl (by kernel_rfl)
theorem enter137 : Ret tab 137 [v0,v1,v2] h R = Ok tab R137 [.code B137] #[v0,v1,v2,u,u,u,u,u,u,u,u,u] h R :=
  ret_q rfl rfl (by kernel_rfl)
theorem enter138 : Ret tab 138 [v0,v1,v2,v3,v4] h R = Ok tab R138 [.code B138] #[v0,v1,v2,v3,v4,u,u,u,u,u,u,u,u,u,u,u,u,u,u,u,u,u,u,u,u,u,u,u] h R :=
  ret_q rfl rfl (by kernel_rfl)
theorem enter139 : Ret tab 139 [v0,v1] h R = Ok tab R139 [.code B139] #[v0,v1,u,u,u,u,u,u,u,u,u,u,u,u,u,u,u,u,u,u,u,u,u,u,u,u,u,u,u,u,u,u,u,u,u,u,u,u,u,u,u,u,u] h R :=
  ret_q rfl rfl (by kernel_rfl)
theorem enter140 : Ret tab 140 [v0,v1,v2] h R = (belowL h.length [v0,v1,v2] = true ∧ Ok tab R140 [.code B140] #[v0,v1,v2,u,u,u,u,u,u,u,u,u,u,u,u,u,u,u,u,u] (frz h) fun v _ => below h.length v = true ∧ R v h) :=
  ret_w rfl rfl (by kernel_rfl)
theorem enter141 : Ret tab 141 [v0,v1,v2] h R = (belowL h.length [v0,v1,v2] = true ∧ Ok tab R141 [.code B141] #[v0,v1,v2,u,u,u,u,u,u,u,u,u,u,u,u,u,u,u,u,u,u,u,u,u,u,u,u,u,u,u,u] (frz h) fun v _ => below h.length v = true ∧ R v h) :=
  ret_w rfl rfl (by kernel_rfl)
theorem enter142 : Ret tab 142 [v0,v1,v2] h R = Ok tab R142 [.code B142] #[v0,v1,v2,u,u,u,u,u,u,u,u,u,u,u,u,u,u,u,u,u,u,u,u,u,u,u,u,u,u,u,u,u,u,u,u,u,u,u,u,u,u,u] h R :=
  ret_q rfl rfl (by kernel_rfl)
theorem enter143 : Ret tab 143 [v0,v1,v2,v3] h R = Ok tab R143 [.code B143] #[v0,v1,v2,v3,u,u,u,u,u,u,u,u,u,u,u,u,u,u,u,u,u,u] h R :=
  ret_q rfl rfl (by kernel_rfl)
theorem enter144 : Ret tab 144 [v0,v1] h R = (belowL h.length [v0,v1] = true ∧ Ok tab R144 [.code B144] #[v0,v1,u,u,u,u,u,u,u,u] (frz h) fun v _ => below h.length v = true ∧ R v h) :=
  ret_w rfl rfl (by kernel_rfl)
theorem enter145 : Ret tab 145 [v0,v1,v2] h R = (belowL h.length [v0,v1,v2] = true ∧ Ok tab R145 [.code B145] #[v0,v1,v2,u,u,u,u,u,u,u,u,u,u,u,u,u,u,u,u,u] (frz h) fun v _ => below h.length v = true ∧ R v h) :=
  ret_w rfl rfl (by kernel_rfl)
theorem enter146 : Ret tab 146 [v0,v1,v2] h R = Ok tab R146 [.code B146] #[v0,v1,v2,u,u,u,u,u,u,u,u,u,u,u,u,u,u,u,u,u,u,u,u,u,u,u,u,u,u,u,u,u,u,u,u,u,u,u,u,u,u,u,u,u,u] h R :=
  ret_q rfl rfl (by kernel_rfl)
theorem enter147 : Ret tab 147 [v0,v1,v2] h R = Ok tab R147 [.code B147] #[v0,v1,v2,u,u,u,u,u,u,u,u,u,u,u,u,u,u,u,u] h R :=
  ret_q rfl rfl (by kernel_rfl)
theorem enter148 : Ret tab 148 [v0,v1,v2] h R = (belowL h.length [v0,v1,v2] = true ∧ Ok tab R148 [.code B148] #[v0,v1,v2,u,u,u,u,u,u,u,u,u,u,u,u,u,u,u,u,u,u,u,u,u,u,u,u,u,u,u,u,u,u,u,u,u,u,u,u,u,u,u,u,u] (frz h) fun v _ => below h.length v = true ∧ R v h) :=
  ret_w rfl rfl (by kernel_rfl)
theorem enter149 : Ret tab 149 [v0,v1,v2] h R = Ok tab R149 [.code B149] #[v0,v1,v2,u,u,u,u,u,u,u,u,u,u,u,u,u,u,u,u,u,u,u,u,u,u,u,u,u,u,u,u,u,u,u,u,u,u,u,u,u,u,u,u,u,u,u,u,u,u,u,u,u,u,u,u,u,u,u,u,u,u,u] h R :=
  ret_q rfl rfl (by kernel_rfl)
theorem enter150 : Ret tab 150 [v0,v1,v2] h R = (belowL h.length [v0,v1,v2] = true ∧ Ok tab R150 [.code B150] #[v0,v1,v2,u,u,u,u,u,u,u,u,u,u,u,u,u,u,u,u,u,u,u,u,u,u,u,u,u,u,u,u,u,u] (frz h) fun v _ => below h.length v = true ∧ R v h) :=
  ret_w rfl rfl (by kernel_rfl)
theorem enter151 : Ret tab 151 [v0] h R = (belowL h.length [v0] = true ∧ Ok tab R151 [.code B151] #[v0,u,u,u,u,u,u,u,u,u,u,u,u] (frz h) fun v _ => below h.length v = true ∧ R v h) :=
  ret_w rfl rfl (by kernel_rfl)
theorem enter152 : Ret tab 152 [v0,v1,v2] h R = (belowL h.length [v0,v1,v2] = true ∧ Ok tab R152 [.code B152] #[v0,v1,v2,u,u,u,u,u,u,u,u,u] (frz h) fun v _ => below h.length v = true ∧ R v h) :=
  ret_w rfl rfl (by kernel_rfl)
theorem enter153 : Ret tab 153 [v0,v1,v2] h R = (belowL h.length [v0,v1,v2] = true ∧ Ok tab R153 [.code B153] #[v0,v1,v2,u,u,u,u,u,u,u,u,u,u,u,u,u,u,u,u,u,u,u,u,u,u,u,u,u,u,u,u] (frz h) fun v _ => below h.length v = true ∧ R v h) :=
  ret_w rfl rfl (by kernel_rfl)
theorem enter154 : Ret tab 154 [v0,v1,v2] h R = Ok tab R154 [.code B154] #[v0,v1,v2,u,u,u,u,u,u,u,u,u,u,u,u,u,u,u,u,u,u,u,u,u,u,u,u,u,u,u,u,u,u,u,u,u,u,u,u,u] h R :=
  ret_q rfl rfl (by kernel_rfl)
theorem enter155 : Ret tab 155 [v0,v1,v2,v3] h R = Ok tab R155 [.code B155] #[v0,v1,v2,v3,u,u,u,u,u,u,u,u,u,u,u,u,u,u,u,u,u,u,u,u,u,u,u,u,u,u,u,u] h R :=
  ret_q rfl rfl (by kernel_rfl)
theorem enter156 : Ret tab 156 [v0,v1] h R = Ok tab R156 [.code B156] #[v0,v1,u,u,u,u,u,u,u,u,u,u,u,u,u,u] h R :=
  ret_q rfl rfl (by kernel_rfl)
theorem enter157 : Ret tab 157 [v0,v1] h R = (belowL h.length [v0,v1] = true ∧ Ok tab R157 [.code B157] #[v0,v1,u,u,u,u,u,u] (frz h) fun v _ => below h.length v = true ∧ R v h) :=
  ret_w rfl rfl (by kernel_rfl)
theorem enter158 : Ret tab 158 [v0,v1,v2] h R = (belowL h.length [v0,v1,v2] = true ∧ Ok tab R158 [.code B158] #[v0,v1,v2,u,u,u,u,u,u,u,u,u] (frz h) fun v _ => below h.length v = true ∧ R v h) :=
  ret_w rfl rfl (by kernel_rfl)
theorem enter159 : Ret tab 159 [v0,v1,v2] h R = Ok tab R159 [.code B159] #[v0,v1,v2,u,u,u,u,u,u,u,u,u,u,u,u,u,u,u,u,u,u,u,u,u,u,u,u,u,u] h R :=
  ret_q rfl rfl (by kernel_rfl)
theorem enter160 : Ret tab 160 [v0,v1,v2,v3] h R = (belowL h.length [v0,v1,v2,v3] = true ∧ Ok tab R160 [.code B160] #[v0,v1,v2,v3,u,u,u,u,u,u,u,u,u,u,u,u,u,u,u,u,u,u,u,u,u,u,u,u,u,u,u,u,u,u,u,u,u,u,u,u,u,u,u,u,u,u,u,u,u,u,u,u] (frz h) fun v _ => below h.length v = true ∧ R v h) :=
  ret_w rfl rfl (by kernel_rfl)
theorem enter161 : Ret tab 161 [v0,v1,v2] h R = Ok tab R161 [.code B161] #[v0,v1,v2,u,u,u,u,u,u,u,u,u,u,u,u,u,u,u,u,u,u,u,u,u,u,u] h R :=
  ret_q rfl rfl (by kernel_rfl)
theorem enter174 : Ret tab 174 [v0,v1] h R = Ok tab R174 [.code B174] #[v0,v1,u,u,u,u,u,u,u,u,u,u,u,u] h R :=
  ret_q rfl rfl (by kernel_rfl)
theorem enter175 : Ret tab 175 [v0,v1] h R = Ok tab R175 [.code B175] #[v0,v1,u,u,u,u,u,u,u,u,u,u,u,u,u,u,u] h R :=
  ret_q rfl rfl (by kernel_rfl)
theorem enter176 : Ret tab 176 [v0,v1,v2,v3] h R = Ok tab R176 [.code B176] #[v0,v1,v2,v3,u,u,u,u,u,u,u,u,u,u,u,u,u,u,u,u,u,u,u,u,u,u,u,u,u,u,u,u,u,u,u,u,u,u,u,u,u,u,u,u,u] h R :=
  ret_q rfl rfl (by kernel_rfl)
theorem enter177 : Ret tab 177 [v0,v1,v2,v3] h R = (belowL h.length [v0,v1,v2,v3] = true ∧ Ok tab R177 [.code B177] #[v0,v1,v2,v3,u,u,u,u,u,u,u,u,u,u,u,u,u,u,u,u,u,u,u,u,u,u,u,u,u,u,u,u,u,u,u,u,u,u,u,u,u,u,u,u,u,u,u,u,u,u,u,u,u,u,u,u,u,u,u,u,u,u,u,u,u,u,u,u,u,u,u,u,u,u,u,u,u] (frz h) fun v _ => below h.length v = true ∧ R v h) :=
  ret_w rfl rfl (by kernel_rfl)
theorem enter178 : Ret tab 178 [v0,v1,v2,v3] h R = (belowL h.length [v0,v1,v2,v3] = true ∧ Ok tab R178 [.code B178] #[v0,v1,v2,v3,u,u,u,u,u,u,u,u,u,u,u,u,u,u,u,u,u,u,u,u,u,u,u,u,u,u,u,u,u,u,u,u] (frz h) fun v _ => below h.length v = true ∧ R v h) :=
  ret_w rfl rfl (by kernel_rfl)
theorem enter179 : Ret tab 179 [v0,v1] h R = (belowL h.length [v0,v1] = true ∧ Ok tab R179 [.code B179] #[v0,v1,u,u,u,u,u,u,u,u,u,u,u,u,u,u,u,u,u,u,u,u,u,u,u,u,u,u,u,u,u,u,u,u,u,u,u] (frz h) fun v _ => below h.length v = true ∧ R v h) :=
  ret_w rfl rfl (by kernel_rfl)
theorem enter180 : Ret tab 180 [v0,v1,v2,v3] h R = (belowL h.length [v0,v1,v2,v3] = true ∧ Ok tab R180 [.code B180] #[v0,v1,v2,v3,u,u,u,u,u,u,u,u,u,u,u,u,u,u,u,u,u,u,u,u,u,u,u,u,u,u,u,u,u,u,u,u,u,u,u,u,u,u,u,u,u,u] (frz h) fun v _ => below h.length v = true ∧ R v h) :=
  ret_w rfl rfl (by kernel_rfl)
theorem enter181 : Ret tab 181 [v0,v1,v2] h R = Ok tab R181 [.code B181] #[v0,v1,v2,u,u,u,u,u,u,u,u,u,u,u,u,u,u,u,u] h R :=
  ret_q rfl rfl (by kernel_rfl)
theorem enter182 : Ret tab 182 [v0,v1,v2,v3] h R = (belowL h.length [v0,v1,v2,v3] = true ∧ Ok tab R182 [.code B182] #[v0,v1,v2,v3,u,u,u,u,u,u,u,u,u,u,u,u,u,u,u,u,u,u,u,u,u,u,u,u,u,u,u,u,u,u,u,u,u,u,u,u,u,u,u,u,u,u,u,u,u,u,u,u,u,u,u,u,u,u,u,u,u,u,u,u,u,u,u,u,u,u,u,u,u,u,u,u,u] (frz h) fun v _ => below h.length v = true ∧ R v h) :=
  ret_w rfl rfl (by kernel_rfl)
theorem enter183 : Ret tab 183 [v0,v1,v2,v3] h R = (belowL h.length [v0,v1,v2,v3] = true ∧ Ok tab R183 [.code B183] #[v0,v1,v2,v3,u,u,u,u,u,u,u,u,u,u,u,u,u,u,u,u,u,u,u,u,u,u,u,u,u,u,u,u,u,u,u] (frz h) fun v _ => below h.length v = true ∧ R v h) :=
  ret_w rfl rfl (by kernel_rfl)
theorem enter184 : Ret tab 184 [v0,v1,v2] h R = Ok tab R184 [.code B184] #[v0,v1,v2,u,u,u,u,u,u,u,u,u,u,u,u,u,u,u,u,u,u,u,u,u,u,u,u,u,u,u,u,u,u,u,u,u,u,u,u,u,u,u,u,u,u,u,u,u,u,u,u,u,u,u,u,u,u,u,u,u,u,u,u,u,u,u,u,u,u,u,u,u,u,u,u] h R :=
  ret_q rfl rfl (by kernel_rfl)
theorem enter185 : Ret tab 185 [v0,v1] h R = Ok tab R185 [.code B185] #[v0,v1,u,u,u,u,u,u,u,u,u,u,u,u,u,u,u,u,u,u,u,u,u,u,u,u,u,u,u,u,u,u,u,u,u,u,u,u,u,u,u,u,u,u,u,u,u,u,u,u,u,u,u,u,u,u,u,u,u,u,u,u,u,u,u,u,u,u,u,u,u,u,u,u,u,u] h R :=
  ret_q rfl rfl (by kernel_rfl)
theorem enter188 : Ret tab 188 [v0,v1,v2] h R = Ok tab R188 [.code B188] #[v0,v1,v2,u,u,u,u,u,u,u,u,u,u,u,u,u,u,u] h R :=
  ret_q rfl rfl (by kernel_rfl)
theorem enter189 : Ret tab 189 [v0,v1] h R = Ok tab R189 [.code B189] #[v0,v1,u,u,u,u,u,u,u,u,u] h R :=
  ret_q rfl rfl (by kernel_rfl)
theorem enter190 : Ret tab 190 [v0,v1,v2,v3] h R = Ok tab R190 [.code B190] #[v0,v1,v2,v3,u,u,u,u,u,u,u,u,u,u,u,u,u,u,u,u,u,u,u,u,u] h R :=
  ret_q rfl rfl (by kernel_rfl)
theorem enter191 : Ret tab 191 [v0,v1,v2] h R = (belowL h.length [v0,v1,v2] = true ∧ Ok tab R191 [.code B191] #[v0,v1,v2,u,u,u,u,u,u,u,u] (frz h) fun v _ => below h.length v = true ∧ R v h) :=
  ret_w rfl rfl (by kernel_rfl)
theorem enter192 : Ret tab 192 [v0,v1,v2] h R = (belowL h.length [v0,v1,v2] = true ∧ Ok tab R192 [.code B192] #[v0,v1,v2,u,u,u,u,u,u,u,u,u] (frz h) fun v _ => below h.length v = true ∧ R v h) :=
  ret_w rfl rfl (by kernel_rfl)
theorem enter193 : Ret tab 193 [v0,v1] h R = (belowL h.length [v0,v1] = true ∧ Ok tab R193 [.code B193] #[v0,v1,u,u,u,u,u,u,u,u,u,u,u,u,u,u,u,u] (frz h) fun v _ => below h.length v = true ∧ R v h) :=
  ret_w rfl rfl (by kernel_rfl)
theorem enter194 : Ret tab 194 [v0,v1,v2] h R = (belowL h.length [v0,v1,v2] = true ∧ Ok tab R194 [.code B194] #[v0,v1,v2,u,u,u,u,u,u,u,u,u,u,u,u,u,u,u,u,u,u,u,u,u,u,u,u,u,u,u] (frz h) fun v _ => below h.length v = true ∧ R v h) :=
  ret_w rfl rfl (by kernel_rfl)
theorem enter195 : Ret tab 195 [v0,v1,v2] h R = (belowL h.length [v0,v1,v2] = true ∧ Ok tab R195 [.code B195] #[v0,v1,v2,u,u,u,u,u,u,u,u,u,u,u,u,u,u,u,u,u,u,u,u,u,u,u] (frz h) fun v _ => below h.length v = true ∧ R v h) :=
  ret_w rfl rfl (by kernel_rfl)
theorem enter196 : Ret tab 196 [v0,v1] h R = (belowL h.length [v0,v1] = true ∧ Ok tab R196 [.code B196] #[v0,v1,u,u,u,u,u,u,u,u] (frz h) fun v _ => below h.length v = true ∧ R v h) :=
  ret_w rfl rfl (by kernel_rfl)
theorem enter197 : Ret tab 197 [v0,v1,v2] h R = (belowL h.length [v0,v1,v2] = true ∧ Ok tab R197 [.code B197] #[v0,v1,v2,u,u,u,u,u,u,u,u,u] (frz h) fun v _ => below h.length v = true ∧ R v h) :=
  ret_w rfl rfl (by kernel_rfl)
theorem enter198 : Ret tab 198 [v0,v1,v2] h R = (belowL h.length [v0,v1,v2] = true ∧ Ok tab R198 [.code B198] #[v0,v1,v2,u,u,u,u,u,u,u,u,u] (frz h) fun v _ => below h.length v = true ∧ R v h) :=
  ret_w rfl rfl (by kernel_rfl)
theorem enter199 : Ret tab 199 [v0,v1] h R = (belowL h.length [v0,v1] = true ∧ Ok tab R199 [.code B199] #[v0,v1,u,u,u,u,u,u,u,u,u,u,u,u,u,u,u] (frz h) fun v _ => below h.length v = true ∧ R v h) :=
  ret_w rfl rfl (by kernel_rfl)
theorem enter200 : Ret tab 200 [v0,v1,v2] h R = (belowL h.length [v0,v1,v2] = true ∧ Ok tab R200 [.code B200] #[v0,v1,v2,u,u,u,u,u,u,u,u,u,u,u,u,u,u,u,u,u,u] (frz h) fun v _ => below h.length v = true ∧ R v h) :=
  ret_w rfl rfl (by kernel_rfl)
theorem enter201 : Ret tab 201 [v0,v1,v2,v3] h R = (belowL h.length [v0,v1,v2,v3] = true ∧ Ok tab R201 [.code B201] #[v0,v1,v2,v3,u,u,u,u,u,u,u,u,u,u,u,u,u,u,u,u,u,u,u,u,u,u,u,u,u,u,u,u,u,u,u,u,u,u,u,u,u,u,u,u,u] (frz h) fun v _ => below h.length v = true ∧ R v h) :=
  ret_w rfl rfl (by kernel_rfl)
theorem enter202 : Ret tab 202 [v0,v1] h R = (belowL h.length [v0,v1] = true ∧ Ok tab R202 [.code B202] #[v0,v1,u,u,u,u,u,u,u,u,u,u,u,u,u,u,u,u,u,u,u,u,u,u,u,u,u,u,u,u,u,u,u,u,u,u,u,u] (frz h) fun v _ => below h.length v = true ∧ R v h) :=
  ret_w rfl rfl (by kernel_rfl)
theorem enter203 : Ret tab 203 [v0,v1,v2] h R = Ok tab R203 [.code B203] #[v0,v1,v2,u,u,u,u,u,u,u,u,u,u,u,u,u,u,u,u,u,u,u,u,u,u,u,u,u,u] h R :=
  ret_q rfl rfl (by kernel_rfl)
theorem enter204 : Ret tab 204 [v0,v1] h R = Ok tab R204 [.code B204] #[v0,v1,u,u,u,u,u,u,u,u,u,u,u,u,u,u,u,u,u,u,u,u,u,u,u,u,u,u,u,u,u,u,u,u,u,u,u,u,u,u,u,u,u,u,u,u,u,u,u,u,u,u,u,u,u,u,u,u,u,u,u,u,u,u,u,u,u,u,u,u,u,u,u,u,u,u,u,u,u,u,u,u,u,u,u,u,u,u,u,u,u,u,u,u,u,u,u,u,u,u,u,u,u,u,u,u,u,u,u] h R :=
  ret_q rfl rfl (by kernel_rfl)
theorem enter205 : Ret tab 205 [v0] h R = Ok tab R205 [.code B205] #[v0,u,u,u,u,u,u,u,u,u,u,u,u,u,u,u,u,u,u,u,u,u,u,u,u,u,u,u,u,u,u,u,u,u,u,u,u,u,u,u,u,u,u,u,u,u] h R :=
  ret_q rfl rfl (by kernel_rfl)
theorem enter206 : Ret tab 206 [v0,v1] h R = Ok tab R206 [.code B206] #[v0,v1,u,u,u,u,u,u,u,u,u,u,u,u] h R :=
  ret_q rfl rfl (by kernel_rfl)
theorem enter207 : Ret tab 207 [v0,v1] h R = Ok tab R207 [.code B207] #[v0,v1,u,u,u,u,u,u,u,u,u,u,u,u,u,u] h R :=
  ret_q rfl rfl (by kernel_rfl)
theorem enter208 : Ret tab 208 [v0,v1] h R = Ok tab R208 [.code B208] #[v0,v1,u,u,u,u,u,u,u,u,u,u,u,u,u,u] h R :=
  ret_q rfl rfl (by kernel_rfl)
theorem enter209 : Ret tab 209 [v0,v1,v2] h R = (belowL h.length [v0,v1,v2] = true ∧ Ok tab R209 [.code B209] #[v0,v1,v2,u,u,u,u,u,u,u,u,u,u,u,u,u,u,u] (frz h) fun v _ => below h.length v = true ∧ R v h) :=
  ret_w rfl rfl (by kernel_rfl)
theorem enter210 : Ret tab 210 [v0,v1] h R = (belowL h.length [v0,v1] = true ∧ Ok tab R210 [.code B210] #[v0,v1,u,u,u,u,u,u,u,u,u,u,u,u,u,u,u,u,u,u,u] (frz h) fun v _ => below h.length v = true ∧ R v h) :=
  ret_w rfl rfl (by kernel_rfl)
theorem enter234 : Ret tab 234 [v0,v1] h R = Ok tab R234 [.code B234] #[v0,v1,u,u,u,u,u,u,u,u,u,u,u,u,u,u] h R :=
  ret_q rfl rfl (by kernel_rfl)
theorem enter235 : Ret tab 235 [v0,v1,v2] h R = Ok tab R235 [.code B235] #[v0,v1,v2,u,u,u,u,u,u,u,u,u,u,u,u,u,u] h R :=
  ret_q rfl rfl (by kernel_rfl)
theorem enter236 : Ret tab 236 [v0,v1,v2] h R = Ok tab R236 [.code B236] #[v0,v1,v2,u,u,u,u,u,u,u,u,u,u,u,u,u,u,u,u,u,u] h R :=
  ret_q rfl rfl (by kernel_rfl)
theorem enter237 : Ret tab 237 [v0,v1] h R = Ok tab R237 [.code B237] #[v0,v1,u,u,u,u,u,u,u,u,u,u,u,u,u,u,u,u,u,u,u,u,u,u,u] h R :=
  ret_q rfl rfl (by kernel_rfl)
theorem enter245 : Ret tab 245 [v0,v1] h R = Ok tab R245 [.code B245] #[v0,v1,u,u,u,u,u,u,u,u,u,u,u,u,u] h R :=
  ret_q rfl rfl (by kernel_rfl)
theorem enter246 : Ret tab 246 [v0,v1] h R = Ok tab R246 [.code B246] #[v0,v1,u,u,u,u,u,u,u,u,u,u,u,u,u,u,u,u,u,u,u,u,u,u,u,u,u,u,u,u,u,u,u,u,u,u,u,u,u,u,u,u,u,u,u,u,u,u,u,u,u,u,u,u,u,u,u,u,u,u,u,u,u,u,u,u,u,u,u,u,u,u,u,u,u,u,u,u,u,u,u,u,u,u,u,u,u,u,u] h R :=
  ret_q rfl rfl (by kernel_rfl)
theorem enter248 : Ret tab 248 [v0,v1] h R = Ok tab R248 [.code B248] #[v0,v1,u,u,u,u,u,u] h R :=
  ret_q rfl rfl (by kernel_rfl)
theorem enter249 : Ret tab 249 [v0] h R = Ok tab R249 [.code B249] #[v0,u,u,u,u,u,u,u,u,u,u,u,u,u,u,u,u] h R :=
  ret_q rfl rfl (by kernel_rfl)
theorem enter250 : Ret tab 250 [v0] h R = Ok tab R250 [.code B250] #[v0,u,u,u,u,u,u,u,u,u,u,u,u,u,u,u,u,u,u,u,u,u,u,u,u,u,u,u,u,u,u,u,u,u,u,u,u,u] h R :=
  ret_q rfl rfl (by kernel_rfl)
end Go.Proofs.YtjpjohchdfoeaaaGreat
