/-
  The table of the functions, resolved: it is the program's. Laid by program (gentab.py).
-/
import Derived.Test.YtjpjohchdfoeaaaGreatTabA
import Derived.Test.YtjpjohchdfoeaaaGreatTabB
namespace Go.Proofs.YtjpjohchdfoeaaaGreat
open Go Go.Sim
open Go.Operand renaming tmp → t,const → c,func → w
open Go.Sim.ROp renaming mov → m,bin → b,load → l,fieldAddr → f,call → z,nilCheck → y,pick → p,extract → x
open Go.Sim.RCode renaming seq → q,region → r,cond → d,skip → o
open Go.Value renaming int → i
open Go.IntKind renaming i64 → j
open Option renaming none → n,some → s
open Go renaming undef → u
variable {T : Tab} {F : RFunc} {k : List RItem} {e : Env} {h : Heap} {R : Value → Heap → Prop}
def tab : Tab := fun g => match g with
  | 4 => s R4
  | 9 => s R9
  | 10 => s R10
  | 11 => s R11
  | 13 => s R13
  | 14 => s R14
  | 15 => s R15
  | 26 => s R26
  | 27 => s R27
  | 28 => s R28
  | 29 => s R29
  | 31 => s R31
  | 32 => s R32
  | 34 => s R34
  | 38 => s R38
  | 39 => s R39
  | 46 => s R46
  | 48 => s R48
  | 55 => s R55
  | 56 => s R56
  | 57 => s R57
  | 58 => s R58
  | 59 => s R59
  | 60 => s R60
  | 61 => s R61
  | 62 => s R62
  | 63 => s R63
  | 64 => s R64
  | 65 => s R65
  | 66 => s R66
  | 67 => s R67
  | 68 => s R68
  | 69 => s R69
  | 71 => s R71
  | 72 => s R72
  | 73 => s R73
  | 74 => s R74
  | 75 => s R75
  | 76 => s R76
  | 77 => s R77
  | 78 => s R78
  | 79 => s R79
  | 81 => s R81
  | 84 => s R84
  | 85 => s R85
  | 88 => s R88
  | 105 => s R105
  | 106 => s R106
  | 107 => s R107
  | 108 => s R108
  | 109 => s R109
  | 110 => s R110
  | 111 => s R111
  | 112 => s R112
  | 113 => s R113
  | 114 => s R114
  | 115 => s R115
  | 116 => s R116
  | 117 => s R117
  | 118 => s R118
  | 119 => s R119
  | 120 => s R120
  | 121 => s R121
  | 122 => s R122
  | 123 => s R123
  | 127 => s R127
  | 131 => s R131
  | 139 => s R139
  | 140 => s R140
  | 141 => s R141
  | 142 => s R142
  | 143 => s R143
  | 144 => s R144
  | 145 => s R145
  | 146 => s R146
  | 147 => s R147
  | 148 => s R148
  | 149 => s R149
  | 150 => s R150
  | 151 => s R151
  | 152 => s R152
  | 153 => s R153
  | 154 => s R154
  | 155 => s R155
  | 156 => s R156
  | 157 => s R157
  | 158 => s R158
  | 159 => s R159
  | 160 => s R160
  | 161 => s R161
  | 177 => s R177
  | 178 => s R178
  | 179 => s R179
  | 180 => s R180
  | 181 => s R181
  | 182 => s R182
  | 183 => s R183
  | 184 => s R184
  | 185 => s R185
  | 191 => s R191
  | 192 => s R192
  | 193 => s R193
  | 194 => s R194
  | 195 => s R195
  | 196 => s R196
  | 197 => s R197
  | 198 => s R198
  | 199 => s R199
  | 200 => s R200
  | 201 => s R201
  | 202 => s R202
  | 203 => s R203
  | 204 => s R204
  | 205 => s R205
  | 209 => s R209
  | 210 => s R210
  | 234 => s R234
  | 235 => s R235
  | 236 => s R236
  | 237 => s R237
  | 245 => s R245
  | 246 => s R246
  | 248 => s R248
  | 249 => s R249
  | 250 => s R250
  | _ => n
theorem tabOk : TabOk Tryz.prog tab := by
  intro g G h
  unfold tab at h
  split at h <;> try (cases h; done)
  · exact Eq.subst (motive := fun X => compileF Tryz.prog 4 X.iso = s X) (Option.some.inj h) c4
  · exact Eq.subst (motive := fun X => compileF Tryz.prog 9 X.iso = s X) (Option.some.inj h) c9
  · exact Eq.subst (motive := fun X => compileF Tryz.prog 10 X.iso = s X) (Option.some.inj h) c10
  · exact Eq.subst (motive := fun X => compileF Tryz.prog 11 X.iso = s X) (Option.some.inj h) c11
  · exact Eq.subst (motive := fun X => compileF Tryz.prog 13 X.iso = s X) (Option.some.inj h) c13
  · exact Eq.subst (motive := fun X => compileF Tryz.prog 14 X.iso = s X) (Option.some.inj h) c14
  · exact Eq.subst (motive := fun X => compileF Tryz.prog 15 X.iso = s X) (Option.some.inj h) c15
  · exact Eq.subst (motive := fun X => compileF Tryz.prog 26 X.iso = s X) (Option.some.inj h) c26
  · exact Eq.subst (motive := fun X => compileF Tryz.prog 27 X.iso = s X) (Option.some.inj h) c27
  · exact Eq.subst (motive := fun X => compileF Tryz.prog 28 X.iso = s X) (Option.some.inj h) c28
  · exact Eq.subst (motive := fun X => compileF Tryz.prog 29 X.iso = s X) (Option.some.inj h) c29
  · exact Eq.subst (motive := fun X => compileF Tryz.prog 31 X.iso = s X) (Option.some.inj h) c31
  · exact Eq.subst (motive := fun X => compileF Tryz.prog 32 X.iso = s X) (Option.some.inj h) c32
  · exact Eq.subst (motive := fun X => compileF Tryz.prog 34 X.iso = s X) (Option.some.inj h) c34
  · exact Eq.subst (motive := fun X => compileF Tryz.prog 38 X.iso = s X) (Option.some.inj h) c38
  · exact Eq.subst (motive := fun X => compileF Tryz.prog 39 X.iso = s X) (Option.some.inj h) c39
  · exact Eq.subst (motive := fun X => compileF Tryz.prog 46 X.iso = s X) (Option.some.inj h) c46
  · exact Eq.subst (motive := fun X => compileF Tryz.prog 48 X.iso = s X) (Option.some.inj h) c48
  · exact Eq.subst (motive := fun X => compileF Tryz.prog 55 X.iso = s X) (Option.some.inj h) c55
  · exact Eq.subst (motive := fun X => compileF Tryz.prog 56 X.iso = s X) (Option.some.inj h) c56
  · exact Eq.subst (motive := fun X => compileF Tryz.prog 57 X.iso = s X) (Option.some.inj h) c57
  · exact Eq.subst (motive := fun X => compileF Tryz.prog 58 X.iso = s X) (Option.some.inj h) c58
  · exact Eq.subst (motive := fun X => compileF Tryz.prog 59 X.iso = s X) (Option.some.inj h) c59
  · exact Eq.subst (motive := fun X => compileF Tryz.prog 60 X.iso = s X) (Option.some.inj h) c60
  · exact Eq.subst (motive := fun X => compileF Tryz.prog 61 X.iso = s X) (Option.some.inj h) c61
  · exact Eq.subst (motive := fun X => compileF Tryz.prog 62 X.iso = s X) (Option.some.inj h) c62
  · exact Eq.subst (motive := fun X => compileF Tryz.prog 63 X.iso = s X) (Option.some.inj h) c63
  · exact Eq.subst (motive := fun X => compileF Tryz.prog 64 X.iso = s X) (Option.some.inj h) c64
  · exact Eq.subst (motive := fun X => compileF Tryz.prog 65 X.iso = s X) (Option.some.inj h) c65
  · exact Eq.subst (motive := fun X => compileF Tryz.prog 66 X.iso = s X) (Option.some.inj h) c66
  · exact Eq.subst (motive := fun X => compileF Tryz.prog 67 X.iso = s X) (Option.some.inj h) c67
  · exact Eq.subst (motive := fun X => compileF Tryz.prog 68 X.iso = s X) (Option.some.inj h) c68
  · exact Eq.subst (motive := fun X => compileF Tryz.prog 69 X.iso = s X) (Option.some.inj h) c69
  · exact Eq.subst (motive := fun X => compileF Tryz.prog 71 X.iso = s X) (Option.some.inj h) c71
  · exact Eq.subst (motive := fun X => compileF Tryz.prog 72 X.iso = s X) (Option.some.inj h) c72
  · exact Eq.subst (motive := fun X => compileF Tryz.prog 73 X.iso = s X) (Option.some.inj h) c73
  · exact Eq.subst (motive := fun X => compileF Tryz.prog 74 X.iso = s X) (Option.some.inj h) c74
  · exact Eq.subst (motive := fun X => compileF Tryz.prog 75 X.iso = s X) (Option.some.inj h) c75
  · exact Eq.subst (motive := fun X => compileF Tryz.prog 76 X.iso = s X) (Option.some.inj h) c76
  · exact Eq.subst (motive := fun X => compileF Tryz.prog 77 X.iso = s X) (Option.some.inj h) c77
  · exact Eq.subst (motive := fun X => compileF Tryz.prog 78 X.iso = s X) (Option.some.inj h) c78
  · exact Eq.subst (motive := fun X => compileF Tryz.prog 79 X.iso = s X) (Option.some.inj h) c79
  · exact Eq.subst (motive := fun X => compileF Tryz.prog 81 X.iso = s X) (Option.some.inj h) c81
  · exact Eq.subst (motive := fun X => compileF Tryz.prog 84 X.iso = s X) (Option.some.inj h) c84
  · exact Eq.subst (motive := fun X => compileF Tryz.prog 85 X.iso = s X) (Option.some.inj h) c85
  · exact Eq.subst (motive := fun X => compileF Tryz.prog 88 X.iso = s X) (Option.some.inj h) c88
  · exact Eq.subst (motive := fun X => compileF Tryz.prog 105 X.iso = s X) (Option.some.inj h) c105
  · exact Eq.subst (motive := fun X => compileF Tryz.prog 106 X.iso = s X) (Option.some.inj h) c106
  · exact Eq.subst (motive := fun X => compileF Tryz.prog 107 X.iso = s X) (Option.some.inj h) c107
  · exact Eq.subst (motive := fun X => compileF Tryz.prog 108 X.iso = s X) (Option.some.inj h) c108
  · exact Eq.subst (motive := fun X => compileF Tryz.prog 109 X.iso = s X) (Option.some.inj h) c109
  · exact Eq.subst (motive := fun X => compileF Tryz.prog 110 X.iso = s X) (Option.some.inj h) c110
  · exact Eq.subst (motive := fun X => compileF Tryz.prog 111 X.iso = s X) (Option.some.inj h) c111
  · exact Eq.subst (motive := fun X => compileF Tryz.prog 112 X.iso = s X) (Option.some.inj h) c112
  · exact Eq.subst (motive := fun X => compileF Tryz.prog 113 X.iso = s X) (Option.some.inj h) c113
  · exact Eq.subst (motive := fun X => compileF Tryz.prog 114 X.iso = s X) (Option.some.inj h) c114
  · exact Eq.subst (motive := fun X => compileF Tryz.prog 115 X.iso = s X) (Option.some.inj h) c115
  · exact Eq.subst (motive := fun X => compileF Tryz.prog 116 X.iso = s X) (Option.some.inj h) c116
  · exact Eq.subst (motive := fun X => compileF Tryz.prog 117 X.iso = s X) (Option.some.inj h) c117
  · exact Eq.subst (motive := fun X => compileF Tryz.prog 118 X.iso = s X) (Option.some.inj h) c118
  · exact Eq.subst (motive := fun X => compileF Tryz.prog 119 X.iso = s X) (Option.some.inj h) c119
  · exact Eq.subst (motive := fun X => compileF Tryz.prog 120 X.iso = s X) (Option.some.inj h) c120
  · exact Eq.subst (motive := fun X => compileF Tryz.prog 121 X.iso = s X) (Option.some.inj h) c121
  · exact Eq.subst (motive := fun X => compileF Tryz.prog 122 X.iso = s X) (Option.some.inj h) c122
  · exact Eq.subst (motive := fun X => compileF Tryz.prog 123 X.iso = s X) (Option.some.inj h) c123
  · exact Eq.subst (motive := fun X => compileF Tryz.prog 127 X.iso = s X) (Option.some.inj h) c127
  · exact Eq.subst (motive := fun X => compileF Tryz.prog 131 X.iso = s X) (Option.some.inj h) c131
  · exact Eq.subst (motive := fun X => compileF Tryz.prog 139 X.iso = s X) (Option.some.inj h) c139
  · exact Eq.subst (motive := fun X => compileF Tryz.prog 140 X.iso = s X) (Option.some.inj h) c140
  · exact Eq.subst (motive := fun X => compileF Tryz.prog 141 X.iso = s X) (Option.some.inj h) c141
  · exact Eq.subst (motive := fun X => compileF Tryz.prog 142 X.iso = s X) (Option.some.inj h) c142
  · exact Eq.subst (motive := fun X => compileF Tryz.prog 143 X.iso = s X) (Option.some.inj h) c143
  · exact Eq.subst (motive := fun X => compileF Tryz.prog 144 X.iso = s X) (Option.some.inj h) c144
  · exact Eq.subst (motive := fun X => compileF Tryz.prog 145 X.iso = s X) (Option.some.inj h) c145
  · exact Eq.subst (motive := fun X => compileF Tryz.prog 146 X.iso = s X) (Option.some.inj h) c146
  · exact Eq.subst (motive := fun X => compileF Tryz.prog 147 X.iso = s X) (Option.some.inj h) c147
  · exact Eq.subst (motive := fun X => compileF Tryz.prog 148 X.iso = s X) (Option.some.inj h) c148
  · exact Eq.subst (motive := fun X => compileF Tryz.prog 149 X.iso = s X) (Option.some.inj h) c149
  · exact Eq.subst (motive := fun X => compileF Tryz.prog 150 X.iso = s X) (Option.some.inj h) c150
  · exact Eq.subst (motive := fun X => compileF Tryz.prog 151 X.iso = s X) (Option.some.inj h) c151
  · exact Eq.subst (motive := fun X => compileF Tryz.prog 152 X.iso = s X) (Option.some.inj h) c152
  · exact Eq.subst (motive := fun X => compileF Tryz.prog 153 X.iso = s X) (Option.some.inj h) c153
  · exact Eq.subst (motive := fun X => compileF Tryz.prog 154 X.iso = s X) (Option.some.inj h) c154
  · exact Eq.subst (motive := fun X => compileF Tryz.prog 155 X.iso = s X) (Option.some.inj h) c155
  · exact Eq.subst (motive := fun X => compileF Tryz.prog 156 X.iso = s X) (Option.some.inj h) c156
  · exact Eq.subst (motive := fun X => compileF Tryz.prog 157 X.iso = s X) (Option.some.inj h) c157
  · exact Eq.subst (motive := fun X => compileF Tryz.prog 158 X.iso = s X) (Option.some.inj h) c158
  · exact Eq.subst (motive := fun X => compileF Tryz.prog 159 X.iso = s X) (Option.some.inj h) c159
  · exact Eq.subst (motive := fun X => compileF Tryz.prog 160 X.iso = s X) (Option.some.inj h) c160
  · exact Eq.subst (motive := fun X => compileF Tryz.prog 161 X.iso = s X) (Option.some.inj h) c161
  · exact Eq.subst (motive := fun X => compileF Tryz.prog 177 X.iso = s X) (Option.some.inj h) c177
  · exact Eq.subst (motive := fun X => compileF Tryz.prog 178 X.iso = s X) (Option.some.inj h) c178
  · exact Eq.subst (motive := fun X => compileF Tryz.prog 179 X.iso = s X) (Option.some.inj h) c179
  · exact Eq.subst (motive := fun X => compileF Tryz.prog 180 X.iso = s X) (Option.some.inj h) c180
  · exact Eq.subst (motive := fun X => compileF Tryz.prog 181 X.iso = s X) (Option.some.inj h) c181
  · exact Eq.subst (motive := fun X => compileF Tryz.prog 182 X.iso = s X) (Option.some.inj h) c182
  · exact Eq.subst (motive := fun X => compileF Tryz.prog 183 X.iso = s X) (Option.some.inj h) c183
  · exact Eq.subst (motive := fun X => compileF Tryz.prog 184 X.iso = s X) (Option.some.inj h) c184
  · exact Eq.subst (motive := fun X => compileF Tryz.prog 185 X.iso = s X) (Option.some.inj h) c185
  · exact Eq.subst (motive := fun X => compileF Tryz.prog 191 X.iso = s X) (Option.some.inj h) c191
  · exact Eq.subst (motive := fun X => compileF Tryz.prog 192 X.iso = s X) (Option.some.inj h) c192
  · exact Eq.subst (motive := fun X => compileF Tryz.prog 193 X.iso = s X) (Option.some.inj h) c193
  · exact Eq.subst (motive := fun X => compileF Tryz.prog 194 X.iso = s X) (Option.some.inj h) c194
  · exact Eq.subst (motive := fun X => compileF Tryz.prog 195 X.iso = s X) (Option.some.inj h) c195
  · exact Eq.subst (motive := fun X => compileF Tryz.prog 196 X.iso = s X) (Option.some.inj h) c196
  · exact Eq.subst (motive := fun X => compileF Tryz.prog 197 X.iso = s X) (Option.some.inj h) c197
  · exact Eq.subst (motive := fun X => compileF Tryz.prog 198 X.iso = s X) (Option.some.inj h) c198
  · exact Eq.subst (motive := fun X => compileF Tryz.prog 199 X.iso = s X) (Option.some.inj h) c199
  · exact Eq.subst (motive := fun X => compileF Tryz.prog 200 X.iso = s X) (Option.some.inj h) c200
  · exact Eq.subst (motive := fun X => compileF Tryz.prog 201 X.iso = s X) (Option.some.inj h) c201
  · exact Eq.subst (motive := fun X => compileF Tryz.prog 202 X.iso = s X) (Option.some.inj h) c202
  · exact Eq.subst (motive := fun X => compileF Tryz.prog 203 X.iso = s X) (Option.some.inj h) c203
  · exact Eq.subst (motive := fun X => compileF Tryz.prog 204 X.iso = s X) (Option.some.inj h) c204
  · exact Eq.subst (motive := fun X => compileF Tryz.prog 205 X.iso = s X) (Option.some.inj h) c205
  · exact Eq.subst (motive := fun X => compileF Tryz.prog 209 X.iso = s X) (Option.some.inj h) c209
  · exact Eq.subst (motive := fun X => compileF Tryz.prog 210 X.iso = s X) (Option.some.inj h) c210
  · exact Eq.subst (motive := fun X => compileF Tryz.prog 234 X.iso = s X) (Option.some.inj h) c234
  · exact Eq.subst (motive := fun X => compileF Tryz.prog 235 X.iso = s X) (Option.some.inj h) c235
  · exact Eq.subst (motive := fun X => compileF Tryz.prog 236 X.iso = s X) (Option.some.inj h) c236
  · exact Eq.subst (motive := fun X => compileF Tryz.prog 237 X.iso = s X) (Option.some.inj h) c237
  · exact Eq.subst (motive := fun X => compileF Tryz.prog 245 X.iso = s X) (Option.some.inj h) c245
  · exact Eq.subst (motive := fun X => compileF Tryz.prog 246 X.iso = s X) (Option.some.inj h) c246
  · exact Eq.subst (motive := fun X => compileF Tryz.prog 248 X.iso = s X) (Option.some.inj h) c248
  · exact Eq.subst (motive := fun X => compileF Tryz.prog 249 X.iso = s X) (Option.some.inj h) c249
  · exact Eq.subst (motive := fun X => compileF Tryz.prog 250 X.iso = s X) (Option.some.inj h) c250
theorem enter4 (h : Heap) (R : Value → Heap → Prop) (v0 v1 v2 : Value) : Ret tab 4 [v0,v1,v2] h R = Ok tab R4 [.code B4] #[v0,v1,v2,u,u,u,u,u,u,u,u,u,u,u,u,u,u,u,u,u,u,u,u,u,u,u,u,u,u,u,u,u,u,u,u,u,u,u,u,u,u,u,u,u,u,u,u,u,u,u,u,u,u,u,u] h R :=
  (ret_eq rfl rfl).trans (by rw [env4]; rfl)
theorem enter9 (h : Heap) (R : Value → Heap → Prop) (v0 v1 : Value) : Ret tab 9 [v0,v1] h R = Ok tab R9 [.code B9] #[v0,v1,u,u,u,u,u,u,u,u,u,u,u,u,u,u,u,u,u,u,u,u,u,u,u,u,u,u,u,u,u,u,u,u,u,u,u,u,u,u,u,u,u] h R :=
  (ret_eq rfl rfl).trans (by rw [env9]; rfl)
theorem enter10 (h : Heap) (R : Value → Heap → Prop) : Ret tab 10 [] h R = Ok tab R10 [.code B10] #[u,u,u,u,u,u,u,u,u,u,u,u,u,u,u,u,u,u,u,u,u,u,u,u,u,u,u,u,u,u,u,u,u,u,u,u,u,u,u,u,u,u,u,u,u,u,u,u,u,u,u,u,u,u,u,u,u,u,u,u,u,u,u,u,u,u,u,u] h R :=
  (ret_eq rfl rfl).trans (by rw [env10]; rfl)
theorem enter11 (h : Heap) (R : Value → Heap → Prop) (v0 v1 v2 v3 v4 v5 : Value) : Ret tab 11 [v0,v1,v2,v3,v4,v5] h R = Ok tab R11 [.code B11] #[v0,v1,v2,v3,v4,v5,u,u,u,u,u,u,u,u,u,u,u,u,u,u,u,u,u,u,u,u,u,u,u,u,u,u,u,u,u,u,u,u,u,u,u,u,u,u,u,u,u,u,u,u,u,u,u] h R :=
  (ret_eq rfl rfl).trans (by rw [env11]; rfl)
theorem enter13 (h : Heap) (R : Value → Heap → Prop) (v0 v1 : Value) : Ret tab 13 [v0,v1] h R = Ok tab R13 [.code B13] #[v0,v1,u,u,u,u,u,u,u,u,u,u,u,u,u,u,u,u,u,u,u,u,u,u,u,u] h R :=
  (ret_eq rfl rfl).trans (by rw [env13]; rfl)
theorem enter14 (h : Heap) (R : Value → Heap → Prop) (v0 v1 v2 v3 v4 v5 : Value) : Ret tab 14 [v0,v1,v2,v3,v4,v5] h R = Ok tab R14 [.code B14] #[v0,v1,v2,v3,v4,v5,u,u,u,u,u,u,u,u,u,u,u,u,u,u,u,u,u,u,u,u,u,u,u,u,u,u,u,u,u,u,u,u,u,u,u,u,u,u,u] h R :=
  (ret_eq rfl rfl).trans (by rw [env14]; rfl)
theorem enter15 (h : Heap) (R : Value → Heap → Prop) (v0 v1 v2 v3 v4 v5 : Value) : Ret tab 15 [v0,v1,v2,v3,v4,v5] h R = Ok tab R15 [.code B15] #[v0,v1,v2,v3,v4,v5,u,u,u,u,u,u,u,u,u,u,u,u,u,u,u,u,u,u,u,u,u,u,u,u,u,u,u,u,u,u,u,u,u,u,u,u,u,u,u,u,u,u,u,u,u,u,u,u,u,u,u,u,u,u,u,u,u,u,u,u,u,u,u,u,u,u,u,u,u,u,u,u,u,u,u,u,u,u,u,u,u,u,u,u,u,u,u,u,u,u,u,u,u,u,u,u,u,u,u,u,u,u,u,u,u,u,u,u,u,u] h R :=
  (ret_eq rfl rfl).trans (by rw [env15]; rfl)
theorem enter26 (h : Heap) (R : Value → Heap → Prop) (v0 v1 v2 v3 v4 v5 : Value) : Ret tab 26 [v0,v1,v2,v3,v4,v5] h R = Ok tab R26 [.code B26] #[v0,v1,v2,v3,v4,v5,u,u,u,u,u,u,u,u,u,u,u,u,u,u,u,u,u,u,u,u,u,u,u,u,u,u,u,u,u,u,u,u,u,u,u,u,u,u,u,u,u,u,u,u,u] h R :=
  (ret_eq rfl rfl).trans (by rw [env26]; rfl)
theorem enter27 (h : Heap) (R : Value → Heap → Prop) (v0 v1 v2 v3 v4 v5 : Value) : Ret tab 27 [v0,v1,v2,v3,v4,v5] h R = Ok tab R27 [.code B27] #[v0,v1,v2,v3,v4,v5,u,u,u,u,u,u,u,u,u,u,u,u,u,u,u,u,u,u,u,u,u,u,u,u,u,u,u,u,u,u,u,u,u,u,u,u,u,u,u,u,u,u,u,u,u,u,u,u,u,u,u,u,u,u,u,u,u,u,u,u,u,u,u,u,u,u,u,u,u,u,u,u,u,u,u,u,u,u,u,u,u,u,u,u,u,u,u,u,u,u,u,u,u,u,u,u,u,u,u,u,u,u,u,u,u,u,u,u,u,u,u,u,u,u,u,u,u,u,u,u,u,u,u,u,u] h R :=
  (ret_eq rfl rfl).trans (by rw [env27]; rfl)
theorem enter28 (h : Heap) (R : Value → Heap → Prop) (v0 v1 v2 v3 v4 v5 : Value) : Ret tab 28 [v0,v1,v2,v3,v4,v5] h R = Ok tab R28 [.code B28] #[v0,v1,v2,v3,v4,v5,u,u,u,u,u,u,u,u,u,u,u,u,u,u,u,u,u,u,u,u,u,u,u,u,u,u,u,u,u,u,u,u,u,u,u,u,u,u,u,u,u,u,u,u,u,u,u,u,u,u,u,u,u,u,u,u,u,u,u,u,u,u,u,u,u,u,u,u,u,u,u,u,u,u,u,u,u,u,u,u,u,u,u,u,u,u,u,u,u,u,u,u,u,u,u,u,u,u,u,u,u,u,u,u,u,u,u,u,u,u,u,u,u,u,u,u,u,u,u,u,u,u,u,u,u,u,u,u,u,u,u,u,u,u,u,u,u,u,u] h R :=
  (ret_eq rfl rfl).trans (by rw [env28]; rfl)
theorem enter29 (h : Heap) (R : Value → Heap → Prop) (v0 v1 v2 v3 v4 v5 : Value) : Ret tab 29 [v0,v1,v2,v3,v4,v5] h R = Ok tab R29 [.code B29] #[v0,v1,v2,v3,v4,v5,u,u,u,u,u,u,u,u,u,u,u,u,u,u,u,u,u,u,u,u,u,u,u,u,u,u,u] h R :=
  (ret_eq rfl rfl).trans (by rw [env29]; rfl)
theorem enter31 (h : Heap) (R : Value → Heap → Prop) (v0 v1 v2 v3 v4 v5 : Value) : Ret tab 31 [v0,v1,v2,v3,v4,v5] h R = Ok tab R31 [.code B31] #[v0,v1,v2,v3,v4,v5,u,u,u,u,u,u,u,u,u,u,u,u,u,u,u,u,u,u,u,u,u,u,u,u,u,u,u,u,u,u,u,u,u,u,u,u,u,u,u,u,u,u,u,u,u,u,u,u,u,u,u,u,u,u,u,u,u,u,u,u,u,u,u,u,u,u,u,u,u,u,u,u,u,u,u,u,u,u,u,u,u,u,u,u,u,u,u,u,u,u,u,u,u,u,u,u,u,u,u,u,u,u,u,u,u,u,u,u,u] h R :=
  (ret_eq rfl rfl).trans (by rw [env31]; rfl)
theorem enter32 (h : Heap) (R : Value → Heap → Prop) (v0 : Value) : Ret tab 32 [v0] h R = (belowL h.length [v0] = true ∧ Ok tab R32 [.code B32] #[v0,u,u,u,u,u,u,u,u,u,u,u,u,u,u] (frz h) fun v _ => below h.length v = true ∧ R v h) :=
  (ret_rd rfl rfl).trans (by rw [env32]; rfl)
theorem enter34 (h : Heap) (R : Value → Heap → Prop) (v0 v1 : Value) : Ret tab 34 [v0,v1] h R = Ok tab R34 [.code B34] #[v0,v1,u,u,u,u,u,u,u,u,u,u,u,u,u,u,u,u,u,u,u,u,u,u,u,u,u,u,u,u,u,u,u,u,u,u,u,u,u,u,u,u,u,u,u,u] h R :=
  (ret_eq rfl rfl).trans (by rw [env34]; rfl)
theorem enter38 (h : Heap) (R : Value → Heap → Prop) (v0 v1 : Value) : Ret tab 38 [v0,v1] h R = Ok tab R38 [.code B38] #[v0,v1,u,u,u,u,u,u,u,u,u,u,u,u,u,u,u,u,u,u,u,u,u,u,u,u,u,u,u,u,u,u,u,u,u,u,u,u,u,u,u,u,u] h R :=
  (ret_eq rfl rfl).trans (by rw [env38]; rfl)
theorem enter39 (h : Heap) (R : Value → Heap → Prop) (v0 v1 : Value) : Ret tab 39 [v0,v1] h R = (belowL h.length [v0,v1] = true ∧ Ok tab R39 [.code B39] #[v0,v1,u,u,u,u,u,u,u,u,u,u,u,u,u,u,u,u,u,u,u,u,u,u,u] (frz h) fun v _ => below h.length v = true ∧ R v h) :=
  (ret_rd rfl rfl).trans (by rw [env39]; rfl)
theorem enter46 (h : Heap) (R : Value → Heap → Prop) (v0 v1 : Value) : Ret tab 46 [v0,v1] h R = Ok tab R46 [.code B46] #[v0,v1,u,u,u,u,u,u,u,u,u,u,u,u,u,u,u,u,u,u,u,u,u,u,u,u,u,u,u,u,u,u,u,u,u,u,u,u,u,u,u,u,u,u,u] h R :=
  (ret_eq rfl rfl).trans (by rw [env46]; rfl)
theorem enter48 (h : Heap) (R : Value → Heap → Prop) (v0 v1 : Value) : Ret tab 48 [v0,v1] h R = (belowL h.length [v0,v1] = true ∧ Ok tab R48 [.code B48] #[v0,v1,u,u,u,u,u,u,u,u,u,u,u,u,u,u,u,u,u,u,u,u] (frz h) fun v _ => below h.length v = true ∧ R v h) :=
  (ret_rd rfl rfl).trans (by rw [env48]; rfl)
theorem enter55 (h : Heap) (R : Value → Heap → Prop) (v0 v1 : Value) : Ret tab 55 [v0,v1] h R = Ok tab R55 [.code B55] #[v0,v1,u,u,u,u,u,u,u,u,u,u,u,u,u,u,u,u] h R :=
  (ret_eq rfl rfl).trans (by rw [env55]; rfl)
theorem enter56 (h : Heap) (R : Value → Heap → Prop) (v0 : Value) : Ret tab 56 [v0] h R = Ok tab R56 [.code B56] #[v0,u,u,u,u,u,u,u,u,u,u,u,u,u] h R :=
  (ret_eq rfl rfl).trans (by rw [env56]; rfl)
theorem enter57 (h : Heap) (R : Value → Heap → Prop) (v0 : Value) : Ret tab 57 [v0] h R = Ok tab R57 [.code B57] #[v0,u,u,u,u,u,u,u] h R :=
  (ret_eq rfl rfl).trans (by rw [env57]; rfl)
theorem enter58 (h : Heap) (R : Value → Heap → Prop) (v0 v1 : Value) : Ret tab 58 [v0,v1] h R = Ok tab R58 [.code B58] #[v0,v1,u,u,u,u,u,u,u,u,u,u,u,u,u,u,u,u,u,u,u,u,u,u,u,u,u,u,u,u,u,u,u,u,u,u,u,u,u,u,u,u,u,u,u,u,u] h R :=
  (ret_eq rfl rfl).trans (by rw [env58]; rfl)
theorem enter59 (h : Heap) (R : Value → Heap → Prop) (v0 : Value) : Ret tab 59 [v0] h R = Ok tab R59 [.code B59] #[v0,u,u,u,u,u,u,u] h R :=
  (ret_eq rfl rfl).trans (by rw [env59]; rfl)
theorem enter60 (h : Heap) (R : Value → Heap → Prop) (v0 v1 v2 v3 v4 v5 : Value) : Ret tab 60 [v0,v1,v2,v3,v4,v5] h R = Ok tab R60 [.code B60] #[v0,v1,v2,v3,v4,v5,u,u,u,u,u,u,u,u,u,u,u,u,u,u,u,u,u,u,u,u,u,u,u,u,u,u,u,u,u,u,u,u,u,u,u,u,u,u,u,u,u,u,u,u,u,u,u,u,u,u,u,u,u,u,u,u,u,u,u,u,u,u,u,u,u,u,u,u,u,u,u,u,u,u,u,u,u,u,u,u,u,u] h R :=
  (ret_eq rfl rfl).trans (by rw [env60]; rfl)
theorem enter61 (h : Heap) (R : Value → Heap → Prop) (v0 v1 v2 : Value) : Ret tab 61 [v0,v1,v2] h R = Ok tab R61 [.code B61] #[v0,v1,v2,u,u,u,u,u,u,u,u,u,u,u,u,u] h R :=
  (ret_eq rfl rfl).trans (by rw [env61]; rfl)
theorem enter62 (h : Heap) (R : Value → Heap → Prop) (v0 : Value) : Ret tab 62 [v0] h R = (belowL h.length [v0] = true ∧ Ok tab R62 [.code B62] #[v0,u,u,u,u,u,u,u,u,u,u,u,u,u,u] (frz h) fun v _ => below h.length v = true ∧ R v h) :=
  (ret_rd rfl rfl).trans (by rw [env62]; rfl)
theorem enter63 (h : Heap) (R : Value → Heap → Prop) (v0 v1 : Value) : Ret tab 63 [v0,v1] h R = Ok tab R63 [.code B63] #[v0,v1,u,u,u,u,u,u,u,u,u,u,u,u,u,u,u,u,u,u,u,u,u,u,u,u,u,u,u,u,u,u,u,u,u,u,u,u,u,u,u,u,u,u,u,u,u,u,u,u,u,u,u,u,u,u,u,u,u,u,u,u,u,u,u,u] h R :=
  (ret_eq rfl rfl).trans (by rw [env63]; rfl)
theorem enter64 (h : Heap) (R : Value → Heap → Prop) (v0 v1 v2 : Value) : Ret tab 64 [v0,v1,v2] h R = (belowL h.length [v0,v1,v2] = true ∧ Ok tab R64 [.code B64] #[v0,v1,v2,u,u,u,u,u,u,u,u,u,u,u,u,u,u,u] (frz h) fun v _ => below h.length v = true ∧ R v h) :=
  (ret_rd rfl rfl).trans (by rw [env64]; rfl)
theorem enter65 (h : Heap) (R : Value → Heap → Prop) (v0 v1 v2 : Value) : Ret tab 65 [v0,v1,v2] h R = (belowL h.length [v0,v1,v2] = true ∧ Ok tab R65 [.code B65] #[v0,v1,v2,u,u,u,u,u,u,u,u,u,u,u,u,u,u,u,u,u] (frz h) fun v _ => below h.length v = true ∧ R v h) :=
  (ret_rd rfl rfl).trans (by rw [env65]; rfl)
theorem enter66 (h : Heap) (R : Value → Heap → Prop) (v0 v1 : Value) : Ret tab 66 [v0,v1] h R = Ok tab R66 [.code B66] #[v0,v1,u,u,u,u,u,u,u,u,u,u,u,u,u,u,u,u,u,u,u,u,u,u,u,u,u,u,u,u,u,u,u,u,u,u,u,u,u,u,u,u,u,u,u,u,u,u,u,u,u,u] h R :=
  (ret_eq rfl rfl).trans (by rw [env66]; rfl)
theorem enter67 (h : Heap) (R : Value → Heap → Prop) (v0 v1 v2 : Value) : Ret tab 67 [v0,v1,v2] h R = Ok tab R67 [.code B67] #[v0,v1,v2,u,u,u,u,u,u,u,u,u,u,u,u,u,u,u,u,u,u,u,u,u,u,u,u] h R :=
  (ret_eq rfl rfl).trans (by rw [env67]; rfl)
theorem enter68 (h : Heap) (R : Value → Heap → Prop) (v0 : Value) : Ret tab 68 [v0] h R = (belowL h.length [v0] = true ∧ Ok tab R68 [.code B68] #[v0,u,u,u,u,u,u,u,u] (frz h) fun v _ => below h.length v = true ∧ R v h) :=
  (ret_rd rfl rfl).trans (by rw [env68]; rfl)
theorem enter69 (h : Heap) (R : Value → Heap → Prop) (v0 v1 : Value) : Ret tab 69 [v0,v1] h R = Ok tab R69 [.code B69] #[v0,v1,u,u,u,u,u,u,u,u,u,u,u,u,u,u,u,u] h R :=
  (ret_eq rfl rfl).trans (by rw [env69]; rfl)
theorem enter71 (h : Heap) (R : Value → Heap → Prop) (v0 v1 v2 : Value) : Ret tab 71 [v0,v1,v2] h R = (belowL h.length [v0,v1,v2] = true ∧ Ok tab R71 [.code B71] #[v0,v1,v2,u,u,u,u,u,u,u,u,u] (frz h) fun v _ => below h.length v = true ∧ R v h) :=
  (ret_rd rfl rfl).trans (by rw [env71]; rfl)
theorem enter72 (h : Heap) (R : Value → Heap → Prop) (v0 v1 v2 : Value) : Ret tab 72 [v0,v1,v2] h R = (belowL h.length [v0,v1,v2] = true ∧ Ok tab R72 [.code B72] #[v0,v1,v2,u,u,u,u,u,u,u,u,u] (frz h) fun v _ => below h.length v = true ∧ R v h) :=
  (ret_rd rfl rfl).trans (by rw [env72]; rfl)
theorem enter73 (h : Heap) (R : Value → Heap → Prop) (v0 : Value) : Ret tab 73 [v0] h R = Ok tab R73 [.code B73] #[v0,u,u,u,u,u,u,u,u,u,u,u,u,u] h R :=
  (ret_eq rfl rfl).trans (by rw [env73]; rfl)
theorem enter74 (h : Heap) (R : Value → Heap → Prop) (v0 : Value) : Ret tab 74 [v0] h R = Ok tab R74 [.code B74] #[v0,u,u,u,u,u,u,u] h R :=
  (ret_eq rfl rfl).trans (by rw [env74]; rfl)
theorem enter75 (h : Heap) (R : Value → Heap → Prop) (v0 v1 : Value) : Ret tab 75 [v0,v1] h R = Ok tab R75 [.code B75] #[v0,v1,u,u,u,u,u,u,u,u,u,u,u,u,u,u,u,u,u,u,u,u,u,u,u,u,u,u,u,u,u,u,u,u,u,u,u,u,u,u,u,u,u,u,u,u,u,u,u,u,u,u,u,u,u,u,u] h R :=
  (ret_eq rfl rfl).trans (by rw [env75]; rfl)
theorem enter76 (h : Heap) (R : Value → Heap → Prop) (v0 : Value) : Ret tab 76 [v0] h R = Ok tab R76 [.code B76] #[v0,u,u,u,u,u,u,u,u,u,u,u,u] h R :=
  (ret_eq rfl rfl).trans (by rw [env76]; rfl)
theorem enter77 (h : Heap) (R : Value → Heap → Prop) (v0 v1 v2 v3 v4 v5 : Value) : Ret tab 77 [v0,v1,v2,v3,v4,v5] h R = Ok tab R77 [.code B77] #[v0,v1,v2,v3,v4,v5,u,u,u,u,u,u,u,u,u,u,u,u,u,u,u,u,u,u,u,u,u,u,u,u,u,u,u,u,u,u,u,u,u,u,u,u,u,u,u,u,u,u,u,u,u,u,u,u,u,u,u,u,u,u,u,u,u,u,u,u,u,u,u,u,u,u,u,u,u,u,u,u,u,u,u,u,u,u,u] h R :=
  (ret_eq rfl rfl).trans (by rw [env77]; rfl)
theorem enter78 (h : Heap) (R : Value → Heap → Prop) (v0 v1 : Value) : Ret tab 78 [v0,v1] h R = (belowL h.length [v0,v1] = true ∧ Ok tab R78 [.code B78] #[v0,v1,u,u,u,u,u,u,u,u,u,u,u,u,u,u,u,u] (frz h) fun v _ => below h.length v = true ∧ R v h) :=
  (ret_rd rfl rfl).trans (by rw [env78]; rfl)
theorem enter79 (h : Heap) (R : Value → Heap → Prop) (v0 v1 v2 v3 : Value) : Ret tab 79 [v0,v1,v2,v3] h R = Ok tab R79 [.code B79] #[v0,v1,v2,v3,u,u,u,u,u,u,u,u,u,u,u,u,u,u,u,u,u,u,u,u,u,u,u,u] h R :=
  (ret_eq rfl rfl).trans (by rw [env79]; rfl)
theorem enter81 (h : Heap) (R : Value → Heap → Prop) (v0 : Value) : Ret tab 81 [v0] h R = Ok tab R81 [.code B81] #[v0,u,u,u,u,u,u,u,u] h R :=
  (ret_eq rfl rfl).trans (by rw [env81]; rfl)
theorem enter84 (h : Heap) (R : Value → Heap → Prop) (v0 : Value) : Ret tab 84 [v0] h R = Ok tab R84 [.code B84] #[v0,u,u,u,u,u,u,u,u,u,u,u,u,u,u,u,u,u] h R :=
  (ret_eq rfl rfl).trans (by rw [env84]; rfl)
theorem enter85 (h : Heap) (R : Value → Heap → Prop) (v0 v1 v2 v3 : Value) : Ret tab 85 [v0,v1,v2,v3] h R = Ok tab R85 [.code B85] #[v0,v1,v2,v3,u,u,u,u,u,u,u,u,u,u,u,u,u,u,u,u,u,u,u,u,u,u,u,u,u,u,u,u,u,u,u,u,u,u] h R :=
  (ret_eq rfl rfl).trans (by rw [env85]; rfl)
theorem enter88 (h : Heap) (R : Value → Heap → Prop) (v0 : Value) : Ret tab 88 [v0] h R = Ok tab R88 [.code B88] #[v0,u,u,u,u,u,u,u,u,u,u,u,u,u,u] h R :=
  (ret_eq rfl rfl).trans (by rw [env88]; rfl)
theorem enter105 (h : Heap) (R : Value → Heap → Prop) (v0 v1 : Value) : Ret tab 105 [v0,v1] h R = (belowL h.length [v0,v1] = true ∧ Ok tab R105 [.code B105] #[v0,v1,u,u,u,u,u,u,u,u,u,u,u,u,u,u,u,u,u] (frz h) fun v _ => below h.length v = true ∧ R v h) :=
  (ret_rd rfl rfl).trans (by rw [env105]; rfl)
theorem enter106 (h : Heap) (R : Value → Heap → Prop) (v0 : Value) : Ret tab 106 [v0] h R = Ok tab R106 [.code B106] #[v0,u,u,u,u,u,u,u,u,u,u,u,u,u] h R :=
  (ret_eq rfl rfl).trans (by rw [env106]; rfl)
theorem enter107 (h : Heap) (R : Value → Heap → Prop) (v0 : Value) : Ret tab 107 [v0] h R = Ok tab R107 [.code B107] #[v0,u,u,u,u,u,u,u,u,u,u,u,u,u,u,u,u,u,u,u,u,u,u,u,u,u,u,u,u,u,u,u] h R :=
  (ret_eq rfl rfl).trans (by rw [env107]; rfl)
theorem enter108 (h : Heap) (R : Value → Heap → Prop) (v0 : Value) : Ret tab 108 [v0] h R = (belowL h.length [v0] = true ∧ Ok tab R108 [.code B108] #[v0,u,u,u,u,u,u,u,u,u,u,u,u,u] (frz h) fun v _ => below h.length v = true ∧ R v h) :=
  (ret_rd rfl rfl).trans (by rw [env108]; rfl)
theorem enter109 (h : Heap) (R : Value → Heap → Prop) (v0 v1 v2 : Value) : Ret tab 109 [v0,v1,v2] h R = Ok tab R109 [.code B109] #[v0,v1,v2,u,u,u,u,u,u,u,u,u,u] h R :=
  (ret_eq rfl rfl).trans (by rw [env109]; rfl)
theorem enter110 (h : Heap) (R : Value → Heap → Prop) (v0 : Value) : Ret tab 110 [v0] h R = Ok tab R110 [.code B110] #[v0,u,u,u,u,u,u,u,u,u,u,u,u,u,u,u,u,u,u,u,u,u,u,u,u,u,u,u,u,u,u,u,u,u,u,u,u,u,u,u,u,u,u,u,u,u,u,u,u,u,u,u] h R :=
  (ret_eq rfl rfl).trans (by rw [env110]; rfl)
theorem enter111 (h : Heap) (R : Value → Heap → Prop) (v0 : Value) : Ret tab 111 [v0] h R = Ok tab R111 [.code B111] #[v0,u,u,u,u,u,u,u,u,u,u,u,u,u,u,u,u,u,u,u,u,u,u,u,u,u,u,u,u,u,u,u,u,u,u,u,u,u,u,u,u,u,u,u,u,u,u,u,u,u,u,u,u,u,u,u,u,u,u,u,u,u,u,u,u,u,u,u,u,u,u,u,u,u,u,u,u,u,u,u,u,u,u,u,u,u,u] h R :=
  (ret_eq rfl rfl).trans (by rw [env111]; rfl)
theorem enter112 (h : Heap) (R : Value → Heap → Prop) (v0 v1 : Value) : Ret tab 112 [v0,v1] h R = Ok tab R112 [.code B112] #[v0,v1,u,u,u,u,u,u,u,u,u,u,u,u,u,u,u,u,u,u,u,u,u,u,u,u,u,u,u,u,u,u,u,u,u,u,u,u,u,u,u,u,u,u,u,u,u,u,u,u,u,u,u,u,u,u,u,u,u,u,u,u,u,u,u,u,u,u,u,u,u,u,u,u,u,u,u,u,u,u,u,u,u,u,u,u,u,u,u,u,u,u,u,u,u,u,u,u,u,u,u,u,u,u,u,u,u,u,u,u,u,u,u,u,u,u,u,u,u,u,u,u,u,u,u,u,u,u,u,u,u,u,u,u,u,u,u,u,u] h R :=
  (ret_eq rfl rfl).trans (by rw [env112]; rfl)
theorem enter113 (h : Heap) (R : Value → Heap → Prop) (v0 v1 v2 : Value) : Ret tab 113 [v0,v1,v2] h R = (belowL h.length [v0,v1,v2] = true ∧ Ok tab R113 [.code B113] #[v0,v1,v2,u,u,u,u,u,u,u,u,u,u,u,u,u,u,u,u,u,u,u,u,u,u,u,u,u,u,u,u,u,u,u,u,u,u,u,u,u,u,u,u,u,u,u] (frz h) fun v _ => below h.length v = true ∧ R v h) :=
  (ret_rd rfl rfl).trans (by rw [env113]; rfl)
theorem enter114 (h : Heap) (R : Value → Heap → Prop) (v0 v1 : Value) : Ret tab 114 [v0,v1] h R = (belowL h.length [v0,v1] = true ∧ Ok tab R114 [.code B114] #[v0,v1,u,u,u,u,u,u,u,u,u,u,u,u,u,u,u,u,u] (frz h) fun v _ => below h.length v = true ∧ R v h) :=
  (ret_rd rfl rfl).trans (by rw [env114]; rfl)
theorem enter115 (h : Heap) (R : Value → Heap → Prop) (v0 v1 v2 : Value) : Ret tab 115 [v0,v1,v2] h R = (belowL h.length [v0,v1,v2] = true ∧ Ok tab R115 [.code B115] #[v0,v1,v2,u,u,u,u,u,u,u,u,u,u,u,u,u,u,u,u,u,u,u,u,u,u,u,u] (frz h) fun v _ => below h.length v = true ∧ R v h) :=
  (ret_rd rfl rfl).trans (by rw [env115]; rfl)
theorem enter116 (h : Heap) (R : Value → Heap → Prop) (v0 : Value) : Ret tab 116 [v0] h R = Ok tab R116 [.code B116] #[v0,u,u,u,u,u,u,u,u,u,u,u,u,u,u,u,u,u,u,u,u,u,u,u,u,u,u,u,u,u,u,u] h R :=
  (ret_eq rfl rfl).trans (by rw [env116]; rfl)
theorem enter117 (h : Heap) (R : Value → Heap → Prop) (v0 : Value) : Ret tab 117 [v0] h R = (belowL h.length [v0] = true ∧ Ok tab R117 [.code B117] #[v0,u,u,u,u,u,u,u,u,u,u,u,u,u,u] (frz h) fun v _ => below h.length v = true ∧ R v h) :=
  (ret_rd rfl rfl).trans (by rw [env117]; rfl)
theorem enter118 (h : Heap) (R : Value → Heap → Prop) (v0 v1 : Value) : Ret tab 118 [v0,v1] h R = Ok tab R118 [.code B118] #[v0,v1,u,u,u,u,u,u,u,u,u,u,u,u,u,u,u,u,u,u,u,u,u,u,u,u,u,u,u,u,u,u,u,u,u,u,u,u,u] h R :=
  (ret_eq rfl rfl).trans (by rw [env118]; rfl)
theorem enter119 (h : Heap) (R : Value → Heap → Prop) (v0 v1 : Value) : Ret tab 119 [v0,v1] h R = Ok tab R119 [.code B119] #[v0,v1,u,u,u,u,u,u,u,u,u,u,u,u,u,u,u,u,u,u,u,u,u,u,u,u,u,u,u,u,u,u,u,u,u,u,u,u,u,u,u,u,u,u,u,u,u] h R :=
  (ret_eq rfl rfl).trans (by rw [env119]; rfl)
theorem enter120 (h : Heap) (R : Value → Heap → Prop) (v0 v1 : Value) : Ret tab 120 [v0,v1] h R = Ok tab R120 [.code B120] #[v0,v1,u,u,u,u,u,u,u,u,u,u,u,u,u,u,u,u,u,u,u,u,u,u,u,u,u,u,u,u,u,u,u,u,u,u,u,u,u,u,u,u,u,u,u,u,u,u,u,u,u,u,u,u,u,u,u,u,u,u,u,u,u,u,u,u,u,u,u,u,u,u,u,u,u,u,u,u,u,u,u,u,u,u,u,u,u,u,u,u,u,u,u,u,u,u,u,u,u,u,u,u,u,u,u,u,u,u,u,u,u,u,u,u,u,u,u,u,u] h R :=
  (ret_eq rfl rfl).trans (by rw [env120]; rfl)
theorem enter121 (h : Heap) (R : Value → Heap → Prop) (v0 v1 v2 : Value) : Ret tab 121 [v0,v1,v2] h R = Ok tab R121 [.code B121] #[v0,v1,v2,u,u,u,u,u,u,u,u,u,u,u,u,u,u,u,u,u,u,u,u,u,u,u,u,u,u,u,u,u,u,u,u,u,u,u,u,u,u,u,u,u,u,u,u,u,u,u,u,u,u,u,u,u,u,u,u,u,u,u,u,u,u,u,u,u,u,u,u,u,u,u,u,u,u,u,u,u,u,u,u,u,u,u,u,u,u,u,u,u,u,u,u,u,u,u,u] h R :=
  (ret_eq rfl rfl).trans (by rw [env121]; rfl)
theorem enter122 (h : Heap) (R : Value → Heap → Prop) (v0 : Value) : Ret tab 122 [v0] h R = (belowL h.length [v0] = true ∧ Ok tab R122 [.code B122] #[v0,u,u,u,u,u,u,u,u,u,u,u,u] (frz h) fun v _ => below h.length v = true ∧ R v h) :=
  (ret_rd rfl rfl).trans (by rw [env122]; rfl)
theorem enter123 (h : Heap) (R : Value → Heap → Prop) (v0 v1 v2 v3 : Value) : Ret tab 123 [v0,v1,v2,v3] h R = Ok tab R123 [.code B123] #[v0,v1,v2,v3,u,u,u,u,u,u,u,u,u,u,u,u] h R :=
  (ret_eq rfl rfl).trans (by rw [env123]; rfl)
theorem enter127 (h : Heap) (R : Value → Heap → Prop) (v0 v1 v2 : Value) : Ret tab 127 [v0,v1,v2] h R = (belowL h.length [v0,v1,v2] = true ∧ Ok tab R127 [.code B127] #[v0,v1,v2,u,u,u,u,u,u,u,u,u,u,u,u] (frz h) fun v _ => below h.length v = true ∧ R v h) :=
  (ret_rd rfl rfl).trans (by rw [env127]; rfl)
theorem enter131 (h : Heap) (R : Value → Heap → Prop) (v0 v1 : Value) : Ret tab 131 [v0,v1] h R = Ok tab R131 [.code B131] #[v0,v1,u,u,u,u,u,u,u,u,u,u,u,u,u,u,u,u,u,u,u,u,u,u,u] h R :=
  (ret_eq rfl rfl).trans (by rw [env131]; rfl)
theorem enter139 (h : Heap) (R : Value → Heap → Prop) (v0 v1 : Value) : Ret tab 139 [v0,v1] h R = Ok tab R139 [.code B139] #[v0,v1,u,u,u,u,u,u,u,u,u,u,u,u,u,u,u,u,u,u,u,u,u,u,u,u,u,u,u,u,u,u,u,u,u,u,u,u,u,u,u,u,u] h R :=
  (ret_eq rfl rfl).trans (by rw [env139]; rfl)
theorem enter140 (h : Heap) (R : Value → Heap → Prop) (v0 v1 v2 : Value) : Ret tab 140 [v0,v1,v2] h R = (belowL h.length [v0,v1,v2] = true ∧ Ok tab R140 [.code B140] #[v0,v1,v2,u,u,u,u,u,u,u,u,u,u,u,u,u,u,u,u,u] (frz h) fun v _ => below h.length v = true ∧ R v h) :=
  (ret_rd rfl rfl).trans (by rw [env140]; rfl)
theorem enter141 (h : Heap) (R : Value → Heap → Prop) (v0 v1 v2 : Value) : Ret tab 141 [v0,v1,v2] h R = (belowL h.length [v0,v1,v2] = true ∧ Ok tab R141 [.code B141] #[v0,v1,v2,u,u,u,u,u,u,u,u,u,u,u,u,u,u,u,u,u,u,u,u,u,u,u,u,u,u,u,u] (frz h) fun v _ => below h.length v = true ∧ R v h) :=
  (ret_rd rfl rfl).trans (by rw [env141]; rfl)
theorem enter142 (h : Heap) (R : Value → Heap → Prop) (v0 v1 v2 : Value) : Ret tab 142 [v0,v1,v2] h R = Ok tab R142 [.code B142] #[v0,v1,v2,u,u,u,u,u,u,u,u,u,u,u,u,u,u,u,u,u,u,u,u,u,u,u,u,u,u,u,u,u,u,u,u,u,u,u,u,u,u,u] h R :=
  (ret_eq rfl rfl).trans (by rw [env142]; rfl)
theorem enter143 (h : Heap) (R : Value → Heap → Prop) (v0 v1 v2 v3 : Value) : Ret tab 143 [v0,v1,v2,v3] h R = Ok tab R143 [.code B143] #[v0,v1,v2,v3,u,u,u,u,u,u,u,u,u,u,u,u,u,u,u,u,u,u] h R :=
  (ret_eq rfl rfl).trans (by rw [env143]; rfl)
theorem enter144 (h : Heap) (R : Value → Heap → Prop) (v0 v1 : Value) : Ret tab 144 [v0,v1] h R = (belowL h.length [v0,v1] = true ∧ Ok tab R144 [.code B144] #[v0,v1,u,u,u,u,u,u,u,u] (frz h) fun v _ => below h.length v = true ∧ R v h) :=
  (ret_rd rfl rfl).trans (by rw [env144]; rfl)
theorem enter145 (h : Heap) (R : Value → Heap → Prop) (v0 v1 v2 : Value) : Ret tab 145 [v0,v1,v2] h R = (belowL h.length [v0,v1,v2] = true ∧ Ok tab R145 [.code B145] #[v0,v1,v2,u,u,u,u,u,u,u,u,u,u,u,u,u,u,u,u,u] (frz h) fun v _ => below h.length v = true ∧ R v h) :=
  (ret_rd rfl rfl).trans (by rw [env145]; rfl)
theorem enter146 (h : Heap) (R : Value → Heap → Prop) (v0 v1 v2 : Value) : Ret tab 146 [v0,v1,v2] h R = Ok tab R146 [.code B146] #[v0,v1,v2,u,u,u,u,u,u,u,u,u,u,u,u,u,u,u,u,u,u,u,u,u,u,u,u,u,u,u,u,u,u,u,u,u,u,u,u,u,u,u,u,u,u] h R :=
  (ret_eq rfl rfl).trans (by rw [env146]; rfl)
theorem enter147 (h : Heap) (R : Value → Heap → Prop) (v0 v1 v2 : Value) : Ret tab 147 [v0,v1,v2] h R = Ok tab R147 [.code B147] #[v0,v1,v2,u,u,u,u,u,u,u,u,u,u,u,u,u,u,u,u] h R :=
  (ret_eq rfl rfl).trans (by rw [env147]; rfl)
theorem enter148 (h : Heap) (R : Value → Heap → Prop) (v0 v1 v2 : Value) : Ret tab 148 [v0,v1,v2] h R = (belowL h.length [v0,v1,v2] = true ∧ Ok tab R148 [.code B148] #[v0,v1,v2,u,u,u,u,u,u,u,u,u,u,u,u,u,u,u,u,u,u,u,u,u,u,u,u,u,u,u,u,u,u,u,u,u,u,u,u,u,u,u,u,u] (frz h) fun v _ => below h.length v = true ∧ R v h) :=
  (ret_rd rfl rfl).trans (by rw [env148]; rfl)
theorem enter149 (h : Heap) (R : Value → Heap → Prop) (v0 v1 v2 : Value) : Ret tab 149 [v0,v1,v2] h R = Ok tab R149 [.code B149] #[v0,v1,v2,u,u,u,u,u,u,u,u,u,u,u,u,u,u,u,u,u,u,u,u,u,u,u,u,u,u,u,u,u,u,u,u,u,u,u,u,u,u,u,u,u,u,u,u,u,u,u,u,u,u,u,u,u,u,u,u,u,u,u] h R :=
  (ret_eq rfl rfl).trans (by rw [env149]; rfl)
theorem enter150 (h : Heap) (R : Value → Heap → Prop) (v0 v1 v2 : Value) : Ret tab 150 [v0,v1,v2] h R = (belowL h.length [v0,v1,v2] = true ∧ Ok tab R150 [.code B150] #[v0,v1,v2,u,u,u,u,u,u,u,u,u,u,u,u,u,u,u,u,u,u,u,u,u,u,u,u,u,u,u,u,u,u] (frz h) fun v _ => below h.length v = true ∧ R v h) :=
  (ret_rd rfl rfl).trans (by rw [env150]; rfl)
theorem enter151 (h : Heap) (R : Value → Heap → Prop) (v0 : Value) : Ret tab 151 [v0] h R = (belowL h.length [v0] = true ∧ Ok tab R151 [.code B151] #[v0,u,u,u,u,u,u,u,u,u,u,u,u] (frz h) fun v _ => below h.length v = true ∧ R v h) :=
  (ret_rd rfl rfl).trans (by rw [env151]; rfl)
theorem enter152 (h : Heap) (R : Value → Heap → Prop) (v0 v1 v2 : Value) : Ret tab 152 [v0,v1,v2] h R = (belowL h.length [v0,v1,v2] = true ∧ Ok tab R152 [.code B152] #[v0,v1,v2,u,u,u,u,u,u,u,u,u] (frz h) fun v _ => below h.length v = true ∧ R v h) :=
  (ret_rd rfl rfl).trans (by rw [env152]; rfl)
theorem enter153 (h : Heap) (R : Value → Heap → Prop) (v0 v1 v2 : Value) : Ret tab 153 [v0,v1,v2] h R = (belowL h.length [v0,v1,v2] = true ∧ Ok tab R153 [.code B153] #[v0,v1,v2,u,u,u,u,u,u,u,u,u,u,u,u,u,u,u,u,u,u,u,u,u,u,u,u,u,u,u,u] (frz h) fun v _ => below h.length v = true ∧ R v h) :=
  (ret_rd rfl rfl).trans (by rw [env153]; rfl)
theorem enter154 (h : Heap) (R : Value → Heap → Prop) (v0 v1 v2 : Value) : Ret tab 154 [v0,v1,v2] h R = Ok tab R154 [.code B154] #[v0,v1,v2,u,u,u,u,u,u,u,u,u,u,u,u,u,u,u,u,u,u,u,u,u,u,u,u,u,u,u,u,u,u,u,u,u,u,u,u,u] h R :=
  (ret_eq rfl rfl).trans (by rw [env154]; rfl)
theorem enter155 (h : Heap) (R : Value → Heap → Prop) (v0 v1 v2 v3 : Value) : Ret tab 155 [v0,v1,v2,v3] h R = Ok tab R155 [.code B155] #[v0,v1,v2,v3,u,u,u,u,u,u,u,u,u,u,u,u,u,u,u,u,u,u,u,u,u,u,u,u,u,u,u,u] h R :=
  (ret_eq rfl rfl).trans (by rw [env155]; rfl)
theorem enter156 (h : Heap) (R : Value → Heap → Prop) (v0 v1 : Value) : Ret tab 156 [v0,v1] h R = Ok tab R156 [.code B156] #[v0,v1,u,u,u,u,u,u,u,u,u,u,u,u,u,u] h R :=
  (ret_eq rfl rfl).trans (by rw [env156]; rfl)
theorem enter157 (h : Heap) (R : Value → Heap → Prop) (v0 v1 : Value) : Ret tab 157 [v0,v1] h R = (belowL h.length [v0,v1] = true ∧ Ok tab R157 [.code B157] #[v0,v1,u,u,u,u,u,u] (frz h) fun v _ => below h.length v = true ∧ R v h) :=
  (ret_rd rfl rfl).trans (by rw [env157]; rfl)
theorem enter158 (h : Heap) (R : Value → Heap → Prop) (v0 v1 v2 : Value) : Ret tab 158 [v0,v1,v2] h R = (belowL h.length [v0,v1,v2] = true ∧ Ok tab R158 [.code B158] #[v0,v1,v2,u,u,u,u,u,u,u,u,u] (frz h) fun v _ => below h.length v = true ∧ R v h) :=
  (ret_rd rfl rfl).trans (by rw [env158]; rfl)
theorem enter159 (h : Heap) (R : Value → Heap → Prop) (v0 v1 v2 : Value) : Ret tab 159 [v0,v1,v2] h R = Ok tab R159 [.code B159] #[v0,v1,v2,u,u,u,u,u,u,u,u,u,u,u,u,u,u,u,u,u,u,u,u,u,u,u,u,u,u] h R :=
  (ret_eq rfl rfl).trans (by rw [env159]; rfl)
theorem enter160 (h : Heap) (R : Value → Heap → Prop) (v0 v1 v2 v3 : Value) : Ret tab 160 [v0,v1,v2,v3] h R = (belowL h.length [v0,v1,v2,v3] = true ∧ Ok tab R160 [.code B160] #[v0,v1,v2,v3,u,u,u,u,u,u,u,u,u,u,u,u,u,u,u,u,u,u,u,u,u,u,u,u,u,u,u,u,u,u,u,u,u,u,u,u,u,u,u,u,u,u,u,u,u,u,u,u] (frz h) fun v _ => below h.length v = true ∧ R v h) :=
  (ret_rd rfl rfl).trans (by rw [env160]; rfl)
theorem enter161 (h : Heap) (R : Value → Heap → Prop) (v0 v1 v2 : Value) : Ret tab 161 [v0,v1,v2] h R = Ok tab R161 [.code B161] #[v0,v1,v2,u,u,u,u,u,u,u,u,u,u,u,u,u,u,u,u,u,u,u,u,u,u,u] h R :=
  (ret_eq rfl rfl).trans (by rw [env161]; rfl)
theorem enter177 (h : Heap) (R : Value → Heap → Prop) (v0 v1 v2 v3 : Value) : Ret tab 177 [v0,v1,v2,v3] h R = (belowL h.length [v0,v1,v2,v3] = true ∧ Ok tab R177 [.code B177] #[v0,v1,v2,v3,u,u,u,u,u,u,u,u,u,u,u,u,u,u,u,u,u,u,u,u,u,u,u,u,u,u,u,u,u,u,u,u,u,u,u,u,u,u,u,u,u,u,u,u,u,u,u,u,u,u,u,u,u,u,u,u,u,u,u,u,u,u,u,u,u,u,u,u,u,u,u,u,u] (frz h) fun v _ => below h.length v = true ∧ R v h) :=
  (ret_rd rfl rfl).trans (by rw [env177]; rfl)
theorem enter178 (h : Heap) (R : Value → Heap → Prop) (v0 v1 v2 v3 : Value) : Ret tab 178 [v0,v1,v2,v3] h R = (belowL h.length [v0,v1,v2,v3] = true ∧ Ok tab R178 [.code B178] #[v0,v1,v2,v3,u,u,u,u,u,u,u,u,u,u,u,u,u,u,u,u,u,u,u,u,u,u,u,u,u,u,u,u,u,u,u,u] (frz h) fun v _ => below h.length v = true ∧ R v h) :=
  (ret_rd rfl rfl).trans (by rw [env178]; rfl)
theorem enter179 (h : Heap) (R : Value → Heap → Prop) (v0 v1 : Value) : Ret tab 179 [v0,v1] h R = (belowL h.length [v0,v1] = true ∧ Ok tab R179 [.code B179] #[v0,v1,u,u,u,u,u,u,u,u,u,u,u,u,u,u,u,u,u,u,u,u,u,u,u,u,u,u,u,u,u,u,u,u,u,u,u] (frz h) fun v _ => below h.length v = true ∧ R v h) :=
  (ret_rd rfl rfl).trans (by rw [env179]; rfl)
theorem enter180 (h : Heap) (R : Value → Heap → Prop) (v0 v1 v2 v3 : Value) : Ret tab 180 [v0,v1,v2,v3] h R = (belowL h.length [v0,v1,v2,v3] = true ∧ Ok tab R180 [.code B180] #[v0,v1,v2,v3,u,u,u,u,u,u,u,u,u,u,u,u,u,u,u,u,u,u,u,u,u,u,u,u,u,u,u,u,u,u,u,u,u,u,u,u,u,u,u,u,u,u] (frz h) fun v _ => below h.length v = true ∧ R v h) :=
  (ret_rd rfl rfl).trans (by rw [env180]; rfl)
theorem enter181 (h : Heap) (R : Value → Heap → Prop) (v0 v1 v2 : Value) : Ret tab 181 [v0,v1,v2] h R = Ok tab R181 [.code B181] #[v0,v1,v2,u,u,u,u,u,u,u,u,u,u,u,u,u,u,u,u] h R :=
  (ret_eq rfl rfl).trans (by rw [env181]; rfl)
theorem enter182 (h : Heap) (R : Value → Heap → Prop) (v0 v1 v2 v3 : Value) : Ret tab 182 [v0,v1,v2,v3] h R = (belowL h.length [v0,v1,v2,v3] = true ∧ Ok tab R182 [.code B182] #[v0,v1,v2,v3,u,u,u,u,u,u,u,u,u,u,u,u,u,u,u,u,u,u,u,u,u,u,u,u,u,u,u,u,u,u,u,u,u,u,u,u,u,u,u,u,u,u,u,u,u,u,u,u,u,u,u,u,u,u,u,u,u,u,u,u,u,u,u,u,u,u,u,u,u,u,u,u,u] (frz h) fun v _ => below h.length v = true ∧ R v h) :=
  (ret_rd rfl rfl).trans (by rw [env182]; rfl)
theorem enter183 (h : Heap) (R : Value → Heap → Prop) (v0 v1 v2 v3 : Value) : Ret tab 183 [v0,v1,v2,v3] h R = (belowL h.length [v0,v1,v2,v3] = true ∧ Ok tab R183 [.code B183] #[v0,v1,v2,v3,u,u,u,u,u,u,u,u,u,u,u,u,u,u,u,u,u,u,u,u,u,u,u,u,u,u,u,u,u,u,u] (frz h) fun v _ => below h.length v = true ∧ R v h) :=
  (ret_rd rfl rfl).trans (by rw [env183]; rfl)
theorem enter184 (h : Heap) (R : Value → Heap → Prop) (v0 v1 v2 : Value) : Ret tab 184 [v0,v1,v2] h R = Ok tab R184 [.code B184] #[v0,v1,v2,u,u,u,u,u,u,u,u,u,u,u,u,u,u,u,u,u,u,u,u,u,u,u,u,u,u,u,u,u,u,u,u,u,u,u,u,u,u,u,u,u,u,u,u,u,u,u,u,u,u,u,u,u,u,u,u,u,u,u,u,u,u,u,u,u,u,u,u,u,u,u,u] h R :=
  (ret_eq rfl rfl).trans (by rw [env184]; rfl)
theorem enter185 (h : Heap) (R : Value → Heap → Prop) (v0 v1 : Value) : Ret tab 185 [v0,v1] h R = Ok tab R185 [.code B185] #[v0,v1,u,u,u,u,u,u,u,u,u,u,u,u,u,u,u,u,u,u,u,u,u,u,u,u,u,u,u,u,u,u,u,u,u,u,u,u,u,u,u,u,u,u,u,u,u,u,u,u,u,u,u,u,u,u,u,u,u,u,u,u,u,u,u,u,u,u,u,u,u,u,u,u,u,u] h R :=
  (ret_eq rfl rfl).trans (by rw [env185]; rfl)
theorem enter191 (h : Heap) (R : Value → Heap → Prop) (v0 v1 v2 : Value) : Ret tab 191 [v0,v1,v2] h R = (belowL h.length [v0,v1,v2] = true ∧ Ok tab R191 [.code B191] #[v0,v1,v2,u,u,u,u,u,u,u,u] (frz h) fun v _ => below h.length v = true ∧ R v h) :=
  (ret_rd rfl rfl).trans (by rw [env191]; rfl)
theorem enter192 (h : Heap) (R : Value → Heap → Prop) (v0 v1 v2 : Value) : Ret tab 192 [v0,v1,v2] h R = (belowL h.length [v0,v1,v2] = true ∧ Ok tab R192 [.code B192] #[v0,v1,v2,u,u,u,u,u,u,u,u,u] (frz h) fun v _ => below h.length v = true ∧ R v h) :=
  (ret_rd rfl rfl).trans (by rw [env192]; rfl)
theorem enter193 (h : Heap) (R : Value → Heap → Prop) (v0 v1 : Value) : Ret tab 193 [v0,v1] h R = (belowL h.length [v0,v1] = true ∧ Ok tab R193 [.code B193] #[v0,v1,u,u,u,u,u,u,u,u,u,u,u,u,u,u,u,u] (frz h) fun v _ => below h.length v = true ∧ R v h) :=
  (ret_rd rfl rfl).trans (by rw [env193]; rfl)
theorem enter194 (h : Heap) (R : Value → Heap → Prop) (v0 v1 v2 : Value) : Ret tab 194 [v0,v1,v2] h R = (belowL h.length [v0,v1,v2] = true ∧ Ok tab R194 [.code B194] #[v0,v1,v2,u,u,u,u,u,u,u,u,u,u,u,u,u,u,u,u,u,u,u,u,u,u,u,u,u,u,u] (frz h) fun v _ => below h.length v = true ∧ R v h) :=
  (ret_rd rfl rfl).trans (by rw [env194]; rfl)
theorem enter195 (h : Heap) (R : Value → Heap → Prop) (v0 v1 v2 : Value) : Ret tab 195 [v0,v1,v2] h R = (belowL h.length [v0,v1,v2] = true ∧ Ok tab R195 [.code B195] #[v0,v1,v2,u,u,u,u,u,u,u,u,u,u,u,u,u,u,u,u,u,u,u,u,u,u,u] (frz h) fun v _ => below h.length v = true ∧ R v h) :=
  (ret_rd rfl rfl).trans (by rw [env195]; rfl)
theorem enter196 (h : Heap) (R : Value → Heap → Prop) (v0 v1 : Value) : Ret tab 196 [v0,v1] h R = (belowL h.length [v0,v1] = true ∧ Ok tab R196 [.code B196] #[v0,v1,u,u,u,u,u,u,u,u] (frz h) fun v _ => below h.length v = true ∧ R v h) :=
  (ret_rd rfl rfl).trans (by rw [env196]; rfl)
theorem enter197 (h : Heap) (R : Value → Heap → Prop) (v0 v1 v2 : Value) : Ret tab 197 [v0,v1,v2] h R = (belowL h.length [v0,v1,v2] = true ∧ Ok tab R197 [.code B197] #[v0,v1,v2,u,u,u,u,u,u,u,u,u] (frz h) fun v _ => below h.length v = true ∧ R v h) :=
  (ret_rd rfl rfl).trans (by rw [env197]; rfl)
theorem enter198 (h : Heap) (R : Value → Heap → Prop) (v0 v1 v2 : Value) : Ret tab 198 [v0,v1,v2] h R = (belowL h.length [v0,v1,v2] = true ∧ Ok tab R198 [.code B198] #[v0,v1,v2,u,u,u,u,u,u,u,u,u] (frz h) fun v _ => below h.length v = true ∧ R v h) :=
  (ret_rd rfl rfl).trans (by rw [env198]; rfl)
theorem enter199 (h : Heap) (R : Value → Heap → Prop) (v0 v1 : Value) : Ret tab 199 [v0,v1] h R = (belowL h.length [v0,v1] = true ∧ Ok tab R199 [.code B199] #[v0,v1,u,u,u,u,u,u,u,u,u,u,u,u,u,u,u] (frz h) fun v _ => below h.length v = true ∧ R v h) :=
  (ret_rd rfl rfl).trans (by rw [env199]; rfl)
theorem enter200 (h : Heap) (R : Value → Heap → Prop) (v0 v1 v2 : Value) : Ret tab 200 [v0,v1,v2] h R = (belowL h.length [v0,v1,v2] = true ∧ Ok tab R200 [.code B200] #[v0,v1,v2,u,u,u,u,u,u,u,u,u,u,u,u,u,u,u,u,u,u] (frz h) fun v _ => below h.length v = true ∧ R v h) :=
  (ret_rd rfl rfl).trans (by rw [env200]; rfl)
theorem enter201 (h : Heap) (R : Value → Heap → Prop) (v0 v1 v2 v3 : Value) : Ret tab 201 [v0,v1,v2,v3] h R = (belowL h.length [v0,v1,v2,v3] = true ∧ Ok tab R201 [.code B201] #[v0,v1,v2,v3,u,u,u,u,u,u,u,u,u,u,u,u,u,u,u,u,u,u,u,u,u,u,u,u,u,u,u,u,u,u,u,u,u,u,u,u,u,u,u,u,u] (frz h) fun v _ => below h.length v = true ∧ R v h) :=
  (ret_rd rfl rfl).trans (by rw [env201]; rfl)
theorem enter202 (h : Heap) (R : Value → Heap → Prop) (v0 v1 : Value) : Ret tab 202 [v0,v1] h R = (belowL h.length [v0,v1] = true ∧ Ok tab R202 [.code B202] #[v0,v1,u,u,u,u,u,u,u,u,u,u,u,u,u,u,u,u,u,u,u,u,u,u,u,u,u,u,u,u,u,u,u,u,u,u,u,u] (frz h) fun v _ => below h.length v = true ∧ R v h) :=
  (ret_rd rfl rfl).trans (by rw [env202]; rfl)
theorem enter203 (h : Heap) (R : Value → Heap → Prop) (v0 v1 v2 : Value) : Ret tab 203 [v0,v1,v2] h R = Ok tab R203 [.code B203] #[v0,v1,v2,u,u,u,u,u,u,u,u,u,u,u,u,u,u,u,u,u,u,u,u,u,u,u,u,u,u] h R :=
  (ret_eq rfl rfl).trans (by rw [env203]; rfl)
theorem enter204 (h : Heap) (R : Value → Heap → Prop) (v0 v1 : Value) : Ret tab 204 [v0,v1] h R = Ok tab R204 [.code B204] #[v0,v1,u,u,u,u,u,u,u,u,u,u,u,u,u,u,u,u,u,u,u,u,u,u,u,u,u,u,u,u,u,u,u,u,u,u,u,u,u,u,u,u,u,u,u,u,u,u,u,u,u,u,u,u,u,u,u,u,u,u,u,u,u,u,u,u,u,u,u,u,u,u,u,u,u,u,u,u,u,u,u,u,u,u,u,u,u,u,u,u,u,u,u,u,u,u,u,u,u,u,u,u,u,u,u,u,u,u,u] h R :=
  (ret_eq rfl rfl).trans (by rw [env204]; rfl)
theorem enter205 (h : Heap) (R : Value → Heap → Prop) (v0 : Value) : Ret tab 205 [v0] h R = Ok tab R205 [.code B205] #[v0,u,u,u,u,u,u,u,u,u,u,u,u,u,u,u,u,u,u,u,u,u,u,u,u,u,u,u,u,u,u,u,u,u,u,u,u,u,u,u,u,u,u,u,u,u] h R :=
  (ret_eq rfl rfl).trans (by rw [env205]; rfl)
theorem enter209 (h : Heap) (R : Value → Heap → Prop) (v0 v1 v2 : Value) : Ret tab 209 [v0,v1,v2] h R = (belowL h.length [v0,v1,v2] = true ∧ Ok tab R209 [.code B209] #[v0,v1,v2,u,u,u,u,u,u,u,u,u,u,u,u,u,u,u] (frz h) fun v _ => below h.length v = true ∧ R v h) :=
  (ret_rd rfl rfl).trans (by rw [env209]; rfl)
theorem enter210 (h : Heap) (R : Value → Heap → Prop) (v0 v1 : Value) : Ret tab 210 [v0,v1] h R = (belowL h.length [v0,v1] = true ∧ Ok tab R210 [.code B210] #[v0,v1,u,u,u,u,u,u,u,u,u,u,u,u,u,u,u,u,u,u,u] (frz h) fun v _ => below h.length v = true ∧ R v h) :=
  (ret_rd rfl rfl).trans (by rw [env210]; rfl)
theorem enter234 (h : Heap) (R : Value → Heap → Prop) (v0 v1 : Value) : Ret tab 234 [v0,v1] h R = Ok tab R234 [.code B234] #[v0,v1,u,u,u,u,u,u,u,u,u,u,u,u,u,u] h R :=
  (ret_eq rfl rfl).trans (by rw [env234]; rfl)
theorem enter235 (h : Heap) (R : Value → Heap → Prop) (v0 v1 v2 : Value) : Ret tab 235 [v0,v1,v2] h R = Ok tab R235 [.code B235] #[v0,v1,v2,u,u,u,u,u,u,u,u,u,u,u,u,u,u] h R :=
  (ret_eq rfl rfl).trans (by rw [env235]; rfl)
theorem enter236 (h : Heap) (R : Value → Heap → Prop) (v0 v1 v2 : Value) : Ret tab 236 [v0,v1,v2] h R = Ok tab R236 [.code B236] #[v0,v1,v2,u,u,u,u,u,u,u,u,u,u,u,u,u,u,u,u,u,u] h R :=
  (ret_eq rfl rfl).trans (by rw [env236]; rfl)
theorem enter237 (h : Heap) (R : Value → Heap → Prop) (v0 v1 : Value) : Ret tab 237 [v0,v1] h R = Ok tab R237 [.code B237] #[v0,v1,u,u,u,u,u,u,u,u,u,u,u,u,u,u,u,u,u,u,u,u,u,u,u] h R :=
  (ret_eq rfl rfl).trans (by rw [env237]; rfl)
theorem enter245 (h : Heap) (R : Value → Heap → Prop) (v0 v1 : Value) : Ret tab 245 [v0,v1] h R = Ok tab R245 [.code B245] #[v0,v1,u,u,u,u,u,u,u,u,u,u,u,u,u] h R :=
  (ret_eq rfl rfl).trans (by rw [env245]; rfl)
theorem enter246 (h : Heap) (R : Value → Heap → Prop) (v0 v1 : Value) : Ret tab 246 [v0,v1] h R = Ok tab R246 [.code B246] #[v0,v1,u,u,u,u,u,u,u,u,u,u,u,u,u,u,u,u,u,u,u,u,u,u,u,u,u,u,u,u,u,u,u,u,u,u,u,u,u,u,u,u,u,u,u,u,u,u,u,u,u,u,u,u,u,u,u,u,u,u,u,u,u,u,u,u,u,u,u,u,u,u,u,u,u,u,u,u,u,u,u,u,u,u,u,u,u,u,u] h R :=
  (ret_eq rfl rfl).trans (by rw [env246]; rfl)
theorem enter248 (h : Heap) (R : Value → Heap → Prop) (v0 v1 : Value) : Ret tab 248 [v0,v1] h R = Ok tab R248 [.code B248] #[v0,v1,u,u,u,u,u,u] h R :=
  (ret_eq rfl rfl).trans (by rw [env248]; rfl)
theorem enter249 (h : Heap) (R : Value → Heap → Prop) (v0 : Value) : Ret tab 249 [v0] h R = Ok tab R249 [.code B249] #[v0,u,u,u,u,u,u,u,u,u,u,u,u,u,u,u,u] h R :=
  (ret_eq rfl rfl).trans (by rw [env249]; rfl)
theorem enter250 (h : Heap) (R : Value → Heap → Prop) (v0 : Value) : Ret tab 250 [v0] h R = Ok tab R250 [.code B250] #[v0,u,u,u,u,u,u,u,u,u,u,u,u,u,u,u,u,u,u,u,u,u,u,u,u,u,u,u,u,u,u,u,u,u,u,u,u,u] h R :=
  (ret_eq rfl rfl).trans (by rw [env250]; rfl)
end Go.Proofs.YtjpjohchdfoeaaaGreat
