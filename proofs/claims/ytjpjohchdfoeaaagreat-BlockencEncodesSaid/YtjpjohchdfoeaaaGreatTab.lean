/-
  The table of the functions, resolved: it is the program's. Laid by program (gentab.py).
-/
import Derived.Test.YtjpjohchdfoeaaaGreatTabA
import Derived.Test.YtjpjohchdfoeaaaGreatTabB
namespace Go.Proofs.YtjpjohchdfoeaaaGreat
open Go Go.Sim
open Go.Operand renaming tmp → t,const → c,func → w
open Go.Sim.ROp renaming mov → m,bin → b,load → l,fieldAddr → f,call → z,nilCheck → y,pick → p,extract → x
open Go.Sim.RCode renaming seq → q,region → r,cond → d,skip → o
open Go.Value renaming int → i
open Go.IntKind renaming i64 → j
open Option renaming none → n,some → s
open Go renaming undef → u
variable {T : Tab} {F : RFunc} {k : List RItem} {e : Env} {h : Heap} {R : Value → Heap → Prop}
def tab : Tab := fun g => match g with
  | 5 => s R5
  | 16 => s R16
  | 17 => s R17
  | 18 => s R18
  | 19 => s R19
  | 32 => s R32
  | 33 => s R33
  | 34 => s R34
  | 35 => s R35
  | 36 => s R36
  | 37 => s R37
  | 38 => s R38
  | 39 => s R39
  | 40 => s R40
  | 41 => s R41
  | 42 => s R42
  | 43 => s R43
  | 44 => s R44
  | 45 => s R45
  | 46 => s R46
  | 47 => s R47
  | 48 => s R48
  | 55 => s R55
  | 62 => s R62
  | 64 => s R64
  | 65 => s R65
  | 68 => s R68
  | 69 => s R69
  | 71 => s R71
  | 72 => s R72
  | 78 => s R78
  | 79 => s R79
  | 80 => s R80
  | 81 => s R81
  | 82 => s R82
  | 83 => s R83
  | 84 => s R84
  | 85 => s R85
  | 86 => s R86
  | 87 => s R87
  | 88 => s R88
  | 89 => s R89
  | 90 => s R90
  | 91 => s R91
  | 92 => s R92
  | 93 => s R93
  | 94 => s R94
  | 95 => s R95
  | 96 => s R96
  | 97 => s R97
  | 105 => s R105
  | 108 => s R108
  | 113 => s R113
  | 114 => s R114
  | 115 => s R115
  | 117 => s R117
  | 118 => s R118
  | 122 => s R122
  | 123 => s R123
  | 124 => s R124
  | 125 => s R125
  | 126 => s R126
  | 127 => s R127
  | 128 => s R128
  | 129 => s R129
  | 130 => s R130
  | 131 => s R131
  | 132 => s R132
  | 139 => s R139
  | 140 => s R140
  | 143 => s R143
  | 144 => s R144
  | 145 => s R145
  | 147 => s R147
  | 150 => s R150
  | 151 => s R151
  | 152 => s R152
  | 155 => s R155
  | 157 => s R157
  | 158 => s R158
  | 159 => s R159
  | 162 => s R162
  | 163 => s R163
  | 164 => s R164
  | 165 => s R165
  | 166 => s R166
  | 167 => s R167
  | 168 => s R168
  | 169 => s R169
  | 170 => s R170
  | 171 => s R171
  | 172 => s R172
  | 177 => s R177
  | 178 => s R178
  | 179 => s R179
  | 180 => s R180
  | 181 => s R181
  | 182 => s R182
  | 183 => s R183
  | 186 => s R186
  | 187 => s R187
  | 191 => s R191
  | 192 => s R192
  | 193 => s R193
  | 194 => s R194
  | 195 => s R195
  | 196 => s R196
  | 197 => s R197
  | 198 => s R198
  | 199 => s R199
  | 200 => s R200
  | 201 => s R201
  | 202 => s R202
  | 203 => s R203
  | 209 => s R209
  | 210 => s R210
  | 226 => s R226
  | 227 => s R227
  | 228 => s R228
  | 229 => s R229
  | 230 => s R230
  | 231 => s R231
  | 232 => s R232
  | 233 => s R233
  | 234 => s R234
  | 235 => s R235
  | 236 => s R236
  | 237 => s R237
  | 238 => s R238
  | 239 => s R239
  | 240 => s R240
  | 241 => s R241
  | 242 => s R242
  | 243 => s R243
  | 244 => s R244
  | _ => n
theorem tabOk : TabOk Tryz.prog tab := by
  intro g G h
  unfold tab at h
  split at h <;> try (cases h; done)
  · exact Eq.subst (motive := fun X => compileF Tryz.prog 5 X.iso = s X) (Option.some.inj h) c5
  · exact Eq.subst (motive := fun X => compileF Tryz.prog 16 X.iso = s X) (Option.some.inj h) c16
  · exact Eq.subst (motive := fun X => compileF Tryz.prog 17 X.iso = s X) (Option.some.inj h) c17
  · exact Eq.subst (motive := fun X => compileF Tryz.prog 18 X.iso = s X) (Option.some.inj h) c18
  · exact Eq.subst (motive := fun X => compileF Tryz.prog 19 X.iso = s X) (Option.some.inj h) c19
  · exact Eq.subst (motive := fun X => compileF Tryz.prog 32 X.iso = s X) (Option.some.inj h) c32
  · exact Eq.subst (motive := fun X => compileF Tryz.prog 33 X.iso = s X) (Option.some.inj h) c33
  · exact Eq.subst (motive := fun X => compileF Tryz.prog 34 X.iso = s X) (Option.some.inj h) c34
  · exact Eq.subst (motive := fun X => compileF Tryz.prog 35 X.iso = s X) (Option.some.inj h) c35
  · exact Eq.subst (motive := fun X => compileF Tryz.prog 36 X.iso = s X) (Option.some.inj h) c36
  · exact Eq.subst (motive := fun X => compileF Tryz.prog 37 X.iso = s X) (Option.some.inj h) c37
  · exact Eq.subst (motive := fun X => compileF Tryz.prog 38 X.iso = s X) (Option.some.inj h) c38
  · exact Eq.subst (motive := fun X => compileF Tryz.prog 39 X.iso = s X) (Option.some.inj h) c39
  · exact Eq.subst (motive := fun X => compileF Tryz.prog 40 X.iso = s X) (Option.some.inj h) c40
  · exact Eq.subst (motive := fun X => compileF Tryz.prog 41 X.iso = s X) (Option.some.inj h) c41
  · exact Eq.subst (motive := fun X => compileF Tryz.prog 42 X.iso = s X) (Option.some.inj h) c42
  · exact Eq.subst (motive := fun X => compileF Tryz.prog 43 X.iso = s X) (Option.some.inj h) c43
  · exact Eq.subst (motive := fun X => compileF Tryz.prog 44 X.iso = s X) (Option.some.inj h) c44
  · exact Eq.subst (motive := fun X => compileF Tryz.prog 45 X.iso = s X) (Option.some.inj h) c45
  · exact Eq.subst (motive := fun X => compileF Tryz.prog 46 X.iso = s X) (Option.some.inj h) c46
  · exact Eq.subst (motive := fun X => compileF Tryz.prog 47 X.iso = s X) (Option.some.inj h) c47
  · exact Eq.subst (motive := fun X => compileF Tryz.prog 48 X.iso = s X) (Option.some.inj h) c48
  · exact Eq.subst (motive := fun X => compileF Tryz.prog 55 X.iso = s X) (Option.some.inj h) c55
  · exact Eq.subst (motive := fun X => compileF Tryz.prog 62 X.iso = s X) (Option.some.inj h) c62
  · exact Eq.subst (motive := fun X => compileF Tryz.prog 64 X.iso = s X) (Option.some.inj h) c64
  · exact Eq.subst (motive := fun X => compileF Tryz.prog 65 X.iso = s X) (Option.some.inj h) c65
  · exact Eq.subst (motive := fun X => compileF Tryz.prog 68 X.iso = s X) (Option.some.inj h) c68
  · exact Eq.subst (motive := fun X => compileF Tryz.prog 69 X.iso = s X) (Option.some.inj h) c69
  · exact Eq.subst (motive := fun X => compileF Tryz.prog 71 X.iso = s X) (Option.some.inj h) c71
  · exact Eq.subst (motive := fun X => compileF Tryz.prog 72 X.iso = s X) (Option.some.inj h) c72
  · exact Eq.subst (motive := fun X => compileF Tryz.prog 78 X.iso = s X) (Option.some.inj h) c78
  · exact Eq.subst (motive := fun X => compileF Tryz.prog 79 X.iso = s X) (Option.some.inj h) c79
  · exact Eq.subst (motive := fun X => compileF Tryz.prog 80 X.iso = s X) (Option.some.inj h) c80
  · exact Eq.subst (motive := fun X => compileF Tryz.prog 81 X.iso = s X) (Option.some.inj h) c81
  · exact Eq.subst (motive := fun X => compileF Tryz.prog 82 X.iso = s X) (Option.some.inj h) c82
  · exact Eq.subst (motive := fun X => compileF Tryz.prog 83 X.iso = s X) (Option.some.inj h) c83
  · exact Eq.subst (motive := fun X => compileF Tryz.prog 84 X.iso = s X) (Option.some.inj h) c84
  · exact Eq.subst (motive := fun X => compileF Tryz.prog 85 X.iso = s X) (Option.some.inj h) c85
  · exact Eq.subst (motive := fun X => compileF Tryz.prog 86 X.iso = s X) (Option.some.inj h) c86
  · exact Eq.subst (motive := fun X => compileF Tryz.prog 87 X.iso = s X) (Option.some.inj h) c87
  · exact Eq.subst (motive := fun X => compileF Tryz.prog 88 X.iso = s X) (Option.some.inj h) c88
  · exact Eq.subst (motive := fun X => compileF Tryz.prog 89 X.iso = s X) (Option.some.inj h) c89
  · exact Eq.subst (motive := fun X => compileF Tryz.prog 90 X.iso = s X) (Option.some.inj h) c90
  · exact Eq.subst (motive := fun X => compileF Tryz.prog 91 X.iso = s X) (Option.some.inj h) c91
  · exact Eq.subst (motive := fun X => compileF Tryz.prog 92 X.iso = s X) (Option.some.inj h) c92
  · exact Eq.subst (motive := fun X => compileF Tryz.prog 93 X.iso = s X) (Option.some.inj h) c93
  · exact Eq.subst (motive := fun X => compileF Tryz.prog 94 X.iso = s X) (Option.some.inj h) c94
  · exact Eq.subst (motive := fun X => compileF Tryz.prog 95 X.iso = s X) (Option.some.inj h) c95
  · exact Eq.subst (motive := fun X => compileF Tryz.prog 96 X.iso = s X) (Option.some.inj h) c96
  · exact Eq.subst (motive := fun X => compileF Tryz.prog 97 X.iso = s X) (Option.some.inj h) c97
  · exact Eq.subst (motive := fun X => compileF Tryz.prog 105 X.iso = s X) (Option.some.inj h) c105
  · exact Eq.subst (motive := fun X => compileF Tryz.prog 108 X.iso = s X) (Option.some.inj h) c108
  · exact Eq.subst (motive := fun X => compileF Tryz.prog 113 X.iso = s X) (Option.some.inj h) c113
  · exact Eq.subst (motive := fun X => compileF Tryz.prog 114 X.iso = s X) (Option.some.inj h) c114
  · exact Eq.subst (motive := fun X => compileF Tryz.prog 115 X.iso = s X) (Option.some.inj h) c115
  · exact Eq.subst (motive := fun X => compileF Tryz.prog 117 X.iso = s X) (Option.some.inj h) c117
  · exact Eq.subst (motive := fun X => compileF Tryz.prog 118 X.iso = s X) (Option.some.inj h) c118
  · exact Eq.subst (motive := fun X => compileF Tryz.prog 122 X.iso = s X) (Option.some.inj h) c122
  · exact Eq.subst (motive := fun X => compileF Tryz.prog 123 X.iso = s X) (Option.some.inj h) c123
  · exact Eq.subst (motive := fun X => compileF Tryz.prog 124 X.iso = s X) (Option.some.inj h) c124
  · exact Eq.subst (motive := fun X => compileF Tryz.prog 125 X.iso = s X) (Option.some.inj h) c125
  · exact Eq.subst (motive := fun X => compileF Tryz.prog 126 X.iso = s X) (Option.some.inj h) c126
  · exact Eq.subst (motive := fun X => compileF Tryz.prog 127 X.iso = s X) (Option.some.inj h) c127
  · exact Eq.subst (motive := fun X => compileF Tryz.prog 128 X.iso = s X) (Option.some.inj h) c128
  · exact Eq.subst (motive := fun X => compileF Tryz.prog 129 X.iso = s X) (Option.some.inj h) c129
  · exact Eq.subst (motive := fun X => compileF Tryz.prog 130 X.iso = s X) (Option.some.inj h) c130
  · exact Eq.subst (motive := fun X => compileF Tryz.prog 131 X.iso = s X) (Option.some.inj h) c131
  · exact Eq.subst (motive := fun X => compileF Tryz.prog 132 X.iso = s X) (Option.some.inj h) c132
  · exact Eq.subst (motive := fun X => compileF Tryz.prog 139 X.iso = s X) (Option.some.inj h) c139
  · exact Eq.subst (motive := fun X => compileF Tryz.prog 140 X.iso = s X) (Option.some.inj h) c140
  · exact Eq.subst (motive := fun X => compileF Tryz.prog 143 X.iso = s X) (Option.some.inj h) c143
  · exact Eq.subst (motive := fun X => compileF Tryz.prog 144 X.iso = s X) (Option.some.inj h) c144
  · exact Eq.subst (motive := fun X => compileF Tryz.prog 145 X.iso = s X) (Option.some.inj h) c145
  · exact Eq.subst (motive := fun X => compileF Tryz.prog 147 X.iso = s X) (Option.some.inj h) c147
  · exact Eq.subst (motive := fun X => compileF Tryz.prog 150 X.iso = s X) (Option.some.inj h) c150
  · exact Eq.subst (motive := fun X => compileF Tryz.prog 151 X.iso = s X) (Option.some.inj h) c151
  · exact Eq.subst (motive := fun X => compileF Tryz.prog 152 X.iso = s X) (Option.some.inj h) c152
  · exact Eq.subst (motive := fun X => compileF Tryz.prog 155 X.iso = s X) (Option.some.inj h) c155
  · exact Eq.subst (motive := fun X => compileF Tryz.prog 157 X.iso = s X) (Option.some.inj h) c157
  · exact Eq.subst (motive := fun X => compileF Tryz.prog 158 X.iso = s X) (Option.some.inj h) c158
  · exact Eq.subst (motive := fun X => compileF Tryz.prog 159 X.iso = s X) (Option.some.inj h) c159
  · exact Eq.subst (motive := fun X => compileF Tryz.prog 162 X.iso = s X) (Option.some.inj h) c162
  · exact Eq.subst (motive := fun X => compileF Tryz.prog 163 X.iso = s X) (Option.some.inj h) c163
  · exact Eq.subst (motive := fun X => compileF Tryz.prog 164 X.iso = s X) (Option.some.inj h) c164
  · exact Eq.subst (motive := fun X => compileF Tryz.prog 165 X.iso = s X) (Option.some.inj h) c165
  · exact Eq.subst (motive := fun X => compileF Tryz.prog 166 X.iso = s X) (Option.some.inj h) c166
  · exact Eq.subst (motive := fun X => compileF Tryz.prog 167 X.iso = s X) (Option.some.inj h) c167
  · exact Eq.subst (motive := fun X => compileF Tryz.prog 168 X.iso = s X) (Option.some.inj h) c168
  · exact Eq.subst (motive := fun X => compileF Tryz.prog 169 X.iso = s X) (Option.some.inj h) c169
  · exact Eq.subst (motive := fun X => compileF Tryz.prog 170 X.iso = s X) (Option.some.inj h) c170
  · exact Eq.subst (motive := fun X => compileF Tryz.prog 171 X.iso = s X) (Option.some.inj h) c171
  · exact Eq.subst (motive := fun X => compileF Tryz.prog 172 X.iso = s X) (Option.some.inj h) c172
  · exact Eq.subst (motive := fun X => compileF Tryz.prog 177 X.iso = s X) (Option.some.inj h) c177
  · exact Eq.subst (motive := fun X => compileF Tryz.prog 178 X.iso = s X) (Option.some.inj h) c178
  · exact Eq.subst (motive := fun X => compileF Tryz.prog 179 X.iso = s X) (Option.some.inj h) c179
  · exact Eq.subst (motive := fun X => compileF Tryz.prog 180 X.iso = s X) (Option.some.inj h) c180
  · exact Eq.subst (motive := fun X => compileF Tryz.prog 181 X.iso = s X) (Option.some.inj h) c181
  · exact Eq.subst (motive := fun X => compileF Tryz.prog 182 X.iso = s X) (Option.some.inj h) c182
  · exact Eq.subst (motive := fun X => compileF Tryz.prog 183 X.iso = s X) (Option.some.inj h) c183
  · exact Eq.subst (motive := fun X => compileF Tryz.prog 186 X.iso = s X) (Option.some.inj h) c186
  · exact Eq.subst (motive := fun X => compileF Tryz.prog 187 X.iso = s X) (Option.some.inj h) c187
  · exact Eq.subst (motive := fun X => compileF Tryz.prog 191 X.iso = s X) (Option.some.inj h) c191
  · exact Eq.subst (motive := fun X => compileF Tryz.prog 192 X.iso = s X) (Option.some.inj h) c192
  · exact Eq.subst (motive := fun X => compileF Tryz.prog 193 X.iso = s X) (Option.some.inj h) c193
  · exact Eq.subst (motive := fun X => compileF Tryz.prog 194 X.iso = s X) (Option.some.inj h) c194
  · exact Eq.subst (motive := fun X => compileF Tryz.prog 195 X.iso = s X) (Option.some.inj h) c195
  · exact Eq.subst (motive := fun X => compileF Tryz.prog 196 X.iso = s X) (Option.some.inj h) c196
  · exact Eq.subst (motive := fun X => compileF Tryz.prog 197 X.iso = s X) (Option.some.inj h) c197
  · exact Eq.subst (motive := fun X => compileF Tryz.prog 198 X.iso = s X) (Option.some.inj h) c198
  · exact Eq.subst (motive := fun X => compileF Tryz.prog 199 X.iso = s X) (Option.some.inj h) c199
  · exact Eq.subst (motive := fun X => compileF Tryz.prog 200 X.iso = s X) (Option.some.inj h) c200
  · exact Eq.subst (motive := fun X => compileF Tryz.prog 201 X.iso = s X) (Option.some.inj h) c201
  · exact Eq.subst (motive := fun X => compileF Tryz.prog 202 X.iso = s X) (Option.some.inj h) c202
  · exact Eq.subst (motive := fun X => compileF Tryz.prog 203 X.iso = s X) (Option.some.inj h) c203
  · exact Eq.subst (motive := fun X => compileF Tryz.prog 209 X.iso = s X) (Option.some.inj h) c209
  · exact Eq.subst (motive := fun X => compileF Tryz.prog 210 X.iso = s X) (Option.some.inj h) c210
  · exact Eq.subst (motive := fun X => compileF Tryz.prog 226 X.iso = s X) (Option.some.inj h) c226
  · exact Eq.subst (motive := fun X => compileF Tryz.prog 227 X.iso = s X) (Option.some.inj h) c227
  · exact Eq.subst (motive := fun X => compileF Tryz.prog 228 X.iso = s X) (Option.some.inj h) c228
  · exact Eq.subst (motive := fun X => compileF Tryz.prog 229 X.iso = s X) (Option.some.inj h) c229
  · exact Eq.subst (motive := fun X => compileF Tryz.prog 230 X.iso = s X) (Option.some.inj h) c230
  · exact Eq.subst (motive := fun X => compileF Tryz.prog 231 X.iso = s X) (Option.some.inj h) c231
  · exact Eq.subst (motive := fun X => compileF Tryz.prog 232 X.iso = s X) (Option.some.inj h) c232
  · exact Eq.subst (motive := fun X => compileF Tryz.prog 233 X.iso = s X) (Option.some.inj h) c233
  · exact Eq.subst (motive := fun X => compileF Tryz.prog 234 X.iso = s X) (Option.some.inj h) c234
  · exact Eq.subst (motive := fun X => compileF Tryz.prog 235 X.iso = s X) (Option.some.inj h) c235
  · exact Eq.subst (motive := fun X => compileF Tryz.prog 236 X.iso = s X) (Option.some.inj h) c236
  · exact Eq.subst (motive := fun X => compileF Tryz.prog 237 X.iso = s X) (Option.some.inj h) c237
  · exact Eq.subst (motive := fun X => compileF Tryz.prog 238 X.iso = s X) (Option.some.inj h) c238
  · exact Eq.subst (motive := fun X => compileF Tryz.prog 239 X.iso = s X) (Option.some.inj h) c239
  · exact Eq.subst (motive := fun X => compileF Tryz.prog 240 X.iso = s X) (Option.some.inj h) c240
  · exact Eq.subst (motive := fun X => compileF Tryz.prog 241 X.iso = s X) (Option.some.inj h) c241
  · exact Eq.subst (motive := fun X => compileF Tryz.prog 242 X.iso = s X) (Option.some.inj h) c242
  · exact Eq.subst (motive := fun X => compileF Tryz.prog 243 X.iso = s X) (Option.some.inj h) c243
  · exact Eq.subst (motive := fun X => compileF Tryz.prog 244 X.iso = s X) (Option.some.inj h) c244
theorem enter5 (h : Heap) (R : Value → Heap → Prop) (v0 v1 : Value) : Ret tab 5 [v0,v1] h R = Ok tab R5 [.code B5] #[v0,v1,u,u,u,u,u,u,u,u,u,u,u,u,u,u,u,u,u,u,u,u,u,u,u,u,u,u,u,u,u,u,u,u,u,u,u,u,u,u,u,u,u,u,u,u,u,u,u,u] h R :=
  (ret_eq rfl rfl).trans (by rw [env5]; rfl)
theorem enter16 (h : Heap) (R : Value → Heap → Prop) : Ret tab 16 [] h R = Ok tab R16 [.code B16] #[u,u,u,u,u,u,u,u,u,u,u,u,u,u,u,u,u,u,u,u,u,u,u,u,u,u,u,u,u,u,u,u,u,u,u,u,u,u,u,u,u,u,u,u,u,u,u,u,u,u,u,u,u,u,u,u,u,u,u,u,u,u,u,u,u,u,u,u,u,u,u,u,u,u,u,u,u,u,u,u,u,u,u,u,u,u,u,u,u,u,u,u,u,u,u,u,u,u,u,u,u,u,u,u,u,u,u,u,u,u,u,u,u,u,u,u,u,u,u,u,u,u,u] h R :=
  (ret_eq rfl rfl).trans (by rw [env16]; rfl)
theorem enter17 (h : Heap) (R : Value → Heap → Prop) (v0 v1 v2 v3 v4 : Value) : Ret tab 17 [v0,v1,v2,v3,v4] h R = Ok tab R17 [.code B17] #[v0,v1,v2,v3,v4,u,u,u,u,u,u,u,u,u,u,u,u,u,u,u,u,u,u,u,u,u,u,u,u,u,u,u,u,u,u,u,u,u,u,u,u,u,u,u,u,u,u,u,u,u,u,u,u,u,u,u,u,u,u,u,u,u,u,u,u,u,u,u,u,u,u,u,u,u,u,u,u,u,u,u,u,u,u,u,u,u,u,u,u,u,u,u,u,u,u,u,u,u,u,u,u,u,u,u,u,u,u,u,u,u,u,u,u,u,u,u,u,u,u,u,u,u,u,u,u,u,u,u,u,u,u,u,u,u,u,u,u,u,u,u,u,u,u,u,u,u,u,u] h R :=
  (ret_eq rfl rfl).trans (by rw [env17]; rfl)
theorem enter18 (h : Heap) (R : Value → Heap → Prop) (v0 v1 v2 v3 v4 : Value) : Ret tab 18 [v0,v1,v2,v3,v4] h R = Ok tab R18 [.code B18] #[v0,v1,v2,v3,v4,u,u,u,u,u,u,u,u,u,u,u,u,u,u,u,u,u,u,u,u,u,u,u,u,u,u,u,u,u,u,u,u,u,u,u,u,u,u,u,u,u,u,u,u,u,u,u,u,u,u,u,u,u,u,u,u,u,u,u,u,u,u,u,u,u,u,u,u,u,u,u,u,u,u,u,u,u,u,u,u,u,u,u,u,u,u,u,u,u,u,u,u,u,u,u,u,u,u,u,u,u,u,u,u,u,u,u,u,u,u,u,u,u,u,u,u,u,u,u,u,u] h R :=
  (ret_eq rfl rfl).trans (by rw [env18]; rfl)
theorem enter19 (h : Heap) (R : Value → Heap → Prop) (v0 v1 : Value) : Ret tab 19 [v0,v1] h R = Ok tab R19 [.code B19] #[v0,v1,u,u,u,u,u,u,u,u,u,u,u,u,u,u,u,u,u,u,u,u,u,u,u,u,u,u,u,u,u,u,u,u,u,u,u,u,u,u,u,u,u,u,u,u,u,u,u,u,u,u,u,u,u,u,u,u,u,u,u,u,u,u,u,u] h R :=
  (ret_eq rfl rfl).trans (by rw [env19]; rfl)
theorem enter32 (h : Heap) (R : Value → Heap → Prop) (v0 : Value) : Ret tab 32 [v0] h R = (belowL h.length [v0] = true ∧ Ok tab R32 [.code B32] #[v0,u,u,u,u,u,u,u,u,u,u,u,u,u,u] (frz h) fun v _ => below h.length v = true ∧ R v h) :=
  (ret_rd rfl rfl).trans (by rw [env32]; rfl)
theorem enter33 (h : Heap) (R : Value → Heap → Prop) (v0 v1 v2 : Value) : Ret tab 33 [v0,v1,v2] h R = Ok tab R33 [.code B33] #[v0,v1,v2,u,u,u,u,u,u,u,u,u,u,u,u,u,u,u,u,u,u,u,u,u,u,u,u,u,u,u,u,u,u,u,u,u,u,u,u,u,u,u,u,u,u,u,u,u,u,u,u] h R :=
  (ret_eq rfl rfl).trans (by rw [env33]; rfl)
theorem enter34 (h : Heap) (R : Value → Heap → Prop) (v0 v1 : Value) : Ret tab 34 [v0,v1] h R = Ok tab R34 [.code B34] #[v0,v1,u,u,u,u,u,u,u,u,u,u,u,u,u,u,u,u,u,u,u,u,u,u,u,u,u,u,u,u,u,u,u,u,u,u,u,u,u,u,u,u,u,u,u,u] h R :=
  (ret_eq rfl rfl).trans (by rw [env34]; rfl)
theorem enter35 (h : Heap) (R : Value → Heap → Prop) (v0 v1 v2 v3 v4 : Value) : Ret tab 35 [v0,v1,v2,v3,v4] h R = Ok tab R35 [.code B35] #[v0,v1,v2,v3,v4,u,u,u,u,u,u,u,u,u,u,u,u,u,u,u,u,u,u,u,u,u,u,u,u,u,u,u,u,u,u,u,u,u,u,u,u,u,u,u,u,u,u,u,u,u,u,u,u,u,u,u,u,u,u,u,u,u,u,u,u,u,u,u,u,u,u,u,u,u,u,u,u,u,u,u,u,u,u,u,u,u,u,u,u,u,u] h R :=
  (ret_eq rfl rfl).trans (by rw [env35]; rfl)
theorem enter36 (h : Heap) (R : Value → Heap → Prop) (v0 : Value) : Ret tab 36 [v0] h R = Ok tab R36 [.code B36] #[v0,u,u,u,u,u,u,u,u,u,u,u,u,u] h R :=
  (ret_eq rfl rfl).trans (by rw [env36]; rfl)
theorem enter37 (h : Heap) (R : Value → Heap → Prop) (v0 : Value) : Ret tab 37 [v0] h R = (belowL h.length [v0] = true ∧ Ok tab R37 [.code B37] #[v0,u,u,u,u,u,u,u,u,u,u,u,u,u,u,u,u,u,u,u,u,u,u,u,u] (frz h) fun v _ => below h.length v = true ∧ R v h) :=
  (ret_rd rfl rfl).trans (by rw [env37]; rfl)
theorem enter38 (h : Heap) (R : Value → Heap → Prop) (v0 v1 : Value) : Ret tab 38 [v0,v1] h R = Ok tab R38 [.code B38] #[v0,v1,u,u,u,u,u,u,u,u,u,u,u,u,u,u,u,u,u,u,u,u,u,u,u,u,u,u,u,u,u,u,u,u,u,u,u,u,u,u,u,u,u] h R :=
  (ret_eq rfl rfl).trans (by rw [env38]; rfl)
theorem enter39 (h : Heap) (R : Value → Heap → Prop) (v0 v1 : Value) : Ret tab 39 [v0,v1] h R = (belowL h.length [v0,v1] = true ∧ Ok tab R39 [.code B39] #[v0,v1,u,u,u,u,u,u,u,u,u,u,u,u,u,u,u,u,u,u,u,u,u,u,u] (frz h) fun v _ => below h.length v = true ∧ R v h) :=
  (ret_rd rfl rfl).trans (by rw [env39]; rfl)
theorem enter40 (h : Heap) (R : Value → Heap → Prop) : Ret tab 40 [] h R = Ok tab R40 [.code B40] #[u,u,u,u] h R :=
  (ret_eq rfl rfl).trans (by rw [env40]; rfl)
theorem enter41 (h : Heap) (R : Value → Heap → Prop) (v0 : Value) : Ret tab 41 [v0] h R = Ok tab R41 [.code B41] #[v0,u,u,u,u,u,u,u] h R :=
  (ret_eq rfl rfl).trans (by rw [env41]; rfl)
theorem enter42 (h : Heap) (R : Value → Heap → Prop) (v0 v1 v2 v3 : Value) : Ret tab 42 [v0,v1,v2,v3] h R = Ok tab R42 [.code B42] #[v0,v1,v2,v3,u,u,u,u,u,u,u,u,u,u,u,u,u,u,u,u,u,u,u,u,u,u,u,u,u,u,u,u,u,u,u,u,u,u,u,u,u,u,u,u,u,u,u,u,u,u,u,u,u,u] h R :=
  (ret_eq rfl rfl).trans (by rw [env42]; rfl)
theorem enter43 (h : Heap) (R : Value → Heap → Prop) (v0 v1 v2 v3 v4 : Value) : Ret tab 43 [v0,v1,v2,v3,v4] h R = Ok tab R43 [.code B43] #[v0,v1,v2,v3,v4,u,u,u,u,u,u,u,u,u,u,u,u,u,u,u,u,u,u,u,u,u,u,u,u,u,u,u,u,u,u,u,u,u,u,u,u,u,u,u,u,u,u,u,u,u,u,u,u,u,u,u,u,u,u,u,u,u,u,u,u,u,u,u,u,u,u,u,u,u,u,u,u,u,u,u,u,u,u,u,u,u,u,u,u,u,u,u] h R :=
  (ret_eq rfl rfl).trans (by rw [env43]; rfl)
theorem enter44 (h : Heap) (R : Value → Heap → Prop) (v0 : Value) : Ret tab 44 [v0] h R = (belowL h.length [v0] = true ∧ Ok tab R44 [.code B44] #[v0,u,u,u,u,u,u,u,u,u,u,u,u,u,u,u,u,u,u,u,u,u,u,u,u,u] (frz h) fun v _ => below h.length v = true ∧ R v h) :=
  (ret_rd rfl rfl).trans (by rw [env44]; rfl)
theorem enter45 (h : Heap) (R : Value → Heap → Prop) (v0 : Value) : Ret tab 45 [v0] h R = Ok tab R45 [.code B45] #[v0,u,u,u,u,u,u,u,u,u,u,u,u,u,u,u,u,u] h R :=
  (ret_eq rfl rfl).trans (by rw [env45]; rfl)
theorem enter46 (h : Heap) (R : Value → Heap → Prop) (v0 v1 : Value) : Ret tab 46 [v0,v1] h R = Ok tab R46 [.code B46] #[v0,v1,u,u,u,u,u,u,u,u,u,u,u,u,u,u,u,u,u,u,u,u,u,u,u,u,u,u,u,u,u,u,u,u,u,u,u,u,u,u,u,u,u,u,u] h R :=
  (ret_eq rfl rfl).trans (by rw [env46]; rfl)
theorem enter47 (h : Heap) (R : Value → Heap → Prop) (v0 v1 v2 v3 : Value) : Ret tab 47 [v0,v1,v2,v3] h R = Ok tab R47 [.code B47] #[v0,v1,v2,v3,u,u,u,u,u,u,u,u,u,u,u,u,u,u,u,u,u,u,u,u,u,u,u,u,u,u,u,u,u,u,u,u,u,u,u,u,u,u,u,u,u,u,u,u,u,u,u,u,u,u,u,u,u,u,u,u,u,u,u,u,u,u,u,u,u,u,u,u,u,u,u,u,u,u,u,u,u,u,u,u,u] h R :=
  (ret_eq rfl rfl).trans (by rw [env47]; rfl)
theorem enter48 (h : Heap) (R : Value → Heap → Prop) (v0 v1 : Value) : Ret tab 48 [v0,v1] h R = (belowL h.length [v0,v1] = true ∧ Ok tab R48 [.code B48] #[v0,v1,u,u,u,u,u,u,u,u,u,u,u,u,u,u,u,u,u,u,u,u] (frz h) fun v _ => below h.length v = true ∧ R v h) :=
  (ret_rd rfl rfl).trans (by rw [env48]; rfl)
theorem enter55 (h : Heap) (R : Value → Heap → Prop) (v0 v1 : Value) : Ret tab 55 [v0,v1] h R = Ok tab R55 [.code B55] #[v0,v1,u,u,u,u,u,u,u,u,u,u,u,u,u,u,u,u] h R :=
  (ret_eq rfl rfl).trans (by rw [env55]; rfl)
theorem enter62 (h : Heap) (R : Value → Heap → Prop) (v0 : Value) : Ret tab 62 [v0] h R = (belowL h.length [v0] = true ∧ Ok tab R62 [.code B62] #[v0,u,u,u,u,u,u,u,u,u,u,u,u,u,u] (frz h) fun v _ => below h.length v = true ∧ R v h) :=
  (ret_rd rfl rfl).trans (by rw [env62]; rfl)
theorem enter64 (h : Heap) (R : Value → Heap → Prop) (v0 v1 v2 : Value) : Ret tab 64 [v0,v1,v2] h R = (belowL h.length [v0,v1,v2] = true ∧ Ok tab R64 [.code B64] #[v0,v1,v2,u,u,u,u,u,u,u,u,u,u,u,u,u,u,u] (frz h) fun v _ => below h.length v = true ∧ R v h) :=
  (ret_rd rfl rfl).trans (by rw [env64]; rfl)
theorem enter65 (h : Heap) (R : Value → Heap → Prop) (v0 v1 v2 : Value) : Ret tab 65 [v0,v1,v2] h R = (belowL h.length [v0,v1,v2] = true ∧ Ok tab R65 [.code B65] #[v0,v1,v2,u,u,u,u,u,u,u,u,u,u,u,u,u,u,u,u,u] (frz h) fun v _ => below h.length v = true ∧ R v h) :=
  (ret_rd rfl rfl).trans (by rw [env65]; rfl)
theorem enter68 (h : Heap) (R : Value → Heap → Prop) (v0 : Value) : Ret tab 68 [v0] h R = (belowL h.length [v0] = true ∧ Ok tab R68 [.code B68] #[v0,u,u,u,u,u,u,u,u] (frz h) fun v _ => below h.length v = true ∧ R v h) :=
  (ret_rd rfl rfl).trans (by rw [env68]; rfl)
theorem enter69 (h : Heap) (R : Value → Heap → Prop) (v0 v1 : Value) : Ret tab 69 [v0,v1] h R = Ok tab R69 [.code B69] #[v0,v1,u,u,u,u,u,u,u,u,u,u,u,u,u,u,u,u] h R :=
  (ret_eq rfl rfl).trans (by rw [env69]; rfl)
theorem enter71 (h : Heap) (R : Value → Heap → Prop) (v0 v1 v2 : Value) : Ret tab 71 [v0,v1,v2] h R = (belowL h.length [v0,v1,v2] = true ∧ Ok tab R71 [.code B71] #[v0,v1,v2,u,u,u,u,u,u,u,u,u] (frz h) fun v _ => below h.length v = true ∧ R v h) :=
  (ret_rd rfl rfl).trans (by rw [env71]; rfl)
theorem enter72 (h : Heap) (R : Value → Heap → Prop) (v0 v1 v2 : Value) : Ret tab 72 [v0,v1,v2] h R = (belowL h.length [v0,v1,v2] = true ∧ Ok tab R72 [.code B72] #[v0,v1,v2,u,u,u,u,u,u,u,u,u] (frz h) fun v _ => below h.length v = true ∧ R v h) :=
  (ret_rd rfl rfl).trans (by rw [env72]; rfl)
theorem enter78 (h : Heap) (R : Value → Heap → Prop) (v0 v1 : Value) : Ret tab 78 [v0,v1] h R = (belowL h.length [v0,v1] = true ∧ Ok tab R78 [.code B78] #[v0,v1,u,u,u,u,u,u,u,u,u,u,u,u,u,u,u,u] (frz h) fun v _ => below h.length v = true ∧ R v h) :=
  (ret_rd rfl rfl).trans (by rw [env78]; rfl)
theorem enter79 (h : Heap) (R : Value → Heap → Prop) (v0 v1 v2 v3 : Value) : Ret tab 79 [v0,v1,v2,v3] h R = Ok tab R79 [.code B79] #[v0,v1,v2,v3,u,u,u,u,u,u,u,u,u,u,u,u,u,u,u,u,u,u,u,u,u,u,u,u] h R :=
  (ret_eq rfl rfl).trans (by rw [env79]; rfl)
theorem enter80 (h : Heap) (R : Value → Heap → Prop) (v0 v1 v2 v3 v4 : Value) : Ret tab 80 [v0,v1,v2,v3,v4] h R = Ok tab R80 [.code B80] #[v0,v1,v2,v3,v4,u,u,u,u,u,u,u,u,u,u,u,u,u,u,u,u,u,u,u,u,u,u,u,u,u,u,u,u,u,u,u,u,u,u,u,u,u,u,u,u,u,u,u,u,u,u,u,u,u,u,u,u,u,u,u,u,u,u,u,u,u,u,u,u,u,u,u,u,u,u,u,u,u,u,u,u,u,u,u,u,u] h R :=
  (ret_eq rfl rfl).trans (by rw [env80]; rfl)
theorem enter81 (h : Heap) (R : Value → Heap → Prop) (v0 : Value) : Ret tab 81 [v0] h R = Ok tab R81 [.code B81] #[v0,u,u,u,u,u,u,u,u] h R :=
  (ret_eq rfl rfl).trans (by rw [env81]; rfl)
theorem enter82 (h : Heap) (R : Value → Heap → Prop) (v0 : Value) : Ret tab 82 [v0] h R = (belowL h.length [v0] = true ∧ Ok tab R82 [.code B82] #[v0,u,u,u,u,u,u,u,u,u] (frz h) fun v _ => below h.length v = true ∧ R v h) :=
  (ret_rd rfl rfl).trans (by rw [env82]; rfl)
theorem enter83 (h : Heap) (R : Value → Heap → Prop) (v0 : Value) : Ret tab 83 [v0] h R = Ok tab R83 [.code B83] #[v0,u,u,u,u,u,u,u,u,u,u,u,u,u] h R :=
  (ret_eq rfl rfl).trans (by rw [env83]; rfl)
theorem enter84 (h : Heap) (R : Value → Heap → Prop) (v0 : Value) : Ret tab 84 [v0] h R = Ok tab R84 [.code B84] #[v0,u,u,u,u,u,u,u,u,u,u,u,u,u,u,u,u,u] h R :=
  (ret_eq rfl rfl).trans (by rw [env84]; rfl)
theorem enter85 (h : Heap) (R : Value → Heap → Prop) (v0 v1 v2 v3 : Value) : Ret tab 85 [v0,v1,v2,v3] h R = Ok tab R85 [.code B85] #[v0,v1,v2,v3,u,u,u,u,u,u,u,u,u,u,u,u,u,u,u,u,u,u,u,u,u,u,u,u,u,u,u,u,u,u,u,u,u,u] h R :=
  (ret_eq rfl rfl).trans (by rw [env85]; rfl)
theorem enter86 (h : Heap) (R : Value → Heap → Prop) (v0 v1 v2 v3 v4 : Value) : Ret tab 86 [v0,v1,v2,v3,v4] h R = Ok tab R86 [.code B86] #[v0,v1,v2,v3,v4,u,u,u,u,u,u,u,u,u,u,u,u,u,u,u,u,u,u,u,u,u,u,u,u,u,u,u,u,u,u,u,u,u,u,u,u,u,u,u,u,u,u,u,u,u,u,u,u,u,u,u,u,u,u,u,u,u,u,u,u,u,u,u,u,u,u,u,u,u,u,u,u,u,u,u,u,u,u,u] h R :=
  (ret_eq rfl rfl).trans (by rw [env86]; rfl)
theorem enter87 (h : Heap) (R : Value → Heap → Prop) (v0 : Value) : Ret tab 87 [v0] h R = (belowL h.length [v0] = true ∧ Ok tab R87 [.code B87] #[v0,u,u,u,u,u,u,u,u,u] (frz h) fun v _ => below h.length v = true ∧ R v h) :=
  (ret_rd rfl rfl).trans (by rw [env87]; rfl)
theorem enter88 (h : Heap) (R : Value → Heap → Prop) (v0 : Value) : Ret tab 88 [v0] h R = Ok tab R88 [.code B88] #[v0,u,u,u,u,u,u,u,u,u,u,u,u,u,u] h R :=
  (ret_eq rfl rfl).trans (by rw [env88]; rfl)
theorem enter89 (h : Heap) (R : Value → Heap → Prop) (v0 : Value) : Ret tab 89 [v0] h R = Ok tab R89 [.code B89] #[v0,u,u,u,u,u,u,u,u,u,u,u] h R :=
  (ret_eq rfl rfl).trans (by rw [env89]; rfl)
theorem enter90 (h : Heap) (R : Value → Heap → Prop) : Ret tab 90 [] h R = Ok tab R90 [.code B90] #[u,u,u] h R :=
  (ret_eq rfl rfl).trans (by rw [env90]; rfl)
theorem enter91 (h : Heap) (R : Value → Heap → Prop) (v0 : Value) : Ret tab 91 [v0] h R = Ok tab R91 [.code B91] #[v0,u,u,u,u,u,u,u,u,u,u,u,u] h R :=
  (ret_eq rfl rfl).trans (by rw [env91]; rfl)
theorem enter92 (h : Heap) (R : Value → Heap → Prop) (v0 v1 : Value) : Ret tab 92 [v0,v1] h R = Ok tab R92 [.code B92] #[v0,v1,u,u,u,u,u,u,u,u,u,u,u,u,u,u,u,u,u,u,u,u,u,u,u,u,u,u,u,u] h R :=
  (ret_eq rfl rfl).trans (by rw [env92]; rfl)
theorem enter93 (h : Heap) (R : Value → Heap → Prop) (v0 v1 v2 : Value) : Ret tab 93 [v0,v1,v2] h R = Ok tab R93 [.code B93] #[v0,v1,v2,u,u,u,u,u,u,u,u,u,u,u,u,u,u,u,u,u,u,u,u,u,u,u,u,u,u,u,u,u,u,u,u,u,u,u,u,u,u,u,u,u,u,u,u,u,u,u,u,u,u,u,u,u,u,u,u,u,u,u,u,u,u,u,u,u,u,u,u,u,u,u,u,u,u,u,u,u,u,u,u,u,u,u,u,u,u,u,u,u,u,u,u,u,u,u,u,u,u,u,u,u,u,u,u,u,u,u,u,u,u,u,u,u,u,u,u,u,u,u,u,u,u,u,u,u,u,u,u,u,u,u,u] h R :=
  (ret_eq rfl rfl).trans (by rw [env93]; rfl)
theorem enter94 (h : Heap) (R : Value → Heap → Prop) (v0 : Value) : Ret tab 94 [v0] h R = Ok tab R94 [.code B94] #[v0,u,u,u,u,u,u,u,u,u,u,u] h R :=
  (ret_eq rfl rfl).trans (by rw [env94]; rfl)
theorem enter95 (h : Heap) (R : Value → Heap → Prop) (v0 : Value) : Ret tab 95 [v0] h R = Ok tab R95 [.code B95] #[v0,u,u,u,u,u,u,u,u,u,u,u,u,u,u,u,u,u,u,u,u,u,u,u,u] h R :=
  (ret_eq rfl rfl).trans (by rw [env95]; rfl)
theorem enter96 (h : Heap) (R : Value → Heap → Prop) (v0 : Value) : Ret tab 96 [v0] h R = Ok tab R96 [.code B96] #[v0,u,u,u,u,u,u,u,u,u,u,u,u,u,u,u,u,u,u,u,u,u,u,u,u,u,u,u,u,u,u,u,u,u,u,u,u,u,u,u,u,u,u,u,u,u,u,u,u,u,u,u,u,u,u,u] h R :=
  (ret_eq rfl rfl).trans (by rw [env96]; rfl)
theorem enter97 (h : Heap) (R : Value → Heap → Prop) (v0 : Value) : Ret tab 97 [v0] h R = Ok tab R97 [.code B97] #[v0,u,u,u,u,u,u,u,u,u,u,u,u,u,u,u,u,u,u,u,u,u,u,u,u,u,u,u,u,u,u,u,u,u,u,u,u,u,u,u,u,u,u,u,u,u,u,u,u,u,u,u,u,u,u,u,u,u,u,u,u,u,u,u,u,u,u,u,u,u,u] h R :=
  (ret_eq rfl rfl).trans (by rw [env97]; rfl)
theorem enter105 (h : Heap) (R : Value → Heap → Prop) (v0 v1 : Value) : Ret tab 105 [v0,v1] h R = (belowL h.length [v0,v1] = true ∧ Ok tab R105 [.code B105] #[v0,v1,u,u,u,u,u,u,u,u,u,u,u,u,u,u,u,u,u] (frz h) fun v _ => below h.length v = true ∧ R v h) :=
  (ret_rd rfl rfl).trans (by rw [env105]; rfl)
theorem enter108 (h : Heap) (R : Value → Heap → Prop) (v0 : Value) : Ret tab 108 [v0] h R = (belowL h.length [v0] = true ∧ Ok tab R108 [.code B108] #[v0,u,u,u,u,u,u,u,u,u,u,u,u,u] (frz h) fun v _ => below h.length v = true ∧ R v h) :=
  (ret_rd rfl rfl).trans (by rw [env108]; rfl)
theorem enter113 (h : Heap) (R : Value → Heap → Prop) (v0 v1 v2 : Value) : Ret tab 113 [v0,v1,v2] h R = (belowL h.length [v0,v1,v2] = true ∧ Ok tab R113 [.code B113] #[v0,v1,v2,u,u,u,u,u,u,u,u,u,u,u,u,u,u,u,u,u,u,u,u,u,u,u,u,u,u,u,u,u,u,u,u,u,u,u,u,u,u,u,u,u,u,u] (frz h) fun v _ => below h.length v = true ∧ R v h) :=
  (ret_rd rfl rfl).trans (by rw [env113]; rfl)
theorem enter114 (h : Heap) (R : Value → Heap → Prop) (v0 v1 : Value) : Ret tab 114 [v0,v1] h R = (belowL h.length [v0,v1] = true ∧ Ok tab R114 [.code B114] #[v0,v1,u,u,u,u,u,u,u,u,u,u,u,u,u,u,u,u,u] (frz h) fun v _ => below h.length v = true ∧ R v h) :=
  (ret_rd rfl rfl).trans (by rw [env114]; rfl)
theorem enter115 (h : Heap) (R : Value → Heap → Prop) (v0 v1 v2 : Value) : Ret tab 115 [v0,v1,v2] h R = (belowL h.length [v0,v1,v2] = true ∧ Ok tab R115 [.code B115] #[v0,v1,v2,u,u,u,u,u,u,u,u,u,u,u,u,u,u,u,u,u,u,u,u,u,u,u,u] (frz h) fun v _ => below h.length v = true ∧ R v h) :=
  (ret_rd rfl rfl).trans (by rw [env115]; rfl)
theorem enter117 (h : Heap) (R : Value → Heap → Prop) (v0 : Value) : Ret tab 117 [v0] h R = (belowL h.length [v0] = true ∧ Ok tab R117 [.code B117] #[v0,u,u,u,u,u,u,u,u,u,u,u,u,u,u] (frz h) fun v _ => below h.length v = true ∧ R v h) :=
  (ret_rd rfl rfl).trans (by rw [env117]; rfl)
theorem enter118 (h : Heap) (R : Value → Heap → Prop) (v0 v1 : Value) : Ret tab 118 [v0,v1] h R = Ok tab R118 [.code B118] #[v0,v1,u,u,u,u,u,u,u,u,u,u,u,u,u,u,u,u,u,u,u,u,u,u,u,u,u,u,u,u,u,u,u,u,u,u,u,u,u] h R :=
  (ret_eq rfl rfl).trans (by rw [env118]; rfl)
theorem enter122 (h : Heap) (R : Value → Heap → Prop) (v0 : Value) : Ret tab 122 [v0] h R = (belowL h.length [v0] = true ∧ Ok tab R122 [.code B122] #[v0,u,u,u,u,u,u,u,u,u,u,u,u] (frz h) fun v _ => below h.length v = true ∧ R v h) :=
  (ret_rd rfl rfl).trans (by rw [env122]; rfl)
theorem enter123 (h : Heap) (R : Value → Heap → Prop) (v0 v1 v2 v3 : Value) : Ret tab 123 [v0,v1,v2,v3] h R = Ok tab R123 [.code B123] #[v0,v1,v2,v3,u,u,u,u,u,u,u,u,u,u,u,u] h R :=
  (ret_eq rfl rfl).trans (by rw [env123]; rfl)
theorem enter124 (h : Heap) (R : Value → Heap → Prop) (v0 : Value) : Ret tab 124 [v0] h R = Ok tab R124 [.code B124] #[v0,u,u,u,u,u,u,u,u,u,u,u,u,u,u,u,u,u,u,u,u,u,u,u,u,u,u,u,u,u,u,u,u,u,u,u,u,u,u,u,u,u,u,u,u,u,u,u,u,u,u,u] h R :=
  (ret_eq rfl rfl).trans (by rw [env124]; rfl)
theorem enter125 (h : Heap) (R : Value → Heap → Prop) (v0 : Value) : Ret tab 125 [v0] h R = Ok tab R125 [.code B125] #[v0,u,u,u,u,u,u,u,u,u,u,u,u,u,u,u,u,u,u,u,u,u,u,u,u,u,u,u,u,u,u,u,u,u,u,u,u,u,u,u,u,u,u,u,u,u,u,u,u,u,u,u,u,u,u,u,u,u,u,u,u,u,u,u,u,u,u,u,u,u,u,u,u,u,u,u,u,u,u,u,u,u,u,u,u,u] h R :=
  (ret_eq rfl rfl).trans (by rw [env125]; rfl)
theorem enter126 (h : Heap) (R : Value → Heap → Prop) (v0 v1 : Value) : Ret tab 126 [v0,v1] h R = Ok tab R126 [.code B126] #[v0,v1,u,u,u,u,u,u,u,u,u,u,u,u,u,u,u,u,u,u,u,u,u,u,u,u,u,u,u,u,u,u,u,u,u,u,u,u,u,u,u,u,u,u,u,u,u,u,u,u,u,u,u,u,u,u,u,u,u,u,u,u,u,u,u,u,u,u,u,u,u,u,u,u,u,u,u,u,u,u,u,u,u,u,u,u,u,u,u,u,u,u,u,u,u,u,u,u,u,u,u,u,u,u,u,u,u,u,u,u,u] h R :=
  (ret_eq rfl rfl).trans (by rw [env126]; rfl)
theorem enter127 (h : Heap) (R : Value → Heap → Prop) (v0 v1 v2 : Value) : Ret tab 127 [v0,v1,v2] h R = (belowL h.length [v0,v1,v2] = true ∧ Ok tab R127 [.code B127] #[v0,v1,v2,u,u,u,u,u,u,u,u,u,u,u,u] (frz h) fun v _ => below h.length v = true ∧ R v h) :=
  (ret_rd rfl rfl).trans (by rw [env127]; rfl)
theorem enter128 (h : Heap) (R : Value → Heap → Prop) (v0 v1 : Value) : Ret tab 128 [v0,v1] h R = Ok tab R128 [.code B128] #[v0,v1,u,u,u,u,u,u,u,u,u,u,u,u,u,u,u,u,u,u,u,u,u,u,u,u,u,u,u,u,u,u,u,u,u,u,u,u,u,u,u,u,u,u,u,u,u] h R :=
  (ret_eq rfl rfl).trans (by rw [env128]; rfl)
theorem enter129 (h : Heap) (R : Value → Heap → Prop) (v0 v1 : Value) : Ret tab 129 [v0,v1] h R = Ok tab R129 [.code B129] #[v0,v1,u,u,u,u,u,u,u,u,u,u,u,u,u,u,u,u,u,u,u,u,u,u,u,u,u,u,u,u,u,u,u,u,u,u,u,u,u,u,u,u,u,u,u,u,u,u,u,u,u,u,u,u,u,u,u,u,u,u,u,u,u,u,u,u,u,u,u,u,u,u,u,u,u,u,u,u] h R :=
  (ret_eq rfl rfl).trans (by rw [env129]; rfl)
theorem enter130 (h : Heap) (R : Value → Heap → Prop) (v0 v1 v2 : Value) : Ret tab 130 [v0,v1,v2] h R = Ok tab R130 [.code B130] #[v0,v1,v2,u,u,u,u,u,u,u,u,u,u,u,u,u,u,u,u,u,u,u,u,u,u,u,u,u,u,u,u,u,u,u,u,u,u,u,u,u,u,u,u,u,u,u,u,u,u,u,u,u,u,u,u,u,u,u,u,u,u,u,u,u,u,u,u,u,u,u,u,u,u,u,u,u,u,u,u,u,u,u,u,u,u,u,u,u,u,u,u,u,u] h R :=
  (ret_eq rfl rfl).trans (by rw [env130]; rfl)
theorem enter131 (h : Heap) (R : Value → Heap → Prop) (v0 v1 : Value) : Ret tab 131 [v0,v1] h R = Ok tab R131 [.code B131] #[v0,v1,u,u,u,u,u,u,u,u,u,u,u,u,u,u,u,u,u,u,u,u,u,u,u] h R :=
  (ret_eq rfl rfl).trans (by rw [env131]; rfl)
theorem enter132 (h : Heap) (R : Value → Heap → Prop) (v0 v1 v2 : Value) : Ret tab 132 [v0,v1,v2] h R = Ok tab R132 [.code B132] #[v0,v1,v2,u,u,u,u,u,u,u,u,u,u,u,u,u,u,u,u,u,u,u,u,u,u,u,u,u,u,u,u,u,u,u,u,u,u,u,u,u,u,u,u,u,u,u,u,u,u,u,u,u,u,u,u,u,u,u,u,u,u,u,u,u,u,u,u,u,u,u,u,u,u,u,u] h R :=
  (ret_eq rfl rfl).trans (by rw [env132]; rfl)
theorem enter139 (h : Heap) (R : Value → Heap → Prop) (v0 v1 : Value) : Ret tab 139 [v0,v1] h R = Ok tab R139 [.code B139] #[v0,v1,u,u,u,u,u,u,u,u,u,u,u,u,u,u,u,u,u,u,u,u,u,u,u,u,u,u,u,u,u,u,u,u,u,u,u,u,u,u,u,u,u] h R :=
  (ret_eq rfl rfl).trans (by rw [env139]; rfl)
theorem enter140 (h : Heap) (R : Value → Heap → Prop) (v0 v1 v2 : Value) : Ret tab 140 [v0,v1,v2] h R = (belowL h.length [v0,v1,v2] = true ∧ Ok tab R140 [.code B140] #[v0,v1,v2,u,u,u,u,u,u,u,u,u,u,u,u,u,u,u,u,u] (frz h) fun v _ => below h.length v = true ∧ R v h) :=
  (ret_rd rfl rfl).trans (by rw [env140]; rfl)
theorem enter143 (h : Heap) (R : Value → Heap → Prop) (v0 v1 v2 v3 : Value) : Ret tab 143 [v0,v1,v2,v3] h R = Ok tab R143 [.code B143] #[v0,v1,v2,v3,u,u,u,u,u,u,u,u,u,u,u,u,u,u,u,u,u,u] h R :=
  (ret_eq rfl rfl).trans (by rw [env143]; rfl)
theorem enter144 (h : Heap) (R : Value → Heap → Prop) (v0 v1 : Value) : Ret tab 144 [v0,v1] h R = (belowL h.length [v0,v1] = true ∧ Ok tab R144 [.code B144] #[v0,v1,u,u,u,u,u,u,u,u] (frz h) fun v _ => below h.length v = true ∧ R v h) :=
  (ret_rd rfl rfl).trans (by rw [env144]; rfl)
theorem enter145 (h : Heap) (R : Value → Heap → Prop) (v0 v1 v2 : Value) : Ret tab 145 [v0,v1,v2] h R = (belowL h.length [v0,v1,v2] = true ∧ Ok tab R145 [.code B145] #[v0,v1,v2,u,u,u,u,u,u,u,u,u,u,u,u,u,u,u,u,u] (frz h) fun v _ => below h.length v = true ∧ R v h) :=
  (ret_rd rfl rfl).trans (by rw [env145]; rfl)
theorem enter147 (h : Heap) (R : Value → Heap → Prop) (v0 v1 v2 : Value) : Ret tab 147 [v0,v1,v2] h R = Ok tab R147 [.code B147] #[v0,v1,v2,u,u,u,u,u,u,u,u,u,u,u,u,u,u,u,u] h R :=
  (ret_eq rfl rfl).trans (by rw [env147]; rfl)
theorem enter150 (h : Heap) (R : Value → Heap → Prop) (v0 v1 v2 : Value) : Ret tab 150 [v0,v1,v2] h R = (belowL h.length [v0,v1,v2] = true ∧ Ok tab R150 [.code B150] #[v0,v1,v2,u,u,u,u,u,u,u,u,u,u,u,u,u,u,u,u,u,u,u,u,u,u,u,u,u,u,u,u,u,u] (frz h) fun v _ => below h.length v = true ∧ R v h) :=
  (ret_rd rfl rfl).trans (by rw [env150]; rfl)
theorem enter151 (h : Heap) (R : Value → Heap → Prop) (v0 : Value) : Ret tab 151 [v0] h R = (belowL h.length [v0] = true ∧ Ok tab R151 [.code B151] #[v0,u,u,u,u,u,u,u,u,u,u,u,u] (frz h) fun v _ => below h.length v = true ∧ R v h) :=
  (ret_rd rfl rfl).trans (by rw [env151]; rfl)
theorem enter152 (h : Heap) (R : Value → Heap → Prop) (v0 v1 v2 : Value) : Ret tab 152 [v0,v1,v2] h R = (belowL h.length [v0,v1,v2] = true ∧ Ok tab R152 [.code B152] #[v0,v1,v2,u,u,u,u,u,u,u,u,u] (frz h) fun v _ => below h.length v = true ∧ R v h) :=
  (ret_rd rfl rfl).trans (by rw [env152]; rfl)
theorem enter155 (h : Heap) (R : Value → Heap → Prop) (v0 v1 v2 v3 : Value) : Ret tab 155 [v0,v1,v2,v3] h R = Ok tab R155 [.code B155] #[v0,v1,v2,v3,u,u,u,u,u,u,u,u,u,u,u,u,u,u,u,u,u,u,u,u,u,u,u,u,u,u,u,u] h R :=
  (ret_eq rfl rfl).trans (by rw [env155]; rfl)
theorem enter157 (h : Heap) (R : Value → Heap → Prop) (v0 v1 : Value) : Ret tab 157 [v0,v1] h R = (belowL h.length [v0,v1] = true ∧ Ok tab R157 [.code B157] #[v0,v1,u,u,u,u,u,u] (frz h) fun v _ => below h.length v = true ∧ R v h) :=
  (ret_rd rfl rfl).trans (by rw [env157]; rfl)
theorem enter158 (h : Heap) (R : Value → Heap → Prop) (v0 v1 v2 : Value) : Ret tab 158 [v0,v1,v2] h R = (belowL h.length [v0,v1,v2] = true ∧ Ok tab R158 [.code B158] #[v0,v1,v2,u,u,u,u,u,u,u,u,u] (frz h) fun v _ => below h.length v = true ∧ R v h) :=
  (ret_rd rfl rfl).trans (by rw [env158]; rfl)
theorem enter159 (h : Heap) (R : Value → Heap → Prop) (v0 v1 v2 : Value) : Ret tab 159 [v0,v1,v2] h R = Ok tab R159 [.code B159] #[v0,v1,v2,u,u,u,u,u,u,u,u,u,u,u,u,u,u,u,u,u,u,u,u,u,u,u,u,u,u] h R :=
  (ret_eq rfl rfl).trans (by rw [env159]; rfl)
theorem enter162 (h : Heap) (R : Value → Heap → Prop) (v0 v1 v2 : Value) : Ret tab 162 [v0,v1,v2] h R = (belowL h.length [v0,v1,v2] = true ∧ Ok tab R162 [.code B162] #[v0,v1,v2,u,u,u,u,u,u,u,u,u,u,u,u,u,u,u,u,u,u,u,u,u,u,u,u,u,u,u,u] (frz h) fun v _ => below h.length v = true ∧ R v h) :=
  (ret_rd rfl rfl).trans (by rw [env162]; rfl)
theorem enter163 (h : Heap) (R : Value → Heap → Prop) (v0 v1 v2 : Value) : Ret tab 163 [v0,v1,v2] h R = Ok tab R163 [.code B163] #[v0,v1,v2,u,u,u,u,u,u,u,u,u,u,u,u,u,u,u,u,u,u,u,u,u,u,u,u,u,u,u,u,u,u,u,u,u,u,u,u,u,u,u,u,u,u,u,u,u,u] h R :=
  (ret_eq rfl rfl).trans (by rw [env163]; rfl)
theorem enter164 (h : Heap) (R : Value → Heap → Prop) (v0 v1 v2 : Value) : Ret tab 164 [v0,v1,v2] h R = (belowL h.length [v0,v1,v2] = true ∧ Ok tab R164 [.code B164] #[v0,v1,v2,u,u,u,u,u,u,u,u,u,u,u,u,u,u,u,u,u,u,u,u] (frz h) fun v _ => below h.length v = true ∧ R v h) :=
  (ret_rd rfl rfl).trans (by rw [env164]; rfl)
theorem enter165 (h : Heap) (R : Value → Heap → Prop) (v0 v1 v2 : Value) : Ret tab 165 [v0,v1,v2] h R = (belowL h.length [v0,v1,v2] = true ∧ Ok tab R165 [.code B165] #[v0,v1,v2,u,u,u,u,u,u,u,u,u,u,u,u,u,u,u,u,u,u,u,u,u,u,u,u,u,u,u,u,u,u,u,u,u,u,u,u,u,u,u,u,u] (frz h) fun v _ => below h.length v = true ∧ R v h) :=
  (ret_rd rfl rfl).trans (by rw [env165]; rfl)
theorem enter166 (h : Heap) (R : Value → Heap → Prop) (v0 v1 v2 : Value) : Ret tab 166 [v0,v1,v2] h R = Ok tab R166 [.code B166] #[v0,v1,v2,u,u,u,u,u,u,u,u,u,u,u,u,u,u,u,u,u,u,u,u,u,u,u,u,u,u,u,u,u,u,u,u,u,u,u,u,u,u,u,u,u,u,u,u,u,u,u,u,u,u,u,u] h R :=
  (ret_eq rfl rfl).trans (by rw [env166]; rfl)
theorem enter167 (h : Heap) (R : Value → Heap → Prop) (v0 v1 v2 : Value) : Ret tab 167 [v0,v1,v2] h R = (belowL h.length [v0,v1,v2] = true ∧ Ok tab R167 [.code B167] #[v0,v1,v2,u,u,u,u,u,u,u,u,u,u,u,u,u,u,u,u,u,u,u,u,u,u,u,u,u,u,u,u] (frz h) fun v _ => below h.length v = true ∧ R v h) :=
  (ret_rd rfl rfl).trans (by rw [env167]; rfl)
theorem enter168 (h : Heap) (R : Value → Heap → Prop) (v0 v1 v2 : Value) : Ret tab 168 [v0,v1,v2] h R = Ok tab R168 [.code B168] #[v0,v1,v2,u,u,u,u,u,u,u,u,u,u,u,u,u,u,u,u,u,u,u,u,u,u,u,u,u,u,u,u,u,u,u,u,u,u,u,u,u,u,u,u,u,u,u,u] h R :=
  (ret_eq rfl rfl).trans (by rw [env168]; rfl)
theorem enter169 (h : Heap) (R : Value → Heap → Prop) (v0 v1 v2 : Value) : Ret tab 169 [v0,v1,v2] h R = Ok tab R169 [.code B169] #[v0,v1,v2,u,u,u,u,u,u,u,u,u,u,u,u,u,u,u,u,u,u,u] h R :=
  (ret_eq rfl rfl).trans (by rw [env169]; rfl)
theorem enter170 (h : Heap) (R : Value → Heap → Prop) (v0 v1 v2 : Value) : Ret tab 170 [v0,v1,v2] h R = (belowL h.length [v0,v1,v2] = true ∧ Ok tab R170 [.code B170] #[v0,v1,v2,u,u,u,u,u,u,u,u,u,u,u,u,u,u,u,u,u,u,u,u] (frz h) fun v _ => below h.length v = true ∧ R v h) :=
  (ret_rd rfl rfl).trans (by rw [env170]; rfl)
theorem enter171 (h : Heap) (R : Value → Heap → Prop) (v0 v1 v2 v3 : Value) : Ret tab 171 [v0,v1,v2,v3] h R = (belowL h.length [v0,v1,v2,v3] = true ∧ Ok tab R171 [.code B171] #[v0,v1,v2,v3,u,u,u,u,u,u,u,u,u,u,u,u,u,u,u,u,u,u,u,u,u,u,u,u,u,u,u,u,u,u,u,u,u,u,u,u,u,u,u,u,u,u,u,u,u,u,u,u] (frz h) fun v _ => below h.length v = true ∧ R v h) :=
  (ret_rd rfl rfl).trans (by rw [env171]; rfl)
theorem enter172 (h : Heap) (R : Value → Heap → Prop) (v0 v1 v2 : Value) : Ret tab 172 [v0,v1,v2] h R = Ok tab R172 [.code B172] #[v0,v1,v2,u,u,u,u,u,u,u,u,u,u,u,u,u,u,u,u,u,u,u,u,u,u,u,u,u,u,u,u,u,u,u,u,u,u,u,u,u,u,u,u] h R :=
  (ret_eq rfl rfl).trans (by rw [env172]; rfl)
theorem enter177 (h : Heap) (R : Value → Heap → Prop) (v0 v1 v2 v3 : Value) : Ret tab 177 [v0,v1,v2,v3] h R = (belowL h.length [v0,v1,v2,v3] = true ∧ Ok tab R177 [.code B177] #[v0,v1,v2,v3,u,u,u,u,u,u,u,u,u,u,u,u,u,u,u,u,u,u,u,u,u,u,u,u,u,u,u,u,u,u,u,u,u,u,u,u,u,u,u,u,u,u,u,u,u,u,u,u,u,u,u,u,u,u,u,u,u,u,u,u,u,u,u,u,u,u,u,u,u,u,u,u,u] (frz h) fun v _ => below h.length v = true ∧ R v h) :=
  (ret_rd rfl rfl).trans (by rw [env177]; rfl)
theorem enter178 (h : Heap) (R : Value → Heap → Prop) (v0 v1 v2 v3 : Value) : Ret tab 178 [v0,v1,v2,v3] h R = (belowL h.length [v0,v1,v2,v3] = true ∧ Ok tab R178 [.code B178] #[v0,v1,v2,v3,u,u,u,u,u,u,u,u,u,u,u,u,u,u,u,u,u,u,u,u,u,u,u,u,u,u,u,u,u,u,u,u] (frz h) fun v _ => below h.length v = true ∧ R v h) :=
  (ret_rd rfl rfl).trans (by rw [env178]; rfl)
theorem enter179 (h : Heap) (R : Value → Heap → Prop) (v0 v1 : Value) : Ret tab 179 [v0,v1] h R = (belowL h.length [v0,v1] = true ∧ Ok tab R179 [.code B179] #[v0,v1,u,u,u,u,u,u,u,u,u,u,u,u,u,u,u,u,u,u,u,u,u,u,u,u,u,u,u,u,u,u,u,u,u,u,u] (frz h) fun v _ => below h.length v = true ∧ R v h) :=
  (ret_rd rfl rfl).trans (by rw [env179]; rfl)
theorem enter180 (h : Heap) (R : Value → Heap → Prop) (v0 v1 v2 v3 : Value) : Ret tab 180 [v0,v1,v2,v3] h R = (belowL h.length [v0,v1,v2,v3] = true ∧ Ok tab R180 [.code B180] #[v0,v1,v2,v3,u,u,u,u,u,u,u,u,u,u,u,u,u,u,u,u,u,u,u,u,u,u,u,u,u,u,u,u,u,u,u,u,u,u,u,u,u,u,u,u,u,u] (frz h) fun v _ => below h.length v = true ∧ R v h) :=
  (ret_rd rfl rfl).trans (by rw [env180]; rfl)
theorem enter181 (h : Heap) (R : Value → Heap → Prop) (v0 v1 v2 : Value) : Ret tab 181 [v0,v1,v2] h R = Ok tab R181 [.code B181] #[v0,v1,v2,u,u,u,u,u,u,u,u,u,u,u,u,u,u,u,u] h R :=
  (ret_eq rfl rfl).trans (by rw [env181]; rfl)
theorem enter182 (h : Heap) (R : Value → Heap → Prop) (v0 v1 v2 v3 : Value) : Ret tab 182 [v0,v1,v2,v3] h R = (belowL h.length [v0,v1,v2,v3] = true ∧ Ok tab R182 [.code B182] #[v0,v1,v2,v3,u,u,u,u,u,u,u,u,u,u,u,u,u,u,u,u,u,u,u,u,u,u,u,u,u,u,u,u,u,u,u,u,u,u,u,u,u,u,u,u,u,u,u,u,u,u,u,u,u,u,u,u,u,u,u,u,u,u,u,u,u,u,u,u,u,u,u,u,u,u,u,u,u] (frz h) fun v _ => below h.length v = true ∧ R v h) :=
  (ret_rd rfl rfl).trans (by rw [env182]; rfl)
theorem enter183 (h : Heap) (R : Value → Heap → Prop) (v0 v1 v2 v3 : Value) : Ret tab 183 [v0,v1,v2,v3] h R = (belowL h.length [v0,v1,v2,v3] = true ∧ Ok tab R183 [.code B183] #[v0,v1,v2,v3,u,u,u,u,u,u,u,u,u,u,u,u,u,u,u,u,u,u,u,u,u,u,u,u,u,u,u,u,u,u,u] (frz h) fun v _ => below h.length v = true ∧ R v h) :=
  (ret_rd rfl rfl).trans (by rw [env183]; rfl)
theorem enter186 (h : Heap) (R : Value → Heap → Prop) (v0 v1 v2 : Value) : Ret tab 186 [v0,v1,v2] h R = Ok tab R186 [.code B186] #[v0,v1,v2,u,u,u,u,u,u,u,u,u,u,u,u,u,u,u,u,u,u,u,u,u,u,u,u,u,u,u,u,u,u,u,u,u,u,u,u,u,u,u,u,u,u,u,u,u,u,u,u,u,u,u] h R :=
  (ret_eq rfl rfl).trans (by rw [env186]; rfl)
theorem enter187 (h : Heap) (R : Value → Heap → Prop) (v0 v1 v2 : Value) : Ret tab 187 [v0,v1,v2] h R = Ok tab R187 [.code B187] #[v0,v1,v2,u,u,u,u,u,u,u,u,u,u,u,u,u,u,u,u,u,u,u,u,u,u,u,u,u,u,u,u,u,u,u,u,u,u,u,u,u,u,u,u,u,u,u,u,u,u,u,u,u,u,u,u,u,u] h R :=
  (ret_eq rfl rfl).trans (by rw [env187]; rfl)
theorem enter191 (h : Heap) (R : Value → Heap → Prop) (v0 v1 v2 : Value) : Ret tab 191 [v0,v1,v2] h R = (belowL h.length [v0,v1,v2] = true ∧ Ok tab R191 [.code B191] #[v0,v1,v2,u,u,u,u,u,u,u,u] (frz h) fun v _ => below h.length v = true ∧ R v h) :=
  (ret_rd rfl rfl).trans (by rw [env191]; rfl)
theorem enter192 (h : Heap) (R : Value → Heap → Prop) (v0 v1 v2 : Value) : Ret tab 192 [v0,v1,v2] h R = (belowL h.length [v0,v1,v2] = true ∧ Ok tab R192 [.code B192] #[v0,v1,v2,u,u,u,u,u,u,u,u,u] (frz h) fun v _ => below h.length v = true ∧ R v h) :=
  (ret_rd rfl rfl).trans (by rw [env192]; rfl)
theorem enter193 (h : Heap) (R : Value → Heap → Prop) (v0 v1 : Value) : Ret tab 193 [v0,v1] h R = (belowL h.length [v0,v1] = true ∧ Ok tab R193 [.code B193] #[v0,v1,u,u,u,u,u,u,u,u,u,u,u,u,u,u,u,u] (frz h) fun v _ => below h.length v = true ∧ R v h) :=
  (ret_rd rfl rfl).trans (by rw [env193]; rfl)
theorem enter194 (h : Heap) (R : Value → Heap → Prop) (v0 v1 v2 : Value) : Ret tab 194 [v0,v1,v2] h R = (belowL h.length [v0,v1,v2] = true ∧ Ok tab R194 [.code B194] #[v0,v1,v2,u,u,u,u,u,u,u,u,u,u,u,u,u,u,u,u,u,u,u,u,u,u,u,u,u,u,u] (frz h) fun v _ => below h.length v = true ∧ R v h) :=
  (ret_rd rfl rfl).trans (by rw [env194]; rfl)
theorem enter195 (h : Heap) (R : Value → Heap → Prop) (v0 v1 v2 : Value) : Ret tab 195 [v0,v1,v2] h R = (belowL h.length [v0,v1,v2] = true ∧ Ok tab R195 [.code B195] #[v0,v1,v2,u,u,u,u,u,u,u,u,u,u,u,u,u,u,u,u,u,u,u,u,u,u,u] (frz h) fun v _ => below h.length v = true ∧ R v h) :=
  (ret_rd rfl rfl).trans (by rw [env195]; rfl)
theorem enter196 (h : Heap) (R : Value → Heap → Prop) (v0 v1 : Value) : Ret tab 196 [v0,v1] h R = (belowL h.length [v0,v1] = true ∧ Ok tab R196 [.code B196] #[v0,v1,u,u,u,u,u,u,u,u] (frz h) fun v _ => below h.length v = true ∧ R v h) :=
  (ret_rd rfl rfl).trans (by rw [env196]; rfl)
theorem enter197 (h : Heap) (R : Value → Heap → Prop) (v0 v1 v2 : Value) : Ret tab 197 [v0,v1,v2] h R = (belowL h.length [v0,v1,v2] = true ∧ Ok tab R197 [.code B197] #[v0,v1,v2,u,u,u,u,u,u,u,u,u] (frz h) fun v _ => below h.length v = true ∧ R v h) :=
  (ret_rd rfl rfl).trans (by rw [env197]; rfl)
theorem enter198 (h : Heap) (R : Value → Heap → Prop) (v0 v1 v2 : Value) : Ret tab 198 [v0,v1,v2] h R = (belowL h.length [v0,v1,v2] = true ∧ Ok tab R198 [.code B198] #[v0,v1,v2,u,u,u,u,u,u,u,u,u] (frz h) fun v _ => below h.length v = true ∧ R v h) :=
  (ret_rd rfl rfl).trans (by rw [env198]; rfl)
theorem enter199 (h : Heap) (R : Value → Heap → Prop) (v0 v1 : Value) : Ret tab 199 [v0,v1] h R = (belowL h.length [v0,v1] = true ∧ Ok tab R199 [.code B199] #[v0,v1,u,u,u,u,u,u,u,u,u,u,u,u,u,u,u] (frz h) fun v _ => below h.length v = true ∧ R v h) :=
  (ret_rd rfl rfl).trans (by rw [env199]; rfl)
theorem enter200 (h : Heap) (R : Value → Heap → Prop) (v0 v1 v2 : Value) : Ret tab 200 [v0,v1,v2] h R = (belowL h.length [v0,v1,v2] = true ∧ Ok tab R200 [.code B200] #[v0,v1,v2,u,u,u,u,u,u,u,u,u,u,u,u,u,u,u,u,u,u] (frz h) fun v _ => below h.length v = true ∧ R v h) :=
  (ret_rd rfl rfl).trans (by rw [env200]; rfl)
theorem enter201 (h : Heap) (R : Value → Heap → Prop) (v0 v1 v2 v3 : Value) : Ret tab 201 [v0,v1,v2,v3] h R = (belowL h.length [v0,v1,v2,v3] = true ∧ Ok tab R201 [.code B201] #[v0,v1,v2,v3,u,u,u,u,u,u,u,u,u,u,u,u,u,u,u,u,u,u,u,u,u,u,u,u,u,u,u,u,u,u,u,u,u,u,u,u,u,u,u,u,u] (frz h) fun v _ => below h.length v = true ∧ R v h) :=
  (ret_rd rfl rfl).trans (by rw [env201]; rfl)
theorem enter202 (h : Heap) (R : Value → Heap → Prop) (v0 v1 : Value) : Ret tab 202 [v0,v1] h R = (belowL h.length [v0,v1] = true ∧ Ok tab R202 [.code B202] #[v0,v1,u,u,u,u,u,u,u,u,u,u,u,u,u,u,u,u,u,u,u,u,u,u,u,u,u,u,u,u,u,u,u,u,u,u,u,u] (frz h) fun v _ => below h.length v = true ∧ R v h) :=
  (ret_rd rfl rfl).trans (by rw [env202]; rfl)
theorem enter203 (h : Heap) (R : Value → Heap → Prop) (v0 v1 v2 : Value) : Ret tab 203 [v0,v1,v2] h R = Ok tab R203 [.code B203] #[v0,v1,v2,u,u,u,u,u,u,u,u,u,u,u,u,u,u,u,u,u,u,u,u,u,u,u,u,u,u] h R :=
  (ret_eq rfl rfl).trans (by rw [env203]; rfl)
theorem enter209 (h : Heap) (R : Value → Heap → Prop) (v0 v1 v2 : Value) : Ret tab 209 [v0,v1,v2] h R = (belowL h.length [v0,v1,v2] = true ∧ Ok tab R209 [.code B209] #[v0,v1,v2,u,u,u,u,u,u,u,u,u,u,u,u,u,u,u] (frz h) fun v _ => below h.length v = true ∧ R v h) :=
  (ret_rd rfl rfl).trans (by rw [env209]; rfl)
theorem enter210 (h : Heap) (R : Value → Heap → Prop) (v0 v1 : Value) : Ret tab 210 [v0,v1] h R = (belowL h.length [v0,v1] = true ∧ Ok tab R210 [.code B210] #[v0,v1,u,u,u,u,u,u,u,u,u,u,u,u,u,u,u,u,u,u,u] (frz h) fun v _ => below h.length v = true ∧ R v h) :=
  (ret_rd rfl rfl).trans (by rw [env210]; rfl)
theorem enter226 (h : Heap) (R : Value → Heap → Prop) (v0 : Value) : Ret tab 226 [v0] h R = Ok tab R226 [.code B226] #[v0,u,u,u,u,u] h R :=
  (ret_eq rfl rfl).trans (by rw [env226]; rfl)
theorem enter227 (h : Heap) (R : Value → Heap → Prop) (v0 : Value) : Ret tab 227 [v0] h R = Ok tab R227 [.code B227] #[v0,u,u,u,u,u] h R :=
  (ret_eq rfl rfl).trans (by rw [env227]; rfl)
theorem enter228 (h : Heap) (R : Value → Heap → Prop) (v0 v1 : Value) : Ret tab 228 [v0,v1] h R = Ok tab R228 [.code B228] #[v0,v1,u,u,u,u,u,u,u,u,u] h R :=
  (ret_eq rfl rfl).trans (by rw [env228]; rfl)
theorem enter229 (h : Heap) (R : Value → Heap → Prop) (v0 : Value) : Ret tab 229 [v0] h R = Ok tab R229 [.code B229] #[v0,u,u,u,u,u,u,u,u,u,u,u,u,u,u,u,u,u,u,u,u,u,u,u,u,u,u,u,u,u,u,u,u,u,u,u,u,u,u,u,u,u,u,u,u,u,u,u,u,u,u,u,u,u,u,u,u,u,u,u,u,u,u,u,u,u,u,u,u,u,u,u,u] h R :=
  (ret_eq rfl rfl).trans (by rw [env229]; rfl)
theorem enter230 (h : Heap) (R : Value → Heap → Prop) (v0 : Value) : Ret tab 230 [v0] h R = Ok tab R230 [.code B230] #[v0,u,u,u,u,u,u,u,u,u,u,u,u,u,u,u,u,u,u] h R :=
  (ret_eq rfl rfl).trans (by rw [env230]; rfl)
theorem enter231 (h : Heap) (R : Value → Heap → Prop) (v0 v1 v2 : Value) : Ret tab 231 [v0,v1,v2] h R = Ok tab R231 [.code B231] #[v0,v1,v2,u,u,u,u,u,u,u,u,u,u,u,u,u,u,u,u,u,u,u,u,u,u,u,u,u,u,u,u,u,u,u,u,u,u,u,u,u,u,u,u,u,u,u,u,u,u,u,u,u,u,u,u,u,u,u,u,u,u,u,u,u,u,u,u,u,u,u,u,u,u,u,u,u,u,u,u,u,u,u,u,u,u,u,u,u,u,u,u,u,u,u,u,u,u,u,u,u,u,u,u,u,u,u,u,u,u,u,u,u,u,u,u,u,u,u] h R :=
  (ret_eq rfl rfl).trans (by rw [env231]; rfl)
theorem enter232 (h : Heap) (R : Value → Heap → Prop) (v0 v1 : Value) : Ret tab 232 [v0,v1] h R = Ok tab R232 [.code B232] #[v0,v1,u,u,u,u,u,u,u,u,u,u,u,u,u,u,u,u,u,u,u,u,u,u,u,u,u,u,u,u,u,u,u,u] h R :=
  (ret_eq rfl rfl).trans (by rw [env232]; rfl)
theorem enter233 (h : Heap) (R : Value → Heap → Prop) (v0 : Value) : Ret tab 233 [v0] h R = Ok tab R233 [.code B233] #[v0,u,u,u,u,u,u,u,u,u,u,u,u,u,u,u,u,u,u,u,u] h R :=
  (ret_eq rfl rfl).trans (by rw [env233]; rfl)
theorem enter234 (h : Heap) (R : Value → Heap → Prop) (v0 v1 : Value) : Ret tab 234 [v0,v1] h R = Ok tab R234 [.code B234] #[v0,v1,u,u,u,u,u,u,u,u,u,u,u,u,u,u] h R :=
  (ret_eq rfl rfl).trans (by rw [env234]; rfl)
theorem enter235 (h : Heap) (R : Value → Heap → Prop) (v0 v1 v2 : Value) : Ret tab 235 [v0,v1,v2] h R = Ok tab R235 [.code B235] #[v0,v1,v2,u,u,u,u,u,u,u,u,u,u,u,u,u,u] h R :=
  (ret_eq rfl rfl).trans (by rw [env235]; rfl)
theorem enter236 (h : Heap) (R : Value → Heap → Prop) (v0 v1 v2 : Value) : Ret tab 236 [v0,v1,v2] h R = Ok tab R236 [.code B236] #[v0,v1,v2,u,u,u,u,u,u,u,u,u,u,u,u,u,u,u,u,u,u] h R :=
  (ret_eq rfl rfl).trans (by rw [env236]; rfl)
theorem enter237 (h : Heap) (R : Value → Heap → Prop) (v0 v1 : Value) : Ret tab 237 [v0,v1] h R = Ok tab R237 [.code B237] #[v0,v1,u,u,u,u,u,u,u,u,u,u,u,u,u,u,u,u,u,u,u,u,u,u,u] h R :=
  (ret_eq rfl rfl).trans (by rw [env237]; rfl)
theorem enter238 (h : Heap) (R : Value → Heap → Prop) (v0 : Value) : Ret tab 238 [v0] h R = Ok tab R238 [.code B238] #[v0,u,u,u,u,u,u,u,u,u,u,u,u,u,u,u,u,u,u] h R :=
  (ret_eq rfl rfl).trans (by rw [env238]; rfl)
theorem enter239 (h : Heap) (R : Value → Heap → Prop) (v0 : Value) : Ret tab 239 [v0] h R = Ok tab R239 [.code B239] #[v0,u,u,u,u,u] h R :=
  (ret_eq rfl rfl).trans (by rw [env239]; rfl)
theorem enter240 (h : Heap) (R : Value → Heap → Prop) (v0 : Value) : Ret tab 240 [v0] h R = Ok tab R240 [.code B240] #[v0,u,u,u,u,u] h R :=
  (ret_eq rfl rfl).trans (by rw [env240]; rfl)
theorem enter241 (h : Heap) (R : Value → Heap → Prop) (v0 v1 : Value) : Ret tab 241 [v0,v1] h R = Ok tab R241 [.code B241] #[v0,v1,u,u,u,u,u,u,u] h R :=
  (ret_eq rfl rfl).trans (by rw [env241]; rfl)
theorem enter242 (h : Heap) (R : Value → Heap → Prop) (v0 : Value) : Ret tab 242 [v0] h R = Ok tab R242 [.code B242] #[v0,u,u,u,u,u,u,u,u,u,u,u,u,u,u,u,u,u,u,u,u,u,u,u,u,u,u,u,u,u,u,u,u,u,u,u,u,u,u,u,u,u,u,u,u] h R :=
  (ret_eq rfl rfl).trans (by rw [env242]; rfl)
theorem enter243 (h : Heap) (R : Value → Heap → Prop) (v0 v1 : Value) : Ret tab 243 [v0,v1] h R = Ok tab R243 [.code B243] #[v0,v1,u,u,u,u,u,u,u,u,u,u,u,u,u,u,u,u,u,u,u,u,u,u,u,u] h R :=
  (ret_eq rfl rfl).trans (by rw [env243]; rfl)
theorem enter244 (h : Heap) (R : Value → Heap → Prop) (v0 v1 : Value) : Ret tab 244 [v0,v1] h R = Ok tab R244 [.code B244] #[v0,v1,u,u,u,u,u,u,u,u,u,u,u,u,u,u,u,u,u,u,u,u,u,u,u,u,u,u,u,u,u,u,u,u,u,u,u,u,u,u,u,u,u,u,u,u,u,u,u] h R :=
  (ret_eq rfl rfl).trans (by rw [env244]; rfl)
end Go.Proofs.YtjpjohchdfoeaaaGreat
