/-
  The table of the functions, resolved: it is the program's. Laid by program (gentab.py).
-/
import Derived.Test.YtjpjohchdfoeaaaGreatTabA
import Derived.Test.YtjpjohchdfoeaaaGreatTabB
namespace Go.Proofs.YtjpjohchdfoeaaaGreat
open Go Go.Sim
open Go.Operand renaming tmp → t,const → c,func → w
open Go.Sim.ROp renaming mov → m,bin → b,load → l,fieldAddr → f,call → z,nilCheck → y,pick → p,extract → x
open Go.Sim.RCode renaming seq → q,region → r,cond → d,skip → o
open Go.Value renaming int → i
open Go.IntKind renaming i64 → j
open Option renaming none → n,some → s
open Go renaming undef → u
variable {T : Tab} {F : RFunc} {k : List RItem} {e : Env} {h : Heap} {R : Value → Heap → Prop}
def tab : Tab := fun g => match g with
  | 7 => s R7
  | 10 => s R10
  | 11 => s R11
  | 13 => s R13
  | 14 => s R14
  | 17 => s R17
  | 25 => s R25
  | 26 => s R26
  | 27 => s R27
  | 28 => s R28
  | 34 => s R34
  | 35 => s R35
  | 36 => s R36
  | 37 => s R37
  | 38 => s R38
  | 39 => s R39
  | 40 => s R40
  | 41 => s R41
  | 55 => s R55
  | 56 => s R56
  | 57 => s R57
  | 58 => s R58
  | 59 => s R59
  | 60 => s R60
  | 61 => s R61
  | 62 => s R62
  | 63 => s R63
  | 64 => s R64
  | 65 => s R65
  | 79 => s R79
  | 80 => s R80
  | 81 => s R81
  | 82 => s R82
  | 83 => s R83
  | 84 => s R84
  | 105 => s R105
  | 106 => s R106
  | 107 => s R107
  | 108 => s R108
  | 109 => s R109
  | 110 => s R110
  | 111 => s R111
  | 112 => s R112
  | 113 => s R113
  | 122 => s R122
  | 123 => s R123
  | 124 => s R124
  | 125 => s R125
  | 126 => s R126
  | 139 => s R139
  | 140 => s R140
  | 141 => s R141
  | 142 => s R142
  | 143 => s R143
  | 144 => s R144
  | 145 => s R145
  | 146 => s R146
  | 147 => s R147
  | 148 => s R148
  | 149 => s R149
  | 162 => s R162
  | 163 => s R163
  | 164 => s R164
  | 165 => s R165
  | 166 => s R166
  | 177 => s R177
  | 178 => s R178
  | 179 => s R179
  | 180 => s R180
  | 181 => s R181
  | 186 => s R186
  | 191 => s R191
  | 192 => s R192
  | 193 => s R193
  | 194 => s R194
  | 195 => s R195
  | 196 => s R196
  | 226 => s R226
  | 227 => s R227
  | 228 => s R228
  | 229 => s R229
  | 230 => s R230
  | 231 => s R231
  | 232 => s R232
  | 233 => s R233
  | 234 => s R234
  | 235 => s R235
  | 236 => s R236
  | 237 => s R237
  | 238 => s R238
  | 239 => s R239
  | 240 => s R240
  | 241 => s R241
  | 242 => s R242
  | 243 => s R243
  | 244 => s R244
  | 245 => s R245
  | 246 => s R246
  | 248 => s R248
  | 249 => s R249
  | 250 => s R250
  | _ => n
theorem tabOk : TabOk Tryz.prog tab := by
  intro g G h
  unfold tab at h
  split at h <;> try (cases h; done)
  · exact Eq.subst (motive := fun X => compileF Tryz.prog 7 X.iso = s X) (Option.some.inj h) c7
  · exact Eq.subst (motive := fun X => compileF Tryz.prog 10 X.iso = s X) (Option.some.inj h) c10
  · exact Eq.subst (motive := fun X => compileF Tryz.prog 11 X.iso = s X) (Option.some.inj h) c11
  · exact Eq.subst (motive := fun X => compileF Tryz.prog 13 X.iso = s X) (Option.some.inj h) c13
  · exact Eq.subst (motive := fun X => compileF Tryz.prog 14 X.iso = s X) (Option.some.inj h) c14
  · exact Eq.subst (motive := fun X => compileF Tryz.prog 17 X.iso = s X) (Option.some.inj h) c17
  · exact Eq.subst (motive := fun X => compileF Tryz.prog 25 X.iso = s X) (Option.some.inj h) c25
  · exact Eq.subst (motive := fun X => compileF Tryz.prog 26 X.iso = s X) (Option.some.inj h) c26
  · exact Eq.subst (motive := fun X => compileF Tryz.prog 27 X.iso = s X) (Option.some.inj h) c27
  · exact Eq.subst (motive := fun X => compileF Tryz.prog 28 X.iso = s X) (Option.some.inj h) c28
  · exact Eq.subst (motive := fun X => compileF Tryz.prog 34 X.iso = s X) (Option.some.inj h) c34
  · exact Eq.subst (motive := fun X => compileF Tryz.prog 35 X.iso = s X) (Option.some.inj h) c35
  · exact Eq.subst (motive := fun X => compileF Tryz.prog 36 X.iso = s X) (Option.some.inj h) c36
  · exact Eq.subst (motive := fun X => compileF Tryz.prog 37 X.iso = s X) (Option.some.inj h) c37
  · exact Eq.subst (motive := fun X => compileF Tryz.prog 38 X.iso = s X) (Option.some.inj h) c38
  · exact Eq.subst (motive := fun X => compileF Tryz.prog 39 X.iso = s X) (Option.some.inj h) c39
  · exact Eq.subst (motive := fun X => compileF Tryz.prog 40 X.iso = s X) (Option.some.inj h) c40
  · exact Eq.subst (motive := fun X => compileF Tryz.prog 41 X.iso = s X) (Option.some.inj h) c41
  · exact Eq.subst (motive := fun X => compileF Tryz.prog 55 X.iso = s X) (Option.some.inj h) c55
  · exact Eq.subst (motive := fun X => compileF Tryz.prog 56 X.iso = s X) (Option.some.inj h) c56
  · exact Eq.subst (motive := fun X => compileF Tryz.prog 57 X.iso = s X) (Option.some.inj h) c57
  · exact Eq.subst (motive := fun X => compileF Tryz.prog 58 X.iso = s X) (Option.some.inj h) c58
  · exact Eq.subst (motive := fun X => compileF Tryz.prog 59 X.iso = s X) (Option.some.inj h) c59
  · exact Eq.subst (motive := fun X => compileF Tryz.prog 60 X.iso = s X) (Option.some.inj h) c60
  · exact Eq.subst (motive := fun X => compileF Tryz.prog 61 X.iso = s X) (Option.some.inj h) c61
  · exact Eq.subst (motive := fun X => compileF Tryz.prog 62 X.iso = s X) (Option.some.inj h) c62
  · exact Eq.subst (motive := fun X => compileF Tryz.prog 63 X.iso = s X) (Option.some.inj h) c63
  · exact Eq.subst (motive := fun X => compileF Tryz.prog 64 X.iso = s X) (Option.some.inj h) c64
  · exact Eq.subst (motive := fun X => compileF Tryz.prog 65 X.iso = s X) (Option.some.inj h) c65
  · exact Eq.subst (motive := fun X => compileF Tryz.prog 79 X.iso = s X) (Option.some.inj h) c79
  · exact Eq.subst (motive := fun X => compileF Tryz.prog 80 X.iso = s X) (Option.some.inj h) c80
  · exact Eq.subst (motive := fun X => compileF Tryz.prog 81 X.iso = s X) (Option.some.inj h) c81
  · exact Eq.subst (motive := fun X => compileF Tryz.prog 82 X.iso = s X) (Option.some.inj h) c82
  · exact Eq.subst (motive := fun X => compileF Tryz.prog 83 X.iso = s X) (Option.some.inj h) c83
  · exact Eq.subst (motive := fun X => compileF Tryz.prog 84 X.iso = s X) (Option.some.inj h) c84
  · exact Eq.subst (motive := fun X => compileF Tryz.prog 105 X.iso = s X) (Option.some.inj h) c105
  · exact Eq.subst (motive := fun X => compileF Tryz.prog 106 X.iso = s X) (Option.some.inj h) c106
  · exact Eq.subst (motive := fun X => compileF Tryz.prog 107 X.iso = s X) (Option.some.inj h) c107
  · exact Eq.subst (motive := fun X => compileF Tryz.prog 108 X.iso = s X) (Option.some.inj h) c108
  · exact Eq.subst (motive := fun X => compileF Tryz.prog 109 X.iso = s X) (Option.some.inj h) c109
  · exact Eq.subst (motive := fun X => compileF Tryz.prog 110 X.iso = s X) (Option.some.inj h) c110
  · exact Eq.subst (motive := fun X => compileF Tryz.prog 111 X.iso = s X) (Option.some.inj h) c111
  · exact Eq.subst (motive := fun X => compileF Tryz.prog 112 X.iso = s X) (Option.some.inj h) c112
  · exact Eq.subst (motive := fun X => compileF Tryz.prog 113 X.iso = s X) (Option.some.inj h) c113
  · exact Eq.subst (motive := fun X => compileF Tryz.prog 122 X.iso = s X) (Option.some.inj h) c122
  · exact Eq.subst (motive := fun X => compileF Tryz.prog 123 X.iso = s X) (Option.some.inj h) c123
  · exact Eq.subst (motive := fun X => compileF Tryz.prog 124 X.iso = s X) (Option.some.inj h) c124
  · exact Eq.subst (motive := fun X => compileF Tryz.prog 125 X.iso = s X) (Option.some.inj h) c125
  · exact Eq.subst (motive := fun X => compileF Tryz.prog 126 X.iso = s X) (Option.some.inj h) c126
  · exact Eq.subst (motive := fun X => compileF Tryz.prog 139 X.iso = s X) (Option.some.inj h) c139
  · exact Eq.subst (motive := fun X => compileF Tryz.prog 140 X.iso = s X) (Option.some.inj h) c140
  · exact Eq.subst (motive := fun X => compileF Tryz.prog 141 X.iso = s X) (Option.some.inj h) c141
  · exact Eq.subst (motive := fun X => compileF Tryz.prog 142 X.iso = s X) (Option.some.inj h) c142
  · exact Eq.subst (motive := fun X => compileF Tryz.prog 143 X.iso = s X) (Option.some.inj h) c143
  · exact Eq.subst (motive := fun X => compileF Tryz.prog 144 X.iso = s X) (Option.some.inj h) c144
  · exact Eq.subst (motive := fun X => compileF Tryz.prog 145 X.iso = s X) (Option.some.inj h) c145
  · exact Eq.subst (motive := fun X => compileF Tryz.prog 146 X.iso = s X) (Option.some.inj h) c146
  · exact Eq.subst (motive := fun X => compileF Tryz.prog 147 X.iso = s X) (Option.some.inj h) c147
  · exact Eq.subst (motive := fun X => compileF Tryz.prog 148 X.iso = s X) (Option.some.inj h) c148
  · exact Eq.subst (motive := fun X => compileF Tryz.prog 149 X.iso = s X) (Option.some.inj h) c149
  · exact Eq.subst (motive := fun X => compileF Tryz.prog 162 X.iso = s X) (Option.some.inj h) c162
  · exact Eq.subst (motive := fun X => compileF Tryz.prog 163 X.iso = s X) (Option.some.inj h) c163
  · exact Eq.subst (motive := fun X => compileF Tryz.prog 164 X.iso = s X) (Option.some.inj h) c164
  · exact Eq.subst (motive := fun X => compileF Tryz.prog 165 X.iso = s X) (Option.some.inj h) c165
  · exact Eq.subst (motive := fun X => compileF Tryz.prog 166 X.iso = s X) (Option.some.inj h) c166
  · exact Eq.subst (motive := fun X => compileF Tryz.prog 177 X.iso = s X) (Option.some.inj h) c177
  · exact Eq.subst (motive := fun X => compileF Tryz.prog 178 X.iso = s X) (Option.some.inj h) c178
  · exact Eq.subst (motive := fun X => compileF Tryz.prog 179 X.iso = s X) (Option.some.inj h) c179
  · exact Eq.subst (motive := fun X => compileF Tryz.prog 180 X.iso = s X) (Option.some.inj h) c180
  · exact Eq.subst (motive := fun X => compileF Tryz.prog 181 X.iso = s X) (Option.some.inj h) c181
  · exact Eq.subst (motive := fun X => compileF Tryz.prog 186 X.iso = s X) (Option.some.inj h) c186
  · exact Eq.subst (motive := fun X => compileF Tryz.prog 191 X.iso = s X) (Option.some.inj h) c191
  · exact Eq.subst (motive := fun X => compileF Tryz.prog 192 X.iso = s X) (Option.some.inj h) c192
  · exact Eq.subst (motive := fun X => compileF Tryz.prog 193 X.iso = s X) (Option.some.inj h) c193
  · exact Eq.subst (motive := fun X => compileF Tryz.prog 194 X.iso = s X) (Option.some.inj h) c194
  · exact Eq.subst (motive := fun X => compileF Tryz.prog 195 X.iso = s X) (Option.some.inj h) c195
  · exact Eq.subst (motive := fun X => compileF Tryz.prog 196 X.iso = s X) (Option.some.inj h) c196
  · exact Eq.subst (motive := fun X => compileF Tryz.prog 226 X.iso = s X) (Option.some.inj h) c226
  · exact Eq.subst (motive := fun X => compileF Tryz.prog 227 X.iso = s X) (Option.some.inj h) c227
  · exact Eq.subst (motive := fun X => compileF Tryz.prog 228 X.iso = s X) (Option.some.inj h) c228
  · exact Eq.subst (motive := fun X => compileF Tryz.prog 229 X.iso = s X) (Option.some.inj h) c229
  · exact Eq.subst (motive := fun X => compileF Tryz.prog 230 X.iso = s X) (Option.some.inj h) c230
  · exact Eq.subst (motive := fun X => compileF Tryz.prog 231 X.iso = s X) (Option.some.inj h) c231
  · exact Eq.subst (motive := fun X => compileF Tryz.prog 232 X.iso = s X) (Option.some.inj h) c232
  · exact Eq.subst (motive := fun X => compileF Tryz.prog 233 X.iso = s X) (Option.some.inj h) c233
  · exact Eq.subst (motive := fun X => compileF Tryz.prog 234 X.iso = s X) (Option.some.inj h) c234
  · exact Eq.subst (motive := fun X => compileF Tryz.prog 235 X.iso = s X) (Option.some.inj h) c235
  · exact Eq.subst (motive := fun X => compileF Tryz.prog 236 X.iso = s X) (Option.some.inj h) c236
  · exact Eq.subst (motive := fun X => compileF Tryz.prog 237 X.iso = s X) (Option.some.inj h) c237
  · exact Eq.subst (motive := fun X => compileF Tryz.prog 238 X.iso = s X) (Option.some.inj h) c238
  · exact Eq.subst (motive := fun X => compileF Tryz.prog 239 X.iso = s X) (Option.some.inj h) c239
  · exact Eq.subst (motive := fun X => compileF Tryz.prog 240 X.iso = s X) (Option.some.inj h) c240
  · exact Eq.subst (motive := fun X => compileF Tryz.prog 241 X.iso = s X) (Option.some.inj h) c241
  · exact Eq.subst (motive := fun X => compileF Tryz.prog 242 X.iso = s X) (Option.some.inj h) c242
  · exact Eq.subst (motive := fun X => compileF Tryz.prog 243 X.iso = s X) (Option.some.inj h) c243
  · exact Eq.subst (motive := fun X => compileF Tryz.prog 244 X.iso = s X) (Option.some.inj h) c244
  · exact Eq.subst (motive := fun X => compileF Tryz.prog 245 X.iso = s X) (Option.some.inj h) c245
  · exact Eq.subst (motive := fun X => compileF Tryz.prog 246 X.iso = s X) (Option.some.inj h) c246
  · exact Eq.subst (motive := fun X => compileF Tryz.prog 248 X.iso = s X) (Option.some.inj h) c248
  · exact Eq.subst (motive := fun X => compileF Tryz.prog 249 X.iso = s X) (Option.some.inj h) c249
  · exact Eq.subst (motive := fun X => compileF Tryz.prog 250 X.iso = s X) (Option.some.inj h) c250
theorem enter7 (h : Heap) (R : Value → Heap → Prop) (v0 v1 v2 : Value) : Ret tab 7 [v0,v1,v2] h R = Ok tab R7 [.code B7] #[v0,v1,v2,u,u,u,u,u,u,u,u,u,u,u,u,u,u,u,u,u,u,u,u,u,u,u,u,u,u,u,u,u,u,u,u,u,u,u,u,u,u,u,u,u,u,u,u,u,u,u,u,u,u,u,u,u,u,u,u,u,u,u,u,u,u,u,u,u,u,u,u,u,u,u,u,u,u,u,u,u,u,u,u,u,u,u,u,u,u,u,u,u,u,u,u,u,u,u,u,u,u,u,u,u,u,u,u,u,u,u,u,u,u,u,u,u,u,u,u,u,u,u,u,u,u,u,u,u,u,u,u,u,u,u,u,u,u,u,u,u,u,u,u,u,u,u,u,u,u,u,u,u,u] h R :=
  (ret_eq rfl rfl).trans (by rw [env7]; rfl)
theorem enter10 (h : Heap) (R : Value → Heap → Prop) : Ret tab 10 [] h R = Ok tab R10 [.code B10] #[u,u,u,u,u,u,u,u,u,u,u,u,u,u,u,u,u,u,u,u,u,u,u,u,u,u,u,u,u,u,u,u,u,u,u,u,u,u,u,u,u,u,u,u,u,u,u,u,u,u,u,u,u,u,u,u,u,u,u,u,u,u,u,u,u,u,u,u] h R :=
  (ret_eq rfl rfl).trans (by rw [env10]; rfl)
theorem enter11 (h : Heap) (R : Value → Heap → Prop) (v0 v1 v2 v3 v4 v5 : Value) : Ret tab 11 [v0,v1,v2,v3,v4,v5] h R = Ok tab R11 [.code B11] #[v0,v1,v2,v3,v4,v5,u,u,u,u,u,u,u,u,u,u,u,u,u,u,u,u,u,u,u,u,u,u,u,u,u,u,u,u,u,u,u,u,u,u,u,u,u,u,u,u,u,u,u,u,u,u,u] h R :=
  (ret_eq rfl rfl).trans (by rw [env11]; rfl)
theorem enter13 (h : Heap) (R : Value → Heap → Prop) (v0 v1 : Value) : Ret tab 13 [v0,v1] h R = Ok tab R13 [.code B13] #[v0,v1,u,u,u,u,u,u,u,u,u,u,u,u,u,u,u,u,u,u,u,u,u,u,u,u] h R :=
  (ret_eq rfl rfl).trans (by rw [env13]; rfl)
theorem enter14 (h : Heap) (R : Value → Heap → Prop) (v0 v1 v2 v3 v4 v5 : Value) : Ret tab 14 [v0,v1,v2,v3,v4,v5] h R = Ok tab R14 [.code B14] #[v0,v1,v2,v3,v4,v5,u,u,u,u,u,u,u,u,u,u,u,u,u,u,u,u,u,u,u,u,u,u,u,u,u,u,u,u,u,u,u,u,u,u,u,u,u,u,u] h R :=
  (ret_eq rfl rfl).trans (by rw [env14]; rfl)
theorem enter17 (h : Heap) (R : Value → Heap → Prop) (v0 v1 v2 v3 v4 : Value) : Ret tab 17 [v0,v1,v2,v3,v4] h R = Ok tab R17 [.code B17] #[v0,v1,v2,v3,v4,u,u,u,u,u,u,u,u,u,u,u,u,u,u,u,u,u,u,u,u,u,u,u,u,u,u,u,u,u,u,u,u,u,u,u,u,u,u,u,u,u,u,u,u,u,u,u,u,u,u,u,u,u,u,u,u,u,u,u,u,u,u,u,u,u,u,u,u,u,u,u,u,u,u,u,u,u,u,u,u,u,u,u,u,u,u,u,u,u,u,u,u,u,u,u,u,u,u,u,u,u,u,u,u,u,u,u,u,u,u,u,u,u,u,u,u,u,u,u,u,u,u,u,u,u,u,u,u,u,u,u,u,u,u,u,u,u,u,u,u,u,u,u] h R :=
  (ret_eq rfl rfl).trans (by rw [env17]; rfl)
theorem enter25 (h : Heap) (R : Value → Heap → Prop) (v0 v1 : Value) : Ret tab 25 [v0,v1] h R = Ok tab R25 [.code B25] #[v0,v1,u,u,u,u,u,u,u,u,u,u,u,u,u,u,u,u,u,u,u,u,u,u,u] h R :=
  (ret_eq rfl rfl).trans (by rw [env25]; rfl)
theorem enter26 (h : Heap) (R : Value → Heap → Prop) (v0 v1 v2 v3 v4 v5 : Value) : Ret tab 26 [v0,v1,v2,v3,v4,v5] h R = Ok tab R26 [.code B26] #[v0,v1,v2,v3,v4,v5,u,u,u,u,u,u,u,u,u,u,u,u,u,u,u,u,u,u,u,u,u,u,u,u,u,u,u,u,u,u,u,u,u,u,u,u,u,u,u,u,u,u,u,u,u] h R :=
  (ret_eq rfl rfl).trans (by rw [env26]; rfl)
theorem enter27 (h : Heap) (R : Value → Heap → Prop) (v0 v1 v2 v3 v4 v5 : Value) : Ret tab 27 [v0,v1,v2,v3,v4,v5] h R = Ok tab R27 [.code B27] #[v0,v1,v2,v3,v4,v5,u,u,u,u,u,u,u,u,u,u,u,u,u,u,u,u,u,u,u,u,u,u,u,u,u,u,u,u,u,u,u,u,u,u,u,u,u,u,u,u,u,u,u,u,u,u,u,u,u,u,u,u,u,u,u,u,u,u,u,u,u,u,u,u,u,u,u,u,u,u,u,u,u,u,u,u,u,u,u,u,u,u,u,u,u,u,u,u,u,u,u,u,u,u,u,u,u,u,u,u,u,u,u,u,u,u,u,u,u,u,u,u,u,u,u,u,u,u,u,u,u,u,u,u,u] h R :=
  (ret_eq rfl rfl).trans (by rw [env27]; rfl)
theorem enter28 (h : Heap) (R : Value → Heap → Prop) (v0 v1 v2 v3 v4 v5 : Value) : Ret tab 28 [v0,v1,v2,v3,v4,v5] h R = Ok tab R28 [.code B28] #[v0,v1,v2,v3,v4,v5,u,u,u,u,u,u,u,u,u,u,u,u,u,u,u,u,u,u,u,u,u,u,u,u,u,u,u,u,u,u,u,u,u,u,u,u,u,u,u,u,u,u,u,u,u,u,u,u,u,u,u,u,u,u,u,u,u,u,u,u,u,u,u,u,u,u,u,u,u,u,u,u,u,u,u,u,u,u,u,u,u,u,u,u,u,u,u,u,u,u,u,u,u,u,u,u,u,u,u,u,u,u,u,u,u,u,u,u,u,u,u,u,u,u,u,u,u,u,u,u,u,u,u,u,u,u,u,u,u,u,u,u,u,u,u,u,u,u,u] h R :=
  (ret_eq rfl rfl).trans (by rw [env28]; rfl)
theorem enter34 (h : Heap) (R : Value → Heap → Prop) (v0 v1 : Value) : Ret tab 34 [v0,v1] h R = Ok tab R34 [.code B34] #[v0,v1,u,u,u,u,u,u,u,u,u,u,u,u,u,u,u,u,u,u,u,u,u,u,u,u,u,u,u,u,u,u,u,u,u,u,u,u,u,u,u,u,u,u,u,u] h R :=
  (ret_eq rfl rfl).trans (by rw [env34]; rfl)
theorem enter35 (h : Heap) (R : Value → Heap → Prop) (v0 v1 v2 v3 v4 : Value) : Ret tab 35 [v0,v1,v2,v3,v4] h R = Ok tab R35 [.code B35] #[v0,v1,v2,v3,v4,u,u,u,u,u,u,u,u,u,u,u,u,u,u,u,u,u,u,u,u,u,u,u,u,u,u,u,u,u,u,u,u,u,u,u,u,u,u,u,u,u,u,u,u,u,u,u,u,u,u,u,u,u,u,u,u,u,u,u,u,u,u,u,u,u,u,u,u,u,u,u,u,u,u,u,u,u,u,u,u,u,u,u,u,u,u] h R :=
  (ret_eq rfl rfl).trans (by rw [env35]; rfl)
theorem enter36 (h : Heap) (R : Value → Heap → Prop) (v0 : Value) : Ret tab 36 [v0] h R = Ok tab R36 [.code B36] #[v0,u,u,u,u,u,u,u,u,u,u,u,u,u] h R :=
  (ret_eq rfl rfl).trans (by rw [env36]; rfl)
theorem enter37 (h : Heap) (R : Value → Heap → Prop) (v0 : Value) : Ret tab 37 [v0] h R = (belowL h.length [v0] = true ∧ Ok tab R37 [.code B37] #[v0,u,u,u,u,u,u,u,u,u,u,u,u,u,u,u,u,u,u,u,u,u,u,u,u] (frz h) fun v _ => below h.length v = true ∧ R v h) :=
  (ret_rd rfl rfl).trans (by rw [env37]; rfl)
theorem enter38 (h : Heap) (R : Value → Heap → Prop) (v0 v1 : Value) : Ret tab 38 [v0,v1] h R = Ok tab R38 [.code B38] #[v0,v1,u,u,u,u,u,u,u,u,u,u,u,u,u,u,u,u,u,u,u,u,u,u,u,u,u,u,u,u,u,u,u,u,u,u,u,u,u,u,u,u,u] h R :=
  (ret_eq rfl rfl).trans (by rw [env38]; rfl)
theorem enter39 (h : Heap) (R : Value → Heap → Prop) (v0 v1 : Value) : Ret tab 39 [v0,v1] h R = (belowL h.length [v0,v1] = true ∧ Ok tab R39 [.code B39] #[v0,v1,u,u,u,u,u,u,u,u,u,u,u,u,u,u,u,u,u,u,u,u,u,u,u] (frz h) fun v _ => below h.length v = true ∧ R v h) :=
  (ret_rd rfl rfl).trans (by rw [env39]; rfl)
theorem enter40 (h : Heap) (R : Value → Heap → Prop) : Ret tab 40 [] h R = Ok tab R40 [.code B40] #[u,u,u,u] h R :=
  (ret_eq rfl rfl).trans (by rw [env40]; rfl)
theorem enter41 (h : Heap) (R : Value → Heap → Prop) (v0 : Value) : Ret tab 41 [v0] h R = Ok tab R41 [.code B41] #[v0,u,u,u,u,u,u,u] h R :=
  (ret_eq rfl rfl).trans (by rw [env41]; rfl)
theorem enter55 (h : Heap) (R : Value → Heap → Prop) (v0 v1 : Value) : Ret tab 55 [v0,v1] h R = Ok tab R55 [.code B55] #[v0,v1,u,u,u,u,u,u,u,u,u,u,u,u,u,u,u,u] h R :=
  (ret_eq rfl rfl).trans (by rw [env55]; rfl)
theorem enter56 (h : Heap) (R : Value → Heap → Prop) (v0 : Value) : Ret tab 56 [v0] h R = Ok tab R56 [.code B56] #[v0,u,u,u,u,u,u,u,u,u,u,u,u,u] h R :=
  (ret_eq rfl rfl).trans (by rw [env56]; rfl)
theorem enter57 (h : Heap) (R : Value → Heap → Prop) (v0 : Value) : Ret tab 57 [v0] h R = Ok tab R57 [.code B57] #[v0,u,u,u,u,u,u,u] h R :=
  (ret_eq rfl rfl).trans (by rw [env57]; rfl)
theorem enter58 (h : Heap) (R : Value → Heap → Prop) (v0 v1 : Value) : Ret tab 58 [v0,v1] h R = Ok tab R58 [.code B58] #[v0,v1,u,u,u,u,u,u,u,u,u,u,u,u,u,u,u,u,u,u,u,u,u,u,u,u,u,u,u,u,u,u,u,u,u,u,u,u,u,u,u,u,u,u,u,u,u] h R :=
  (ret_eq rfl rfl).trans (by rw [env58]; rfl)
theorem enter59 (h : Heap) (R : Value → Heap → Prop) (v0 : Value) : Ret tab 59 [v0] h R = Ok tab R59 [.code B59] #[v0,u,u,u,u,u,u,u] h R :=
  (ret_eq rfl rfl).trans (by rw [env59]; rfl)
theorem enter60 (h : Heap) (R : Value → Heap → Prop) (v0 v1 v2 v3 v4 v5 : Value) : Ret tab 60 [v0,v1,v2,v3,v4,v5] h R = Ok tab R60 [.code B60] #[v0,v1,v2,v3,v4,v5,u,u,u,u,u,u,u,u,u,u,u,u,u,u,u,u,u,u,u,u,u,u,u,u,u,u,u,u,u,u,u,u,u,u,u,u,u,u,u,u,u,u,u,u,u,u,u,u,u,u,u,u,u,u,u,u,u,u,u,u,u,u,u,u,u,u,u,u,u,u,u,u,u,u,u,u,u,u,u,u,u,u] h R :=
  (ret_eq rfl rfl).trans (by rw [env60]; rfl)
theorem enter61 (h : Heap) (R : Value → Heap → Prop) (v0 v1 v2 : Value) : Ret tab 61 [v0,v1,v2] h R = Ok tab R61 [.code B61] #[v0,v1,v2,u,u,u,u,u,u,u,u,u,u,u,u,u] h R :=
  (ret_eq rfl rfl).trans (by rw [env61]; rfl)
theorem enter62 (h : Heap) (R : Value → Heap → Prop) (v0 : Value) : Ret tab 62 [v0] h R = (belowL h.length [v0] = true ∧ Ok tab R62 [.code B62] #[v0,u,u,u,u,u,u,u,u,u,u,u,u,u,u] (frz h) fun v _ => below h.length v = true ∧ R v h) :=
  (ret_rd rfl rfl).trans (by rw [env62]; rfl)
theorem enter63 (h : Heap) (R : Value → Heap → Prop) (v0 v1 : Value) : Ret tab 63 [v0,v1] h R = Ok tab R63 [.code B63] #[v0,v1,u,u,u,u,u,u,u,u,u,u,u,u,u,u,u,u,u,u,u,u,u,u,u,u,u,u,u,u,u,u,u,u,u,u,u,u,u,u,u,u,u,u,u,u,u,u,u,u,u,u,u,u,u,u,u,u,u,u,u,u,u,u,u,u] h R :=
  (ret_eq rfl rfl).trans (by rw [env63]; rfl)
theorem enter64 (h : Heap) (R : Value → Heap → Prop) (v0 v1 v2 : Value) : Ret tab 64 [v0,v1,v2] h R = (belowL h.length [v0,v1,v2] = true ∧ Ok tab R64 [.code B64] #[v0,v1,v2,u,u,u,u,u,u,u,u,u,u,u,u,u,u,u] (frz h) fun v _ => below h.length v = true ∧ R v h) :=
  (ret_rd rfl rfl).trans (by rw [env64]; rfl)
theorem enter65 (h : Heap) (R : Value → Heap → Prop) (v0 v1 v2 : Value) : Ret tab 65 [v0,v1,v2] h R = (belowL h.length [v0,v1,v2] = true ∧ Ok tab R65 [.code B65] #[v0,v1,v2,u,u,u,u,u,u,u,u,u,u,u,u,u,u,u,u,u] (frz h) fun v _ => below h.length v = true ∧ R v h) :=
  (ret_rd rfl rfl).trans (by rw [env65]; rfl)
theorem enter79 (h : Heap) (R : Value → Heap → Prop) (v0 v1 v2 v3 : Value) : Ret tab 79 [v0,v1,v2,v3] h R = Ok tab R79 [.code B79] #[v0,v1,v2,v3,u,u,u,u,u,u,u,u,u,u,u,u,u,u,u,u,u,u,u,u,u,u,u,u] h R :=
  (ret_eq rfl rfl).trans (by rw [env79]; rfl)
theorem enter80 (h : Heap) (R : Value → Heap → Prop) (v0 v1 v2 v3 v4 : Value) : Ret tab 80 [v0,v1,v2,v3,v4] h R = Ok tab R80 [.code B80] #[v0,v1,v2,v3,v4,u,u,u,u,u,u,u,u,u,u,u,u,u,u,u,u,u,u,u,u,u,u,u,u,u,u,u,u,u,u,u,u,u,u,u,u,u,u,u,u,u,u,u,u,u,u,u,u,u,u,u,u,u,u,u,u,u,u,u,u,u,u,u,u,u,u,u,u,u,u,u,u,u,u,u,u,u,u,u,u,u] h R :=
  (ret_eq rfl rfl).trans (by rw [env80]; rfl)
theorem enter81 (h : Heap) (R : Value → Heap → Prop) (v0 : Value) : Ret tab 81 [v0] h R = Ok tab R81 [.code B81] #[v0,u,u,u,u,u,u,u,u] h R :=
  (ret_eq rfl rfl).trans (by rw [env81]; rfl)
theorem enter82 (h : Heap) (R : Value → Heap → Prop) (v0 : Value) : Ret tab 82 [v0] h R = (belowL h.length [v0] = true ∧ Ok tab R82 [.code B82] #[v0,u,u,u,u,u,u,u,u,u] (frz h) fun v _ => below h.length v = true ∧ R v h) :=
  (ret_rd rfl rfl).trans (by rw [env82]; rfl)
theorem enter83 (h : Heap) (R : Value → Heap → Prop) (v0 : Value) : Ret tab 83 [v0] h R = Ok tab R83 [.code B83] #[v0,u,u,u,u,u,u,u,u,u,u,u,u,u] h R :=
  (ret_eq rfl rfl).trans (by rw [env83]; rfl)
theorem enter84 (h : Heap) (R : Value → Heap → Prop) (v0 : Value) : Ret tab 84 [v0] h R = Ok tab R84 [.code B84] #[v0,u,u,u,u,u,u,u,u,u,u,u,u,u,u,u,u,u] h R :=
  (ret_eq rfl rfl).trans (by rw [env84]; rfl)
theorem enter105 (h : Heap) (R : Value → Heap → Prop) (v0 v1 : Value) : Ret tab 105 [v0,v1] h R = (belowL h.length [v0,v1] = true ∧ Ok tab R105 [.code B105] #[v0,v1,u,u,u,u,u,u,u,u,u,u,u,u,u,u,u,u,u] (frz h) fun v _ => below h.length v = true ∧ R v h) :=
  (ret_rd rfl rfl).trans (by rw [env105]; rfl)
theorem enter106 (h : Heap) (R : Value → Heap → Prop) (v0 : Value) : Ret tab 106 [v0] h R = Ok tab R106 [.code B106] #[v0,u,u,u,u,u,u,u,u,u,u,u,u,u] h R :=
  (ret_eq rfl rfl).trans (by rw [env106]; rfl)
theorem enter107 (h : Heap) (R : Value → Heap → Prop) (v0 : Value) : Ret tab 107 [v0] h R = Ok tab R107 [.code B107] #[v0,u,u,u,u,u,u,u,u,u,u,u,u,u,u,u,u,u,u,u,u,u,u,u,u,u,u,u,u,u,u,u] h R :=
  (ret_eq rfl rfl).trans (by rw [env107]; rfl)
theorem enter108 (h : Heap) (R : Value → Heap → Prop) (v0 : Value) : Ret tab 108 [v0] h R = (belowL h.length [v0] = true ∧ Ok tab R108 [.code B108] #[v0,u,u,u,u,u,u,u,u,u,u,u,u,u] (frz h) fun v _ => below h.length v = true ∧ R v h) :=
  (ret_rd rfl rfl).trans (by rw [env108]; rfl)
theorem enter109 (h : Heap) (R : Value → Heap → Prop) (v0 v1 v2 : Value) : Ret tab 109 [v0,v1,v2] h R = Ok tab R109 [.code B109] #[v0,v1,v2,u,u,u,u,u,u,u,u,u,u] h R :=
  (ret_eq rfl rfl).trans (by rw [env109]; rfl)
theorem enter110 (h : Heap) (R : Value → Heap → Prop) (v0 : Value) : Ret tab 110 [v0] h R = Ok tab R110 [.code B110] #[v0,u,u,u,u,u,u,u,u,u,u,u,u,u,u,u,u,u,u,u,u,u,u,u,u,u,u,u,u,u,u,u,u,u,u,u,u,u,u,u,u,u,u,u,u,u,u,u,u,u,u,u] h R :=
  (ret_eq rfl rfl).trans (by rw [env110]; rfl)
theorem enter111 (h : Heap) (R : Value → Heap → Prop) (v0 : Value) : Ret tab 111 [v0] h R = Ok tab R111 [.code B111] #[v0,u,u,u,u,u,u,u,u,u,u,u,u,u,u,u,u,u,u,u,u,u,u,u,u,u,u,u,u,u,u,u,u,u,u,u,u,u,u,u,u,u,u,u,u,u,u,u,u,u,u,u,u,u,u,u,u,u,u,u,u,u,u,u,u,u,u,u,u,u,u,u,u,u,u,u,u,u,u,u,u,u,u,u,u,u,u] h R :=
  (ret_eq rfl rfl).trans (by rw [env111]; rfl)
theorem enter112 (h : Heap) (R : Value → Heap → Prop) (v0 v1 : Value) : Ret tab 112 [v0,v1] h R = Ok tab R112 [.code B112] #[v0,v1,u,u,u,u,u,u,u,u,u,u,u,u,u,u,u,u,u,u,u,u,u,u,u,u,u,u,u,u,u,u,u,u,u,u,u,u,u,u,u,u,u,u,u,u,u,u,u,u,u,u,u,u,u,u,u,u,u,u,u,u,u,u,u,u,u,u,u,u,u,u,u,u,u,u,u,u,u,u,u,u,u,u,u,u,u,u,u,u,u,u,u,u,u,u,u,u,u,u,u,u,u,u,u,u,u,u,u,u,u,u,u,u,u,u,u,u,u,u,u,u,u,u,u,u,u,u,u,u,u,u,u,u,u,u,u,u,u] h R :=
  (ret_eq rfl rfl).trans (by rw [env112]; rfl)
theorem enter113 (h : Heap) (R : Value → Heap → Prop) (v0 v1 v2 : Value) : Ret tab 113 [v0,v1,v2] h R = (belowL h.length [v0,v1,v2] = true ∧ Ok tab R113 [.code B113] #[v0,v1,v2,u,u,u,u,u,u,u,u,u,u,u,u,u,u,u,u,u,u,u,u,u,u,u,u,u,u,u,u,u,u,u,u,u,u,u,u,u,u,u,u,u,u,u] (frz h) fun v _ => below h.length v = true ∧ R v h) :=
  (ret_rd rfl rfl).trans (by rw [env113]; rfl)
theorem enter122 (h : Heap) (R : Value → Heap → Prop) (v0 : Value) : Ret tab 122 [v0] h R = (belowL h.length [v0] = true ∧ Ok tab R122 [.code B122] #[v0,u,u,u,u,u,u,u,u,u,u,u,u] (frz h) fun v _ => below h.length v = true ∧ R v h) :=
  (ret_rd rfl rfl).trans (by rw [env122]; rfl)
theorem enter123 (h : Heap) (R : Value → Heap → Prop) (v0 v1 v2 v3 : Value) : Ret tab 123 [v0,v1,v2,v3] h R = Ok tab R123 [.code B123] #[v0,v1,v2,v3,u,u,u,u,u,u,u,u,u,u,u,u] h R :=
  (ret_eq rfl rfl).trans (by rw [env123]; rfl)
theorem enter124 (h : Heap) (R : Value → Heap → Prop) (v0 : Value) : Ret tab 124 [v0] h R = Ok tab R124 [.code B124] #[v0,u,u,u,u,u,u,u,u,u,u,u,u,u,u,u,u,u,u,u,u,u,u,u,u,u,u,u,u,u,u,u,u,u,u,u,u,u,u,u,u,u,u,u,u,u,u,u,u,u,u,u] h R :=
  (ret_eq rfl rfl).trans (by rw [env124]; rfl)
theorem enter125 (h : Heap) (R : Value → Heap → Prop) (v0 : Value) : Ret tab 125 [v0] h R = Ok tab R125 [.code B125] #[v0,u,u,u,u,u,u,u,u,u,u,u,u,u,u,u,u,u,u,u,u,u,u,u,u,u,u,u,u,u,u,u,u,u,u,u,u,u,u,u,u,u,u,u,u,u,u,u,u,u,u,u,u,u,u,u,u,u,u,u,u,u,u,u,u,u,u,u,u,u,u,u,u,u,u,u,u,u,u,u,u,u,u,u,u,u] h R :=
  (ret_eq rfl rfl).trans (by rw [env125]; rfl)
theorem enter126 (h : Heap) (R : Value → Heap → Prop) (v0 v1 : Value) : Ret tab 126 [v0,v1] h R = Ok tab R126 [.code B126] #[v0,v1,u,u,u,u,u,u,u,u,u,u,u,u,u,u,u,u,u,u,u,u,u,u,u,u,u,u,u,u,u,u,u,u,u,u,u,u,u,u,u,u,u,u,u,u,u,u,u,u,u,u,u,u,u,u,u,u,u,u,u,u,u,u,u,u,u,u,u,u,u,u,u,u,u,u,u,u,u,u,u,u,u,u,u,u,u,u,u,u,u,u,u,u,u,u,u,u,u,u,u,u,u,u,u,u,u,u,u,u,u] h R :=
  (ret_eq rfl rfl).trans (by rw [env126]; rfl)
theorem enter139 (h : Heap) (R : Value → Heap → Prop) (v0 v1 : Value) : Ret tab 139 [v0,v1] h R = Ok tab R139 [.code B139] #[v0,v1,u,u,u,u,u,u,u,u,u,u,u,u,u,u,u,u,u,u,u,u,u,u,u,u,u,u,u,u,u,u,u,u,u,u,u,u,u,u,u,u,u] h R :=
  (ret_eq rfl rfl).trans (by rw [env139]; rfl)
theorem enter140 (h : Heap) (R : Value → Heap → Prop) (v0 v1 v2 : Value) : Ret tab 140 [v0,v1,v2] h R = (belowL h.length [v0,v1,v2] = true ∧ Ok tab R140 [.code B140] #[v0,v1,v2,u,u,u,u,u,u,u,u,u,u,u,u,u,u,u,u,u] (frz h) fun v _ => below h.length v = true ∧ R v h) :=
  (ret_rd rfl rfl).trans (by rw [env140]; rfl)
theorem enter141 (h : Heap) (R : Value → Heap → Prop) (v0 v1 v2 : Value) : Ret tab 141 [v0,v1,v2] h R = (belowL h.length [v0,v1,v2] = true ∧ Ok tab R141 [.code B141] #[v0,v1,v2,u,u,u,u,u,u,u,u,u,u,u,u,u,u,u,u,u,u,u,u,u,u,u,u,u,u,u,u] (frz h) fun v _ => below h.length v = true ∧ R v h) :=
  (ret_rd rfl rfl).trans (by rw [env141]; rfl)
theorem enter142 (h : Heap) (R : Value → Heap → Prop) (v0 v1 v2 : Value) : Ret tab 142 [v0,v1,v2] h R = Ok tab R142 [.code B142] #[v0,v1,v2,u,u,u,u,u,u,u,u,u,u,u,u,u,u,u,u,u,u,u,u,u,u,u,u,u,u,u,u,u,u,u,u,u,u,u,u,u,u,u] h R :=
  (ret_eq rfl rfl).trans (by rw [env142]; rfl)
theorem enter143 (h : Heap) (R : Value → Heap → Prop) (v0 v1 v2 v3 : Value) : Ret tab 143 [v0,v1,v2,v3] h R = Ok tab R143 [.code B143] #[v0,v1,v2,v3,u,u,u,u,u,u,u,u,u,u,u,u,u,u,u,u,u,u] h R :=
  (ret_eq rfl rfl).trans (by rw [env143]; rfl)
theorem enter144 (h : Heap) (R : Value → Heap → Prop) (v0 v1 : Value) : Ret tab 144 [v0,v1] h R = (belowL h.length [v0,v1] = true ∧ Ok tab R144 [.code B144] #[v0,v1,u,u,u,u,u,u,u,u] (frz h) fun v _ => below h.length v = true ∧ R v h) :=
  (ret_rd rfl rfl).trans (by rw [env144]; rfl)
theorem enter145 (h : Heap) (R : Value → Heap → Prop) (v0 v1 v2 : Value) : Ret tab 145 [v0,v1,v2] h R = (belowL h.length [v0,v1,v2] = true ∧ Ok tab R145 [.code B145] #[v0,v1,v2,u,u,u,u,u,u,u,u,u,u,u,u,u,u,u,u,u] (frz h) fun v _ => below h.length v = true ∧ R v h) :=
  (ret_rd rfl rfl).trans (by rw [env145]; rfl)
theorem enter146 (h : Heap) (R : Value → Heap → Prop) (v0 v1 v2 : Value) : Ret tab 146 [v0,v1,v2] h R = Ok tab R146 [.code B146] #[v0,v1,v2,u,u,u,u,u,u,u,u,u,u,u,u,u,u,u,u,u,u,u,u,u,u,u,u,u,u,u,u,u,u,u,u,u,u,u,u,u,u,u,u,u,u] h R :=
  (ret_eq rfl rfl).trans (by rw [env146]; rfl)
theorem enter147 (h : Heap) (R : Value → Heap → Prop) (v0 v1 v2 : Value) : Ret tab 147 [v0,v1,v2] h R = Ok tab R147 [.code B147] #[v0,v1,v2,u,u,u,u,u,u,u,u,u,u,u,u,u,u,u,u] h R :=
  (ret_eq rfl rfl).trans (by rw [env147]; rfl)
theorem enter148 (h : Heap) (R : Value → Heap → Prop) (v0 v1 v2 : Value) : Ret tab 148 [v0,v1,v2] h R = (belowL h.length [v0,v1,v2] = true ∧ Ok tab R148 [.code B148] #[v0,v1,v2,u,u,u,u,u,u,u,u,u,u,u,u,u,u,u,u,u,u,u,u,u,u,u,u,u,u,u,u,u,u,u,u,u,u,u,u,u,u,u,u,u] (frz h) fun v _ => below h.length v = true ∧ R v h) :=
  (ret_rd rfl rfl).trans (by rw [env148]; rfl)
theorem enter149 (h : Heap) (R : Value → Heap → Prop) (v0 v1 v2 : Value) : Ret tab 149 [v0,v1,v2] h R = Ok tab R149 [.code B149] #[v0,v1,v2,u,u,u,u,u,u,u,u,u,u,u,u,u,u,u,u,u,u,u,u,u,u,u,u,u,u,u,u,u,u,u,u,u,u,u,u,u,u,u,u,u,u,u,u,u,u,u,u,u,u,u,u,u,u,u,u,u,u,u] h R :=
  (ret_eq rfl rfl).trans (by rw [env149]; rfl)
theorem enter162 (h : Heap) (R : Value → Heap → Prop) (v0 v1 v2 : Value) : Ret tab 162 [v0,v1,v2] h R = (belowL h.length [v0,v1,v2] = true ∧ Ok tab R162 [.code B162] #[v0,v1,v2,u,u,u,u,u,u,u,u,u,u,u,u,u,u,u,u,u,u,u,u,u,u,u,u,u,u,u,u] (frz h) fun v _ => below h.length v = true ∧ R v h) :=
  (ret_rd rfl rfl).trans (by rw [env162]; rfl)
theorem enter163 (h : Heap) (R : Value → Heap → Prop) (v0 v1 v2 : Value) : Ret tab 163 [v0,v1,v2] h R = Ok tab R163 [.code B163] #[v0,v1,v2,u,u,u,u,u,u,u,u,u,u,u,u,u,u,u,u,u,u,u,u,u,u,u,u,u,u,u,u,u,u,u,u,u,u,u,u,u,u,u,u,u,u,u,u,u,u] h R :=
  (ret_eq rfl rfl).trans (by rw [env163]; rfl)
theorem enter164 (h : Heap) (R : Value → Heap → Prop) (v0 v1 v2 : Value) : Ret tab 164 [v0,v1,v2] h R = (belowL h.length [v0,v1,v2] = true ∧ Ok tab R164 [.code B164] #[v0,v1,v2,u,u,u,u,u,u,u,u,u,u,u,u,u,u,u,u,u,u,u,u] (frz h) fun v _ => below h.length v = true ∧ R v h) :=
  (ret_rd rfl rfl).trans (by rw [env164]; rfl)
theorem enter165 (h : Heap) (R : Value → Heap → Prop) (v0 v1 v2 : Value) : Ret tab 165 [v0,v1,v2] h R = (belowL h.length [v0,v1,v2] = true ∧ Ok tab R165 [.code B165] #[v0,v1,v2,u,u,u,u,u,u,u,u,u,u,u,u,u,u,u,u,u,u,u,u,u,u,u,u,u,u,u,u,u,u,u,u,u,u,u,u,u,u,u,u,u] (frz h) fun v _ => below h.length v = true ∧ R v h) :=
  (ret_rd rfl rfl).trans (by rw [env165]; rfl)
theorem enter166 (h : Heap) (R : Value → Heap → Prop) (v0 v1 v2 : Value) : Ret tab 166 [v0,v1,v2] h R = Ok tab R166 [.code B166] #[v0,v1,v2,u,u,u,u,u,u,u,u,u,u,u,u,u,u,u,u,u,u,u,u,u,u,u,u,u,u,u,u,u,u,u,u,u,u,u,u,u,u,u,u,u,u,u,u,u,u,u,u,u,u,u,u] h R :=
  (ret_eq rfl rfl).trans (by rw [env166]; rfl)
theorem enter177 (h : Heap) (R : Value → Heap → Prop) (v0 v1 v2 v3 : Value) : Ret tab 177 [v0,v1,v2,v3] h R = (belowL h.length [v0,v1,v2,v3] = true ∧ Ok tab R177 [.code B177] #[v0,v1,v2,v3,u,u,u,u,u,u,u,u,u,u,u,u,u,u,u,u,u,u,u,u,u,u,u,u,u,u,u,u,u,u,u,u,u,u,u,u,u,u,u,u,u,u,u,u,u,u,u,u,u,u,u,u,u,u,u,u,u,u,u,u,u,u,u,u,u,u,u,u,u,u,u,u,u] (frz h) fun v _ => below h.length v = true ∧ R v h) :=
  (ret_rd rfl rfl).trans (by rw [env177]; rfl)
theorem enter178 (h : Heap) (R : Value → Heap → Prop) (v0 v1 v2 v3 : Value) : Ret tab 178 [v0,v1,v2,v3] h R = (belowL h.length [v0,v1,v2,v3] = true ∧ Ok tab R178 [.code B178] #[v0,v1,v2,v3,u,u,u,u,u,u,u,u,u,u,u,u,u,u,u,u,u,u,u,u,u,u,u,u,u,u,u,u,u,u,u,u] (frz h) fun v _ => below h.length v = true ∧ R v h) :=
  (ret_rd rfl rfl).trans (by rw [env178]; rfl)
theorem enter179 (h : Heap) (R : Value → Heap → Prop) (v0 v1 : Value) : Ret tab 179 [v0,v1] h R = (belowL h.length [v0,v1] = true ∧ Ok tab R179 [.code B179] #[v0,v1,u,u,u,u,u,u,u,u,u,u,u,u,u,u,u,u,u,u,u,u,u,u,u,u,u,u,u,u,u,u,u,u,u,u,u] (frz h) fun v _ => below h.length v = true ∧ R v h) :=
  (ret_rd rfl rfl).trans (by rw [env179]; rfl)
theorem enter180 (h : Heap) (R : Value → Heap → Prop) (v0 v1 v2 v3 : Value) : Ret tab 180 [v0,v1,v2,v3] h R = (belowL h.length [v0,v1,v2,v3] = true ∧ Ok tab R180 [.code B180] #[v0,v1,v2,v3,u,u,u,u,u,u,u,u,u,u,u,u,u,u,u,u,u,u,u,u,u,u,u,u,u,u,u,u,u,u,u,u,u,u,u,u,u,u,u,u,u,u] (frz h) fun v _ => below h.length v = true ∧ R v h) :=
  (ret_rd rfl rfl).trans (by rw [env180]; rfl)
theorem enter181 (h : Heap) (R : Value → Heap → Prop) (v0 v1 v2 : Value) : Ret tab 181 [v0,v1,v2] h R = Ok tab R181 [.code B181] #[v0,v1,v2,u,u,u,u,u,u,u,u,u,u,u,u,u,u,u,u] h R :=
  (ret_eq rfl rfl).trans (by rw [env181]; rfl)
theorem enter186 (h : Heap) (R : Value → Heap → Prop) (v0 v1 v2 : Value) : Ret tab 186 [v0,v1,v2] h R = Ok tab R186 [.code B186] #[v0,v1,v2,u,u,u,u,u,u,u,u,u,u,u,u,u,u,u,u,u,u,u,u,u,u,u,u,u,u,u,u,u,u,u,u,u,u,u,u,u,u,u,u,u,u,u,u,u,u,u,u,u,u,u] h R :=
  (ret_eq rfl rfl).trans (by rw [env186]; rfl)
theorem enter191 (h : Heap) (R : Value → Heap → Prop) (v0 v1 v2 : Value) : Ret tab 191 [v0,v1,v2] h R = (belowL h.length [v0,v1,v2] = true ∧ Ok tab R191 [.code B191] #[v0,v1,v2,u,u,u,u,u,u,u,u] (frz h) fun v _ => below h.length v = true ∧ R v h) :=
  (ret_rd rfl rfl).trans (by rw [env191]; rfl)
theorem enter192 (h : Heap) (R : Value → Heap → Prop) (v0 v1 v2 : Value) : Ret tab 192 [v0,v1,v2] h R = (belowL h.length [v0,v1,v2] = true ∧ Ok tab R192 [.code B192] #[v0,v1,v2,u,u,u,u,u,u,u,u,u] (frz h) fun v _ => below h.length v = true ∧ R v h) :=
  (ret_rd rfl rfl).trans (by rw [env192]; rfl)
theorem enter193 (h : Heap) (R : Value → Heap → Prop) (v0 v1 : Value) : Ret tab 193 [v0,v1] h R = (belowL h.length [v0,v1] = true ∧ Ok tab R193 [.code B193] #[v0,v1,u,u,u,u,u,u,u,u,u,u,u,u,u,u,u,u] (frz h) fun v _ => below h.length v = true ∧ R v h) :=
  (ret_rd rfl rfl).trans (by rw [env193]; rfl)
theorem enter194 (h : Heap) (R : Value → Heap → Prop) (v0 v1 v2 : Value) : Ret tab 194 [v0,v1,v2] h R = (belowL h.length [v0,v1,v2] = true ∧ Ok tab R194 [.code B194] #[v0,v1,v2,u,u,u,u,u,u,u,u,u,u,u,u,u,u,u,u,u,u,u,u,u,u,u,u,u,u,u] (frz h) fun v _ => below h.length v = true ∧ R v h) :=
  (ret_rd rfl rfl).trans (by rw [env194]; rfl)
theorem enter195 (h : Heap) (R : Value → Heap → Prop) (v0 v1 v2 : Value) : Ret tab 195 [v0,v1,v2] h R = (belowL h.length [v0,v1,v2] = true ∧ Ok tab R195 [.code B195] #[v0,v1,v2,u,u,u,u,u,u,u,u,u,u,u,u,u,u,u,u,u,u,u,u,u,u,u] (frz h) fun v _ => below h.length v = true ∧ R v h) :=
  (ret_rd rfl rfl).trans (by rw [env195]; rfl)
theorem enter196 (h : Heap) (R : Value → Heap → Prop) (v0 v1 : Value) : Ret tab 196 [v0,v1] h R = (belowL h.length [v0,v1] = true ∧ Ok tab R196 [.code B196] #[v0,v1,u,u,u,u,u,u,u,u] (frz h) fun v _ => below h.length v = true ∧ R v h) :=
  (ret_rd rfl rfl).trans (by rw [env196]; rfl)
theorem enter226 (h : Heap) (R : Value → Heap → Prop) (v0 : Value) : Ret tab 226 [v0] h R = Ok tab R226 [.code B226] #[v0,u,u,u,u,u] h R :=
  (ret_eq rfl rfl).trans (by rw [env226]; rfl)
theorem enter227 (h : Heap) (R : Value → Heap → Prop) (v0 : Value) : Ret tab 227 [v0] h R = Ok tab R227 [.code B227] #[v0,u,u,u,u,u] h R :=
  (ret_eq rfl rfl).trans (by rw [env227]; rfl)
theorem enter228 (h : Heap) (R : Value → Heap → Prop) (v0 v1 : Value) : Ret tab 228 [v0,v1] h R = Ok tab R228 [.code B228] #[v0,v1,u,u,u,u,u,u,u,u,u] h R :=
  (ret_eq rfl rfl).trans (by rw [env228]; rfl)
theorem enter229 (h : Heap) (R : Value → Heap → Prop) (v0 : Value) : Ret tab 229 [v0] h R = Ok tab R229 [.code B229] #[v0,u,u,u,u,u,u,u,u,u,u,u,u,u,u,u,u,u,u,u,u,u,u,u,u,u,u,u,u,u,u,u,u,u,u,u,u,u,u,u,u,u,u,u,u,u,u,u,u,u,u,u,u,u,u,u,u,u,u,u,u,u,u,u,u,u,u,u,u,u,u,u,u] h R :=
  (ret_eq rfl rfl).trans (by rw [env229]; rfl)
theorem enter230 (h : Heap) (R : Value → Heap → Prop) (v0 : Value) : Ret tab 230 [v0] h R = Ok tab R230 [.code B230] #[v0,u,u,u,u,u,u,u,u,u,u,u,u,u,u,u,u,u,u] h R :=
  (ret_eq rfl rfl).trans (by rw [env230]; rfl)
theorem enter231 (h : Heap) (R : Value → Heap → Prop) (v0 v1 v2 : Value) : Ret tab 231 [v0,v1,v2] h R = Ok tab R231 [.code B231] #[v0,v1,v2,u,u,u,u,u,u,u,u,u,u,u,u,u,u,u,u,u,u,u,u,u,u,u,u,u,u,u,u,u,u,u,u,u,u,u,u,u,u,u,u,u,u,u,u,u,u,u,u,u,u,u,u,u,u,u,u,u,u,u,u,u,u,u,u,u,u,u,u,u,u,u,u,u,u,u,u,u,u,u,u,u,u,u,u,u,u,u,u,u,u,u,u,u,u,u,u,u,u,u,u,u,u,u,u,u,u,u,u,u,u,u,u,u,u,u] h R :=
  (ret_eq rfl rfl).trans (by rw [env231]; rfl)
theorem enter232 (h : Heap) (R : Value → Heap → Prop) (v0 v1 : Value) : Ret tab 232 [v0,v1] h R = Ok tab R232 [.code B232] #[v0,v1,u,u,u,u,u,u,u,u,u,u,u,u,u,u,u,u,u,u,u,u,u,u,u,u,u,u,u,u,u,u,u,u] h R :=
  (ret_eq rfl rfl).trans (by rw [env232]; rfl)
theorem enter233 (h : Heap) (R : Value → Heap → Prop) (v0 : Value) : Ret tab 233 [v0] h R = Ok tab R233 [.code B233] #[v0,u,u,u,u,u,u,u,u,u,u,u,u,u,u,u,u,u,u,u,u] h R :=
  (ret_eq rfl rfl).trans (by rw [env233]; rfl)
theorem enter234 (h : Heap) (R : Value → Heap → Prop) (v0 v1 : Value) : Ret tab 234 [v0,v1] h R = Ok tab R234 [.code B234] #[v0,v1,u,u,u,u,u,u,u,u,u,u,u,u,u,u] h R :=
  (ret_eq rfl rfl).trans (by rw [env234]; rfl)
theorem enter235 (h : Heap) (R : Value → Heap → Prop) (v0 v1 v2 : Value) : Ret tab 235 [v0,v1,v2] h R = Ok tab R235 [.code B235] #[v0,v1,v2,u,u,u,u,u,u,u,u,u,u,u,u,u,u] h R :=
  (ret_eq rfl rfl).trans (by rw [env235]; rfl)
theorem enter236 (h : Heap) (R : Value → Heap → Prop) (v0 v1 v2 : Value) : Ret tab 236 [v0,v1,v2] h R = Ok tab R236 [.code B236] #[v0,v1,v2,u,u,u,u,u,u,u,u,u,u,u,u,u,u,u,u,u,u] h R :=
  (ret_eq rfl rfl).trans (by rw [env236]; rfl)
theorem enter237 (h : Heap) (R : Value → Heap → Prop) (v0 v1 : Value) : Ret tab 237 [v0,v1] h R = Ok tab R237 [.code B237] #[v0,v1,u,u,u,u,u,u,u,u,u,u,u,u,u,u,u,u,u,u,u,u,u,u,u] h R :=
  (ret_eq rfl rfl).trans (by rw [env237]; rfl)
theorem enter238 (h : Heap) (R : Value → Heap → Prop) (v0 : Value) : Ret tab 238 [v0] h R = Ok tab R238 [.code B238] #[v0,u,u,u,u,u,u,u,u,u,u,u,u,u,u,u,u,u,u] h R :=
  (ret_eq rfl rfl).trans (by rw [env238]; rfl)
theorem enter239 (h : Heap) (R : Value → Heap → Prop) (v0 : Value) : Ret tab 239 [v0] h R = Ok tab R239 [.code B239] #[v0,u,u,u,u,u] h R :=
  (ret_eq rfl rfl).trans (by rw [env239]; rfl)
theorem enter240 (h : Heap) (R : Value → Heap → Prop) (v0 : Value) : Ret tab 240 [v0] h R = Ok tab R240 [.code B240] #[v0,u,u,u,u,u] h R :=
  (ret_eq rfl rfl).trans (by rw [env240]; rfl)
theorem enter241 (h : Heap) (R : Value → Heap → Prop) (v0 v1 : Value) : Ret tab 241 [v0,v1] h R = Ok tab R241 [.code B241] #[v0,v1,u,u,u,u,u,u,u] h R :=
  (ret_eq rfl rfl).trans (by rw [env241]; rfl)
theorem enter242 (h : Heap) (R : Value → Heap → Prop) (v0 : Value) : Ret tab 242 [v0] h R = Ok tab R242 [.code B242] #[v0,u,u,u,u,u,u,u,u,u,u,u,u,u,u,u,u,u,u,u,u,u,u,u,u,u,u,u,u,u,u,u,u,u,u,u,u,u,u,u,u,u,u,u,u] h R :=
  (ret_eq rfl rfl).trans (by rw [env242]; rfl)
theorem enter243 (h : Heap) (R : Value → Heap → Prop) (v0 v1 : Value) : Ret tab 243 [v0,v1] h R = Ok tab R243 [.code B243] #[v0,v1,u,u,u,u,u,u,u,u,u,u,u,u,u,u,u,u,u,u,u,u,u,u,u,u] h R :=
  (ret_eq rfl rfl).trans (by rw [env243]; rfl)
theorem enter244 (h : Heap) (R : Value → Heap → Prop) (v0 v1 : Value) : Ret tab 244 [v0,v1] h R = Ok tab R244 [.code B244] #[v0,v1,u,u,u,u,u,u,u,u,u,u,u,u,u,u,u,u,u,u,u,u,u,u,u,u,u,u,u,u,u,u,u,u,u,u,u,u,u,u,u,u,u,u,u,u,u,u,u] h R :=
  (ret_eq rfl rfl).trans (by rw [env244]; rfl)
theorem enter245 (h : Heap) (R : Value → Heap → Prop) (v0 v1 : Value) : Ret tab 245 [v0,v1] h R = Ok tab R245 [.code B245] #[v0,v1,u,u,u,u,u,u,u,u,u,u,u,u,u] h R :=
  (ret_eq rfl rfl).trans (by rw [env245]; rfl)
theorem enter246 (h : Heap) (R : Value → Heap → Prop) (v0 v1 : Value) : Ret tab 246 [v0,v1] h R = Ok tab R246 [.code B246] #[v0,v1,u,u,u,u,u,u,u,u,u,u,u,u,u,u,u,u,u,u,u,u,u,u,u,u,u,u,u,u,u,u,u,u,u,u,u,u,u,u,u,u,u,u,u,u,u,u,u,u,u,u,u,u,u,u,u,u,u,u,u,u,u,u,u,u,u,u,u,u,u,u,u,u,u,u,u,u,u,u,u,u,u,u,u,u,u,u,u] h R :=
  (ret_eq rfl rfl).trans (by rw [env246]; rfl)
theorem enter248 (h : Heap) (R : Value → Heap → Prop) (v0 v1 : Value) : Ret tab 248 [v0,v1] h R = Ok tab R248 [.code B248] #[v0,v1,u,u,u,u,u,u] h R :=
  (ret_eq rfl rfl).trans (by rw [env248]; rfl)
theorem enter249 (h : Heap) (R : Value → Heap → Prop) (v0 : Value) : Ret tab 249 [v0] h R = Ok tab R249 [.code B249] #[v0,u,u,u,u,u,u,u,u,u,u,u,u,u,u,u,u] h R :=
  (ret_eq rfl rfl).trans (by rw [env249]; rfl)
theorem enter250 (h : Heap) (R : Value → Heap → Prop) (v0 : Value) : Ret tab 250 [v0] h R = Ok tab R250 [.code B250] #[v0,u,u,u,u,u,u,u,u,u,u,u,u,u,u,u,u,u,u,u,u,u,u,u,u,u,u,u,u,u,u,u,u,u,u,u,u,u] h R :=
  (ret_eq rfl rfl).trans (by rw [env250]; rfl)
end Go.Proofs.YtjpjohchdfoeaaaGreat
