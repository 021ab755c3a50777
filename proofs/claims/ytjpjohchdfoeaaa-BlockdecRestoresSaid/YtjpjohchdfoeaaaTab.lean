/-
  The table of the functions, resolved: it is the program's. Laid by program (gentab.py).
-/
import Derived.Test.YtjpjohchdfoeaaaTabA
import Derived.Test.YtjpjohchdfoeaaaTabB
namespace Go.Proofs.Ytjpjohchdfoeaaa
open Go Go.Sim
open Go.Operand renaming tmp → t,const → c,func → w
open Go.Sim.ROp renaming mov → m,bin → b,load → l,fieldAddr → f,call → z,nilCheck → y,pick → p,extract → x
open Go.Sim.RCode renaming seq → q,region → r,cond → d,skip → o
open Go.Value renaming int → i
open Go.IntKind renaming i64 → j
open Option renaming none → n,some → s
open Go renaming undef → u
variable {T : Tab} {F : RFunc} {k : List RItem} {e : Env} {h : Heap} {R : Value → Heap → Prop}
def tab : Tab := fun g => match g with
  | 19 => s R19
  | 23 => s R23
  | 29 => s R29
  | 33 => s R33
  | 35 => s R35
  | 36 => s R36
  | 41 => s R41
  | 43 => s R43
  | 44 => s R44
  | 45 => s R45
  | 48 => s R48
  | 52 => s R52
  | 65 => s R65
  | 67 => s R67
  | 69 => s R69
  | 71 => s R71
  | 73 => s R73
  | 74 => s R74
  | 75 => s R75
  | 76 => s R76
  | 77 => s R77
  | 78 => s R78
  | 79 => s R79
  | 86 => s R86
  | 88 => s R88
  | 90 => s R90
  | 92 => s R92
  | 94 => s R94
  | 96 => s R96
  | 97 => s R97
  | 98 => s R98
  | 101 => s R101
  | 102 => s R102
  | 103 => s R103
  | 104 => s R104
  | 105 => s R105
  | 106 => s R106
  | 116 => s R116
  | 117 => s R117
  | 119 => s R119
  | 120 => s R120
  | 121 => s R121
  | 122 => s R122
  | 123 => s R123
  | 124 => s R124
  | 125 => s R125
  | 134 => s R134
  | 135 => s R135
  | 136 => s R136
  | 137 => s R137
  | 138 => s R138
  | 139 => s R139
  | 140 => s R140
  | 141 => s R141
  | 142 => s R142
  | 143 => s R143
  | 144 => s R144
  | 145 => s R145
  | 157 => s R157
  | 158 => s R158
  | 159 => s R159
  | 160 => s R160
  | 165 => s R165
  | 166 => s R166
  | 167 => s R167
  | 168 => s R168
  | 169 => s R169
  | 170 => s R170
  | 171 => s R171
  | 177 => s R177
  | 178 => s R178
  | 179 => s R179
  | 180 => s R180
  | 181 => s R181
  | 182 => s R182
  | 191 => s R191
  | 213 => s R213
  | 214 => s R214
  | 215 => s R215
  | 216 => s R216
  | 217 => s R217
  | 218 => s R218
  | 219 => s R219
  | 220 => s R220
  | 221 => s R221
  | 222 => s R222
  | 223 => s R223
  | 224 => s R224
  | 225 => s R225
  | 226 => s R226
  | 227 => s R227
  | 228 => s R228
  | 229 => s R229
  | 230 => s R230
  | 231 => s R231
  | 232 => s R232
  | 233 => s R233
  | 235 => s R235
  | 236 => s R236
  | 237 => s R237
  | _ => n
theorem tabOk : TabOk Try.prog tab := by
  intro g G h
  unfold tab at h
  split at h <;> try (cases h; done)
  · exact Eq.subst (motive := fun X => compileF Try.prog 19 X.iso = s X) (Option.some.inj h) c19
  · exact Eq.subst (motive := fun X => compileF Try.prog 23 X.iso = s X) (Option.some.inj h) c23
  · exact Eq.subst (motive := fun X => compileF Try.prog 29 X.iso = s X) (Option.some.inj h) c29
  · exact Eq.subst (motive := fun X => compileF Try.prog 33 X.iso = s X) (Option.some.inj h) c33
  · exact Eq.subst (motive := fun X => compileF Try.prog 35 X.iso = s X) (Option.some.inj h) c35
  · exact Eq.subst (motive := fun X => compileF Try.prog 36 X.iso = s X) (Option.some.inj h) c36
  · exact Eq.subst (motive := fun X => compileF Try.prog 41 X.iso = s X) (Option.some.inj h) c41
  · exact Eq.subst (motive := fun X => compileF Try.prog 43 X.iso = s X) (Option.some.inj h) c43
  · exact Eq.subst (motive := fun X => compileF Try.prog 44 X.iso = s X) (Option.some.inj h) c44
  · exact Eq.subst (motive := fun X => compileF Try.prog 45 X.iso = s X) (Option.some.inj h) c45
  · exact Eq.subst (motive := fun X => compileF Try.prog 48 X.iso = s X) (Option.some.inj h) c48
  · exact Eq.subst (motive := fun X => compileF Try.prog 52 X.iso = s X) (Option.some.inj h) c52
  · exact Eq.subst (motive := fun X => compileF Try.prog 65 X.iso = s X) (Option.some.inj h) c65
  · exact Eq.subst (motive := fun X => compileF Try.prog 67 X.iso = s X) (Option.some.inj h) c67
  · exact Eq.subst (motive := fun X => compileF Try.prog 69 X.iso = s X) (Option.some.inj h) c69
  · exact Eq.subst (motive := fun X => compileF Try.prog 71 X.iso = s X) (Option.some.inj h) c71
  · exact Eq.subst (motive := fun X => compileF Try.prog 73 X.iso = s X) (Option.some.inj h) c73
  · exact Eq.subst (motive := fun X => compileF Try.prog 74 X.iso = s X) (Option.some.inj h) c74
  · exact Eq.subst (motive := fun X => compileF Try.prog 75 X.iso = s X) (Option.some.inj h) c75
  · exact Eq.subst (motive := fun X => compileF Try.prog 76 X.iso = s X) (Option.some.inj h) c76
  · exact Eq.subst (motive := fun X => compileF Try.prog 77 X.iso = s X) (Option.some.inj h) c77
  · exact Eq.subst (motive := fun X => compileF Try.prog 78 X.iso = s X) (Option.some.inj h) c78
  · exact Eq.subst (motive := fun X => compileF Try.prog 79 X.iso = s X) (Option.some.inj h) c79
  · exact Eq.subst (motive := fun X => compileF Try.prog 86 X.iso = s X) (Option.some.inj h) c86
  · exact Eq.subst (motive := fun X => compileF Try.prog 88 X.iso = s X) (Option.some.inj h) c88
  · exact Eq.subst (motive := fun X => compileF Try.prog 90 X.iso = s X) (Option.some.inj h) c90
  · exact Eq.subst (motive := fun X => compileF Try.prog 92 X.iso = s X) (Option.some.inj h) c92
  · exact Eq.subst (motive := fun X => compileF Try.prog 94 X.iso = s X) (Option.some.inj h) c94
  · exact Eq.subst (motive := fun X => compileF Try.prog 96 X.iso = s X) (Option.some.inj h) c96
  · exact Eq.subst (motive := fun X => compileF Try.prog 97 X.iso = s X) (Option.some.inj h) c97
  · exact Eq.subst (motive := fun X => compileF Try.prog 98 X.iso = s X) (Option.some.inj h) c98
  · exact Eq.subst (motive := fun X => compileF Try.prog 101 X.iso = s X) (Option.some.inj h) c101
  · exact Eq.subst (motive := fun X => compileF Try.prog 102 X.iso = s X) (Option.some.inj h) c102
  · exact Eq.subst (motive := fun X => compileF Try.prog 103 X.iso = s X) (Option.some.inj h) c103
  · exact Eq.subst (motive := fun X => compileF Try.prog 104 X.iso = s X) (Option.some.inj h) c104
  · exact Eq.subst (motive := fun X => compileF Try.prog 105 X.iso = s X) (Option.some.inj h) c105
  · exact Eq.subst (motive := fun X => compileF Try.prog 106 X.iso = s X) (Option.some.inj h) c106
  · exact Eq.subst (motive := fun X => compileF Try.prog 116 X.iso = s X) (Option.some.inj h) c116
  · exact Eq.subst (motive := fun X => compileF Try.prog 117 X.iso = s X) (Option.some.inj h) c117
  · exact Eq.subst (motive := fun X => compileF Try.prog 119 X.iso = s X) (Option.some.inj h) c119
  · exact Eq.subst (motive := fun X => compileF Try.prog 120 X.iso = s X) (Option.some.inj h) c120
  · exact Eq.subst (motive := fun X => compileF Try.prog 121 X.iso = s X) (Option.some.inj h) c121
  · exact Eq.subst (motive := fun X => compileF Try.prog 122 X.iso = s X) (Option.some.inj h) c122
  · exact Eq.subst (motive := fun X => compileF Try.prog 123 X.iso = s X) (Option.some.inj h) c123
  · exact Eq.subst (motive := fun X => compileF Try.prog 124 X.iso = s X) (Option.some.inj h) c124
  · exact Eq.subst (motive := fun X => compileF Try.prog 125 X.iso = s X) (Option.some.inj h) c125
  · exact Eq.subst (motive := fun X => compileF Try.prog 134 X.iso = s X) (Option.some.inj h) c134
  · exact Eq.subst (motive := fun X => compileF Try.prog 135 X.iso = s X) (Option.some.inj h) c135
  · exact Eq.subst (motive := fun X => compileF Try.prog 136 X.iso = s X) (Option.some.inj h) c136
  · exact Eq.subst (motive := fun X => compileF Try.prog 137 X.iso = s X) (Option.some.inj h) c137
  · exact Eq.subst (motive := fun X => compileF Try.prog 138 X.iso = s X) (Option.some.inj h) c138
  · exact Eq.subst (motive := fun X => compileF Try.prog 139 X.iso = s X) (Option.some.inj h) c139
  · exact Eq.subst (motive := fun X => compileF Try.prog 140 X.iso = s X) (Option.some.inj h) c140
  · exact Eq.subst (motive := fun X => compileF Try.prog 141 X.iso = s X) (Option.some.inj h) c141
  · exact Eq.subst (motive := fun X => compileF Try.prog 142 X.iso = s X) (Option.some.inj h) c142
  · exact Eq.subst (motive := fun X => compileF Try.prog 143 X.iso = s X) (Option.some.inj h) c143
  · exact Eq.subst (motive := fun X => compileF Try.prog 144 X.iso = s X) (Option.some.inj h) c144
  · exact Eq.subst (motive := fun X => compileF Try.prog 145 X.iso = s X) (Option.some.inj h) c145
  · exact Eq.subst (motive := fun X => compileF Try.prog 157 X.iso = s X) (Option.some.inj h) c157
  · exact Eq.subst (motive := fun X => compileF Try.prog 158 X.iso = s X) (Option.some.inj h) c158
  · exact Eq.subst (motive := fun X => compileF Try.prog 159 X.iso = s X) (Option.some.inj h) c159
  · exact Eq.subst (motive := fun X => compileF Try.prog 160 X.iso = s X) (Option.some.inj h) c160
  · exact Eq.subst (motive := fun X => compileF Try.prog 165 X.iso = s X) (Option.some.inj h) c165
  · exact Eq.subst (motive := fun X => compileF Try.prog 166 X.iso = s X) (Option.some.inj h) c166
  · exact Eq.subst (motive := fun X => compileF Try.prog 167 X.iso = s X) (Option.some.inj h) c167
  · exact Eq.subst (motive := fun X => compileF Try.prog 168 X.iso = s X) (Option.some.inj h) c168
  · exact Eq.subst (motive := fun X => compileF Try.prog 169 X.iso = s X) (Option.some.inj h) c169
  · exact Eq.subst (motive := fun X => compileF Try.prog 170 X.iso = s X) (Option.some.inj h) c170
  · exact Eq.subst (motive := fun X => compileF Try.prog 171 X.iso = s X) (Option.some.inj h) c171
  · exact Eq.subst (motive := fun X => compileF Try.prog 177 X.iso = s X) (Option.some.inj h) c177
  · exact Eq.subst (motive := fun X => compileF Try.prog 178 X.iso = s X) (Option.some.inj h) c178
  · exact Eq.subst (motive := fun X => compileF Try.prog 179 X.iso = s X) (Option.some.inj h) c179
  · exact Eq.subst (motive := fun X => compileF Try.prog 180 X.iso = s X) (Option.some.inj h) c180
  · exact Eq.subst (motive := fun X => compileF Try.prog 181 X.iso = s X) (Option.some.inj h) c181
  · exact Eq.subst (motive := fun X => compileF Try.prog 182 X.iso = s X) (Option.some.inj h) c182
  · exact Eq.subst (motive := fun X => compileF Try.prog 191 X.iso = s X) (Option.some.inj h) c191
  · exact Eq.subst (motive := fun X => compileF Try.prog 213 X.iso = s X) (Option.some.inj h) c213
  · exact Eq.subst (motive := fun X => compileF Try.prog 214 X.iso = s X) (Option.some.inj h) c214
  · exact Eq.subst (motive := fun X => compileF Try.prog 215 X.iso = s X) (Option.some.inj h) c215
  · exact Eq.subst (motive := fun X => compileF Try.prog 216 X.iso = s X) (Option.some.inj h) c216
  · exact Eq.subst (motive := fun X => compileF Try.prog 217 X.iso = s X) (Option.some.inj h) c217
  · exact Eq.subst (motive := fun X => compileF Try.prog 218 X.iso = s X) (Option.some.inj h) c218
  · exact Eq.subst (motive := fun X => compileF Try.prog 219 X.iso = s X) (Option.some.inj h) c219
  · exact Eq.subst (motive := fun X => compileF Try.prog 220 X.iso = s X) (Option.some.inj h) c220
  · exact Eq.subst (motive := fun X => compileF Try.prog 221 X.iso = s X) (Option.some.inj h) c221
  · exact Eq.subst (motive := fun X => compileF Try.prog 222 X.iso = s X) (Option.some.inj h) c222
  · exact Eq.subst (motive := fun X => compileF Try.prog 223 X.iso = s X) (Option.some.inj h) c223
  · exact Eq.subst (motive := fun X => compileF Try.prog 224 X.iso = s X) (Option.some.inj h) c224
  · exact Eq.subst (motive := fun X => compileF Try.prog 225 X.iso = s X) (Option.some.inj h) c225
  · exact Eq.subst (motive := fun X => compileF Try.prog 226 X.iso = s X) (Option.some.inj h) c226
  · exact Eq.subst (motive := fun X => compileF Try.prog 227 X.iso = s X) (Option.some.inj h) c227
  · exact Eq.subst (motive := fun X => compileF Try.prog 228 X.iso = s X) (Option.some.inj h) c228
  · exact Eq.subst (motive := fun X => compileF Try.prog 229 X.iso = s X) (Option.some.inj h) c229
  · exact Eq.subst (motive := fun X => compileF Try.prog 230 X.iso = s X) (Option.some.inj h) c230
  · exact Eq.subst (motive := fun X => compileF Try.prog 231 X.iso = s X) (Option.some.inj h) c231
  · exact Eq.subst (motive := fun X => compileF Try.prog 232 X.iso = s X) (Option.some.inj h) c232
  · exact Eq.subst (motive := fun X => compileF Try.prog 233 X.iso = s X) (Option.some.inj h) c233
  · exact Eq.subst (motive := fun X => compileF Try.prog 235 X.iso = s X) (Option.some.inj h) c235
  · exact Eq.subst (motive := fun X => compileF Try.prog 236 X.iso = s X) (Option.some.inj h) c236
  · exact Eq.subst (motive := fun X => compileF Try.prog 237 X.iso = s X) (Option.some.inj h) c237
theorem enter19 (h : Heap) (R : Value → Heap → Prop) (v0 v1 : Value) : Ret tab 19 [v0,v1] h R = Ok tab R19 [.code B19] #[v0,v1,u,u,u,u,u,u,u,u,u,u,u,u,u,u,u,u,u,u,u,u,u,u,u,u,u,u,u,u,u,u,u,u,u,u,u,u,u,u,u,u,u,u,u,u,u,u,u,u,u,u,u,u,u,u,u,u,u,u,u,u,u,u,u,u,u,u,u,u,u,u,u,u,u,u,u,u,u,u,u,u,u,u,u,u,u,u,u,u,u,u,u,u,u,u,u,u,u,u,u,u,u] h R :=
  (ret_eq rfl rfl).trans (by rw [env19]; rfl)
theorem enter23 (h : Heap) (R : Value → Heap → Prop) (v0 v1 v2 v3 v4 v5 : Value) : Ret tab 23 [v0,v1,v2,v3,v4,v5] h R = Ok tab R23 [.code B23] #[v0,v1,v2,v3,v4,v5,u,u,u,u,u,u,u,u,u,u,u,u,u,u,u,u,u,u,u,u,u,u,u,u,u,u,u,u,u,u,u,u,u,u,u,u,u,u,u,u,u,u,u,u,u,u,u,u,u,u,u,u,u,u,u,u,u,u,u,u,u,u,u,u,u,u,u,u,u,u,u,u,u,u,u,u,u,u,u,u,u,u] h R :=
  (ret_eq rfl rfl).trans (by rw [env23]; rfl)
theorem enter29 (h : Heap) (R : Value → Heap → Prop) (v0 v1 v2 v3 v4 v5 : Value) : Ret tab 29 [v0,v1,v2,v3,v4,v5] h R = Ok tab R29 [.code B29] #[v0,v1,v2,v3,v4,v5,u,u,u,u,u,u,u,u,u,u,u,u,u,u,u,u,u,u,u,u,u,u,u,u,u,u,u,u,u,u,u,u,u,u,u,u,u,u,u,u,u,u,u,u,u,u,u,u,u,u,u,u,u,u,u,u,u,u,u,u,u,u,u,u,u,u,u,u,u,u,u,u,u,u,u,u,u,u,u,u,u,u,u,u,u,u,u,u,u,u,u,u,u,u,u,u,u,u,u,u,u,u,u,u,u,u,u,u,u,u,u,u,u,u,u,u,u,u,u,u,u,u,u,u,u,u,u,u,u,u,u,u,u,u,u,u,u,u,u] h R :=
  (ret_eq rfl rfl).trans (by rw [env29]; rfl)
theorem enter33 (h : Heap) (R : Value → Heap → Prop) (v0 v1 : Value) : Ret tab 33 [v0,v1] h R = Ok tab R33 [.code B33] #[v0,v1,u,u,u,u,u,u,u,u,u,u,u,u,u,u,u,u] h R :=
  (ret_eq rfl rfl).trans (by rw [env33]; rfl)
theorem enter35 (h : Heap) (R : Value → Heap → Prop) (v0 v1 v2 v3 v4 : Value) : Ret tab 35 [v0,v1,v2,v3,v4] h R = Ok tab R35 [.code B35] #[v0,v1,v2,v3,v4,u,u,u,u,u,u,u,u,u,u,u,u,u,u,u,u,u,u,u,u,u,u,u,u,u,u,u,u,u,u,u,u,u,u,u,u,u,u,u,u,u,u,u,u,u,u,u,u,u,u,u,u,u,u,u,u,u,u,u,u,u,u,u,u,u,u,u,u,u,u,u,u,u,u,u,u,u,u,u,u,u,u,u,u,u,u] h R :=
  (ret_eq rfl rfl).trans (by rw [env35]; rfl)
theorem enter36 (h : Heap) (R : Value → Heap → Prop) (v0 : Value) : Ret tab 36 [v0] h R = (belowL h.length [v0] = true ∧ Ok tab R36 [.code B36] #[v0,u,u,u,u,u,u,u,u,u,u,u,u,u,u,u,u,u,u,u,u,u,u,u,u] (frz h) fun v _ => below h.length v = true ∧ R v h) :=
  (ret_rd rfl rfl).trans (by rw [env36]; rfl)
theorem enter41 (h : Heap) (R : Value → Heap → Prop) : Ret tab 41 [] h R = Ok tab R41 [.code B41] #[u,u,u,u,u,u,u,u,u,u,u,u,u,u,u,u,u,u,u,u,u,u,u,u,u,u,u,u,u,u,u,u,u,u,u,u,u,u,u,u,u,u,u,u,u,u,u,u,u,u,u,u,u,u,u,u,u,u,u,u,u,u,u,u,u,u,u,u] h R :=
  (ret_eq rfl rfl).trans (by rw [env41]; rfl)
theorem enter43 (h : Heap) (R : Value → Heap → Prop) (v0 v1 v2 v3 v4 v5 : Value) : Ret tab 43 [v0,v1,v2,v3,v4,v5] h R = Ok tab R43 [.code B43] #[v0,v1,v2,v3,v4,v5,u,u,u,u,u,u,u,u,u,u,u,u,u,u,u,u,u,u,u,u,u,u,u,u,u,u,u,u,u,u,u,u,u,u,u,u,u,u,u,u,u,u,u,u,u,u,u] h R :=
  (ret_eq rfl rfl).trans (by rw [env43]; rfl)
theorem enter44 (h : Heap) (R : Value → Heap → Prop) (v0 v1 v2 v3 v4 v5 : Value) : Ret tab 44 [v0,v1,v2,v3,v4,v5] h R = Ok tab R44 [.code B44] #[v0,v1,v2,v3,v4,v5,u,u,u,u,u,u,u,u,u,u,u,u,u,u,u,u,u,u,u,u,u,u,u,u,u,u,u,u,u,u,u,u,u,u,u,u,u,u,u] h R :=
  (ret_eq rfl rfl).trans (by rw [env44]; rfl)
theorem enter45 (h : Heap) (R : Value → Heap → Prop) (v0 v1 : Value) : Ret tab 45 [v0,v1] h R = Ok tab R45 [.code B45] #[v0,v1,u,u,u,u,u,u,u,u,u,u,u,u,u,u,u,u,u,u,u,u,u,u,u,u] h R :=
  (ret_eq rfl rfl).trans (by rw [env45]; rfl)
theorem enter48 (h : Heap) (R : Value → Heap → Prop) (v0 v1 : Value) : Ret tab 48 [v0,v1] h R = Ok tab R48 [.code B48] #[v0,v1,u,u,u,u,u,u,u,u,u,u,u,u,u,u,u,u,u,u,u,u,u,u,u,u,u,u,u,u,u,u,u,u,u,u,u,u,u,u,u,u,u,u,u,u] h R :=
  (ret_eq rfl rfl).trans (by rw [env48]; rfl)
theorem enter52 (h : Heap) (R : Value → Heap → Prop) (v0 v1 v2 v3 v4 : Value) : Ret tab 52 [v0,v1,v2,v3,v4] h R = Ok tab R52 [.code B52] #[v0,v1,v2,v3,v4,u,u,u,u,u,u,u,u,u,u,u,u,u,u,u,u,u,u,u,u,u,u,u,u,u,u,u,u,u,u,u,u,u,u,u,u,u,u,u,u,u,u,u,u,u,u,u,u,u,u,u,u,u,u,u,u,u,u,u,u,u,u,u,u,u,u,u,u,u,u,u,u,u,u,u,u,u,u,u,u,u,u,u,u,u,u,u,u,u,u,u,u,u,u,u,u,u,u,u,u,u,u,u,u,u,u,u,u,u,u,u,u,u,u,u,u,u,u,u,u,u,u,u,u,u,u,u,u,u,u,u,u,u,u,u,u,u,u,u,u,u,u,u] h R :=
  (ret_eq rfl rfl).trans (by rw [env52]; rfl)
theorem enter65 (h : Heap) (R : Value → Heap → Prop) (v0 v1 v2 v3 : Value) : Ret tab 65 [v0,v1,v2,v3] h R = Ok tab R65 [.code B65] #[v0,v1,v2,v3,u,u,u,u,u,u,u,u,u,u,u,u,u,u,u,u,u,u,u,u,u,u,u,u] h R :=
  (ret_eq rfl rfl).trans (by rw [env65]; rfl)
theorem enter67 (h : Heap) (R : Value → Heap → Prop) (v0 v1 v2 : Value) : Ret tab 67 [v0,v1,v2] h R = Ok tab R67 [.code B67] #[v0,v1,v2,u,u,u,u,u,u,u,u,u,u,u,u,u,u,u,u] h R :=
  (ret_eq rfl rfl).trans (by rw [env67]; rfl)
theorem enter69 (h : Heap) (R : Value → Heap → Prop) (v0 v1 v2 v3 : Value) : Ret tab 69 [v0,v1,v2,v3] h R = Ok tab R69 [.code B69] #[v0,v1,v2,v3,u,u,u,u,u,u,u,u,u,u,u,u,u,u,u,u,u,u] h R :=
  (ret_eq rfl rfl).trans (by rw [env69]; rfl)
theorem enter71 (h : Heap) (R : Value → Heap → Prop) (v0 v1 v2 : Value) : Ret tab 71 [v0,v1,v2] h R = Ok tab R71 [.code B71] #[v0,v1,v2,u,u,u,u,u,u,u,u,u,u,u,u,u,u,u,u] h R :=
  (ret_eq rfl rfl).trans (by rw [env71]; rfl)
theorem enter73 (h : Heap) (R : Value → Heap → Prop) (v0 : Value) : Ret tab 73 [v0] h R = (belowL h.length [v0] = true ∧ Ok tab R73 [.code B73] #[v0,u,u,u,u,u,u,u,u,u,u,u,u,u] (frz h) fun v _ => below h.length v = true ∧ R v h) :=
  (ret_rd rfl rfl).trans (by rw [env73]; rfl)
theorem enter74 (h : Heap) (R : Value → Heap → Prop) (v0 : Value) : Ret tab 74 [v0] h R = (belowL h.length [v0] = true ∧ Ok tab R74 [.code B74] #[v0,u,u,u,u,u,u,u,u,u,u,u,u,u,u] (frz h) fun v _ => below h.length v = true ∧ R v h) :=
  (ret_rd rfl rfl).trans (by rw [env74]; rfl)
theorem enter75 (h : Heap) (R : Value → Heap → Prop) (v0 v1 : Value) : Ret tab 75 [v0,v1] h R = (belowL h.length [v0,v1] = true ∧ Ok tab R75 [.code B75] #[v0,v1,u,u,u,u,u,u,u,u,u,u,u,u,u,u,u,u,u,u,u,u,u,u,u] (frz h) fun v _ => below h.length v = true ∧ R v h) :=
  (ret_rd rfl rfl).trans (by rw [env75]; rfl)
theorem enter76 (h : Heap) (R : Value → Heap → Prop) (v0 v1 v2 : Value) : Ret tab 76 [v0,v1,v2] h R = Ok tab R76 [.code B76] #[v0,v1,v2,u,u,u,u,u,u,u,u,u,u] h R :=
  (ret_eq rfl rfl).trans (by rw [env76]; rfl)
theorem enter77 (h : Heap) (R : Value → Heap → Prop) (v0 : Value) : Ret tab 77 [v0] h R = Ok tab R77 [.code B77] #[v0,u,u,u,u,u,u,u,u,u,u,u,u,u,u,u,u,u,u,u,u,u,u,u,u,u,u,u,u,u,u,u,u,u,u,u,u,u,u,u,u,u,u,u,u,u,u,u,u,u,u,u] h R :=
  (ret_eq rfl rfl).trans (by rw [env77]; rfl)
theorem enter78 (h : Heap) (R : Value → Heap → Prop) (v0 : Value) : Ret tab 78 [v0] h R = Ok tab R78 [.code B78] #[v0,u,u,u,u,u,u,u,u,u,u,u,u,u,u,u,u,u,u,u,u,u,u,u,u,u,u,u,u,u,u,u,u,u,u,u,u,u,u,u,u,u,u,u,u,u,u,u,u,u,u,u,u,u,u,u,u,u,u,u,u,u,u,u,u,u,u,u,u,u,u,u,u,u,u,u,u,u,u,u,u,u,u,u,u,u,u] h R :=
  (ret_eq rfl rfl).trans (by rw [env78]; rfl)
theorem enter79 (h : Heap) (R : Value → Heap → Prop) (v0 v1 : Value) : Ret tab 79 [v0,v1] h R = Ok tab R79 [.code B79] #[v0,v1,u,u,u,u,u,u,u,u,u,u,u,u,u,u,u,u,u,u,u,u,u,u,u,u,u,u,u,u,u,u,u,u,u,u,u,u,u,u,u,u,u,u,u,u,u,u,u,u,u,u,u,u,u,u,u,u,u,u,u,u,u,u,u,u,u,u,u,u,u,u,u,u,u,u,u,u,u,u,u,u,u,u,u,u,u,u,u,u,u,u,u,u,u,u,u,u,u,u,u,u,u,u,u,u,u,u,u,u,u,u,u,u,u,u,u,u,u,u,u,u,u,u,u,u,u,u,u,u,u,u,u,u,u,u,u,u,u] h R :=
  (ret_eq rfl rfl).trans (by rw [env79]; rfl)
theorem enter86 (h : Heap) (R : Value → Heap → Prop) (v0 v1 v2 : Value) : Ret tab 86 [v0,v1,v2] h R = (belowL h.length [v0,v1,v2] = true ∧ Ok tab R86 [.code B86] #[v0,v1,v2,u,u,u,u,u,u,u,u,u,u,u,u,u,u,u] (frz h) fun v _ => below h.length v = true ∧ R v h) :=
  (ret_rd rfl rfl).trans (by rw [env86]; rfl)
theorem enter88 (h : Heap) (R : Value → Heap → Prop) (v0 v1 v2 : Value) : Ret tab 88 [v0,v1,v2] h R = (belowL h.length [v0,v1,v2] = true ∧ Ok tab R88 [.code B88] #[v0,v1,v2,u,u,u,u,u,u,u,u,u,u,u,u,u,u,u,u,u] (frz h) fun v _ => below h.length v = true ∧ R v h) :=
  (ret_rd rfl rfl).trans (by rw [env88]; rfl)
theorem enter90 (h : Heap) (R : Value → Heap → Prop) (v0 v1 v2 : Value) : Ret tab 90 [v0,v1,v2] h R = (belowL h.length [v0,v1,v2] = true ∧ Ok tab R90 [.code B90] #[v0,v1,v2,u,u,u,u,u,u,u,u,u,u,u,u,u,u,u,u,u] (frz h) fun v _ => below h.length v = true ∧ R v h) :=
  (ret_rd rfl rfl).trans (by rw [env90]; rfl)
theorem enter92 (h : Heap) (R : Value → Heap → Prop) (v0 v1 v2 : Value) : Ret tab 92 [v0,v1,v2] h R = (belowL h.length [v0,v1,v2] = true ∧ Ok tab R92 [.code B92] #[v0,v1,v2,u,u,u,u,u,u,u,u,u,u,u,u,u,u,u,u,u] (frz h) fun v _ => below h.length v = true ∧ R v h) :=
  (ret_rd rfl rfl).trans (by rw [env92]; rfl)
theorem enter94 (h : Heap) (R : Value → Heap → Prop) (v0 v1 : Value) : Ret tab 94 [v0,v1] h R = Ok tab R94 [.code B94] #[v0,v1,u,u,u,u,u,u,u,u,u,u,u,u,u,u,u,u,u,u,u,u,u,u,u,u,u,u,u,u,u,u,u,u,u,u,u,u,u,u,u,u,u,u,u,u,u,u,u,u,u,u,u,u,u,u,u,u,u,u,u,u,u,u,u,u] h R :=
  (ret_eq rfl rfl).trans (by rw [env94]; rfl)
theorem enter96 (h : Heap) (R : Value → Heap → Prop) (v0 v1 : Value) : Ret tab 96 [v0,v1] h R = (belowL h.length [v0,v1] = true ∧ Ok tab R96 [.code B96] #[v0,v1,u,u,u,u,u,u,u,u,u,u,u,u,u,u,u,u,u] (frz h) fun v _ => below h.length v = true ∧ R v h) :=
  (ret_rd rfl rfl).trans (by rw [env96]; rfl)
theorem enter97 (h : Heap) (R : Value → Heap → Prop) (v0 v1 v2 v3 v4 : Value) : Ret tab 97 [v0,v1,v2,v3,v4] h R = Ok tab R97 [.code B97] #[v0,v1,v2,v3,v4,u,u,u,u,u,u,u,u,u,u,u,u,u,u,u,u,u,u,u,u,u,u,u,u,u,u,u,u,u,u,u,u,u,u,u,u,u,u,u,u,u,u,u,u,u,u,u,u,u,u,u,u,u,u,u,u,u,u,u,u,u,u,u,u,u,u,u,u,u,u,u,u,u,u,u,u,u,u,u,u,u] h R :=
  (ret_eq rfl rfl).trans (by rw [env97]; rfl)
theorem enter98 (h : Heap) (R : Value → Heap → Prop) (v0 : Value) : Ret tab 98 [v0] h R = (belowL h.length [v0] = true ∧ Ok tab R98 [.code B98] #[v0,u,u,u,u,u,u,u,u,u] (frz h) fun v _ => below h.length v = true ∧ R v h) :=
  (ret_rd rfl rfl).trans (by rw [env98]; rfl)
theorem enter101 (h : Heap) (R : Value → Heap → Prop) (v0 v1 v2 v3 v4 v5 : Value) : Ret tab 101 [v0,v1,v2,v3,v4,v5] h R = Ok tab R101 [.code B101] #[v0,v1,v2,v3,v4,v5,u,u,u,u,u,u,u,u,u,u,u,u,u,u,u,u,u,u,u,u,u,u,u,u,u,u,u,u,u,u,u,u,u,u,u,u,u,u,u,u,u,u,u,u,u] h R :=
  (ret_eq rfl rfl).trans (by rw [env101]; rfl)
theorem enter102 (h : Heap) (R : Value → Heap → Prop) (v0 v1 v2 v3 v4 v5 : Value) : Ret tab 102 [v0,v1,v2,v3,v4,v5] h R = Ok tab R102 [.code B102] #[v0,v1,v2,v3,v4,v5,u,u,u,u,u,u,u,u,u,u,u,u,u,u,u,u,u,u,u,u,u,u,u,u,u,u,u,u,u,u,u,u,u,u,u,u,u,u,u,u,u,u,u,u,u,u,u,u,u,u,u,u,u,u,u,u,u,u,u,u,u,u,u,u,u,u,u,u,u,u,u,u,u,u,u,u,u,u,u,u,u,u,u,u,u,u,u,u,u,u,u,u,u,u,u,u,u,u,u,u,u,u,u,u,u,u,u,u,u,u,u,u,u,u,u,u,u,u,u,u,u,u,u,u,u] h R :=
  (ret_eq rfl rfl).trans (by rw [env102]; rfl)
theorem enter103 (h : Heap) (R : Value → Heap → Prop) (v0 : Value) : Ret tab 103 [v0] h R = Ok tab R103 [.code B103] #[v0,u,u,u,u,u,u,u,u,u,u,u,u,u] h R :=
  (ret_eq rfl rfl).trans (by rw [env103]; rfl)
theorem enter104 (h : Heap) (R : Value → Heap → Prop) (v0 v1 : Value) : Ret tab 104 [v0,v1] h R = Ok tab R104 [.code B104] #[v0,v1,u,u,u,u,u,u,u,u,u,u,u,u,u,u,u,u,u,u,u,u,u,u,u,u,u,u,u,u,u,u,u,u,u,u,u,u,u,u,u,u,u] h R :=
  (ret_eq rfl rfl).trans (by rw [env104]; rfl)
theorem enter105 (h : Heap) (R : Value → Heap → Prop) : Ret tab 105 [] h R = Ok tab R105 [.code B105] #[u,u,u,u] h R :=
  (ret_eq rfl rfl).trans (by rw [env105]; rfl)
theorem enter106 (h : Heap) (R : Value → Heap → Prop) (v0 : Value) : Ret tab 106 [v0] h R = Ok tab R106 [.code B106] #[v0,u,u,u,u,u,u,u] h R :=
  (ret_eq rfl rfl).trans (by rw [env106]; rfl)
theorem enter116 (h : Heap) (R : Value → Heap → Prop) (v0 v1 v2 : Value) : Ret tab 116 [v0,v1,v2] h R = (belowL h.length [v0,v1,v2] = true ∧ Ok tab R116 [.code B116] #[v0,v1,v2,u,u,u,u,u,u,u,u,u,u,u,u,u,u,u,u,u,u,u,u,u,u,u,u,u,u,u,u,u,u,u,u,u,u,u,u,u,u,u,u,u,u,u] (frz h) fun v _ => below h.length v = true ∧ R v h) :=
  (ret_rd rfl rfl).trans (by rw [env116]; rfl)
theorem enter117 (h : Heap) (R : Value → Heap → Prop) (v0 : Value) : Ret tab 117 [v0] h R = (belowL h.length [v0] = true ∧ Ok tab R117 [.code B117] #[v0,u,u,u,u,u,u,u,u,u,u,u,u] (frz h) fun v _ => below h.length v = true ∧ R v h) :=
  (ret_rd rfl rfl).trans (by rw [env117]; rfl)
theorem enter119 (h : Heap) (R : Value → Heap → Prop) (v0 v1 : Value) : Ret tab 119 [v0,v1] h R = Ok tab R119 [.code B119] #[v0,v1,u,u,u,u,u,u,u,u,u,u,u,u,u,u,u,u,u,u,u,u,u,u,u,u,u,u,u,u,u,u,u,u,u,u,u,u,u,u,u,u,u] h R :=
  (ret_eq rfl rfl).trans (by rw [env119]; rfl)
theorem enter120 (h : Heap) (R : Value → Heap → Prop) (v0 v1 v2 : Value) : Ret tab 120 [v0,v1,v2] h R = (belowL h.length [v0,v1,v2] = true ∧ Ok tab R120 [.code B120] #[v0,v1,v2,u,u,u,u,u,u,u,u,u,u,u,u,u,u,u,u,u,u,u,u,u,u,u,u,u,u,u,u] (frz h) fun v _ => below h.length v = true ∧ R v h) :=
  (ret_rd rfl rfl).trans (by rw [env120]; rfl)
theorem enter121 (h : Heap) (R : Value → Heap → Prop) (v0 v1 v2 : Value) : Ret tab 121 [v0,v1,v2] h R = Ok tab R121 [.code B121] #[v0,v1,v2,u,u,u,u,u,u,u,u,u,u,u,u,u,u,u,u,u,u,u,u,u,u,u,u,u,u,u,u,u,u,u,u,u,u,u,u,u,u,u] h R :=
  (ret_eq rfl rfl).trans (by rw [env121]; rfl)
theorem enter122 (h : Heap) (R : Value → Heap → Prop) (v0 v1 : Value) : Ret tab 122 [v0,v1] h R = (belowL h.length [v0,v1] = true ∧ Ok tab R122 [.code B122] #[v0,v1,u,u,u,u,u,u,u,u] (frz h) fun v _ => below h.length v = true ∧ R v h) :=
  (ret_rd rfl rfl).trans (by rw [env122]; rfl)
theorem enter123 (h : Heap) (R : Value → Heap → Prop) (v0 v1 v2 : Value) : Ret tab 123 [v0,v1,v2] h R = Ok tab R123 [.code B123] #[v0,v1,v2,u,u,u,u,u,u,u,u,u,u,u,u,u,u,u,u,u,u,u,u,u,u,u,u,u,u,u,u,u,u,u,u,u,u,u,u,u,u,u,u,u,u] h R :=
  (ret_eq rfl rfl).trans (by rw [env123]; rfl)
theorem enter124 (h : Heap) (R : Value → Heap → Prop) (v0 v1 v2 : Value) : Ret tab 124 [v0,v1,v2] h R = (belowL h.length [v0,v1,v2] = true ∧ Ok tab R124 [.code B124] #[v0,v1,v2,u,u,u,u,u,u,u,u,u,u,u,u,u,u,u,u,u,u,u,u,u,u,u,u,u,u,u,u,u,u,u,u,u,u,u,u,u,u,u,u,u] (frz h) fun v _ => below h.length v = true ∧ R v h) :=
  (ret_rd rfl rfl).trans (by rw [env124]; rfl)
theorem enter125 (h : Heap) (R : Value → Heap → Prop) (v0 v1 v2 : Value) : Ret tab 125 [v0,v1,v2] h R = Ok tab R125 [.code B125] #[v0,v1,v2,u,u,u,u,u,u,u,u,u,u,u,u,u,u,u,u,u,u,u,u,u,u,u,u,u,u,u,u,u,u,u,u,u,u,u,u,u,u,u,u,u,u,u,u,u,u,u,u,u,u,u,u,u,u,u,u,u,u,u] h R :=
  (ret_eq rfl rfl).trans (by rw [env125]; rfl)
theorem enter134 (h : Heap) (R : Value → Heap → Prop) (v0 v1 v2 v3 : Value) : Ret tab 134 [v0,v1,v2,v3] h R = Ok tab R134 [.code B134] #[v0,v1,v2,v3,u,u,u,u,u,u,u,u,u,u,u,u] h R :=
  (ret_eq rfl rfl).trans (by rw [env134]; rfl)
theorem enter135 (h : Heap) (R : Value → Heap → Prop) (v0 : Value) : Ret tab 135 [v0] h R = Ok tab R135 [.code B135] #[v0,u,u,u,u,u,u,u,u,u,u,u,u,u,u,u,u,u,u,u,u,u,u,u,u,u,u,u,u,u,u,u,u,u,u,u,u,u,u,u,u,u,u,u,u,u,u,u,u,u,u,u] h R :=
  (ret_eq rfl rfl).trans (by rw [env135]; rfl)
theorem enter136 (h : Heap) (R : Value → Heap → Prop) (v0 : Value) : Ret tab 136 [v0] h R = Ok tab R136 [.code B136] #[v0,u,u,u,u,u,u,u,u,u,u,u,u,u,u,u,u,u,u,u,u,u,u,u,u,u,u,u,u,u,u,u,u,u,u,u,u,u,u,u,u,u,u,u,u,u,u,u,u,u,u,u,u,u,u,u,u,u,u,u,u,u,u,u,u,u,u,u,u,u,u,u,u,u,u,u,u,u,u,u,u,u,u,u,u,u] h R :=
  (ret_eq rfl rfl).trans (by rw [env136]; rfl)
theorem enter137 (h : Heap) (R : Value → Heap → Prop) (v0 v1 : Value) : Ret tab 137 [v0,v1] h R = Ok tab R137 [.code B137] #[v0,v1,u,u,u,u,u,u,u,u,u,u,u,u,u,u,u,u,u,u,u,u,u,u,u,u,u,u,u,u,u,u,u,u,u,u,u,u,u,u,u,u,u,u,u,u,u,u,u,u,u,u,u,u,u,u,u,u,u,u,u,u,u,u,u,u,u,u,u,u,u,u,u,u,u,u,u,u,u,u,u,u,u,u,u,u,u,u,u,u,u,u,u,u,u,u,u,u,u,u,u,u,u,u,u,u,u,u,u,u,u] h R :=
  (ret_eq rfl rfl).trans (by rw [env137]; rfl)
theorem enter138 (h : Heap) (R : Value → Heap → Prop) (v0 : Value) : Ret tab 138 [v0] h R = Ok tab R138 [.code B138] #[v0,u,u,u,u,u,u,u,u,u,u,u,u,u] h R :=
  (ret_eq rfl rfl).trans (by rw [env138]; rfl)
theorem enter139 (h : Heap) (R : Value → Heap → Prop) (v0 : Value) : Ret tab 139 [v0] h R = Ok tab R139 [.code B139] #[v0,u,u,u,u,u,u,u] h R :=
  (ret_eq rfl rfl).trans (by rw [env139]; rfl)
theorem enter140 (h : Heap) (R : Value → Heap → Prop) (v0 v1 : Value) : Ret tab 140 [v0,v1] h R = Ok tab R140 [.code B140] #[v0,v1,u,u,u,u,u,u,u,u,u,u,u,u,u,u,u,u,u,u,u,u,u,u,u,u,u,u,u,u,u,u,u,u,u,u,u,u,u,u,u,u,u,u,u,u,u] h R :=
  (ret_eq rfl rfl).trans (by rw [env140]; rfl)
theorem enter141 (h : Heap) (R : Value → Heap → Prop) (v0 : Value) : Ret tab 141 [v0] h R = Ok tab R141 [.code B141] #[v0,u,u,u,u,u,u,u] h R :=
  (ret_eq rfl rfl).trans (by rw [env141]; rfl)
theorem enter142 (h : Heap) (R : Value → Heap → Prop) (v0 v1 v2 : Value) : Ret tab 142 [v0,v1,v2] h R = Ok tab R142 [.code B142] #[v0,v1,v2,u,u,u,u,u,u,u,u,u,u,u,u,u] h R :=
  (ret_eq rfl rfl).trans (by rw [env142]; rfl)
theorem enter143 (h : Heap) (R : Value → Heap → Prop) (v0 : Value) : Ret tab 143 [v0] h R = Ok tab R143 [.code B143] #[v0,u,u,u,u,u,u,u,u] h R :=
  (ret_eq rfl rfl).trans (by rw [env143]; rfl)
theorem enter144 (h : Heap) (R : Value → Heap → Prop) (v0 : Value) : Ret tab 144 [v0] h R = Ok tab R144 [.code B144] #[v0,u,u,u,u,u,u,u,u,u,u,u,u,u] h R :=
  (ret_eq rfl rfl).trans (by rw [env144]; rfl)
theorem enter145 (h : Heap) (R : Value → Heap → Prop) (v0 : Value) : Ret tab 145 [v0] h R = Ok tab R145 [.code B145] #[v0,u,u,u,u,u,u,u,u,u,u,u,u,u,u,u,u,u] h R :=
  (ret_eq rfl rfl).trans (by rw [env145]; rfl)
theorem enter157 (h : Heap) (R : Value → Heap → Prop) (v0 v1 v2 v3 : Value) : Ret tab 157 [v0,v1,v2,v3] h R = (belowL h.length [v0,v1,v2,v3] = true ∧ Ok tab R157 [.code B157] #[v0,v1,v2,v3,u,u,u,u,u,u,u,u,u,u,u,u,u,u,u,u,u,u,u,u,u,u,u,u,u,u,u,u,u,u,u,u,u,u,u,u,u,u,u,u,u,u,u,u,u,u,u,u,u,u,u,u,u,u,u,u,u,u,u,u,u,u,u,u,u,u,u,u,u,u,u,u,u] (frz h) fun v _ => below h.length v = true ∧ R v h) :=
  (ret_rd rfl rfl).trans (by rw [env157]; rfl)
theorem enter158 (h : Heap) (R : Value → Heap → Prop) (v0 v1 v2 v3 : Value) : Ret tab 158 [v0,v1,v2,v3] h R = (belowL h.length [v0,v1,v2,v3] = true ∧ Ok tab R158 [.code B158] #[v0,v1,v2,v3,u,u,u,u,u,u,u,u,u,u,u,u,u,u,u,u,u,u,u,u,u,u,u,u,u,u,u,u,u,u,u,u] (frz h) fun v _ => below h.length v = true ∧ R v h) :=
  (ret_rd rfl rfl).trans (by rw [env158]; rfl)
theorem enter159 (h : Heap) (R : Value → Heap → Prop) (v0 v1 : Value) : Ret tab 159 [v0,v1] h R = (belowL h.length [v0,v1] = true ∧ Ok tab R159 [.code B159] #[v0,v1,u,u,u,u,u,u,u,u,u,u,u,u,u,u,u,u,u,u,u,u,u,u,u,u,u,u,u,u,u,u,u,u,u,u,u] (frz h) fun v _ => below h.length v = true ∧ R v h) :=
  (ret_rd rfl rfl).trans (by rw [env159]; rfl)
theorem enter160 (h : Heap) (R : Value → Heap → Prop) (v0 v1 v2 v3 : Value) : Ret tab 160 [v0,v1,v2,v3] h R = (belowL h.length [v0,v1,v2,v3] = true ∧ Ok tab R160 [.code B160] #[v0,v1,v2,v3,u,u,u,u,u,u,u,u,u,u,u,u,u,u,u,u,u,u,u,u,u,u,u,u,u,u,u,u,u,u,u,u,u,u,u,u,u,u,u,u,u,u] (frz h) fun v _ => below h.length v = true ∧ R v h) :=
  (ret_rd rfl rfl).trans (by rw [env160]; rfl)
theorem enter165 (h : Heap) (R : Value → Heap → Prop) (v0 v1 v2 : Value) : Ret tab 165 [v0,v1,v2] h R = (belowL h.length [v0,v1,v2] = true ∧ Ok tab R165 [.code B165] #[v0,v1,v2,u,u,u,u,u,u,u,u,u,u,u,u,u,u,u,u,u,u,u,u,u,u,u,u,u,u,u,u] (frz h) fun v _ => below h.length v = true ∧ R v h) :=
  (ret_rd rfl rfl).trans (by rw [env165]; rfl)
theorem enter166 (h : Heap) (R : Value → Heap → Prop) (v0 v1 v2 : Value) : Ret tab 166 [v0,v1,v2] h R = Ok tab R166 [.code B166] #[v0,v1,v2,u,u,u,u,u,u,u,u,u,u,u,u,u,u,u,u,u,u,u,u,u,u,u,u,u,u,u,u,u,u,u,u,u,u,u,u,u,u,u,u,u,u,u,u,u,u] h R :=
  (ret_eq rfl rfl).trans (by rw [env166]; rfl)
theorem enter167 (h : Heap) (R : Value → Heap → Prop) (v0 v1 v2 : Value) : Ret tab 167 [v0,v1,v2] h R = (belowL h.length [v0,v1,v2] = true ∧ Ok tab R167 [.code B167] #[v0,v1,v2,u,u,u,u,u,u,u,u,u,u,u,u,u,u,u,u,u,u,u,u] (frz h) fun v _ => below h.length v = true ∧ R v h) :=
  (ret_rd rfl rfl).trans (by rw [env167]; rfl)
theorem enter168 (h : Heap) (R : Value → Heap → Prop) (v0 v1 v2 : Value) : Ret tab 168 [v0,v1,v2] h R = (belowL h.length [v0,v1,v2] = true ∧ Ok tab R168 [.code B168] #[v0,v1,v2,u,u,u,u,u,u,u,u,u,u,u,u,u,u,u,u,u,u,u,u,u,u,u,u,u,u,u,u,u,u,u,u,u,u,u,u,u,u,u,u,u] (frz h) fun v _ => below h.length v = true ∧ R v h) :=
  (ret_rd rfl rfl).trans (by rw [env168]; rfl)
theorem enter169 (h : Heap) (R : Value → Heap → Prop) (v0 v1 v2 : Value) : Ret tab 169 [v0,v1,v2] h R = Ok tab R169 [.code B169] #[v0,v1,v2,u,u,u,u,u,u,u,u,u,u,u,u,u,u,u,u,u,u,u,u,u,u,u,u,u,u,u,u,u,u,u,u,u,u,u,u,u,u,u,u,u,u,u,u,u,u,u,u,u,u,u,u] h R :=
  (ret_eq rfl rfl).trans (by rw [env169]; rfl)
theorem enter170 (h : Heap) (R : Value → Heap → Prop) (v0 : Value) : Ret tab 170 [v0] h R = Ok tab R170 [.code B170] #[v0,u,u,u,u,u,u,u,u,u,u,u,u,u] h R :=
  (ret_eq rfl rfl).trans (by rw [env170]; rfl)
theorem enter171 (h : Heap) (R : Value → Heap → Prop) (v0 : Value) : Ret tab 171 [v0] h R = Ok tab R171 [.code B171] #[v0,u,u,u,u,u,u,u,u,u,u,u,u,u,u,u,u,u,u,u,u,u,u,u,u,u,u,u,u,u,u,u] h R :=
  (ret_eq rfl rfl).trans (by rw [env171]; rfl)
theorem enter177 (h : Heap) (R : Value → Heap → Prop) (v0 v1 v2 : Value) : Ret tab 177 [v0,v1,v2] h R = (belowL h.length [v0,v1,v2] = true ∧ Ok tab R177 [.code B177] #[v0,v1,v2,u,u,u,u,u,u,u,u] (frz h) fun v _ => below h.length v = true ∧ R v h) :=
  (ret_rd rfl rfl).trans (by rw [env177]; rfl)
theorem enter178 (h : Heap) (R : Value → Heap → Prop) (v0 v1 v2 : Value) : Ret tab 178 [v0,v1,v2] h R = (belowL h.length [v0,v1,v2] = true ∧ Ok tab R178 [.code B178] #[v0,v1,v2,u,u,u,u,u,u,u,u,u] (frz h) fun v _ => below h.length v = true ∧ R v h) :=
  (ret_rd rfl rfl).trans (by rw [env178]; rfl)
theorem enter179 (h : Heap) (R : Value → Heap → Prop) (v0 v1 : Value) : Ret tab 179 [v0,v1] h R = (belowL h.length [v0,v1] = true ∧ Ok tab R179 [.code B179] #[v0,v1,u,u,u,u,u,u,u,u,u,u,u,u,u,u,u,u] (frz h) fun v _ => below h.length v = true ∧ R v h) :=
  (ret_rd rfl rfl).trans (by rw [env179]; rfl)
theorem enter180 (h : Heap) (R : Value → Heap → Prop) (v0 v1 v2 : Value) : Ret tab 180 [v0,v1,v2] h R = (belowL h.length [v0,v1,v2] = true ∧ Ok tab R180 [.code B180] #[v0,v1,v2,u,u,u,u,u,u,u,u,u,u,u,u,u,u,u,u,u,u,u,u,u,u,u,u,u,u,u] (frz h) fun v _ => below h.length v = true ∧ R v h) :=
  (ret_rd rfl rfl).trans (by rw [env180]; rfl)
theorem enter181 (h : Heap) (R : Value → Heap → Prop) (v0 v1 v2 : Value) : Ret tab 181 [v0,v1,v2] h R = (belowL h.length [v0,v1,v2] = true ∧ Ok tab R181 [.code B181] #[v0,v1,v2,u,u,u,u,u,u,u,u,u,u,u,u,u,u,u,u,u,u,u,u,u,u,u] (frz h) fun v _ => below h.length v = true ∧ R v h) :=
  (ret_rd rfl rfl).trans (by rw [env181]; rfl)
theorem enter182 (h : Heap) (R : Value → Heap → Prop) (v0 v1 : Value) : Ret tab 182 [v0,v1] h R = (belowL h.length [v0,v1] = true ∧ Ok tab R182 [.code B182] #[v0,v1,u,u,u,u,u,u,u,u] (frz h) fun v _ => below h.length v = true ∧ R v h) :=
  (ret_rd rfl rfl).trans (by rw [env182]; rfl)
theorem enter191 (h : Heap) (R : Value → Heap → Prop) (v0 v1 v2 : Value) : Ret tab 191 [v0,v1,v2] h R = Ok tab R191 [.code B191] #[v0,v1,v2,u,u,u,u,u,u,u,u,u,u,u,u,u,u,u,u,u,u,u,u,u,u,u,u,u,u,u,u,u,u,u,u,u,u,u,u,u,u,u,u,u,u,u,u,u,u,u,u,u,u,u] h R :=
  (ret_eq rfl rfl).trans (by rw [env191]; rfl)
theorem enter213 (h : Heap) (R : Value → Heap → Prop) (v0 : Value) : Ret tab 213 [v0] h R = Ok tab R213 [.code B213] #[v0,u,u,u,u,u] h R :=
  (ret_eq rfl rfl).trans (by rw [env213]; rfl)
theorem enter214 (h : Heap) (R : Value → Heap → Prop) (v0 : Value) : Ret tab 214 [v0] h R = Ok tab R214 [.code B214] #[v0,u,u,u,u,u] h R :=
  (ret_eq rfl rfl).trans (by rw [env214]; rfl)
theorem enter215 (h : Heap) (R : Value → Heap → Prop) (v0 v1 : Value) : Ret tab 215 [v0,v1] h R = Ok tab R215 [.code B215] #[v0,v1,u,u,u,u,u,u,u,u,u] h R :=
  (ret_eq rfl rfl).trans (by rw [env215]; rfl)
theorem enter216 (h : Heap) (R : Value → Heap → Prop) (v0 : Value) : Ret tab 216 [v0] h R = Ok tab R216 [.code B216] #[v0,u,u,u,u,u,u,u,u,u,u,u,u,u,u,u,u,u,u,u,u,u,u,u,u,u,u,u,u,u,u,u,u,u,u,u,u,u,u,u,u,u,u,u,u,u,u,u,u,u,u,u,u,u,u,u,u,u,u,u,u,u,u,u,u,u,u,u,u,u,u,u,u] h R :=
  (ret_eq rfl rfl).trans (by rw [env216]; rfl)
theorem enter217 (h : Heap) (R : Value → Heap → Prop) (v0 : Value) : Ret tab 217 [v0] h R = Ok tab R217 [.code B217] #[v0,u,u,u,u,u,u,u,u,u,u,u,u,u,u,u,u,u,u] h R :=
  (ret_eq rfl rfl).trans (by rw [env217]; rfl)
theorem enter218 (h : Heap) (R : Value → Heap → Prop) (v0 v1 v2 : Value) : Ret tab 218 [v0,v1,v2] h R = Ok tab R218 [.code B218] #[v0,v1,v2,u,u,u,u,u,u,u,u,u,u,u,u,u,u,u,u,u,u,u,u,u,u,u,u,u,u,u,u,u,u,u,u,u,u,u,u,u,u,u,u,u,u,u,u,u,u,u,u,u,u,u,u,u,u,u,u,u,u,u,u,u,u,u,u,u,u,u,u,u,u,u,u,u,u,u,u,u,u,u,u,u,u,u,u,u,u,u,u,u,u,u,u,u,u,u,u,u,u,u,u,u,u,u,u,u,u,u,u,u,u,u,u,u,u,u] h R :=
  (ret_eq rfl rfl).trans (by rw [env218]; rfl)
theorem enter219 (h : Heap) (R : Value → Heap → Prop) (v0 v1 : Value) : Ret tab 219 [v0,v1] h R = Ok tab R219 [.code B219] #[v0,v1,u,u,u,u,u,u,u,u,u,u,u,u,u,u,u,u,u,u,u,u,u,u,u,u,u,u,u,u,u,u,u,u] h R :=
  (ret_eq rfl rfl).trans (by rw [env219]; rfl)
theorem enter220 (h : Heap) (R : Value → Heap → Prop) (v0 : Value) : Ret tab 220 [v0] h R = Ok tab R220 [.code B220] #[v0,u,u,u,u,u,u,u,u,u,u,u,u,u,u,u,u,u,u,u,u] h R :=
  (ret_eq rfl rfl).trans (by rw [env220]; rfl)
theorem enter221 (h : Heap) (R : Value → Heap → Prop) (v0 v1 : Value) : Ret tab 221 [v0,v1] h R = Ok tab R221 [.code B221] #[v0,v1,u,u,u,u,u,u,u,u,u,u,u,u,u,u] h R :=
  (ret_eq rfl rfl).trans (by rw [env221]; rfl)
theorem enter222 (h : Heap) (R : Value → Heap → Prop) (v0 v1 v2 : Value) : Ret tab 222 [v0,v1,v2] h R = Ok tab R222 [.code B222] #[v0,v1,v2,u,u,u,u,u,u,u,u,u,u,u,u,u,u] h R :=
  (ret_eq rfl rfl).trans (by rw [env222]; rfl)
theorem enter223 (h : Heap) (R : Value → Heap → Prop) (v0 v1 v2 : Value) : Ret tab 223 [v0,v1,v2] h R = Ok tab R223 [.code B223] #[v0,v1,v2,u,u,u,u,u,u,u,u,u,u,u,u,u,u,u,u,u,u] h R :=
  (ret_eq rfl rfl).trans (by rw [env223]; rfl)
theorem enter224 (h : Heap) (R : Value → Heap → Prop) (v0 v1 : Value) : Ret tab 224 [v0,v1] h R = Ok tab R224 [.code B224] #[v0,v1,u,u,u,u,u,u,u,u,u,u,u,u,u,u,u,u,u,u,u,u,u,u,u] h R :=
  (ret_eq rfl rfl).trans (by rw [env224]; rfl)
theorem enter225 (h : Heap) (R : Value → Heap → Prop) (v0 : Value) : Ret tab 225 [v0] h R = Ok tab R225 [.code B225] #[v0,u,u,u,u,u,u,u,u,u,u,u,u,u,u,u,u,u,u] h R :=
  (ret_eq rfl rfl).trans (by rw [env225]; rfl)
theorem enter226 (h : Heap) (R : Value → Heap → Prop) (v0 : Value) : Ret tab 226 [v0] h R = Ok tab R226 [.code B226] #[v0,u,u,u,u,u] h R :=
  (ret_eq rfl rfl).trans (by rw [env226]; rfl)
theorem enter227 (h : Heap) (R : Value → Heap → Prop) (v0 : Value) : Ret tab 227 [v0] h R = Ok tab R227 [.code B227] #[v0,u,u,u,u,u] h R :=
  (ret_eq rfl rfl).trans (by rw [env227]; rfl)
theorem enter228 (h : Heap) (R : Value → Heap → Prop) (v0 v1 : Value) : Ret tab 228 [v0,v1] h R = Ok tab R228 [.code B228] #[v0,v1,u,u,u,u,u,u,u] h R :=
  (ret_eq rfl rfl).trans (by rw [env228]; rfl)
theorem enter229 (h : Heap) (R : Value → Heap → Prop) (v0 : Value) : Ret tab 229 [v0] h R = Ok tab R229 [.code B229] #[v0,u,u,u,u,u,u,u,u,u,u,u,u,u,u,u,u,u,u,u,u,u,u,u,u,u,u,u,u,u,u,u,u,u,u,u,u,u,u,u,u,u,u,u,u] h R :=
  (ret_eq rfl rfl).trans (by rw [env229]; rfl)
theorem enter230 (h : Heap) (R : Value → Heap → Prop) (v0 v1 : Value) : Ret tab 230 [v0,v1] h R = Ok tab R230 [.code B230] #[v0,v1,u,u,u,u,u,u,u,u,u,u,u,u,u,u,u,u,u,u,u,u,u,u,u,u] h R :=
  (ret_eq rfl rfl).trans (by rw [env230]; rfl)
theorem enter231 (h : Heap) (R : Value → Heap → Prop) (v0 v1 : Value) : Ret tab 231 [v0,v1] h R = Ok tab R231 [.code B231] #[v0,v1,u,u,u,u,u,u,u,u,u,u,u,u,u,u,u,u,u,u,u,u,u,u,u,u,u,u,u,u,u,u,u,u,u,u,u,u,u,u,u,u,u,u,u,u,u,u,u] h R :=
  (ret_eq rfl rfl).trans (by rw [env231]; rfl)
theorem enter232 (h : Heap) (R : Value → Heap → Prop) (v0 v1 : Value) : Ret tab 232 [v0,v1] h R = Ok tab R232 [.code B232] #[v0,v1,u,u,u,u,u,u,u,u,u,u,u,u,u] h R :=
  (ret_eq rfl rfl).trans (by rw [env232]; rfl)
theorem enter233 (h : Heap) (R : Value → Heap → Prop) (v0 v1 : Value) : Ret tab 233 [v0,v1] h R = Ok tab R233 [.code B233] #[v0,v1,u,u,u,u,u,u,u,u,u,u,u,u,u,u,u,u,u,u,u,u,u,u,u,u,u,u,u,u,u,u,u,u,u,u,u,u,u,u,u,u,u,u,u,u,u,u,u,u,u,u,u,u,u,u,u,u,u,u,u,u,u,u,u,u,u,u,u,u,u,u,u,u,u,u,u,u,u,u,u,u,u,u,u,u,u,u,u] h R :=
  (ret_eq rfl rfl).trans (by rw [env233]; rfl)
theorem enter235 (h : Heap) (R : Value → Heap → Prop) (v0 v1 : Value) : Ret tab 235 [v0,v1] h R = Ok tab R235 [.code B235] #[v0,v1,u,u,u,u,u,u] h R :=
  (ret_eq rfl rfl).trans (by rw [env235]; rfl)
theorem enter236 (h : Heap) (R : Value → Heap → Prop) (v0 : Value) : Ret tab 236 [v0] h R = Ok tab R236 [.code B236] #[v0,u,u,u,u,u,u,u,u,u,u,u,u,u,u,u,u] h R :=
  (ret_eq rfl rfl).trans (by rw [env236]; rfl)
theorem enter237 (h : Heap) (R : Value → Heap → Prop) (v0 : Value) : Ret tab 237 [v0] h R = Ok tab R237 [.code B237] #[v0,u,u,u,u,u,u,u,u,u,u,u,u,u,u,u,u,u,u,u,u,u,u,u,u,u,u,u,u,u,u,u,u,u,u,u,u,u] h R :=
  (ret_eq rfl rfl).trans (by rw [env237]; rfl)
end Go.Proofs.Ytjpjohchdfoeaaa
