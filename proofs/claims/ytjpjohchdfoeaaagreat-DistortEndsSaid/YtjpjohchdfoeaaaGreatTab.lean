/-
  The table of the functions, resolved: it is the program's. Laid by program (gentab.py).
-/
import Derived.Test.YtjpjohchdfoeaaaGreatTabA
import Derived.Test.YtjpjohchdfoeaaaGreatTabB
namespace Go.Proofs.YtjpjohchdfoeaaaGreat
open Go Go.Sim
open Go.Operand renaming tmp→t,const→c,func→w
open Go.Sim.ROp renaming mov→m,bin→b,load→l,fieldAddr→f,call→z,nilCheck→y,pick→p,extract→x
open Go.Sim.RCode renaming seq→q,region→r,cond→d,skip→o
open Go.Value renaming int→i
open Go.IntKind renaming i64→j
open Option renaming none→n,some→s
open Go renaming undef→u
variable {T : Tab} {F : Gak} {k : List Ga1} {e : Env} {h : Gag} {R : RP}
variable {v0 v1 v2 v3 v4 v5 v6 v7 v8 v9 v10 v11 v12 v13 v14 v15 : Value}
def tab : Tab:=fun g=>match g with
  | 8=>s R8
  | 11=>s R11
  | 17=>s R17
  | 21=>s R21
  | 22=>s R22
  | 24=>s R24
  | 26=>s R26
  | 27=>s R27
  | 28=>s R28
  | 34=>s R34
  | 35=>s R35
  | 36=>s R36
  | 37=>s R37
  | 38=>s R38
  | 39=>s R39
  | 40=>s R40
  | 41=>s R41
  | 49=>s R49
  | 50=>s R50
  | 51=>s R51
  | 52=>s R52
  | 55=>s R55
  | 56=>s R56
  | 57=>s R57
  | 58=>s R58
  | 59=>s R59
  | 60=>s R60
  | 61=>s R61
  | 62=>s R62
  | 63=>s R63
  | 64=>s R64
  | 65=>s R65
  | 79=>s R79
  | 80=>s R80
  | 81=>s R81
  | 82=>s R82
  | 83=>s R83
  | 84=>s R84
  | 98=>s R98
  | 99=>s R99
  | 100=>s Qdz
  | 101=>s R101
  | 102=>s Qc9
  | 105=>s Qcs
  | 106=>s Qdm
  | 107=>s Qer
  | 108=>s Qd6
  | 109=>s Qea
  | 110=>s G67
  | 111=>s G2n
  | 112=>s Gpu
  | 113=>s Qev
  | 116=>s R116
  | 122=>s R122
  | 123=>s Qeq
  | 124=>s G8x
  | 125=>s G78
  | 126=>s Gq7
  | 131=>s R131
  | 133=>s R133
  | 134=>s Qei
  | 135=>s Qeh
  | 136=>s Qee
  | 137=>s Qcz
  | 139=>s Gyq
  | 140=>s Qb8
  | 141=>s Qcw
  | 142=>s Qcc
  | 143=>s Qck
  | 144=>s Qda
  | 145=>s Qeb
  | 146=>s Qek
  | 147=>s Qc6
  | 148=>s G97
  | 149=>s Qdc
  | 162=>s Qcl
  | 163=>s Qd1
  | 164=>s Qed
  | 165=>s Qa0
  | 166=>s Qbw
  | 173=>s R173
  | 174=>s Qdu
  | 175=>s Qdo
  | 177=>s Qco
  | 178=>s Qce
  | 179=>s Qd8
  | 180=>s Qb9
  | 181=>s Qeg
  | 185=>s R185
  | 186=>s Qdf
  | 191=>s Qcj
  | 192=>s Qd5
  | 193=>s Qej
  | 194=>s Qef
  | 195=>s Qcr
  | 196=>s Qci
  | 204=>s R204
  | 205=>s R205
  | 226=>s Qdy
  | 227=>s Qdx
  | 228=>s Qdp
  | 229=>s G7g
  | 230=>s Qc2
  | 231=>s G2i
  | 232=>s Qen
  | 233=>s Qbe
  | 234=>s Qcu
  | 235=>s Qec
  | 236=>s Qes
  | 237=>s Qcb
  | 238=>s Qc4
  | 239=>s Qeo
  | 240=>s Qct
  | 241=>s Qcm
  | 242=>s Qbv
  | 243=>s Qel
  | 244=>s Qb4
  | 245=>s Qdi
  | 246=>s G7q
  | 248=>s Qde
  | 249=>s Qep
  | 250=>s Qcv
  | _=>n
theorem tabOk : G43 Tryz.prog tab:=by
  intro g G h
  unfold tab at h
  split at h <;> try (cases h; done)
  · exact Gao h c8
  · exact Gao h c11
  · exact Gao h c17
  · exact Gao h c21
  · exact Gao h c22
  · exact Gao h c24
  · exact Gao h c26
  · exact Gao h c27
  · exact Gao h c28
  · exact Gao h c34
  · exact Gao h c35
  · exact Gao h c36
  · exact Gao h c37
  · exact Gao h c38
  · exact Gao h c39
  · exact Gao h c40
  · exact Gao h c41
  · exact Gao h c49
  · exact Gao h c50
  · exact Gao h c51
  · exact Gao h c52
  · exact Gao h c55
  · exact Gao h c56
  · exact Gao h c57
  · exact Gao h c58
  · exact Gao h c59
  · exact Gao h c60
  · exact Gao h c61
  · exact Gao h c62
  · exact Gao h c63
  · exact Gao h c64
  · exact Gao h c65
  · exact Gao h c79
  · exact Gao h c80
  · exact Gao h c81
  · exact Gao h c82
  · exact Gao h c83
  · exact Gao h c84
  · exact Gao h c98
  · exact Gao h c99
  · exact Gao h c100
  · exact Gao h c101
  · exact Gao h c102
  · exact Gao h c105
  · exact Gao h c106
  · exact Gao h c107
  · exact Gao h c108
  · exact Gao h c109
  · exact Gao h c110
  · exact Gao h c111
  · exact Gao h c112
  · exact Gao h c113
  · exact Gao h c116
  · exact Gao h c122
  · exact Gao h c123
  · exact Gao h c124
  · exact Gao h c125
  · exact Gao h c126
  · exact Gao h c131
  · exact Gao h c133
  · exact Gao h c134
  · exact Gao h c135
  · exact Gao h c136
  · exact Gao h c137
  · exact Gao h c139
  · exact Gao h c140
  · exact Gao h c141
  · exact Gao h c142
  · exact Gao h c143
  · exact Gao h c144
  · exact Gao h c145
  · exact Gao h c146
  · exact Gao h c147
  · exact Gao h c148
  · exact Gao h c149
  · exact Gao h c162
  · exact Gao h c163
  · exact Gao h c164
  · exact Gao h c165
  · exact Gao h c166
  · exact Gao h c173
  · exact Gao h c174
  · exact Gao h c175
  · exact Gao h c177
  · exact Gao h c178
  · exact Gao h c179
  · exact Gao h c180
  · exact Gao h c181
  · exact Gao h c185
  · exact Gao h c186
  · exact Gao h c191
  · exact Gao h c192
  · exact Gao h c193
  · exact Gao h c194
  · exact Gao h c195
  · exact Gao h c196
  · exact Gao h c204
  · exact Gao h c205
  · exact Gao h c226
  · exact Gao h c227
  · exact Gao h c228
  · exact Gao h c229
  · exact Gao h c230
  · exact Gao h c231
  · exact Gao h c232
  · exact Gao h c233
  · exact Gao h c234
  · exact Gao h c235
  · exact Gao h c236
  · exact Gao h c237
  · exact Gao h c238
  · exact Gao h c239
  · exact Gao h c240
  · exact Gao h c241
  · exact Gao h c242
  · exact Gao h c243
  · exact Gao h c244
  · exact Gao h c245
  · exact Gao h c246
  · exact Gao h c248
  · exact Gao h c249
  · exact Gao h c250
theorem enter8 : Ret tab 8 [v0,v1] h R = Ok tab R8 [.code B8] #[v0,v1,u,u,u,u,u,u,u,u,u,u,u,u,u,u,u,u,u,u,u,u,u,u,u,u,u,u,u,u,u,u,u,u,u,u,u,u,u,u,u,u,u,u,u,u,u,u,u,u,u,u,u,u,u,u,u,u,u,u,u,u,u,u,u,u,u,u,u,u,u,u,u,u,u,u,u,u,u,u,u,u,u,u,u,u,u,u,u,u,u,u,u,u,u,u,u,u,u,u,u,u,u,u,u,u,u,u,u,u,u,u,u,u,u,u,u,u,u,u,u,u,u,u,u,u,u,u,u,u,u,u,u,u,u,u,u,u,u,u,u,u,u,u,u,u,u,u,u,u,u,u,u,u,u,u,u,u,u,u,u,u,u,u,u,u,u,u,u,u,u,u,u,u,u,u,u,u,u,u,u,u,u,u,u,u,u,u,u,u,u,u,u,u,u,u,u,u,u,u,u,u,u,u,u,u,u,u,u,u,u,u] h R :=
  Gax rfl rfl (by kernel_rfl)
theorem G99 : Ret tab 11 [v0,v1,v2,v3,v4,v5] h R = Ok tab R11 [.code B11] #[v0,v1,v2,v3,v4,v5,u,u,u,u,u,u,u,u,u,u,u,u,u,u,u,u,u,u,u,u,u,u,u,u,u,u,u,u,u,u,u,u,u,u,u,u,u,u,u,u,u,u,u,u,u,u,u] h R :=
  Gax rfl rfl (by kernel_rfl)
theorem Qai : Ret tab 17 [v0,v1,v2,v3,v4] h R = Ok tab R17 [.code B17] #[v0,v1,v2,v3,v4,u,u,u,u,u,u,u,u,u,u,u,u,u,u,u,u,u,u,u,u,u,u,u,u,u,u,u,u,u,u,u,u,u,u,u,u,u,u,u,u,u,u,u,u,u,u,u,u,u,u,u,u,u,u,u,u,u,u,u,u,u,u,u,u,u,u,u,u,u,u,u,u,u,u,u,u,u,u,u,u,u,u,u,u,u,u,u,u,u,u,u,u,u,u,u,u,u,u,u,u,u,u,u,u,u,u,u,u,u,u,u,u,u,u,u,u,u,u,u,u,u,u,u,u,u,u,u,u,u,u,u,u,u,u,u,u,u,u,u,u,u,u,u] h R :=
  Gax rfl rfl (by kernel_rfl)
theorem G9y : Ret tab 22 [v0,v1,v2] h R = Ok tab R22 [.code B22] #[v0,v1,v2,u,u,u,u,u,u,u,u,u,u,u,u,u,u,u,u,u,u,u,u,u,u,u,u,u,u] h R :=
  Gax rfl rfl (by kernel_rfl)
theorem G9c : Ret tab 26 [v0,v1,v2,v3,v4,v5] h R = Ok tab R26 [.code B26] #[v0,v1,v2,v3,v4,v5,u,u,u,u,u,u,u,u,u,u,u,u,u,u,u,u,u,u,u,u,u,u,u,u,u,u,u,u,u,u,u,u,u,u,u,u,u,u,u,u,u,u,u,u,u] h R :=
  Gax rfl rfl (by kernel_rfl)
theorem Qb0 : Ret tab 27 [v0,v1,v2,v3,v4,v5] h R = Ok tab R27 [.code B27] #[v0,v1,v2,v3,v4,v5,u,u,u,u,u,u,u,u,u,u,u,u,u,u,u,u,u,u,u,u,u,u,u,u,u,u,u,u,u,u,u,u,u,u,u,u,u,u,u,u,u,u,u,u,u,u,u,u,u,u,u,u,u,u,u,u,u,u,u,u,u,u,u,u,u,u,u,u,u,u,u,u,u,u,u,u,u,u,u,u,u,u,u,u,u,u,u,u,u,u,u,u,u,u,u,u,u,u,u,u,u,u,u,u,u,u,u,u,u,u,u,u,u,u,u,u,u,u,u,u,u,u,u,u,u] h R :=
  Gax rfl rfl (by kernel_rfl)
theorem G9e : Ret tab 28 [v0,v1,v2,v3,v4,v5] h R = Ok tab R28 [.code B28] #[v0,v1,v2,v3,v4,v5,u,u,u,u,u,u,u,u,u,u,u,u,u,u,u,u,u,u,u,u,u,u,u,u,u,u,u,u,u,u,u,u,u,u,u,u,u,u,u,u,u,u,u,u,u,u,u,u,u,u,u,u,u,u,u,u,u,u,u,u,u,u,u,u,u,u,u,u,u,u,u,u,u,u,u,u,u,u,u,u,u,u,u,u,u,u,u,u,u,u,u,u,u,u,u,u,u,u,u,u,u,u,u,u,u,u,u,u,u,u,u,u,u,u,u,u,u,u,u,u,u,u,u,u,u,u,u,u,u,u,u,u,u,u,u,u,u,u,u] h R :=
  Gax rfl rfl (by kernel_rfl)
theorem G89 : Ret tab 34 [v0,v1] h R = Ok tab R34 [.code B34] #[v0,v1,u,u,u,u,u,u,u,u,u,u,u,u,u,u,u,u,u,u,u,u,u,u,u,u,u,u,u,u,u,u,u,u,u,u,u,u,u,u,u,u,u,u,u,u] h R :=
  Gax rfl rfl (by kernel_rfl)
theorem G9b : Ret tab 35 [v0,v1,v2,v3,v4] h R = Ok tab R35 [.code B35] #[v0,v1,v2,v3,v4,u,u,u,u,u,u,u,u,u,u,u,u,u,u,u,u,u,u,u,u,u,u,u,u,u,u,u,u,u,u,u,u,u,u,u,u,u,u,u,u,u,u,u,u,u,u,u,u,u,u,u,u,u,u,u,u,u,u,u,u,u,u,u,u,u,u,u,u,u,u,u,u,u,u,u,u,u,u,u,u,u,u,u,u,u,u] h R :=
  Gax rfl rfl (by kernel_rfl)
theorem G90 : Ret tab 36 [v0] h R = Ok tab R36 [.code B36] #[v0,u,u,u,u,u,u,u,u,u,u,u,u,u] h R :=
  Gax rfl rfl (by kernel_rfl)
theorem G8u : Ret tab 37 [v0] h R = (Gat h.length [v0] = true∧Ok tab R37 [.code B37] #[v0,u,u,u,u,u,u,u,u,u,u,u,u,u,u,u,u,u,u,u,u,u,u,u,u] (frz h) fun v _=>below h.length v = true∧R v h) :=
  Gdk rfl rfl (by kernel_rfl)
theorem G9j : Ret tab 38 [v0,v1] h R = Ok tab R38 [.code B38] #[v0,v1,u,u,u,u,u,u,u,u,u,u,u,u,u,u,u,u,u,u,u,u,u,u,u,u,u,u,u,u,u,u,u,u,u,u,u,u,u,u,u,u,u] h R :=
  Gax rfl rfl (by kernel_rfl)
theorem G9u : Ret tab 39 [v0,v1] h R = (Gat h.length [v0,v1] = true∧Ok tab R39 [.code B39] #[v0,v1,u,u,u,u,u,u,u,u,u,u,u,u,u,u,u,u,u,u,u,u,u,u,u] (frz h) fun v _=>below h.length v = true∧R v h) :=
  Gdk rfl rfl (by kernel_rfl)
theorem G8o: Ret tab 40 [] h R = Ok tab R40 [.code B40] #[u,u,u,u] h R :=
  Gax rfl rfl (by kernel_rfl)
theorem Qbp : Ret tab 41 [v0] h R = Ok tab R41 [.code B41] #[v0,u,u,u,u,u,u,u] h R :=
  Gax rfl rfl (by kernel_rfl)
theorem G8w : Ret tab 49 [v0,v1,v2,v3,v4,v5] h R = Ok tab R49 [.code B49] #[v0,v1,v2,v3,v4,v5,u,u,u,u,u,u,u,u,u,u,u,u,u,u,u,u,u,u,u,u,u,u,u,u,u,u,u,u,u,u,u,u,u,u,u,u,u,u,u,u,u,u,u,u,u,u,u,u,u,u,u,u,u,u,u,u,u,u,u,u,u,u,u,u,u,u,u,u,u,u,u,u,u,u,u,u,u,u,u] h R :=
  Gax rfl rfl (by kernel_rfl)
theorem G8m : Ret tab 50 [v0,v1,v2,v3,v4,v5,v6,v7,v8,v9] h R = Ok tab R50 [.code B50] #[v0,v1,v2,v3,v4,v5,v6,v7,v8,v9,u,u,u,u,u,u,u,u,u,u,u,u,u,u,u,u,u,u,u,u,u,u,u,u,u,u,u,u,u,u,u,u,u,u,u,u,u,u,u,u,u,u,u,u,u,u,u,u,u,u,u,u,u,u,u,u,u,u,u,u,u,u,u,u,u,u,u,u,u,u,u,u,u,u,u,u,u,u,u,u,u,u,u,u,u,u,u,u,u,u,u,u,u,u,u,u,u,u,u,u,u,u,u] h R :=
  Gax rfl rfl (by kernel_rfl)
theorem G9s : Ret tab 52 [v0,v1,v2,v3,v4] h R = Ok tab R52 [.code B52] #[v0,v1,v2,v3,v4,u,u,u,u,u,u,u,u,u,u,u,u,u,u,u,u,u,u,u,u,u,u,u,u,u,u,u,u,u] h R :=
  Gax rfl rfl (by kernel_rfl)
theorem G1c : Ret tab 55 [v0,v1] h R = Ok tab R55 [.code B55] #[v0,v1,u,u,u,u,u,u,u,u,u,u,u,u,u,u,u,u] h R :=
  Gax rfl rfl (by kernel_rfl)
theorem G9a : Ret tab 56 [v0] h R = Ok tab R56 [.code B56] #[v0,u,u,u,u,u,u,u,u,u,u,u,u,u] h R :=
  Gax rfl rfl (by kernel_rfl)
theorem Qbg : Ret tab 57 [v0] h R = Ok tab R57 [.code B57] #[v0,u,u,u,u,u,u,u] h R :=
  Gax rfl rfl (by kernel_rfl)
theorem Qaz : Ret tab 58 [v0,v1] h R = Ok tab R58 [.code B58] #[v0,v1,u,u,u,u,u,u,u,u,u,u,u,u,u,u,u,u,u,u,u,u,u,u,u,u,u,u,u,u,u,u,u,u,u,u,u,u,u,u,u,u,u,u,u,u,u] h R :=
  Gax rfl rfl (by kernel_rfl)
theorem Qax : Ret tab 59 [v0] h R = Ok tab R59 [.code B59] #[v0,u,u,u,u,u,u,u] h R :=
  Gax rfl rfl (by kernel_rfl)
theorem Qac : Ret tab 60 [v0,v1,v2,v3,v4,v5] h R = Ok tab R60 [.code B60] #[v0,v1,v2,v3,v4,v5,u,u,u,u,u,u,u,u,u,u,u,u,u,u,u,u,u,u,u,u,u,u,u,u,u,u,u,u,u,u,u,u,u,u,u,u,u,u,u,u,u,u,u,u,u,u,u,u,u,u,u,u,u,u,u,u,u,u,u,u,u,u,u,u,u,u,u,u,u,u,u,u,u,u,u,u,u,u,u,u,u,u] h R :=
  Gax rfl rfl (by kernel_rfl)
theorem G9t : Ret tab 61 [v0,v1,v2] h R = Ok tab R61 [.code B61] #[v0,v1,v2,u,u,u,u,u,u,u,u,u,u,u,u,u] h R :=
  Gax rfl rfl (by kernel_rfl)
theorem Gzf : Ret tab 62 [v0] h R = (Gat h.length [v0] = true∧Ok tab R62 [.code B62] #[v0,u,u,u,u,u,u,u,u,u,u,u,u,u,u] (frz h) fun v _=>below h.length v = true∧R v h) :=
  Gdk rfl rfl (by kernel_rfl)
theorem Gkz : Ret tab 63 [v0,v1] h R = Ok tab R63 [.code B63] #[v0,v1,u,u,u,u,u,u,u,u,u,u,u,u,u,u,u,u,u,u,u,u,u,u,u,u,u,u,u,u,u,u,u,u,u,u,u,u,u,u,u,u,u,u,u,u,u,u,u,u,u,u,u,u,u,u,u,u,u,u,u,u,u,u,u,u] h R :=
  Gax rfl rfl (by kernel_rfl)
theorem G8n : Ret tab 64 [v0,v1,v2] h R = (Gat h.length [v0,v1,v2] = true∧Ok tab R64 [.code B64] #[v0,v1,v2,u,u,u,u,u,u,u,u,u,u,u,u,u,u,u] (frz h) fun v _=>below h.length v = true∧R v h) :=
  Gdk rfl rfl (by kernel_rfl)
theorem G9h : Ret tab 65 [v0,v1,v2] h R = (Gat h.length [v0,v1,v2] = true∧Ok tab R65 [.code B65] #[v0,v1,v2,u,u,u,u,u,u,u,u,u,u,u,u,u,u,u,u,u] (frz h) fun v _=>below h.length v = true∧R v h) :=
  Gdk rfl rfl (by kernel_rfl)
theorem Qae : Ret tab 79 [v0,v1,v2,v3] h R = Ok tab R79 [.code B79] #[v0,v1,v2,v3,u,u,u,u,u,u,u,u,u,u,u,u,u,u,u,u,u,u,u,u,u,u,u,u] h R :=
  Gax rfl rfl (by kernel_rfl)
theorem G9z : Ret tab 80 [v0,v1,v2,v3,v4] h R = Ok tab R80 [.code B80] #[v0,v1,v2,v3,v4,u,u,u,u,u,u,u,u,u,u,u,u,u,u,u,u,u,u,u,u,u,u,u,u,u,u,u,u,u,u,u,u,u,u,u,u,u,u,u,u,u,u,u,u,u,u,u,u,u,u,u,u,u,u,u,u,u,u,u,u,u,u,u,u,u,u,u,u,u,u,u,u,u,u,u,u,u,u,u,u,u] h R :=
  Gax rfl rfl (by kernel_rfl)
theorem G8r : Ret tab 81 [v0] h R = Ok tab R81 [.code B81] #[v0,u,u,u,u,u,u,u,u] h R :=
  Gax rfl rfl (by kernel_rfl)
theorem G86 : Ret tab 82 [v0] h R = (Gat h.length [v0] = true∧Ok tab R82 [.code B82] #[v0,u,u,u,u,u,u,u,u,u] (frz h) fun v _=>below h.length v = true∧R v h) :=
  Gdk rfl rfl (by kernel_rfl)
theorem Qbf : Ret tab 83 [v0] h R = Ok tab R83 [.code B83] #[v0,u,u,u,u,u,u,u,u,u,u,u,u,u] h R :=
  Gax rfl rfl (by kernel_rfl)
theorem G9i : Ret tab 84 [v0] h R = Ok tab R84 [.code B84] #[v0,u,u,u,u,u,u,u,u,u,u,u,u,u,u,u,u,u] h R :=
  Gax rfl rfl (by kernel_rfl)
theorem Qa1 : Ret tab 98 [v0,v1] h R = Ok tab R98 [.code B98] #[v0,v1,u,u,u,u,u,u,u,u,u,u,u,u,u,u,u,u,u] h R :=
  Gax rfl rfl (by kernel_rfl)
theorem G9p : Ret tab 99 [v0,v1,v2,v3,v4,v5,v6,v7,v8,v9,v10] h R = Ok tab R99 [.code B99] #[v0,v1,v2,v3,v4,v5,v6,v7,v8,v9,v10,u,u,u,u,u,u,u,u,u,u,u,u,u,u,u,u,u,u,u,u,u,u,u,u,u,u,u,u,u,u,u,u,u,u,u,u,u,u,u,u,u,u,u,u,u,u,u,u,u,u,u,u,u,u,u] h R :=
  Gax rfl rfl (by kernel_rfl)
theorem G42 : Ret tab 100 [v0,v1,v2] h R = Ok tab Qdz [.code B100] #[v0,v1,v2,u,u,u,u,u,u,u,u,u,u,u,u,u,u,u,u,u,u,u,u,u,u,u,u,u,u,u,u,u,u,u,u,u,u,u,u,u,u] h R :=
  Gax rfl rfl (by kernel_rfl)
theorem G3i : Ret tab 102 [v0,v1,v2,v3] h R = Ok tab Qc9 [.code B102] #[v0,v1,v2,v3,u,u,u,u,u,u,u,u,u,u,u,u,u,u,u,u,u,u,u,u,u,u,u,u,u,u,u,u,u,u,u,u,u,u,u,u] h R :=
  Gax rfl rfl (by kernel_rfl)
theorem Gt0 : Ret tab 105 [v0,v1] h R = (Gat h.length [v0,v1] = true∧Ok tab Qcs [.code Qez] #[v0,v1,u,u,u,u,u,u,u,u,u,u,u,u,u,u,u,u,u] (frz h) fun v _=>below h.length v = true∧R v h) :=
  Gdk rfl rfl (by kernel_rfl)
theorem G6b : Ret tab 106 [v0] h R = Ok tab Qdm [.code B106] #[v0,u,u,u,u,u,u,u,u,u,u,u,u,u] h R :=
  Gax rfl rfl (by kernel_rfl)
theorem Gv2 : Ret tab 107 [v0] h R = Ok tab Qer [.code Qe6] #[v0,u,u,u,u,u,u,u,u,u,u,u,u,u,u,u,u,u,u,u,u,u,u,u,u,u,u,u,u,u,u,u] h R :=
  Gax rfl rfl (by kernel_rfl)
theorem G4q : Ret tab 108 [v0] h R = (Gat h.length [v0] = true∧Ok tab Qd6 [.code B108] #[v0,u,u,u,u,u,u,u,u,u,u,u,u,u] (frz h) fun v _=>below h.length v = true∧R v h) :=
  Gdk rfl rfl (by kernel_rfl)
theorem G4c : Ret tab 109 [v0,v1,v2] h R = Ok tab Qea [.code B109] #[v0,v1,v2,u,u,u,u,u,u,u,u,u,u] h R :=
  Gax rfl rfl (by kernel_rfl)
theorem G5j : Ret tab 110 [v0] h R = Ok tab G67 [.code B110] #[v0,u,u,u,u,u,u,u,u,u,u,u,u,u,u,u,u,u,u,u,u,u,u,u,u,u,u,u,u,u,u,u,u,u,u,u,u,u,u,u,u,u,u,u,u,u,u,u,u,u,u,u] h R :=
  Gax rfl rfl (by kernel_rfl)
theorem G3z : Ret tab 111 [v0] h R = Ok tab G2n [.code B111] #[v0,u,u,u,u,u,u,u,u,u,u,u,u,u,u,u,u,u,u,u,u,u,u,u,u,u,u,u,u,u,u,u,u,u,u,u,u,u,u,u,u,u,u,u,u,u,u,u,u,u,u,u,u,u,u,u,u,u,u,u,u,u,u,u,u,u,u,u,u,u,u,u,u,u,u,u,u,u,u,u,u,u,u,u,u,u,u] h R :=
  Gax rfl rfl (by kernel_rfl)
theorem G5z : Ret tab 112 [v0,v1] h R = Ok tab Gpu [.code G2g] #[v0,v1,u,u,u,u,u,u,u,u,u,u,u,u,u,u,u,u,u,u,u,u,u,u,u,u,u,u,u,u,u,u,u,u,u,u,u,u,u,u,u,u,u,u,u,u,u,u,u,u,u,u,u,u,u,u,u,u,u,u,u,u,u,u,u,u,u,u,u,u,u,u,u,u,u,u,u,u,u,u,u,u,u,u,u,u,u,u,u,u,u,u,u,u,u,u,u,u,u,u,u,u,u,u,u,u,u,u,u,u,u,u,u,u,u,u,u,u,u,u,u,u,u,u,u,u,u,u,u,u,u,u,u,u,u,u,u,u,u] h R :=
  Gax rfl rfl (by kernel_rfl)
theorem Gvi : Ret tab 113 [v0,v1,v2] h R = (Gat h.length [v0,v1,v2] = true∧Ok tab Qev [.code Qfc] #[v0,v1,v2,u,u,u,u,u,u,u,u,u,u,u,u,u,u,u,u,u,u,u,u,u,u,u,u,u,u,u,u,u,u,u,u,u,u,u,u,u,u,u,u,u,u,u] (frz h) fun v _=>below h.length v = true∧R v h) :=
  Gdk rfl rfl (by kernel_rfl)
theorem G4w : Ret tab 123 [v0,v1,v2,v3] h R = Ok tab Qeq [.code B123] #[v0,v1,v2,v3,u,u,u,u,u,u,u,u,u,u,u,u] h R :=
  Gax rfl rfl (by kernel_rfl)
theorem G4s : Ret tab 124 [v0] h R = Ok tab G8x [.code B124] #[v0,u,u,u,u,u,u,u,u,u,u,u,u,u,u,u,u,u,u,u,u,u,u,u,u,u,u,u,u,u,u,u,u,u,u,u,u,u,u,u,u,u,u,u,u,u,u,u,u,u,u,u] h R :=
  Gax rfl rfl (by kernel_rfl)
theorem G58 : Ret tab 125 [v0] h R = Ok tab G78 [.code B125] #[v0,u,u,u,u,u,u,u,u,u,u,u,u,u,u,u,u,u,u,u,u,u,u,u,u,u,u,u,u,u,u,u,u,u,u,u,u,u,u,u,u,u,u,u,u,u,u,u,u,u,u,u,u,u,u,u,u,u,u,u,u,u,u,u,u,u,u,u,u,u,u,u,u,u,u,u,u,u,u,u,u,u,u,u,u,u] h R :=
  Gax rfl rfl (by kernel_rfl)
theorem G4p : Ret tab 126 [v0,v1] h R = Ok tab Gq7 [.code G2z] #[v0,v1,u,u,u,u,u,u,u,u,u,u,u,u,u,u,u,u,u,u,u,u,u,u,u,u,u,u,u,u,u,u,u,u,u,u,u,u,u,u,u,u,u,u,u,u,u,u,u,u,u,u,u,u,u,u,u,u,u,u,u,u,u,u,u,u,u,u,u,u,u,u,u,u,u,u,u,u,u,u,u,u,u,u,u,u,u,u,u,u,u,u,u,u,u,u,u,u,u,u,u,u,u,u,u,u,u,u,u,u,u] h R :=
  Gax rfl rfl (by kernel_rfl)
theorem G6p : Ret tab 134 [v0,v1,v2] h R = Ok tab Qei [.code B134] #[v0,v1,v2,u,u,u,u,u,u,u,u,u,u,u,u,u,u,u] h R :=
  Gax rfl rfl (by kernel_rfl)
theorem G46 : Ret tab 135 [v0,v1,v2,v3] h R = Ok tab Qeh [.code B135] #[v0,v1,v2,v3,u,u,u,u,u,u,u,u,u,u,u,u,u,u,u,u,u,u,u,u,u,u,u,u,u,u,u,u,u,u,u,u,u,u,u,u,u,u] h R :=
  Gax rfl rfl (by kernel_rfl)
theorem Guv : Ret tab 136 [v0] h R = Ok tab Qee [.code Qfb] #[v0,u,u,u,u,u,u,u,u] h R :=
  Gax rfl rfl (by kernel_rfl)
theorem G57 : Ret tab 137 [v0,v1,v2] h R = Ok tab Qcz [.code B137] #[v0,v1,v2,u,u,u,u,u,u,u,u,u] h R :=
  Gax rfl rfl (by kernel_rfl)
theorem G2j : Ret tab 139 [v0,v1] h R = Ok tab Gyq [.code B139] #[v0,v1,u,u,u,u,u,u,u,u,u,u,u,u,u,u,u,u,u,u,u,u,u,u,u,u,u,u,u,u,u,u,u,u,u,u,u,u,u,u,u,u,u] h R :=
  Gax rfl rfl (by kernel_rfl)
theorem G47 : Ret tab 140 [v0,v1,v2] h R = (Gat h.length [v0,v1,v2] = true∧Ok tab Qb8 [.code B140] #[v0,v1,v2,u,u,u,u,u,u,u,u,u,u,u,u,u,u,u,u,u] (frz h) fun v _=>below h.length v = true∧R v h) :=
  Gdk rfl rfl (by kernel_rfl)
theorem G4d : Ret tab 141 [v0,v1,v2] h R = (Gat h.length [v0,v1,v2] = true∧Ok tab Qcw [.code B141] #[v0,v1,v2,u,u,u,u,u,u,u,u,u,u,u,u,u,u,u,u,u,u,u,u,u,u,u,u,u,u,u,u] (frz h) fun v _=>below h.length v = true∧R v h) :=
  Gdk rfl rfl (by kernel_rfl)
theorem Gu1 : Ret tab 142 [v0,v1,v2] h R = Ok tab Qcc [.code Qe3] #[v0,v1,v2,u,u,u,u,u,u,u,u,u,u,u,u,u,u,u,u,u,u,u,u,u,u,u,u,u,u,u,u,u,u,u,u,u,u,u,u,u,u,u] h R :=
  Gax rfl rfl (by kernel_rfl)
theorem G5w : Ret tab 143 [v0,v1,v2,v3] h R = Ok tab Qck [.code B143] #[v0,v1,v2,v3,u,u,u,u,u,u,u,u,u,u,u,u,u,u,u,u,u,u] h R :=
  Gax rfl rfl (by kernel_rfl)
theorem G23 : Ret tab 144 [v0,v1] h R = (Gat h.length [v0,v1] = true∧Ok tab Qda [.code B144] #[v0,v1,u,u,u,u,u,u,u,u] (frz h) fun v _=>below h.length v = true∧R v h) :=
  Gdk rfl rfl (by kernel_rfl)
theorem G27 : Ret tab 145 [v0,v1,v2] h R = (Gat h.length [v0,v1,v2] = true∧Ok tab Qeb [.code B145] #[v0,v1,v2,u,u,u,u,u,u,u,u,u,u,u,u,u,u,u,u,u] (frz h) fun v _=>below h.length v = true∧R v h) :=
  Gdk rfl rfl (by kernel_rfl)
theorem Guz : Ret tab 146 [v0,v1,v2] h R = Ok tab Qek [.code Qe4] #[v0,v1,v2,u,u,u,u,u,u,u,u,u,u,u,u,u,u,u,u,u,u,u,u,u,u,u,u,u,u,u,u,u,u,u,u,u,u,u,u,u,u,u,u,u,u] h R :=
  Gax rfl rfl (by kernel_rfl)
theorem G2s : Ret tab 147 [v0,v1,v2] h R = Ok tab Qc6 [.code B147] #[v0,v1,v2,u,u,u,u,u,u,u,u,u,u,u,u,u,u,u,u] h R :=
  Gax rfl rfl (by kernel_rfl)
theorem G4v : Ret tab 148 [v0,v1,v2] h R = (Gat h.length [v0,v1,v2] = true∧Ok tab G97 [.code B148] #[v0,v1,v2,u,u,u,u,u,u,u,u,u,u,u,u,u,u,u,u,u,u,u,u,u,u,u,u,u,u,u,u,u,u,u,u,u,u,u,u,u,u,u,u,u] (frz h) fun v _=>below h.length v = true∧R v h) :=
  Gdk rfl rfl (by kernel_rfl)
theorem G3m : Ret tab 149 [v0,v1,v2] h R = Ok tab Qdc [.code B149] #[v0,v1,v2,u,u,u,u,u,u,u,u,u,u,u,u,u,u,u,u,u,u,u,u,u,u,u,u,u,u,u,u,u,u,u,u,u,u,u,u,u,u,u,u,u,u,u,u,u,u,u,u,u,u,u,u,u,u,u,u,u,u,u] h R :=
  Gax rfl rfl (by kernel_rfl)
theorem G49 : Ret tab 162 [v0,v1,v2] h R = (Gat h.length [v0,v1,v2] = true∧Ok tab Qcl [.code B162] #[v0,v1,v2,u,u,u,u,u,u,u,u,u,u,u,u,u,u,u,u,u,u,u,u,u,u,u,u,u,u,u,u] (frz h) fun v _=>below h.length v = true∧R v h) :=
  Gdk rfl rfl (by kernel_rfl)
theorem Gun : Ret tab 163 [v0,v1,v2] h R = Ok tab Qd1 [.code Qfa] #[v0,v1,v2,u,u,u,u,u,u,u,u,u,u,u,u,u,u,u,u,u,u,u,u,u,u,u,u,u,u,u,u,u,u,u,u,u,u,u,u,u,u,u,u,u,u,u,u,u,u] h R :=
  Gax rfl rfl (by kernel_rfl)
theorem G4z : Ret tab 164 [v0,v1,v2] h R = (Gat h.length [v0,v1,v2] = true∧Ok tab Qed [.code B164] #[v0,v1,v2,u,u,u,u,u,u,u,u,u,u,u,u,u,u,u,u,u,u,u,u] (frz h) fun v _=>below h.length v = true∧R v h) :=
  Gdk rfl rfl (by kernel_rfl)
theorem G32 : Ret tab 165 [v0,v1,v2] h R = (Gat h.length [v0,v1,v2] = true∧Ok tab Qa0 [.code B165] #[v0,v1,v2,u,u,u,u,u,u,u,u,u,u,u,u,u,u,u,u,u,u,u,u,u,u,u,u,u,u,u,u,u,u,u,u,u,u,u,u,u,u,u,u,u] (frz h) fun v _=>below h.length v = true∧R v h) :=
  Gdk rfl rfl (by kernel_rfl)
theorem G5f : Ret tab 166 [v0,v1,v2] h R = Ok tab Qbw [.code B166] #[v0,v1,v2,u,u,u,u,u,u,u,u,u,u,u,u,u,u,u,u,u,u,u,u,u,u,u,u,u,u,u,u,u,u,u,u,u,u,u,u,u,u,u,u,u,u,u,u,u,u,u,u,u,u,u,u] h R :=
  Gax rfl rfl (by kernel_rfl)
theorem G6k : Ret tab 174 [v0,v1] h R = Ok tab Qdu [.code B174] #[v0,v1,u,u,u,u,u,u,u,u,u,u,u,u] h R :=
  Gax rfl rfl (by kernel_rfl)
theorem G3b : Ret tab 175 [v0,v1] h R = Ok tab Qdo [.code B175] #[v0,v1,u,u,u,u,u,u,u,u,u,u,u,u,u,u,u] h R :=
  Gax rfl rfl (by kernel_rfl)
theorem G2w : Ret tab 177 [v0,v1,v2,v3] h R = (Gat h.length [v0,v1,v2,v3] = true∧Ok tab Qco [.code B177] #[v0,v1,v2,v3,u,u,u,u,u,u,u,u,u,u,u,u,u,u,u,u,u,u,u,u,u,u,u,u,u,u,u,u,u,u,u,u,u,u,u,u,u,u,u,u,u,u,u,u,u,u,u,u,u,u,u,u,u,u,u,u,u,u,u,u,u,u,u,u,u,u,u,u,u,u,u,u,u] (frz h) fun v _=>below h.length v = true∧R v h) :=
  Gdk rfl rfl (by kernel_rfl)
theorem G30 : Ret tab 178 [v0,v1,v2,v3] h R = (Gat h.length [v0,v1,v2,v3] = true∧Ok tab Qce [.code B178] #[v0,v1,v2,v3,u,u,u,u,u,u,u,u,u,u,u,u,u,u,u,u,u,u,u,u,u,u,u,u,u,u,u,u,u,u,u,u] (frz h) fun v _=>below h.length v = true∧R v h) :=
  Gdk rfl rfl (by kernel_rfl)
theorem G2m : Ret tab 179 [v0,v1] h R = (Gat h.length [v0,v1] = true∧Ok tab Qd8 [.code B179] #[v0,v1,u,u,u,u,u,u,u,u,u,u,u,u,u,u,u,u,u,u,u,u,u,u,u,u,u,u,u,u,u,u,u,u,u,u,u] (frz h) fun v _=>below h.length v = true∧R v h) :=
  Gdk rfl rfl (by kernel_rfl)
theorem G3j : Ret tab 180 [v0,v1,v2,v3] h R = (Gat h.length [v0,v1,v2,v3] = true∧Ok tab Qb9 [.code B180] #[v0,v1,v2,v3,u,u,u,u,u,u,u,u,u,u,u,u,u,u,u,u,u,u,u,u,u,u,u,u,u,u,u,u,u,u,u,u,u,u,u,u,u,u,u,u,u,u] (frz h) fun v _=>below h.length v = true∧R v h) :=
  Gdk rfl rfl (by kernel_rfl)
theorem G4y : Ret tab 181 [v0,v1,v2] h R = Ok tab Qeg [.code B181] #[v0,v1,v2,u,u,u,u,u,u,u,u,u,u,u,u,u,u,u,u] h R :=
  Gax rfl rfl (by kernel_rfl)
theorem G2r : Ret tab 186 [v0,v1,v2] h R = Ok tab Qdf [.code B186] #[v0,v1,v2,u,u,u,u,u,u,u,u,u,u,u,u,u,u,u,u,u,u,u,u,u,u,u,u,u,u,u,u,u,u,u,u,u,u,u,u,u,u,u,u,u,u,u,u,u,u,u,u,u,u,u] h R :=
  Gax rfl rfl (by kernel_rfl)
theorem G4r : Ret tab 191 [v0,v1,v2] h R = (Gat h.length [v0,v1,v2] = true∧Ok tab Qcj [.code B191] #[v0,v1,v2,u,u,u,u,u,u,u,u] (frz h) fun v _=>below h.length v = true∧R v h) :=
  Gdk rfl rfl (by kernel_rfl)
theorem G3k : Ret tab 192 [v0,v1,v2] h R = (Gat h.length [v0,v1,v2] = true∧Ok tab Qd5 [.code B192] #[v0,v1,v2,u,u,u,u,u,u,u,u,u] (frz h) fun v _=>below h.length v = true∧R v h) :=
  Gdk rfl rfl (by kernel_rfl)
theorem G5c : Ret tab 193 [v0,v1] h R = (Gat h.length [v0,v1] = true∧Ok tab Qej [.code B193] #[v0,v1,u,u,u,u,u,u,u,u,u,u,u,u,u,u,u,u] (frz h) fun v _=>below h.length v = true∧R v h) :=
  Gdk rfl rfl (by kernel_rfl)
theorem G26 : Ret tab 194 [v0,v1,v2] h R = (Gat h.length [v0,v1,v2] = true∧Ok tab Qef [.code B194] #[v0,v1,v2,u,u,u,u,u,u,u,u,u,u,u,u,u,u,u,u,u,u,u,u,u,u,u,u,u,u,u] (frz h) fun v _=>below h.length v = true∧R v h) :=
  Gdk rfl rfl (by kernel_rfl)
theorem G4h : Ret tab 195 [v0,v1,v2] h R = (Gat h.length [v0,v1,v2] = true∧Ok tab Qcr [.code B195] #[v0,v1,v2,u,u,u,u,u,u,u,u,u,u,u,u,u,u,u,u,u,u,u,u,u,u,u] (frz h) fun v _=>below h.length v = true∧R v h) :=
  Gdk rfl rfl (by kernel_rfl)
theorem G5o : Ret tab 196 [v0,v1] h R = (Gat h.length [v0,v1] = true∧Ok tab Qci [.code B196] #[v0,v1,u,u,u,u,u,u,u,u] (frz h) fun v _=>below h.length v = true∧R v h) :=
  Gdk rfl rfl (by kernel_rfl)
theorem G5r : Ret tab 226 [v0] h R = Ok tab Qdy [.code B226] #[v0,u,u,u,u,u] h R :=
  Gax rfl rfl (by kernel_rfl)
theorem G4e : Ret tab 227 [v0] h R = Ok tab Qdx [.code B227] #[v0,u,u,u,u,u] h R :=
  Gax rfl rfl (by kernel_rfl)
theorem G5y : Ret tab 228 [v0,v1] h R = Ok tab Qdp [.code B228] #[v0,v1,u,u,u,u,u,u,u,u,u] h R :=
  Gax rfl rfl (by kernel_rfl)
theorem G3s : Ret tab 229 [v0] h R = Ok tab G7g [.code Gqe] #[v0,u,u,u,u,u,u,u,u,u,u,u,u,u,u,u,u,u,u,u,u,u,u,u,u,u,u,u,u,u,u,u,u,u,u,u,u,u,u,u,u,u,u,u,u,u,u,u,u,u,u,u,u,u,u,u,u,u,u,u,u,u,u,u,u,u,u,u,u,u,u,u,u] h R :=
  Gax rfl rfl (by kernel_rfl)
theorem G6m : Ret tab 230 [v0] h R = Ok tab Qc2 [.code B230] #[v0,u,u,u,u,u,u,u,u,u,u,u,u,u,u,u,u,u,u] h R :=
  Gax rfl rfl (by kernel_rfl)
theorem G2x : Ret tab 231 [v0,v1,v2] h R = Ok tab G2i [.code Gpt] #[v0,v1,v2,u,u,u,u,u,u,u,u,u,u,u,u,u,u,u,u,u,u,u,u,u,u,u,u,u,u,u,u,u,u,u,u,u,u,u,u,u,u,u,u,u,u,u,u,u,u,u,u,u,u,u,u,u,u,u,u,u,u,u,u,u,u,u,u,u,u,u,u,u,u,u,u,u,u,u,u,u,u,u,u,u,u,u,u,u,u,u,u,u,u,u,u,u,u,u,u,u,u,u,u,u,u,u,u,u,u,u,u,u,u,u,u,u,u,u] h R :=
  Gax rfl rfl (by kernel_rfl)
theorem G3p : Ret tab 232 [v0,v1] h R = Ok tab Qen [.code B232] #[v0,v1,u,u,u,u,u,u,u,u,u,u,u,u,u,u,u,u,u,u,u,u,u,u,u,u,u,u,u,u,u,u,u,u] h R :=
  Gax rfl rfl (by kernel_rfl)
theorem Gt3 : Ret tab 233 [v0] h R = Ok tab Qbe [.code Qe9] #[v0,u,u,u,u,u,u,u,u,u,u,u,u,u,u,u,u,u,u,u,u] h R :=
  Gax rfl rfl (by kernel_rfl)
theorem Gur : Ret tab 234 [v0,v1] h R = Ok tab Qcu [.code Qe8] #[v0,v1,u,u,u,u,u,u,u,u,u,u,u,u,u,u] h R :=
  Gax rfl rfl (by kernel_rfl)
theorem G4n : Ret tab 235 [v0,v1,v2] h R = Ok tab Qec [.code B235] #[v0,v1,v2,u,u,u,u,u,u,u,u,u,u,u,u,u,u] h R :=
  Gax rfl rfl (by kernel_rfl)
theorem G37 : Ret tab 236 [v0,v1,v2] h R = Ok tab Qes [.code B236] #[v0,v1,v2,u,u,u,u,u,u,u,u,u,u,u,u,u,u,u,u,u,u] h R :=
  Gax rfl rfl (by kernel_rfl)
theorem G4g : Ret tab 237 [v0,v1] h R = Ok tab Qcb [.code B237] #[v0,v1,u,u,u,u,u,u,u,u,u,u,u,u,u,u,u,u,u,u,u,u,u,u,u] h R :=
  Gax rfl rfl (by kernel_rfl)
theorem G3q : Ret tab 238 [v0] h R = Ok tab Qc4 [.code B238] #[v0,u,u,u,u,u,u,u,u,u,u,u,u,u,u,u,u,u,u] h R :=
  Gax rfl rfl (by kernel_rfl)
theorem G5d : Ret tab 239 [v0] h R = Ok tab Qeo [.code B239] #[v0,u,u,u,u,u] h R :=
  Gax rfl rfl (by kernel_rfl)
theorem G3f : Ret tab 240 [v0] h R = Ok tab Qct [.code B240] #[v0,u,u,u,u,u] h R :=
  Gax rfl rfl (by kernel_rfl)
theorem G3t : Ret tab 241 [v0,v1] h R = Ok tab Qcm [.code B241] #[v0,v1,u,u,u,u,u,u,u] h R :=
  Gax rfl rfl (by kernel_rfl)
theorem Gwc : Ret tab 242 [v0] h R = Ok tab Qbv [.code Qe0] #[v0,u,u,u,u,u,u,u,u,u,u,u,u,u,u,u,u,u,u,u,u,u,u,u,u,u,u,u,u,u,u,u,u,u,u,u,u,u,u,u,u,u,u,u,u] h R :=
  Gax rfl rfl (by kernel_rfl)
theorem G4a : Ret tab 243 [v0,v1] h R = Ok tab Qel [.code B243] #[v0,v1,u,u,u,u,u,u,u,u,u,u,u,u,u,u,u,u,u,u,u,u,u,u,u,u] h R :=
  Gax rfl rfl (by kernel_rfl)
theorem Gvv : Ret tab 244 [v0,v1] h R = Ok tab Qb4 [.code Gty] #[v0,v1,u,u,u,u,u,u,u,u,u,u,u,u,u,u,u,u,u,u,u,u,u,u,u,u,u,u,u,u,u,u,u,u,u,u,u,u,u,u,u,u,u,u,u,u,u,u,u] h R :=
  Gax rfl rfl (by kernel_rfl)
theorem Gu2 : Ret tab 245 [v0,v1] h R = Ok tab Qdi [.code Qey] #[v0,v1,u,u,u,u,u,u,u,u,u,u,u,u,u] h R :=
  Gax rfl rfl (by kernel_rfl)
theorem Gvc : Ret tab 246 [v0,v1] h R = Ok tab G7q [.code Gs6] #[v0,v1,u,u,u,u,u,u,u,u,u,u,u,u,u,u,u,u,u,u,u,u,u,u,u,u,u,u,u,u,u,u,u,u,u,u,u,u,u,u,u,u,u,u,u,u,u,u,u,u,u,u,u,u,u,u,u,u,u,u,u,u,u,u,u,u,u,u,u,u,u,u,u,u,u,u,u,u,u,u,u,u,u,u,u,u,u,u,u] h R :=
  Gax rfl rfl (by kernel_rfl)
theorem G3w : Ret tab 248 [v0,v1] h R = Ok tab Qde [.code B248] #[v0,v1,u,u,u,u,u,u] h R :=
  Gax rfl rfl (by kernel_rfl)
theorem G4t : Ret tab 249 [v0] h R = Ok tab Qep [.code B249] #[v0,u,u,u,u,u,u,u,u,u,u,u,u,u,u,u,u] h R :=
  Gax rfl rfl (by kernel_rfl)
theorem G2u : Ret tab 250 [v0] h R = Ok tab Qcv [.code B250] #[v0,u,u,u,u,u,u,u,u,u,u,u,u,u,u,u,u,u,u,u,u,u,u,u,u,u,u,u,u,u,u,u,u,u,u,u,u,u] h R :=
  Gax rfl rfl (by kernel_rfl)
end Go.Proofs.YtjpjohchdfoeaaaGreat
