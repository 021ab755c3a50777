/-
  The table of the functions, resolved: it is the program's. Laid by program (gentab.py).
-/
import Derived.Test.YtlflfkdnpalhlaaTabA
import Derived.Test.YtlflfkdnpalhlaaTabB
namespace Go.Proofs.Ytlflfkdnpalhlaa
open Go Go.Sim
def tab : Tab := fun g => match g with
  | 7 => some R7
  | 8 => some R8
  | 9 => some R9
  | 10 => some R10
  | 11 => some R11
  | 12 => some R12
  | 13 => some R13
  | 32 => some R32
  | 33 => some R33
  | 34 => some R34
  | 35 => some R35
  | 36 => some R36
  | 37 => some R37
  | 38 => some R38
  | 39 => some R39
  | 40 => some R40
  | 41 => some R41
  | 42 => some R42
  | 43 => some R43
  | 44 => some R44
  | 45 => some R45
  | 46 => some R46
  | 47 => some R47
  | 50 => some R50
  | 51 => some R51
  | 52 => some R52
  | 53 => some R53
  | 54 => some R54
  | 55 => some R55
  | 56 => some R56
  | 57 => some R57
  | 58 => some R58
  | 59 => some R59
  | 60 => some R60
  | 61 => some R61
  | 62 => some R62
  | 63 => some R63
  | 64 => some R64
  | 65 => some R65
  | 66 => some R66
  | 67 => some R67
  | 68 => some R68
  | 69 => some R69
  | 70 => some R70
  | 71 => some R71
  | 72 => some R72
  | 73 => some R73
  | 74 => some R74
  | 75 => some R75
  | 76 => some R76
  | 77 => some R77
  | 78 => some R78
  | 79 => some R79
  | 80 => some R80
  | 81 => some R81
  | 82 => some R82
  | 83 => some R83
  | 84 => some R84
  | 85 => some R85
  | 86 => some R86
  | 87 => some R87
  | 88 => some R88
  | 89 => some R89
  | 90 => some R90
  | 91 => some R91
  | 92 => some R92
  | 93 => some R93
  | 94 => some R94
  | 95 => some R95
  | 96 => some R96
  | 97 => some R97
  | 98 => some R98
  | 99 => some R99
  | 100 => some R100
  | 101 => some R101
  | 102 => some R102
  | 103 => some R103
  | 104 => some R104
  | 105 => some R105
  | 106 => some R106
  | 107 => some R107
  | 108 => some R108
  | 109 => some R109
  | 110 => some R110
  | 111 => some R111
  | 112 => some R112
  | 113 => some R113
  | 114 => some R114
  | 115 => some R115
  | 116 => some R116
  | 117 => some R117
  | 118 => some R118
  | 119 => some R119
  | 120 => some R120
  | 121 => some R121
  | 122 => some R122
  | 123 => some R123
  | 124 => some R124
  | 125 => some R125
  | 126 => some R126
  | 127 => some R127
  | _ => none
theorem tabOk : TabOk Try.prog tab := by
  intro g G h
  unfold tab at h
  split at h <;> try (cases h; done)
  · exact Eq.subst (motive := fun X => compileF Try.prog 7 X.iso = some X) (Option.some.inj h) c7
  · exact Eq.subst (motive := fun X => compileF Try.prog 8 X.iso = some X) (Option.some.inj h) c8
  · exact Eq.subst (motive := fun X => compileF Try.prog 9 X.iso = some X) (Option.some.inj h) c9
  · exact Eq.subst (motive := fun X => compileF Try.prog 10 X.iso = some X) (Option.some.inj h) c10
  · exact Eq.subst (motive := fun X => compileF Try.prog 11 X.iso = some X) (Option.some.inj h) c11
  · exact Eq.subst (motive := fun X => compileF Try.prog 12 X.iso = some X) (Option.some.inj h) c12
  · exact Eq.subst (motive := fun X => compileF Try.prog 13 X.iso = some X) (Option.some.inj h) c13
  · exact Eq.subst (motive := fun X => compileF Try.prog 32 X.iso = some X) (Option.some.inj h) c32
  · exact Eq.subst (motive := fun X => compileF Try.prog 33 X.iso = some X) (Option.some.inj h) c33
  · exact Eq.subst (motive := fun X => compileF Try.prog 34 X.iso = some X) (Option.some.inj h) c34
  · exact Eq.subst (motive := fun X => compileF Try.prog 35 X.iso = some X) (Option.some.inj h) c35
  · exact Eq.subst (motive := fun X => compileF Try.prog 36 X.iso = some X) (Option.some.inj h) c36
  · exact Eq.subst (motive := fun X => compileF Try.prog 37 X.iso = some X) (Option.some.inj h) c37
  · exact Eq.subst (motive := fun X => compileF Try.prog 38 X.iso = some X) (Option.some.inj h) c38
  · exact Eq.subst (motive := fun X => compileF Try.prog 39 X.iso = some X) (Option.some.inj h) c39
  · exact Eq.subst (motive := fun X => compileF Try.prog 40 X.iso = some X) (Option.some.inj h) c40
  · exact Eq.subst (motive := fun X => compileF Try.prog 41 X.iso = some X) (Option.some.inj h) c41
  · exact Eq.subst (motive := fun X => compileF Try.prog 42 X.iso = some X) (Option.some.inj h) c42
  · exact Eq.subst (motive := fun X => compileF Try.prog 43 X.iso = some X) (Option.some.inj h) c43
  · exact Eq.subst (motive := fun X => compileF Try.prog 44 X.iso = some X) (Option.some.inj h) c44
  · exact Eq.subst (motive := fun X => compileF Try.prog 45 X.iso = some X) (Option.some.inj h) c45
  · exact Eq.subst (motive := fun X => compileF Try.prog 46 X.iso = some X) (Option.some.inj h) c46
  · exact Eq.subst (motive := fun X => compileF Try.prog 47 X.iso = some X) (Option.some.inj h) c47
  · exact Eq.subst (motive := fun X => compileF Try.prog 50 X.iso = some X) (Option.some.inj h) c50
  · exact Eq.subst (motive := fun X => compileF Try.prog 51 X.iso = some X) (Option.some.inj h) c51
  · exact Eq.subst (motive := fun X => compileF Try.prog 52 X.iso = some X) (Option.some.inj h) c52
  · exact Eq.subst (motive := fun X => compileF Try.prog 53 X.iso = some X) (Option.some.inj h) c53
  · exact Eq.subst (motive := fun X => compileF Try.prog 54 X.iso = some X) (Option.some.inj h) c54
  · exact Eq.subst (motive := fun X => compileF Try.prog 55 X.iso = some X) (Option.some.inj h) c55
  · exact Eq.subst (motive := fun X => compileF Try.prog 56 X.iso = some X) (Option.some.inj h) c56
  · exact Eq.subst (motive := fun X => compileF Try.prog 57 X.iso = some X) (Option.some.inj h) c57
  · exact Eq.subst (motive := fun X => compileF Try.prog 58 X.iso = some X) (Option.some.inj h) c58
  · exact Eq.subst (motive := fun X => compileF Try.prog 59 X.iso = some X) (Option.some.inj h) c59
  · exact Eq.subst (motive := fun X => compileF Try.prog 60 X.iso = some X) (Option.some.inj h) c60
  · exact Eq.subst (motive := fun X => compileF Try.prog 61 X.iso = some X) (Option.some.inj h) c61
  · exact Eq.subst (motive := fun X => compileF Try.prog 62 X.iso = some X) (Option.some.inj h) c62
  · exact Eq.subst (motive := fun X => compileF Try.prog 63 X.iso = some X) (Option.some.inj h) c63
  · exact Eq.subst (motive := fun X => compileF Try.prog 64 X.iso = some X) (Option.some.inj h) c64
  · exact Eq.subst (motive := fun X => compileF Try.prog 65 X.iso = some X) (Option.some.inj h) c65
  · exact Eq.subst (motive := fun X => compileF Try.prog 66 X.iso = some X) (Option.some.inj h) c66
  · exact Eq.subst (motive := fun X => compileF Try.prog 67 X.iso = some X) (Option.some.inj h) c67
  · exact Eq.subst (motive := fun X => compileF Try.prog 68 X.iso = some X) (Option.some.inj h) c68
  · exact Eq.subst (motive := fun X => compileF Try.prog 69 X.iso = some X) (Option.some.inj h) c69
  · exact Eq.subst (motive := fun X => compileF Try.prog 70 X.iso = some X) (Option.some.inj h) c70
  · exact Eq.subst (motive := fun X => compileF Try.prog 71 X.iso = some X) (Option.some.inj h) c71
  · exact Eq.subst (motive := fun X => compileF Try.prog 72 X.iso = some X) (Option.some.inj h) c72
  · exact Eq.subst (motive := fun X => compileF Try.prog 73 X.iso = some X) (Option.some.inj h) c73
  · exact Eq.subst (motive := fun X => compileF Try.prog 74 X.iso = some X) (Option.some.inj h) c74
  · exact Eq.subst (motive := fun X => compileF Try.prog 75 X.iso = some X) (Option.some.inj h) c75
  · exact Eq.subst (motive := fun X => compileF Try.prog 76 X.iso = some X) (Option.some.inj h) c76
  · exact Eq.subst (motive := fun X => compileF Try.prog 77 X.iso = some X) (Option.some.inj h) c77
  · exact Eq.subst (motive := fun X => compileF Try.prog 78 X.iso = some X) (Option.some.inj h) c78
  · exact Eq.subst (motive := fun X => compileF Try.prog 79 X.iso = some X) (Option.some.inj h) c79
  · exact Eq.subst (motive := fun X => compileF Try.prog 80 X.iso = some X) (Option.some.inj h) c80
  · exact Eq.subst (motive := fun X => compileF Try.prog 81 X.iso = some X) (Option.some.inj h) c81
  · exact Eq.subst (motive := fun X => compileF Try.prog 82 X.iso = some X) (Option.some.inj h) c82
  · exact Eq.subst (motive := fun X => compileF Try.prog 83 X.iso = some X) (Option.some.inj h) c83
  · exact Eq.subst (motive := fun X => compileF Try.prog 84 X.iso = some X) (Option.some.inj h) c84
  · exact Eq.subst (motive := fun X => compileF Try.prog 85 X.iso = some X) (Option.some.inj h) c85
  · exact Eq.subst (motive := fun X => compileF Try.prog 86 X.iso = some X) (Option.some.inj h) c86
  · exact Eq.subst (motive := fun X => compileF Try.prog 87 X.iso = some X) (Option.some.inj h) c87
  · exact Eq.subst (motive := fun X => compileF Try.prog 88 X.iso = some X) (Option.some.inj h) c88
  · exact Eq.subst (motive := fun X => compileF Try.prog 89 X.iso = some X) (Option.some.inj h) c89
  · exact Eq.subst (motive := fun X => compileF Try.prog 90 X.iso = some X) (Option.some.inj h) c90
  · exact Eq.subst (motive := fun X => compileF Try.prog 91 X.iso = some X) (Option.some.inj h) c91
  · exact Eq.subst (motive := fun X => compileF Try.prog 92 X.iso = some X) (Option.some.inj h) c92
  · exact Eq.subst (motive := fun X => compileF Try.prog 93 X.iso = some X) (Option.some.inj h) c93
  · exact Eq.subst (motive := fun X => compileF Try.prog 94 X.iso = some X) (Option.some.inj h) c94
  · exact Eq.subst (motive := fun X => compileF Try.prog 95 X.iso = some X) (Option.some.inj h) c95
  · exact Eq.subst (motive := fun X => compileF Try.prog 96 X.iso = some X) (Option.some.inj h) c96
  · exact Eq.subst (motive := fun X => compileF Try.prog 97 X.iso = some X) (Option.some.inj h) c97
  · exact Eq.subst (motive := fun X => compileF Try.prog 98 X.iso = some X) (Option.some.inj h) c98
  · exact Eq.subst (motive := fun X => compileF Try.prog 99 X.iso = some X) (Option.some.inj h) c99
  · exact Eq.subst (motive := fun X => compileF Try.prog 100 X.iso = some X) (Option.some.inj h) c100
  · exact Eq.subst (motive := fun X => compileF Try.prog 101 X.iso = some X) (Option.some.inj h) c101
  · exact Eq.subst (motive := fun X => compileF Try.prog 102 X.iso = some X) (Option.some.inj h) c102
  · exact Eq.subst (motive := fun X => compileF Try.prog 103 X.iso = some X) (Option.some.inj h) c103
  · exact Eq.subst (motive := fun X => compileF Try.prog 104 X.iso = some X) (Option.some.inj h) c104
  · exact Eq.subst (motive := fun X => compileF Try.prog 105 X.iso = some X) (Option.some.inj h) c105
  · exact Eq.subst (motive := fun X => compileF Try.prog 106 X.iso = some X) (Option.some.inj h) c106
  · exact Eq.subst (motive := fun X => compileF Try.prog 107 X.iso = some X) (Option.some.inj h) c107
  · exact Eq.subst (motive := fun X => compileF Try.prog 108 X.iso = some X) (Option.some.inj h) c108
  · exact Eq.subst (motive := fun X => compileF Try.prog 109 X.iso = some X) (Option.some.inj h) c109
  · exact Eq.subst (motive := fun X => compileF Try.prog 110 X.iso = some X) (Option.some.inj h) c110
  · exact Eq.subst (motive := fun X => compileF Try.prog 111 X.iso = some X) (Option.some.inj h) c111
  · exact Eq.subst (motive := fun X => compileF Try.prog 112 X.iso = some X) (Option.some.inj h) c112
  · exact Eq.subst (motive := fun X => compileF Try.prog 113 X.iso = some X) (Option.some.inj h) c113
  · exact Eq.subst (motive := fun X => compileF Try.prog 114 X.iso = some X) (Option.some.inj h) c114
  · exact Eq.subst (motive := fun X => compileF Try.prog 115 X.iso = some X) (Option.some.inj h) c115
  · exact Eq.subst (motive := fun X => compileF Try.prog 116 X.iso = some X) (Option.some.inj h) c116
  · exact Eq.subst (motive := fun X => compileF Try.prog 117 X.iso = some X) (Option.some.inj h) c117
  · exact Eq.subst (motive := fun X => compileF Try.prog 118 X.iso = some X) (Option.some.inj h) c118
  · exact Eq.subst (motive := fun X => compileF Try.prog 119 X.iso = some X) (Option.some.inj h) c119
  · exact Eq.subst (motive := fun X => compileF Try.prog 120 X.iso = some X) (Option.some.inj h) c120
  · exact Eq.subst (motive := fun X => compileF Try.prog 121 X.iso = some X) (Option.some.inj h) c121
  · exact Eq.subst (motive := fun X => compileF Try.prog 122 X.iso = some X) (Option.some.inj h) c122
  · exact Eq.subst (motive := fun X => compileF Try.prog 123 X.iso = some X) (Option.some.inj h) c123
  · exact Eq.subst (motive := fun X => compileF Try.prog 124 X.iso = some X) (Option.some.inj h) c124
  · exact Eq.subst (motive := fun X => compileF Try.prog 125 X.iso = some X) (Option.some.inj h) c125
  · exact Eq.subst (motive := fun X => compileF Try.prog 126 X.iso = some X) (Option.some.inj h) c126
  · exact Eq.subst (motive := fun X => compileF Try.prog 127 X.iso = some X) (Option.some.inj h) c127
theorem enter7 (h : Heap) (R : Value → Heap → Prop) (v0 v1 v2 : Value) : Ret tab 7 [v0, v1, v2] h R = Ok tab R7 [.code B7] #[v0, v1, v2, undef, undef, undef, undef, undef, undef, undef, undef, undef, undef, undef, undef, undef, undef, undef, undef, undef, undef, undef, undef, undef, undef, undef, undef, undef, undef, undef, undef, undef, undef, undef, undef, undef, undef, undef, undef, undef, undef, undef, undef, undef, undef, undef, undef, undef, undef, undef, undef, undef, undef, undef, undef, undef, undef, undef, undef, undef, undef, undef, undef, undef, undef, undef, undef, undef, undef, undef, undef, undef, undef, undef, undef, undef, undef, undef, undef, undef, undef, undef, undef, undef, undef, undef, undef, undef, undef, undef, undef, undef, undef, undef, undef] h R :=
  (ret_eq rfl rfl).trans (by rw [env7]; rfl)
theorem enter8 (h : Heap) (R : Value → Heap → Prop) (v0 : Value) : Ret tab 8 [v0] h R = Ok tab R8 [.code B8] #[v0, undef, undef, undef, undef, undef, undef, undef, undef, undef, undef, undef, undef, undef, undef, undef, undef, undef, undef, undef, undef, undef, undef, undef, undef, undef, undef, undef, undef, undef, undef, undef, undef, undef, undef, undef, undef, undef, undef, undef, undef, undef, undef, undef, undef, undef, undef, undef, undef, undef, undef] h R :=
  (ret_eq rfl rfl).trans (by rw [env8]; rfl)
theorem enter9 (h : Heap) (R : Value → Heap → Prop) (v0 : Value) : Ret tab 9 [v0] h R = Ok tab R9 [.code B9] #[v0, undef, undef, undef, undef, undef, undef, undef, undef, undef, undef, undef, undef, undef, undef] h R :=
  (ret_eq rfl rfl).trans (by rw [env9]; rfl)
theorem enter10 (h : Heap) (R : Value → Heap → Prop) (v0 : Value) : Ret tab 10 [v0] h R = Ok tab R10 [.code B10] #[v0, undef, undef, undef, undef, undef, undef, undef, undef, undef, undef, undef, undef, undef, undef, undef, undef, undef, undef, undef, undef, undef, undef, undef, undef, undef, undef, undef, undef, undef, undef, undef, undef, undef, undef, undef, undef, undef, undef, undef, undef, undef, undef, undef, undef, undef, undef, undef, undef, undef, undef, undef, undef, undef, undef, undef, undef, undef, undef, undef, undef, undef, undef, undef, undef, undef, undef, undef, undef, undef, undef, undef, undef, undef, undef, undef, undef, undef, undef, undef, undef, undef, undef, undef, undef, undef, undef, undef, undef, undef, undef, undef, undef, undef, undef, undef, undef, undef, undef, undef, undef, undef, undef, undef, undef, undef, undef, undef, undef, undef, undef, undef, undef, undef, undef, undef, undef, undef, undef, undef, undef, undef, undef, undef, undef, undef, undef, undef] h R :=
  (ret_eq rfl rfl).trans (by rw [env10]; rfl)
theorem enter11 (h : Heap) (R : Value → Heap → Prop) (v0 v1 : Value) : Ret tab 11 [v0, v1] h R = Ok tab R11 [.code B11] #[v0, v1, undef, undef, undef, undef, undef, undef, undef, undef, undef, undef, undef, undef, undef, undef, undef, undef, undef, undef, undef, undef, undef, undef, undef, undef, undef, undef, undef, undef, undef, undef, undef, undef, undef, undef, undef, undef, undef, undef, undef, undef, undef, undef, undef, undef, undef, undef, undef, undef, undef, undef, undef, undef, undef, undef, undef, undef, undef, undef, undef, undef, undef, undef, undef, undef, undef, undef, undef, undef, undef, undef, undef, undef, undef, undef, undef, undef, undef, undef, undef, undef, undef, undef, undef, undef, undef, undef, undef, undef, undef, undef, undef, undef, undef, undef, undef, undef, undef, undef, undef, undef, undef, undef, undef, undef, undef, undef, undef, undef, undef, undef, undef, undef, undef, undef, undef, undef, undef, undef, undef, undef, undef, undef, undef, undef, undef, undef, undef, undef, undef, undef, undef] h R :=
  (ret_eq rfl rfl).trans (by rw [env11]; rfl)
theorem enter12 (h : Heap) (R : Value → Heap → Prop) (v0 : Value) : Ret tab 12 [v0] h R = Ok tab R12 [.code B12] #[v0, undef, undef, undef, undef, undef, undef, undef, undef, undef, undef, undef, undef, undef, undef, undef, undef, undef, undef, undef, undef, undef, undef, undef, undef, undef, undef, undef, undef, undef, undef, undef, undef, undef, undef, undef, undef, undef, undef, undef, undef, undef, undef, undef, undef, undef, undef, undef, undef, undef, undef, undef, undef, undef, undef, undef, undef, undef, undef, undef, undef, undef, undef, undef, undef, undef, undef, undef, undef, undef, undef, undef, undef, undef, undef, undef, undef, undef, undef, undef, undef] h R :=
  (ret_eq rfl rfl).trans (by rw [env12]; rfl)
theorem enter13 (h : Heap) (R : Value → Heap → Prop) (v0 v1 v2 v3 : Value) : Ret tab 13 [v0, v1, v2, v3] h R = Ok tab R13 [.code B13] #[v0, v1, v2, v3, undef, undef, undef, undef, undef, undef, undef, undef, undef, undef, undef, undef, undef, undef, undef, undef, undef, undef, undef, undef, undef, undef, undef, undef, undef, undef, undef, undef, undef, undef] h R :=
  (ret_eq rfl rfl).trans (by rw [env13]; rfl)
theorem enter32 (h : Heap) (R : Value → Heap → Prop) (v0 : Value) : Ret tab 32 [v0] h R = (belowL h.length [v0] = true ∧ Ok tab R32 [.code B32] #[v0, undef, undef, undef, undef, undef, undef, undef, undef, undef, undef, undef, undef, undef, undef, undef, undef, undef, undef, undef, undef, undef, undef, undef, undef, undef, undef, undef, undef, undef, undef, undef, undef, undef, undef, undef, undef] (frz h) fun v _ => below h.length v = true ∧ R v h) :=
  (ret_rd rfl rfl).trans (by rw [env32]; rfl)
theorem enter33 (h : Heap) (R : Value → Heap → Prop) : Ret tab 33 [] h R = (belowL h.length [] = true ∧ Ok tab R33 [.code B33] #[undef, undef, undef, undef, undef, undef, undef, undef, undef, undef, undef, undef, undef, undef, undef, undef, undef, undef, undef, undef, undef, undef, undef, undef, undef, undef, undef, undef, undef, undef, undef, undef, undef, undef, undef, undef, undef, undef, undef, undef, undef, undef, undef, undef, undef, undef, undef, undef, undef, undef, undef, undef, undef, undef, undef, undef, undef, undef, undef, undef, undef, undef, undef, undef, undef, undef] (frz h) fun v _ => below h.length v = true ∧ R v h) :=
  (ret_rd rfl rfl).trans (by rw [env33]; rfl)
theorem enter34 (h : Heap) (R : Value → Heap → Prop) (v0 : Value) : Ret tab 34 [v0] h R = Ok tab R34 [.code B34] #[v0, undef, undef, undef, undef, undef, undef, undef, undef, undef, undef, undef, undef, undef, undef, undef, undef, undef, undef, undef, undef, undef, undef, undef, undef, undef, undef, undef, undef, undef, undef, undef, undef, undef, undef, undef, undef, undef, undef, undef, undef, undef, undef, undef, undef, undef, undef, undef, undef, undef, undef, undef, undef, undef, undef, undef, undef, undef, undef, undef, undef, undef, undef, undef, undef, undef, undef, undef, undef, undef, undef, undef, undef, undef, undef, undef, undef, undef, undef, undef, undef, undef, undef, undef, undef, undef, undef, undef, undef, undef, undef, undef, undef, undef, undef, undef, undef, undef, undef, undef, undef, undef, undef, undef, undef, undef, undef, undef, undef] h R :=
  (ret_eq rfl rfl).trans (by rw [env34]; rfl)
theorem enter35 (h : Heap) (R : Value → Heap → Prop) (v0 v1 v2 v3 v4 : Value) : Ret tab 35 [v0, v1, v2, v3, v4] h R = Ok tab R35 [.code B35] #[v0, v1, v2, v3, v4, undef, undef, undef, undef, undef, undef, undef, undef, undef, undef, undef, undef, undef, undef, undef, undef, undef, undef, undef, undef, undef, undef, undef, undef, undef, undef, undef, undef, undef, undef, undef, undef, undef, undef, undef, undef, undef, undef, undef, undef, undef, undef, undef, undef, undef, undef, undef, undef, undef, undef, undef, undef, undef, undef, undef, undef, undef, undef, undef, undef, undef, undef, undef, undef, undef, undef, undef, undef, undef, undef, undef, undef, undef, undef, undef, undef, undef, undef, undef, undef, undef] h R :=
  (ret_eq rfl rfl).trans (by rw [env35]; rfl)
theorem enter36 (h : Heap) (R : Value → Heap → Prop) (v0 v1 v2 v3 v4 : Value) : Ret tab 36 [v0, v1, v2, v3, v4] h R = Ok tab R36 [.code B36] #[v0, v1, v2, v3, v4, undef, undef, undef, undef, undef, undef, undef, undef, undef, undef, undef, undef, undef, undef, undef, undef, undef, undef, undef, undef, undef, undef, undef, undef, undef, undef, undef, undef, undef, undef, undef, undef, undef, undef, undef, undef, undef, undef, undef, undef, undef, undef, undef, undef, undef, undef, undef, undef, undef, undef, undef, undef, undef, undef, undef, undef, undef, undef, undef, undef, undef, undef, undef, undef, undef, undef, undef, undef, undef, undef, undef, undef, undef, undef, undef, undef, undef, undef, undef] h R :=
  (ret_eq rfl rfl).trans (by rw [env36]; rfl)
theorem enter37 (h : Heap) (R : Value → Heap → Prop) (v0 v1 : Value) : Ret tab 37 [v0, v1] h R = (belowL h.length [v0, v1] = true ∧ Ok tab R37 [.code B37] #[v0, v1, undef, undef, undef, undef, undef, undef, undef, undef, undef, undef, undef, undef, undef, undef, undef, undef, undef, undef, undef, undef, undef, undef, undef, undef] (frz h) fun v _ => below h.length v = true ∧ R v h) :=
  (ret_rd rfl rfl).trans (by rw [env37]; rfl)
theorem enter38 (h : Heap) (R : Value → Heap → Prop) (v0 v1 v2 v3 : Value) : Ret tab 38 [v0, v1, v2, v3] h R = (belowL h.length [v0, v1, v2, v3] = true ∧ Ok tab R38 [.code B38] #[v0, v1, v2, v3, undef, undef, undef, undef, undef, undef, undef, undef, undef, undef, undef, undef, undef, undef, undef, undef, undef, undef, undef, undef, undef, undef, undef, undef, undef, undef, undef, undef, undef, undef, undef, undef, undef, undef, undef, undef, undef, undef, undef, undef, undef, undef, undef, undef, undef, undef, undef, undef, undef, undef, undef, undef, undef, undef, undef, undef, undef, undef, undef] (frz h) fun v _ => below h.length v = true ∧ R v h) :=
  (ret_rd rfl rfl).trans (by rw [env38]; rfl)
theorem enter39 (h : Heap) (R : Value → Heap → Prop) (v0 v1 v2 v3 v4 : Value) : Ret tab 39 [v0, v1, v2, v3, v4] h R = Ok tab R39 [.code B39] #[v0, v1, v2, v3, v4, undef, undef, undef, undef, undef, undef, undef, undef, undef, undef, undef, undef, undef, undef, undef, undef, undef, undef, undef, undef, undef, undef, undef, undef, undef, undef, undef, undef, undef, undef, undef, undef, undef, undef, undef, undef, undef, undef, undef, undef, undef, undef, undef, undef, undef, undef, undef, undef, undef, undef, undef, undef, undef, undef, undef, undef, undef, undef, undef, undef, undef, undef, undef, undef, undef, undef, undef, undef, undef, undef, undef, undef, undef, undef, undef, undef, undef, undef, undef, undef, undef, undef, undef, undef, undef, undef] h R :=
  (ret_eq rfl rfl).trans (by rw [env39]; rfl)
theorem enter40 (h : Heap) (R : Value → Heap → Prop) (v0 v1 v2 v3 v4 : Value) : Ret tab 40 [v0, v1, v2, v3, v4] h R = Ok tab R40 [.code B40] #[v0, v1, v2, v3, v4, undef, undef, undef, undef, undef, undef, undef, undef, undef, undef, undef, undef, undef, undef, undef, undef, undef, undef, undef, undef, undef, undef, undef, undef, undef, undef, undef, undef, undef, undef, undef, undef, undef, undef, undef, undef, undef, undef, undef, undef, undef, undef, undef, undef, undef, undef, undef, undef, undef, undef, undef, undef, undef, undef, undef, undef, undef, undef, undef, undef, undef, undef, undef, undef, undef, undef, undef, undef, undef, undef, undef, undef, undef, undef, undef, undef, undef, undef, undef, undef, undef, undef, undef, undef, undef, undef, undef] h R :=
  (ret_eq rfl rfl).trans (by rw [env40]; rfl)
theorem enter41 (h : Heap) (R : Value → Heap → Prop) (v0 v1 : Value) : Ret tab 41 [v0, v1] h R = (belowL h.length [v0, v1] = true ∧ Ok tab R41 [.code B41] #[v0, v1, undef, undef, undef, undef, undef, undef, undef, undef, undef, undef, undef, undef, undef, undef, undef, undef, undef, undef, undef, undef, undef, undef, undef, undef, undef] (frz h) fun v _ => below h.length v = true ∧ R v h) :=
  (ret_rd rfl rfl).trans (by rw [env41]; rfl)
theorem enter42 (h : Heap) (R : Value → Heap → Prop) (v0 : Value) : Ret tab 42 [v0] h R = (belowL h.length [v0] = true ∧ Ok tab R42 [.code B42] #[v0, undef, undef, undef, undef, undef, undef, undef, undef, undef, undef, undef, undef, undef, undef, undef, undef, undef, undef, undef, undef, undef, undef, undef, undef] (frz h) fun v _ => below h.length v = true ∧ R v h) :=
  (ret_rd rfl rfl).trans (by rw [env42]; rfl)
theorem enter43 (h : Heap) (R : Value → Heap → Prop) (v0 : Value) : Ret tab 43 [v0] h R = (belowL h.length [v0] = true ∧ Ok tab R43 [.code B43] #[v0, undef, undef, undef, undef, undef, undef, undef, undef, undef, undef, undef, undef, undef, undef, undef, undef, undef, undef, undef, undef, undef, undef, undef, undef, undef] (frz h) fun v _ => below h.length v = true ∧ R v h) :=
  (ret_rd rfl rfl).trans (by rw [env43]; rfl)
theorem enter44 (h : Heap) (R : Value → Heap → Prop) (v0 : Value) : Ret tab 44 [v0] h R = (belowL h.length [v0] = true ∧ Ok tab R44 [.code B44] #[v0, undef, undef, undef, undef, undef, undef, undef, undef] (frz h) fun v _ => below h.length v = true ∧ R v h) :=
  (ret_rd rfl rfl).trans (by rw [env44]; rfl)
theorem enter45 (h : Heap) (R : Value → Heap → Prop) (v0 v1 : Value) : Ret tab 45 [v0, v1] h R = (belowL h.length [v0, v1] = true ∧ Ok tab R45 [.code B45] #[v0, v1, undef, undef, undef, undef, undef, undef, undef, undef, undef, undef, undef, undef, undef, undef, undef, undef, undef, undef, undef, undef] (frz h) fun v _ => below h.length v = true ∧ R v h) :=
  (ret_rd rfl rfl).trans (by rw [env45]; rfl)
theorem enter46 (h : Heap) (R : Value → Heap → Prop) (v0 : Value) : Ret tab 46 [v0] h R = (belowL h.length [v0] = true ∧ Ok tab R46 [.code B46] #[v0, undef, undef, undef, undef, undef, undef, undef, undef, undef, undef, undef, undef, undef, undef] (frz h) fun v _ => below h.length v = true ∧ R v h) :=
  (ret_rd rfl rfl).trans (by rw [env46]; rfl)
theorem enter47 (h : Heap) (R : Value → Heap → Prop) (v0 : Value) : Ret tab 47 [v0] h R = (belowL h.length [v0] = true ∧ Ok tab R47 [.code B47] #[v0, undef, undef, undef, undef, undef, undef, undef, undef, undef, undef, undef, undef, undef, undef, undef, undef, undef, undef, undef, undef, undef, undef, undef, undef, undef, undef, undef, undef, undef, undef, undef, undef, undef, undef, undef, undef, undef, undef, undef, undef, undef, undef, undef, undef, undef, undef, undef, undef, undef, undef, undef, undef, undef, undef, undef, undef, undef, undef, undef, undef, undef, undef, undef, undef, undef, undef, undef, undef, undef, undef] (frz h) fun v _ => below h.length v = true ∧ R v h) :=
  (ret_rd rfl rfl).trans (by rw [env47]; rfl)
theorem enter50 (h : Heap) (R : Value → Heap → Prop) (v0 v1 : Value) : Ret tab 50 [v0, v1] h R = (belowL h.length [v0, v1] = true ∧ Ok tab R50 [.code B50] #[v0, v1, undef, undef, undef, undef, undef, undef, undef] (frz h) fun v _ => below h.length v = true ∧ R v h) :=
  (ret_rd rfl rfl).trans (by rw [env50]; rfl)
theorem enter51 (h : Heap) (R : Value → Heap → Prop) (v0 v1 : Value) : Ret tab 51 [v0, v1] h R = Ok tab R51 [.code B51] #[v0, v1, undef, undef, undef, undef, undef, undef, undef, undef, undef, undef, undef, undef, undef, undef, undef, undef] h R :=
  (ret_eq rfl rfl).trans (by rw [env51]; rfl)
theorem enter52 (h : Heap) (R : Value → Heap → Prop) (v0 v1 : Value) : Ret tab 52 [v0, v1] h R = Ok tab R52 [.code B52] #[v0, v1, undef, undef, undef, undef, undef, undef, undef, undef, undef, undef, undef, undef, undef, undef, undef, undef] h R :=
  (ret_eq rfl rfl).trans (by rw [env52]; rfl)
theorem enter53 (h : Heap) (R : Value → Heap → Prop) (v0 v1 v2 v3 : Value) : Ret tab 53 [v0, v1, v2, v3] h R = Ok tab R53 [.code B53] #[v0, v1, v2, v3, undef, undef, undef, undef, undef, undef, undef, undef, undef, undef, undef, undef, undef, undef, undef, undef, undef, undef, undef, undef, undef, undef, undef, undef] h R :=
  (ret_eq rfl rfl).trans (by rw [env53]; rfl)
theorem enter54 (h : Heap) (R : Value → Heap → Prop) (v0 v1 v2 v3 : Value) : Ret tab 54 [v0, v1, v2, v3] h R = Ok tab R54 [.code B54] #[v0, v1, v2, v3, undef, undef, undef, undef, undef, undef, undef, undef, undef, undef, undef, undef, undef, undef, undef, undef, undef, undef, undef, undef, undef, undef, undef, undef, undef, undef, undef, undef, undef, undef, undef, undef, undef, undef] h R :=
  (ret_eq rfl rfl).trans (by rw [env54]; rfl)
theorem enter55 (h : Heap) (R : Value → Heap → Prop) (v0 v1 v2 : Value) : Ret tab 55 [v0, v1, v2] h R = Ok tab R55 [.code B55] #[v0, v1, v2, undef, undef, undef, undef, undef, undef, undef, undef, undef, undef, undef, undef, undef, undef, undef, undef] h R :=
  (ret_eq rfl rfl).trans (by rw [env55]; rfl)
theorem enter56 (h : Heap) (R : Value → Heap → Prop) (v0 v1 v2 : Value) : Ret tab 56 [v0, v1, v2] h R = Ok tab R56 [.code B56] #[v0, v1, v2, undef, undef, undef, undef, undef, undef, undef, undef, undef, undef, undef, undef, undef, undef, undef, undef, undef, undef, undef, undef, undef, undef, undef, undef, undef, undef] h R :=
  (ret_eq rfl rfl).trans (by rw [env56]; rfl)
theorem enter57 (h : Heap) (R : Value → Heap → Prop) (v0 v1 v2 v3 : Value) : Ret tab 57 [v0, v1, v2, v3] h R = Ok tab R57 [.code B57] #[v0, v1, v2, v3, undef, undef, undef, undef, undef, undef, undef, undef, undef, undef, undef, undef, undef, undef, undef, undef, undef, undef] h R :=
  (ret_eq rfl rfl).trans (by rw [env57]; rfl)
theorem enter58 (h : Heap) (R : Value → Heap → Prop) (v0 v1 v2 v3 : Value) : Ret tab 58 [v0, v1, v2, v3] h R = Ok tab R58 [.code B58] #[v0, v1, v2, v3, undef, undef, undef, undef, undef, undef, undef, undef, undef, undef, undef, undef, undef, undef, undef, undef, undef, undef, undef, undef, undef, undef, undef, undef, undef, undef, undef, undef] h R :=
  (ret_eq rfl rfl).trans (by rw [env58]; rfl)
theorem enter59 (h : Heap) (R : Value → Heap → Prop) (v0 v1 v2 : Value) : Ret tab 59 [v0, v1, v2] h R = Ok tab R59 [.code B59] #[v0, v1, v2, undef, undef, undef, undef, undef, undef, undef, undef, undef, undef, undef, undef, undef, undef, undef, undef] h R :=
  (ret_eq rfl rfl).trans (by rw [env59]; rfl)
theorem enter60 (h : Heap) (R : Value → Heap → Prop) (v0 v1 v2 : Value) : Ret tab 60 [v0, v1, v2] h R = Ok tab R60 [.code B60] #[v0, v1, v2, undef, undef, undef, undef, undef, undef, undef, undef, undef, undef, undef, undef, undef, undef, undef, undef, undef, undef, undef, undef, undef, undef, undef, undef, undef, undef] h R :=
  (ret_eq rfl rfl).trans (by rw [env60]; rfl)
theorem enter61 (h : Heap) (R : Value → Heap → Prop) (v0 : Value) : Ret tab 61 [v0] h R = (belowL h.length [v0] = true ∧ Ok tab R61 [.code B61] #[v0, undef, undef, undef, undef, undef, undef, undef, undef, undef, undef, undef, undef, undef] (frz h) fun v _ => below h.length v = true ∧ R v h) :=
  (ret_rd rfl rfl).trans (by rw [env61]; rfl)
theorem enter62 (h : Heap) (R : Value → Heap → Prop) (v0 : Value) : Ret tab 62 [v0] h R = (belowL h.length [v0] = true ∧ Ok tab R62 [.code B62] #[v0, undef, undef, undef, undef, undef, undef, undef, undef, undef, undef, undef, undef, undef, undef] (frz h) fun v _ => below h.length v = true ∧ R v h) :=
  (ret_rd rfl rfl).trans (by rw [env62]; rfl)
theorem enter63 (h : Heap) (R : Value → Heap → Prop) (v0 v1 : Value) : Ret tab 63 [v0, v1] h R = (belowL h.length [v0, v1] = true ∧ Ok tab R63 [.code B63] #[v0, v1, undef, undef, undef, undef, undef, undef, undef, undef, undef, undef, undef, undef, undef, undef, undef, undef, undef, undef, undef, undef, undef, undef, undef] (frz h) fun v _ => below h.length v = true ∧ R v h) :=
  (ret_rd rfl rfl).trans (by rw [env63]; rfl)
theorem enter64 (h : Heap) (R : Value → Heap → Prop) (v0 v1 v2 v3 : Value) : Ret tab 64 [v0, v1, v2, v3] h R = Ok tab R64 [.code B64] #[v0, v1, v2, v3, undef, undef, undef, undef, undef, undef, undef, undef, undef, undef, undef, undef] h R :=
  (ret_eq rfl rfl).trans (by rw [env64]; rfl)
theorem enter65 (h : Heap) (R : Value → Heap → Prop) (v0 : Value) : Ret tab 65 [v0] h R = Ok tab R65 [.code B65] #[v0, undef, undef, undef, undef, undef, undef, undef, undef, undef, undef, undef, undef, undef, undef, undef, undef, undef, undef, undef, undef, undef, undef, undef, undef, undef, undef, undef, undef, undef, undef, undef, undef, undef, undef, undef, undef, undef, undef, undef, undef, undef, undef, undef, undef, undef, undef, undef, undef, undef, undef, undef] h R :=
  (ret_eq rfl rfl).trans (by rw [env65]; rfl)
theorem enter66 (h : Heap) (R : Value → Heap → Prop) (v0 : Value) : Ret tab 66 [v0] h R = Ok tab R66 [.code B66] #[v0, undef, undef, undef, undef, undef, undef, undef, undef, undef, undef, undef, undef, undef, undef, undef, undef, undef, undef, undef, undef, undef, undef, undef, undef, undef, undef, undef, undef, undef, undef, undef, undef, undef, undef, undef, undef, undef, undef, undef, undef, undef, undef, undef, undef, undef, undef, undef, undef, undef, undef, undef, undef, undef, undef, undef, undef, undef, undef, undef, undef, undef, undef, undef, undef, undef, undef, undef, undef, undef, undef, undef, undef, undef, undef, undef, undef, undef, undef, undef, undef, undef, undef, undef, undef, undef] h R :=
  (ret_eq rfl rfl).trans (by rw [env66]; rfl)
theorem enter67 (h : Heap) (R : Value → Heap → Prop) (v0 v1 : Value) : Ret tab 67 [v0, v1] h R = Ok tab R67 [.code B67] #[v0, v1, undef, undef, undef, undef, undef, undef, undef, undef, undef, undef, undef, undef, undef, undef, undef, undef, undef, undef, undef, undef, undef, undef, undef, undef, undef, undef, undef, undef, undef, undef, undef, undef, undef, undef, undef, undef, undef, undef, undef, undef, undef, undef, undef, undef, undef, undef, undef, undef, undef, undef, undef, undef, undef, undef, undef, undef, undef, undef, undef, undef, undef, undef, undef, undef, undef, undef, undef, undef, undef, undef, undef, undef, undef, undef, undef, undef, undef, undef, undef, undef, undef, undef, undef, undef, undef, undef, undef, undef, undef, undef, undef, undef, undef, undef, undef, undef, undef, undef, undef, undef, undef, undef, undef, undef, undef, undef, undef, undef, undef] h R :=
  (ret_eq rfl rfl).trans (by rw [env67]; rfl)
theorem enter68 (h : Heap) (R : Value → Heap → Prop) (v0 : Value) : Ret tab 68 [v0] h R = (belowL h.length [v0] = true ∧ Ok tab R68 [.code B68] #[v0, undef, undef, undef, undef, undef, undef, undef, undef, undef, undef, undef, undef, undef, undef] (frz h) fun v _ => below h.length v = true ∧ R v h) :=
  (ret_rd rfl rfl).trans (by rw [env68]; rfl)
theorem enter69 (h : Heap) (R : Value → Heap → Prop) (v0 v1 : Value) : Ret tab 69 [v0, v1] h R = Ok tab R69 [.code B69] #[v0, v1, undef, undef, undef, undef, undef, undef, undef, undef, undef, undef, undef, undef, undef, undef, undef, undef, undef, undef, undef, undef, undef, undef, undef, undef, undef, undef, undef, undef, undef, undef, undef, undef, undef, undef, undef, undef, undef] h R :=
  (ret_eq rfl rfl).trans (by rw [env69]; rfl)
theorem enter70 (h : Heap) (R : Value → Heap → Prop) (v0 v1 : Value) : Ret tab 70 [v0, v1] h R = Ok tab R70 [.code B70] #[v0, v1, undef, undef, undef, undef, undef, undef, undef, undef, undef, undef, undef, undef, undef, undef, undef, undef, undef, undef, undef, undef, undef, undef, undef, undef, undef, undef, undef, undef, undef, undef, undef, undef, undef, undef, undef, undef, undef, undef, undef, undef, undef, undef, undef, undef, undef] h R :=
  (ret_eq rfl rfl).trans (by rw [env70]; rfl)
theorem enter71 (h : Heap) (R : Value → Heap → Prop) (v0 v1 : Value) : Ret tab 71 [v0, v1] h R = Ok tab R71 [.code B71] #[v0, v1, undef, undef, undef, undef, undef, undef, undef, undef, undef, undef, undef, undef, undef, undef, undef, undef, undef, undef, undef, undef, undef, undef, undef, undef, undef, undef, undef, undef, undef, undef, undef, undef, undef, undef, undef, undef, undef, undef, undef, undef, undef, undef, undef, undef, undef, undef, undef, undef, undef, undef, undef, undef, undef, undef, undef, undef, undef, undef, undef, undef, undef, undef, undef, undef, undef, undef, undef, undef, undef, undef, undef, undef, undef, undef, undef, undef] h R :=
  (ret_eq rfl rfl).trans (by rw [env71]; rfl)
theorem enter72 (h : Heap) (R : Value → Heap → Prop) (v0 v1 v2 : Value) : Ret tab 72 [v0, v1, v2] h R = Ok tab R72 [.code B72] #[v0, v1, v2, undef, undef, undef, undef, undef, undef, undef, undef, undef, undef, undef, undef, undef, undef, undef, undef, undef, undef, undef, undef, undef, undef, undef, undef, undef, undef, undef, undef, undef, undef, undef, undef, undef, undef, undef, undef, undef, undef, undef, undef, undef, undef, undef, undef, undef, undef, undef, undef, undef, undef, undef, undef, undef, undef, undef, undef, undef, undef, undef, undef, undef, undef, undef, undef, undef, undef, undef, undef, undef, undef, undef, undef, undef, undef, undef, undef, undef, undef, undef, undef, undef, undef, undef, undef, undef, undef, undef, undef, undef, undef] h R :=
  (ret_eq rfl rfl).trans (by rw [env72]; rfl)
theorem enter73 (h : Heap) (R : Value → Heap → Prop) (v0 v1 v2 : Value) : Ret tab 73 [v0, v1, v2] h R = (belowL h.length [v0, v1, v2] = true ∧ Ok tab R73 [.code B73] #[v0, v1, v2, undef, undef, undef, undef, undef, undef, undef, undef, undef, undef, undef, undef, undef, undef, undef] (frz h) fun v _ => below h.length v = true ∧ R v h) :=
  (ret_rd rfl rfl).trans (by rw [env73]; rfl)
theorem enter74 (h : Heap) (R : Value → Heap → Prop) (v0 v1 v2 : Value) : Ret tab 74 [v0, v1, v2] h R = (belowL h.length [v0, v1, v2] = true ∧ Ok tab R74 [.code B74] #[v0, v1, v2, undef, undef, undef, undef, undef, undef, undef, undef, undef] (frz h) fun v _ => below h.length v = true ∧ R v h) :=
  (ret_rd rfl rfl).trans (by rw [env74]; rfl)
theorem enter75 (h : Heap) (R : Value → Heap → Prop) (v0 v1 v2 : Value) : Ret tab 75 [v0, v1, v2] h R = (belowL h.length [v0, v1, v2] = true ∧ Ok tab R75 [.code B75] #[v0, v1, v2, undef, undef, undef, undef, undef, undef, undef, undef, undef, undef, undef, undef, undef, undef, undef, undef, undef] (frz h) fun v _ => below h.length v = true ∧ R v h) :=
  (ret_rd rfl rfl).trans (by rw [env75]; rfl)
theorem enter76 (h : Heap) (R : Value → Heap → Prop) (v0 v1 v2 : Value) : Ret tab 76 [v0, v1, v2] h R = (belowL h.length [v0, v1, v2] = true ∧ Ok tab R76 [.code B76] #[v0, v1, v2, undef, undef, undef, undef, undef, undef, undef, undef, undef] (frz h) fun v _ => below h.length v = true ∧ R v h) :=
  (ret_rd rfl rfl).trans (by rw [env76]; rfl)
theorem enter77 (h : Heap) (R : Value → Heap → Prop) (v0 v1 v2 : Value) : Ret tab 77 [v0, v1, v2] h R = (belowL h.length [v0, v1, v2] = true ∧ Ok tab R77 [.code B77] #[v0, v1, v2, undef, undef, undef, undef, undef, undef, undef, undef, undef, undef, undef, undef, undef, undef, undef, undef, undef] (frz h) fun v _ => below h.length v = true ∧ R v h) :=
  (ret_rd rfl rfl).trans (by rw [env77]; rfl)
theorem enter78 (h : Heap) (R : Value → Heap → Prop) (v0 v1 v2 : Value) : Ret tab 78 [v0, v1, v2] h R = (belowL h.length [v0, v1, v2] = true ∧ Ok tab R78 [.code B78] #[v0, v1, v2, undef, undef, undef, undef, undef, undef, undef, undef, undef] (frz h) fun v _ => below h.length v = true ∧ R v h) :=
  (ret_rd rfl rfl).trans (by rw [env78]; rfl)
theorem enter79 (h : Heap) (R : Value → Heap → Prop) (v0 v1 v2 : Value) : Ret tab 79 [v0, v1, v2] h R = (belowL h.length [v0, v1, v2] = true ∧ Ok tab R79 [.code B79] #[v0, v1, v2, undef, undef, undef, undef, undef, undef, undef, undef, undef, undef, undef, undef, undef, undef, undef, undef, undef] (frz h) fun v _ => below h.length v = true ∧ R v h) :=
  (ret_rd rfl rfl).trans (by rw [env79]; rfl)
theorem enter80 (h : Heap) (R : Value → Heap → Prop) (v0 v1 v2 : Value) : Ret tab 80 [v0, v1, v2] h R = (belowL h.length [v0, v1, v2] = true ∧ Ok tab R80 [.code B80] #[v0, v1, v2, undef, undef, undef, undef, undef, undef, undef, undef, undef] (frz h) fun v _ => below h.length v = true ∧ R v h) :=
  (ret_rd rfl rfl).trans (by rw [env80]; rfl)
theorem enter81 (h : Heap) (R : Value → Heap → Prop) (v0 : Value) : Ret tab 81 [v0] h R = (belowL h.length [v0] = true ∧ Ok tab R81 [.code B81] #[v0, undef, undef, undef, undef, undef, undef, undef, undef, undef] (frz h) fun v _ => below h.length v = true ∧ R v h) :=
  (ret_rd rfl rfl).trans (by rw [env81]; rfl)
theorem enter82 (h : Heap) (R : Value → Heap → Prop) (v0 : Value) : Ret tab 82 [v0] h R = (belowL h.length [v0] = true ∧ Ok tab R82 [.code B82] #[v0, undef, undef, undef, undef, undef, undef, undef, undef, undef] (frz h) fun v _ => below h.length v = true ∧ R v h) :=
  (ret_rd rfl rfl).trans (by rw [env82]; rfl)
theorem enter83 (h : Heap) (R : Value → Heap → Prop) (v0 v1 : Value) : Ret tab 83 [v0, v1] h R = (belowL h.length [v0, v1] = true ∧ Ok tab R83 [.code B83] #[v0, v1, undef, undef, undef, undef, undef, undef, undef, undef, undef, undef, undef, undef, undef, undef, undef, undef] (frz h) fun v _ => below h.length v = true ∧ R v h) :=
  (ret_rd rfl rfl).trans (by rw [env83]; rfl)
theorem enter84 (h : Heap) (R : Value → Heap → Prop) (v0 v1 : Value) : Ret tab 84 [v0, v1] h R = (belowL h.length [v0, v1] = true ∧ Ok tab R84 [.code B84] #[v0, v1, undef, undef, undef, undef, undef, undef, undef, undef, undef, undef, undef, undef, undef, undef, undef, undef, undef] (frz h) fun v _ => below h.length v = true ∧ R v h) :=
  (ret_rd rfl rfl).trans (by rw [env84]; rfl)
theorem enter85 (h : Heap) (R : Value → Heap → Prop) (v0 v1 : Value) : Ret tab 85 [v0, v1] h R = (belowL h.length [v0, v1] = true ∧ Ok tab R85 [.code B85] #[v0, v1, undef, undef, undef, undef, undef, undef, undef, undef, undef, undef, undef, undef, undef, undef, undef, undef, undef] (frz h) fun v _ => below h.length v = true ∧ R v h) :=
  (ret_rd rfl rfl).trans (by rw [env85]; rfl)
theorem enter86 (h : Heap) (R : Value → Heap → Prop) (v0 v1 v2 : Value) : Ret tab 86 [v0, v1, v2] h R = (belowL h.length [v0, v1, v2] = true ∧ Ok tab R86 [.code B86] #[v0, v1, v2, undef, undef, undef, undef, undef, undef, undef, undef, undef, undef, undef, undef, undef, undef, undef, undef, undef, undef, undef, undef, undef, undef, undef, undef, undef, undef, undef, undef, undef, undef, undef, undef, undef, undef, undef, undef, undef, undef, undef, undef, undef, undef, undef] (frz h) fun v _ => below h.length v = true ∧ R v h) :=
  (ret_rd rfl rfl).trans (by rw [env86]; rfl)
theorem enter87 (h : Heap) (R : Value → Heap → Prop) (v0 : Value) : Ret tab 87 [v0] h R = (belowL h.length [v0] = true ∧ Ok tab R87 [.code B87] #[v0, undef, undef, undef, undef, undef, undef, undef, undef, undef, undef, undef, undef] (frz h) fun v _ => below h.length v = true ∧ R v h) :=
  (ret_rd rfl rfl).trans (by rw [env87]; rfl)
theorem enter88 (h : Heap) (R : Value → Heap → Prop) (v0 v1 v2 : Value) : Ret tab 88 [v0, v1, v2] h R = (belowL h.length [v0, v1, v2] = true ∧ Ok tab R88 [.code B88] #[v0, v1, v2, undef, undef, undef, undef, undef, undef, undef, undef, undef, undef, undef, undef] (frz h) fun v _ => below h.length v = true ∧ R v h) :=
  (ret_rd rfl rfl).trans (by rw [env88]; rfl)
theorem enter89 (h : Heap) (R : Value → Heap → Prop) (v0 v1 : Value) : Ret tab 89 [v0, v1] h R = Ok tab R89 [.code B89] #[v0, v1, undef, undef, undef, undef, undef, undef, undef, undef, undef, undef, undef, undef, undef, undef, undef, undef, undef, undef, undef, undef, undef, undef, undef, undef, undef, undef, undef, undef, undef, undef, undef, undef, undef, undef, undef, undef, undef, undef, undef, undef, undef] h R :=
  (ret_eq rfl rfl).trans (by rw [env89]; rfl)
theorem enter90 (h : Heap) (R : Value → Heap → Prop) (v0 v1 v2 : Value) : Ret tab 90 [v0, v1, v2] h R = (belowL h.length [v0, v1, v2] = true ∧ Ok tab R90 [.code B90] #[v0, v1, v2, undef, undef, undef, undef, undef, undef, undef, undef, undef, undef, undef, undef, undef, undef, undef, undef, undef, undef, undef, undef, undef, undef, undef, undef, undef, undef, undef, undef] (frz h) fun v _ => below h.length v = true ∧ R v h) :=
  (ret_rd rfl rfl).trans (by rw [env90]; rfl)
theorem enter91 (h : Heap) (R : Value → Heap → Prop) (v0 v1 v2 : Value) : Ret tab 91 [v0, v1, v2] h R = Ok tab R91 [.code B91] #[v0, v1, v2, undef, undef, undef, undef, undef, undef, undef, undef, undef, undef, undef, undef, undef, undef, undef, undef, undef, undef, undef, undef, undef, undef, undef, undef, undef, undef, undef, undef, undef, undef, undef, undef, undef, undef, undef, undef, undef, undef, undef, undef, undef, undef, undef, undef, undef, undef] h R :=
  (ret_eq rfl rfl).trans (by rw [env91]; rfl)
theorem enter92 (h : Heap) (R : Value → Heap → Prop) (v0 v1 : Value) : Ret tab 92 [v0, v1] h R = (belowL h.length [v0, v1] = true ∧ Ok tab R92 [.code B92] #[v0, v1, undef, undef, undef, undef, undef, undef, undef, undef] (frz h) fun v _ => below h.length v = true ∧ R v h) :=
  (ret_rd rfl rfl).trans (by rw [env92]; rfl)
theorem enter93 (h : Heap) (R : Value → Heap → Prop) (v0 v1 v2 : Value) : Ret tab 93 [v0, v1, v2] h R = (belowL h.length [v0, v1, v2] = true ∧ Ok tab R93 [.code B93] #[v0, v1, v2, undef, undef, undef, undef, undef, undef, undef, undef, undef, undef, undef, undef, undef, undef, undef, undef, undef, undef, undef, undef] (frz h) fun v _ => below h.length v = true ∧ R v h) :=
  (ret_rd rfl rfl).trans (by rw [env93]; rfl)
theorem enter94 (h : Heap) (R : Value → Heap → Prop) (v0 v1 v2 : Value) : Ret tab 94 [v0, v1, v2] h R = (belowL h.length [v0, v1, v2] = true ∧ Ok tab R94 [.code B94] #[v0, v1, v2, undef, undef, undef, undef, undef, undef, undef, undef, undef, undef, undef, undef, undef, undef, undef, undef, undef, undef, undef, undef, undef, undef, undef, undef, undef, undef, undef, undef, undef, undef, undef, undef, undef, undef, undef, undef, undef, undef, undef, undef, undef] (frz h) fun v _ => below h.length v = true ∧ R v h) :=
  (ret_rd rfl rfl).trans (by rw [env94]; rfl)
theorem enter95 (h : Heap) (R : Value → Heap → Prop) (v0 v1 v2 : Value) : Ret tab 95 [v0, v1, v2] h R = Ok tab R95 [.code B95] #[v0, v1, v2, undef, undef, undef, undef, undef, undef, undef, undef, undef, undef, undef, undef, undef, undef, undef, undef, undef, undef, undef, undef, undef, undef, undef, undef, undef, undef, undef, undef, undef, undef, undef, undef, undef, undef, undef, undef, undef, undef, undef, undef, undef, undef, undef, undef, undef, undef, undef, undef, undef, undef, undef, undef] h R :=
  (ret_eq rfl rfl).trans (by rw [env95]; rfl)
theorem enter96 (h : Heap) (R : Value → Heap → Prop) (v0 : Value) : Ret tab 96 [v0] h R = (belowL h.length [v0] = true ∧ Ok tab R96 [.code B96] #[v0, undef, undef, undef, undef, undef, undef, undef, undef, undef, undef, undef, undef] (frz h) fun v _ => below h.length v = true ∧ R v h) :=
  (ret_rd rfl rfl).trans (by rw [env96]; rfl)
theorem enter97 (h : Heap) (R : Value → Heap → Prop) (v0 v1 v2 : Value) : Ret tab 97 [v0, v1, v2] h R = (belowL h.length [v0, v1, v2] = true ∧ Ok tab R97 [.code B97] #[v0, v1, v2, undef, undef, undef, undef, undef, undef, undef, undef, undef, undef, undef, undef, undef, undef, undef, undef, undef, undef, undef, undef, undef, undef, undef, undef, undef, undef, undef, undef] (frz h) fun v _ => below h.length v = true ∧ R v h) :=
  (ret_rd rfl rfl).trans (by rw [env97]; rfl)
theorem enter98 (h : Heap) (R : Value → Heap → Prop) (v0 v1 v2 : Value) : Ret tab 98 [v0, v1, v2] h R = Ok tab R98 [.code B98] #[v0, v1, v2, undef, undef, undef, undef, undef, undef, undef, undef, undef, undef, undef, undef, undef, undef, undef, undef, undef, undef, undef, undef, undef, undef, undef, undef, undef, undef, undef, undef, undef, undef, undef, undef, undef, undef, undef, undef, undef, undef, undef, undef, undef, undef, undef, undef] h R :=
  (ret_eq rfl rfl).trans (by rw [env98]; rfl)
theorem enter99 (h : Heap) (R : Value → Heap → Prop) (v0 v1 v2 : Value) : Ret tab 99 [v0, v1, v2] h R = Ok tab R99 [.code B99] #[v0, v1, v2, undef, undef, undef, undef, undef, undef, undef, undef, undef, undef, undef, undef, undef, undef, undef, undef, undef, undef, undef] h R :=
  (ret_eq rfl rfl).trans (by rw [env99]; rfl)
theorem enter100 (h : Heap) (R : Value → Heap → Prop) (v0 v1 : Value) : Ret tab 100 [v0, v1] h R = (belowL h.length [v0, v1] = true ∧ Ok tab R100 [.code B100] #[v0, v1, undef, undef, undef, undef, undef, undef] (frz h) fun v _ => below h.length v = true ∧ R v h) :=
  (ret_rd rfl rfl).trans (by rw [env100]; rfl)
theorem enter101 (h : Heap) (R : Value → Heap → Prop) (v0 v1 v2 : Value) : Ret tab 101 [v0, v1, v2] h R = (belowL h.length [v0, v1, v2] = true ∧ Ok tab R101 [.code B101] #[v0, v1, v2, undef, undef, undef, undef, undef, undef, undef, undef, undef, undef, undef, undef, undef, undef, undef, undef, undef, undef, undef, undef] (frz h) fun v _ => below h.length v = true ∧ R v h) :=
  (ret_rd rfl rfl).trans (by rw [env101]; rfl)
theorem enter102 (h : Heap) (R : Value → Heap → Prop) (v0 v1 v2 v3 : Value) : Ret tab 102 [v0, v1, v2, v3] h R = (belowL h.length [v0, v1, v2, v3] = true ∧ Ok tab R102 [.code B102] #[v0, v1, v2, v3, undef, undef, undef, undef, undef, undef, undef, undef, undef, undef, undef, undef, undef, undef, undef, undef, undef, undef, undef, undef, undef, undef, undef, undef, undef, undef, undef, undef, undef, undef, undef, undef, undef, undef, undef, undef, undef, undef, undef, undef, undef, undef, undef, undef, undef, undef, undef, undef] (frz h) fun v _ => below h.length v = true ∧ R v h) :=
  (ret_rd rfl rfl).trans (by rw [env102]; rfl)
theorem enter103 (h : Heap) (R : Value → Heap → Prop) (v0 v1 v2 : Value) : Ret tab 103 [v0, v1, v2] h R = Ok tab R103 [.code B103] #[v0, v1, v2, undef, undef, undef, undef, undef, undef, undef, undef, undef, undef, undef, undef, undef, undef, undef, undef, undef, undef, undef, undef, undef, undef, undef, undef, undef, undef, undef, undef, undef, undef, undef, undef, undef, undef, undef, undef, undef, undef, undef, undef] h R :=
  (ret_eq rfl rfl).trans (by rw [env103]; rfl)
theorem enter104 (h : Heap) (R : Value → Heap → Prop) (v0 v1 v2 : Value) : Ret tab 104 [v0, v1, v2] h R = (belowL h.length [v0, v1, v2] = true ∧ Ok tab R104 [.code B104] #[v0, v1, v2, undef, undef, undef, undef, undef, undef, undef, undef, undef, undef, undef, undef, undef, undef, undef, undef, undef, undef, undef, undef, undef, undef, undef, undef] (frz h) fun v _ => below h.length v = true ∧ R v h) :=
  (ret_rd rfl rfl).trans (by rw [env104]; rfl)
theorem enter105 (h : Heap) (R : Value → Heap → Prop) (v0 v1 v2 : Value) : Ret tab 105 [v0, v1, v2] h R = (belowL h.length [v0, v1, v2] = true ∧ Ok tab R105 [.code B105] #[v0, v1, v2, undef, undef, undef, undef, undef, undef, undef, undef, undef, undef, undef, undef, undef, undef, undef, undef, undef, undef, undef, undef, undef, undef, undef, undef, undef, undef, undef, undef, undef, undef] (frz h) fun v _ => below h.length v = true ∧ R v h) :=
  (ret_rd rfl rfl).trans (by rw [env105]; rfl)
theorem enter106 (h : Heap) (R : Value → Heap → Prop) (v0 v1 v2 v3 : Value) : Ret tab 106 [v0, v1, v2, v3] h R = (belowL h.length [v0, v1, v2, v3] = true ∧ Ok tab R106 [.code B106] #[v0, v1, v2, v3, undef, undef, undef, undef, undef, undef, undef, undef, undef, undef, undef, undef, undef, undef, undef, undef, undef, undef, undef, undef, undef, undef, undef, undef, undef, undef, undef, undef, undef, undef, undef, undef, undef, undef, undef, undef, undef, undef, undef, undef, undef, undef, undef, undef, undef, undef, undef, undef, undef, undef, undef, undef, undef, undef, undef, undef, undef, undef, undef, undef, undef, undef, undef, undef, undef, undef, undef, undef, undef, undef, undef, undef, undef] (frz h) fun v _ => below h.length v = true ∧ R v h) :=
  (ret_rd rfl rfl).trans (by rw [env106]; rfl)
theorem enter107 (h : Heap) (R : Value → Heap → Prop) (v0 v1 v2 v3 : Value) : Ret tab 107 [v0, v1, v2, v3] h R = (belowL h.length [v0, v1, v2, v3] = true ∧ Ok tab R107 [.code B107] #[v0, v1, v2, v3, undef, undef, undef, undef, undef, undef, undef, undef, undef, undef, undef, undef, undef, undef, undef, undef, undef, undef, undef, undef, undef, undef, undef, undef, undef, undef, undef, undef, undef, undef, undef, undef] (frz h) fun v _ => below h.length v = true ∧ R v h) :=
  (ret_rd rfl rfl).trans (by rw [env107]; rfl)
theorem enter108 (h : Heap) (R : Value → Heap → Prop) (v0 v1 v2 : Value) : Ret tab 108 [v0, v1, v2] h R = Ok tab R108 [.code B108] #[v0, v1, v2, undef, undef, undef, undef, undef, undef, undef, undef, undef, undef, undef, undef, undef, undef, undef, undef, undef, undef, undef, undef, undef, undef, undef, undef, undef, undef, undef, undef, undef, undef, undef, undef, undef, undef, undef, undef, undef, undef, undef, undef, undef, undef, undef, undef, undef, undef, undef, undef, undef, undef, undef] h R :=
  (ret_eq rfl rfl).trans (by rw [env108]; rfl)
theorem enter109 (h : Heap) (R : Value → Heap → Prop) (v0 v1 v2 v3 : Value) : Ret tab 109 [v0, v1, v2, v3] h R = (belowL h.length [v0, v1, v2, v3] = true ∧ Ok tab R109 [.code B109] #[v0, v1, v2, v3, undef, undef, undef, undef, undef, undef, undef, undef, undef, undef, undef, undef, undef, undef, undef, undef, undef, undef, undef, undef, undef, undef, undef, undef, undef, undef, undef, undef, undef, undef, undef, undef, undef, undef, undef, undef, undef, undef, undef, undef, undef, undef, undef, undef, undef, undef, undef, undef, undef, undef, undef, undef, undef, undef, undef, undef, undef, undef, undef, undef, undef, undef, undef, undef, undef, undef, undef, undef, undef, undef, undef, undef, undef] (frz h) fun v _ => below h.length v = true ∧ R v h) :=
  (ret_rd rfl rfl).trans (by rw [env109]; rfl)
theorem enter110 (h : Heap) (R : Value → Heap → Prop) (v0 v1 v2 v3 : Value) : Ret tab 110 [v0, v1, v2, v3] h R = (belowL h.length [v0, v1, v2, v3] = true ∧ Ok tab R110 [.code B110] #[v0, v1, v2, v3, undef, undef, undef, undef, undef, undef, undef, undef, undef, undef, undef, undef, undef, undef, undef, undef, undef, undef, undef, undef, undef, undef, undef, undef, undef, undef, undef, undef, undef, undef, undef] (frz h) fun v _ => below h.length v = true ∧ R v h) :=
  (ret_rd rfl rfl).trans (by rw [env110]; rfl)
theorem enter111 (h : Heap) (R : Value → Heap → Prop) (v0 v1 v2 : Value) : Ret tab 111 [v0, v1, v2] h R = Ok tab R111 [.code B111] #[v0, v1, v2, undef, undef, undef, undef, undef, undef, undef, undef, undef, undef, undef, undef, undef, undef, undef, undef, undef, undef, undef, undef, undef, undef, undef, undef, undef, undef, undef, undef, undef, undef, undef, undef, undef, undef, undef, undef, undef, undef, undef, undef, undef, undef, undef, undef, undef, undef, undef, undef, undef, undef, undef, undef, undef, undef] h R :=
  (ret_eq rfl rfl).trans (by rw [env111]; rfl)
theorem enter112 (h : Heap) (R : Value → Heap → Prop) (v0 v1 v2 : Value) : Ret tab 112 [v0, v1, v2] h R = (belowL h.length [v0, v1, v2] = true ∧ Ok tab R112 [.code B112] #[v0, v1, v2, undef, undef, undef, undef, undef, undef, undef, undef] (frz h) fun v _ => below h.length v = true ∧ R v h) :=
  (ret_rd rfl rfl).trans (by rw [env112]; rfl)
theorem enter113 (h : Heap) (R : Value → Heap → Prop) (v0 v1 v2 : Value) : Ret tab 113 [v0, v1, v2] h R = (belowL h.length [v0, v1, v2] = true ∧ Ok tab R113 [.code B113] #[v0, v1, v2, undef, undef, undef, undef, undef, undef, undef, undef, undef] (frz h) fun v _ => below h.length v = true ∧ R v h) :=
  (ret_rd rfl rfl).trans (by rw [env113]; rfl)
theorem enter114 (h : Heap) (R : Value → Heap → Prop) (v0 v1 : Value) : Ret tab 114 [v0, v1] h R = (belowL h.length [v0, v1] = true ∧ Ok tab R114 [.code B114] #[v0, v1, undef, undef, undef, undef, undef, undef, undef, undef, undef, undef, undef, undef, undef, undef, undef, undef] (frz h) fun v _ => below h.length v = true ∧ R v h) :=
  (ret_rd rfl rfl).trans (by rw [env114]; rfl)
theorem enter115 (h : Heap) (R : Value → Heap → Prop) (v0 v1 v2 : Value) : Ret tab 115 [v0, v1, v2] h R = (belowL h.length [v0, v1, v2] = true ∧ Ok tab R115 [.code B115] #[v0, v1, v2, undef, undef, undef, undef, undef, undef, undef, undef, undef, undef, undef, undef, undef, undef, undef, undef, undef, undef, undef, undef, undef, undef, undef, undef, undef, undef, undef] (frz h) fun v _ => below h.length v = true ∧ R v h) :=
  (ret_rd rfl rfl).trans (by rw [env115]; rfl)
theorem enter116 (h : Heap) (R : Value → Heap → Prop) (v0 v1 : Value) : Ret tab 116 [v0, v1] h R = (belowL h.length [v0, v1] = true ∧ Ok tab R116 [.code B116] #[v0, v1, undef, undef, undef, undef, undef, undef, undef, undef, undef, undef, undef, undef, undef, undef, undef, undef, undef, undef, undef, undef, undef, undef, undef, undef, undef, undef, undef, undef, undef, undef, undef, undef, undef, undef, undef] (frz h) fun v _ => below h.length v = true ∧ R v h) :=
  (ret_rd rfl rfl).trans (by rw [env116]; rfl)
theorem enter117 (h : Heap) (R : Value → Heap → Prop) (v0 v1 v2 v3 : Value) : Ret tab 117 [v0, v1, v2, v3] h R = (belowL h.length [v0, v1, v2, v3] = true ∧ Ok tab R117 [.code B117] #[v0, v1, v2, v3, undef, undef, undef, undef, undef, undef, undef, undef, undef, undef, undef, undef, undef, undef, undef, undef, undef, undef, undef, undef, undef, undef, undef, undef, undef, undef, undef, undef, undef, undef, undef, undef, undef, undef, undef, undef, undef, undef, undef, undef, undef, undef] (frz h) fun v _ => below h.length v = true ∧ R v h) :=
  (ret_rd rfl rfl).trans (by rw [env117]; rfl)
theorem enter118 (h : Heap) (R : Value → Heap → Prop) (v0 v1 v2 : Value) : Ret tab 118 [v0, v1, v2] h R = (belowL h.length [v0, v1, v2] = true ∧ Ok tab R118 [.code B118] #[v0, v1, v2, undef, undef, undef, undef, undef, undef, undef, undef, undef] (frz h) fun v _ => below h.length v = true ∧ R v h) :=
  (ret_rd rfl rfl).trans (by rw [env118]; rfl)
theorem enter119 (h : Heap) (R : Value → Heap → Prop) (v0 v1 v2 : Value) : Ret tab 119 [v0, v1, v2] h R = (belowL h.length [v0, v1, v2] = true ∧ Ok tab R119 [.code B119] #[v0, v1, v2, undef, undef, undef, undef, undef, undef, undef, undef, undef] (frz h) fun v _ => below h.length v = true ∧ R v h) :=
  (ret_rd rfl rfl).trans (by rw [env119]; rfl)
theorem enter120 (h : Heap) (R : Value → Heap → Prop) (v0 v1 : Value) : Ret tab 120 [v0, v1] h R = (belowL h.length [v0, v1] = true ∧ Ok tab R120 [.code B120] #[v0, v1, undef, undef, undef, undef, undef, undef, undef, undef, undef, undef, undef, undef, undef, undef, undef] (frz h) fun v _ => below h.length v = true ∧ R v h) :=
  (ret_rd rfl rfl).trans (by rw [env120]; rfl)
theorem enter121 (h : Heap) (R : Value → Heap → Prop) (v0 v1 v2 : Value) : Ret tab 121 [v0, v1, v2] h R = (belowL h.length [v0, v1, v2] = true ∧ Ok tab R121 [.code B121] #[v0, v1, v2, undef, undef, undef, undef, undef, undef, undef, undef, undef, undef, undef, undef, undef, undef, undef, undef, undef, undef] (frz h) fun v _ => below h.length v = true ∧ R v h) :=
  (ret_rd rfl rfl).trans (by rw [env121]; rfl)
theorem enter122 (h : Heap) (R : Value → Heap → Prop) (v0 v1 v2 v3 : Value) : Ret tab 122 [v0, v1, v2, v3] h R = (belowL h.length [v0, v1, v2, v3] = true ∧ Ok tab R122 [.code B122] #[v0, v1, v2, v3, undef, undef, undef, undef, undef, undef, undef, undef, undef, undef, undef, undef, undef, undef, undef, undef, undef, undef, undef, undef, undef, undef, undef, undef, undef, undef, undef, undef, undef, undef, undef, undef, undef, undef, undef, undef, undef, undef, undef, undef, undef] (frz h) fun v _ => below h.length v = true ∧ R v h) :=
  (ret_rd rfl rfl).trans (by rw [env122]; rfl)
theorem enter123 (h : Heap) (R : Value → Heap → Prop) (v0 v1 : Value) : Ret tab 123 [v0, v1] h R = (belowL h.length [v0, v1] = true ∧ Ok tab R123 [.code B123] #[v0, v1, undef, undef, undef, undef, undef, undef, undef, undef, undef, undef, undef, undef, undef, undef, undef, undef, undef, undef, undef, undef, undef, undef, undef, undef, undef, undef, undef, undef, undef, undef, undef, undef, undef, undef, undef, undef] (frz h) fun v _ => below h.length v = true ∧ R v h) :=
  (ret_rd rfl rfl).trans (by rw [env123]; rfl)
theorem enter124 (h : Heap) (R : Value → Heap → Prop) (v0 v1 v2 : Value) : Ret tab 124 [v0, v1, v2] h R = (belowL h.length [v0, v1, v2] = true ∧ Ok tab R124 [.code B124] #[v0, v1, v2, undef, undef, undef, undef, undef, undef, undef, undef, undef, undef, undef, undef, undef, undef, undef, undef, undef, undef, undef, undef, undef, undef, undef] (frz h) fun v _ => below h.length v = true ∧ R v h) :=
  (ret_rd rfl rfl).trans (by rw [env124]; rfl)
theorem enter125 (h : Heap) (R : Value → Heap → Prop) (v0 v1 : Value) : Ret tab 125 [v0, v1] h R = (belowL h.length [v0, v1] = true ∧ Ok tab R125 [.code B125] #[v0, v1, undef, undef, undef, undef, undef, undef, undef, undef] (frz h) fun v _ => below h.length v = true ∧ R v h) :=
  (ret_rd rfl rfl).trans (by rw [env125]; rfl)
theorem enter126 (h : Heap) (R : Value → Heap → Prop) (v0 v1 v2 : Value) : Ret tab 126 [v0, v1, v2] h R = (belowL h.length [v0, v1, v2] = true ∧ Ok tab R126 [.code B126] #[v0, v1, v2, undef, undef, undef, undef, undef, undef, undef, undef, undef, undef, undef, undef, undef, undef, undef] (frz h) fun v _ => below h.length v = true ∧ R v h) :=
  (ret_rd rfl rfl).trans (by rw [env126]; rfl)
theorem enter127 (h : Heap) (R : Value → Heap → Prop) (v0 v1 : Value) : Ret tab 127 [v0, v1] h R = (belowL h.length [v0, v1] = true ∧ Ok tab R127 [.code B127] #[v0, v1, undef, undef, undef, undef, undef, undef, undef, undef, undef, undef, undef, undef, undef, undef, undef, undef, undef, undef, undef] (frz h) fun v _ => below h.length v = true ∧ R v h) :=
  (ret_rd rfl rfl).trans (by rw [env127]; rfl)
end Go.Proofs.Ytlflfkdnpalhlaa
