/-
  The functions of the program, resolved, each beside the proof that it is what the program has. Laid by program (gentab.py).
-/
import Derived.Test.YtjpjohchdfoeaaaSimN
import Derived.Test.YtjpjohchdfoeaaaProg
import Derived.KernelRfl
namespace Go.Proofs.Ytjpjohchdfoeaaa
open Go Go.Sim
open Go.Operand renaming tmp → t,const → c,func → w
open Go.Sim.ROp renaming mov → m,bin → b,load → l,fieldAddr → f,call → z,nilCheck → y,pick → p,extract → x
open Go.Sim.RCode renaming seq → q,region → r,cond → d,skip → o
open Go.Value renaming int → i
open Go.IntKind renaming i64 → j
open Option renaming none → n,some → s
open Go renaming undef → u
variable {T : Tab} {F : RFunc} {k : List RItem} {e : Env} {h : Heap} {R : Value → Heap → Prop}
def B159 : RCode := q (r [⟨s 4,m (c (i j 0)),n⟩,⟨s 5,m (c (i j 0)),n⟩] []) (q (r [⟨s 9,m (t 0),n⟩,⟨s 10,z (w 178) [t 9,c (i j (-1)),c (i j 1)],n⟩,⟨s 11,m (t 1),n⟩,⟨s 12,z (w 178) [t 11,c (i j (-1)),c (i j 1)],n⟩,⟨s 6,m (t 10),n⟩,⟨s 7,m (t 12),n⟩] []) (q (q (r [⟨s 13,m (t 6),n⟩,⟨s 14,b .lss (t 13) (c (i j 0)),n⟩,⟨s 15,m (t 14),n⟩,⟨s 16,m (t 6),s (s 15,false)⟩,⟨s 17,b .eql (t 16) (c (i j 0)),s (s 15,false)⟩,⟨s 18,m (t 17),s (s 15,false)⟩,⟨s 19,m (t 7),s (s 18,true)⟩,⟨s 20,b .lss (t 19) (c (i j 0)),s (s 18,true)⟩,⟨s 21,p (t 18) (t 20) (c (.bool false)),s (s 15,false)⟩,⟨s 22,p (t 15) (c (.bool true)) (t 21),n⟩] []) (d (t 22) (r [⟨s 23,m (t 6),n⟩,⟨s 24,.un .neg (t 23),n⟩,⟨s 25,m (t 7),n⟩,⟨s 26,.un .neg (t 25),n⟩,⟨s 6,m (t 24),n⟩,⟨s 7,m (t 26),n⟩,⟨s 5,m (c (i j 1)),n⟩] []) o)) (q (r [⟨s 27,.build [i j 0,i j 0,i j 0] [(0,1),(1,1),(2,1)] [(0,c (i j 0)),(1,c (i j 9)),(2,c (i j 10))],n⟩,⟨s 28,.build [i j 0,i j 0,i j 0] [(0,1),(1,1),(2,1)] [(0,c (i j 11)),(1,c (i j 12)),(2,c (i j 13))],n⟩,⟨s 29,.build [i j 0,i j 0,i j 0,i j 0,i j 0,i j 0] [(0,3),(3,3)] [(0,t 27),(1,t 28)],n⟩,⟨s 8,.alloc [i j 0,i j 0,i j 0,i j 0,i j 0,i j 0],n⟩,⟨n,.store 6 (t 8) (t 29),n⟩] []) (q (r [⟨s 30,m (t 6),n⟩,⟨s 31,m (t 7),n⟩,⟨s 32,b .add (t 31) (c (i j 1)),n⟩,⟨s 33,.indexArr 2 3 (t 8) (t 30),n⟩,⟨s 34,.indexArr 3 1 (t 33) (t 32),n⟩,⟨s 35,l 1 false (t 34),n⟩,⟨s 36,m (t 5),n⟩,⟨s 4,m (t 35),n⟩,⟨s 5,m (t 36),n⟩] []) .ret))))
def R159 : RFunc := ⟨37,[.tmp 4,.tmp 5],B159,.rd⟩
theorem c159 : compileF Try.prog 159 R159.iso = s R159 := by kernel_rfl
theorem fin159 (e : Env) (h : Heap) : finishV R159 e h = s (.tuple #[e.getD 4 u,e.getD 5 u],h) := by kernel_rfl
theorem env159 (v0 v1 : Value) : mkEnv R159 [v0,v1] = #[v0,v1,u,u,u,u,u,u,u,u,u,u,u,u,u,u,u,u,u,u,u,u,u,u,u,u,u,u,u,u,u,u,u,u,u,u,u] := by kernel_rfl
def B160 : RCode := q (r [⟨s 8,m (c (i j 0)),n⟩,⟨s 9,m (c (i j 0)),n⟩] []) (q (q (r [⟨s 11,m (t 0),n⟩,⟨s 12,m (t 1),n⟩,⟨s 13,m (t 2),n⟩,⟨s 14,z (w 116) [t 11,t 12,t 13],n⟩,⟨s 15,.eq false .ptr (t 14) (c (.pointer n)),n⟩] []) (d (t 15) (q (r [⟨s 8,m (c (i j 0)),n⟩,⟨s 9,m (c (i j 0)),n⟩] []) .ret) o)) (q (r [⟨s 10,m (c (i j 0)),n⟩] []) (q (q (r [⟨s 16,m (t 3),n⟩,⟨s 17,.un .not (t 16),n⟩,⟨s 18,m (t 17),n⟩,⟨s 19,m (t 2),s (s 18,false)⟩,⟨s 20,b .rem (t 19) (c (i j 4)),s (s 18,false)⟩,⟨s 21,b .neq (t 20) (c (i j 3)),s (s 18,false)⟩,⟨s 22,p (t 18) (c (.bool true)) (t 21),n⟩] []) (d (t 22) (r [⟨s 23,m (t 0),n⟩,⟨s 24,m (t 1),n⟩,⟨s 25,m (t 2),n⟩,⟨s 26,b .add (t 25) (c (i j 1)),n⟩,⟨s 27,z (w 181) [t 23,t 24,t 26],n⟩,⟨s 10,m (t 27),n⟩] []) o)) (q (r [⟨s 28,m (t 0),n⟩,⟨s 29,m (t 1),n⟩,⟨s 30,b .sub (t 29) (c (i j 1)),n⟩,⟨s 31,m (t 2),n⟩,⟨s 32,z (w 181) [t 28,t 30,t 31],n⟩,⟨s 33,m (t 0),n⟩,⟨s 34,m (t 1),n⟩,⟨s 35,b .add (t 34) (c (i j 1)),n⟩,⟨s 36,m (t 2),n⟩,⟨s 37,z (w 181) [t 33,t 35,t 36],n⟩,⟨s 38,z (w 182) [t 32,t 37],n⟩,⟨s 39,m (t 0),n⟩,⟨s 40,m (t 1),n⟩,⟨s 41,m (t 2),n⟩,⟨s 42,b .sub (t 41) (c (i j 1)),n⟩,⟨s 43,z (w 181) [t 39,t 40,t 42],n⟩,⟨s 44,m (t 10),n⟩,⟨s 45,z (w 182) [t 43,t 44],n⟩,⟨s 8,m (t 38),n⟩,⟨s 9,m (t 45),n⟩] []) .ret))))
def R160 : RFunc := ⟨46,[.tmp 8,.tmp 9],B160,.rd⟩
theorem c160 : compileF Try.prog 160 R160.iso = s R160 := by kernel_rfl
theorem fin160 (e : Env) (h : Heap) : finishV R160 e h = s (.tuple #[e.getD 8 u,e.getD 9 u],h) := by kernel_rfl
theorem env160 (v0 v1 v2 v3 : Value) : mkEnv R160 [v0,v1,v2,v3] = #[v0,v1,v2,v3,u,u,u,u,u,u,u,u,u,u,u,u,u,u,u,u,u,u,u,u,u,u,u,u,u,u,u,u,u,u,u,u,u,u,u,u,u,u,u,u,u,u] := by kernel_rfl
def B165 : RCode := q (r [⟨s 6,m (c (.bool false)),n⟩] []) (q (r [⟨s 11,m (t 0),n⟩,⟨s 12,y (t 11),n⟩,⟨s 13,f 0 (t 12),n⟩,⟨s 14,l 1 false (t 13),n⟩,⟨s 15,m (t 1),n⟩,⟨s 16,m (t 2),n⟩,⟨s 17,m (t 0),n⟩,⟨s 18,y (t 17),n⟩,⟨s 19,f 5 (t 18),n⟩,⟨s 20,l 1 false (t 19),n⟩,⟨s 21,z (w 157) [t 14,t 15,t 16,t 20],n⟩,⟨s 10,m (t 21),n⟩,⟨s 22,x (t 10) 0,n⟩,⟨s 23,x (t 10) 1,n⟩,⟨s 24,x (t 10) 2,n⟩,⟨s 7,m (t 22),n⟩,⟨s 8,m (t 23),n⟩,⟨s 9,m (t 24),n⟩] []) (q (r [⟨s 25,m (t 7),n⟩,⟨s 26,m (t 8),n⟩,⟨s 27,b .add (t 25) (t 26),n⟩,⟨s 28,m (t 9),n⟩,⟨s 29,b .add (t 27) (t 28),n⟩,⟨s 30,b .gtr (t 29) (c (i j 0)),n⟩,⟨s 6,m (t 30),n⟩] []) .ret))
def R165 : RFunc := ⟨31,[.tmp 6],B165,.rd⟩
theorem c165 : compileF Try.prog 165 R165.iso = s R165 := by kernel_rfl
theorem fin165 (e : Env) (h : Heap) : finishV R165 e h = s (e.getD 6 u,h) := by kernel_rfl
theorem env165 (v0 v1 v2 : Value) : mkEnv R165 [v0,v1,v2] = #[v0,v1,v2,u,u,u,u,u,u,u,u,u,u,u,u,u,u,u,u,u,u,u,u,u,u,u,u,u,u,u,u] := by kernel_rfl
def B166 : RCode := q (r [⟨s 11,m (t 0),n⟩,⟨s 12,y (t 11),n⟩,⟨s 13,f 0 (t 12),n⟩,⟨s 14,l 1 false (t 13),n⟩,⟨s 15,m (t 1),n⟩,⟨s 16,m (t 2),n⟩,⟨s 17,m (t 0),n⟩,⟨s 18,y (t 17),n⟩,⟨s 19,f 5 (t 18),n⟩,⟨s 20,l 1 false (t 19),n⟩,⟨s 21,z (w 157) [t 14,t 15,t 16,t 20],n⟩,⟨s 10,m (t 21),n⟩,⟨s 22,x (t 10) 0,n⟩,⟨s 23,x (t 10) 1,n⟩,⟨s 24,x (t 10) 2,n⟩,⟨s 6,m (t 22),n⟩,⟨s 7,m (t 23),n⟩,⟨s 8,m (t 24),n⟩] []) (q (r [⟨s 25,m (t 0),n⟩,⟨s 26,m (t 1),n⟩,⟨s 27,m (t 2),n⟩,⟨s 28,z (w 167) [t 25,t 26,t 27],n⟩,⟨s 9,m (t 28),n⟩] []) (q (r [⟨s 29,m (t 0),n⟩,⟨s 30,y (t 29),n⟩,⟨s 31,f 7 (t 30),n⟩,⟨s 32,l 1 false (t 31),n⟩,⟨s 33,m (t 0),n⟩,⟨s 34,y (t 33),n⟩,⟨s 35,f 4 (t 34),n⟩,⟨s 36,l 1 false (t 35),n⟩,⟨s 37,m (t 6),n⟩,⟨s 38,m (t 7),n⟩,⟨s 39,m (t 8),n⟩,⟨s 40,z (w 158) [t 36,t 37,t 38,t 39],n⟩,⟨s 41,m (t 9),n⟩,⟨s 42,z (t 32) [t 40,t 41],n⟩] [(3,11)]) (q (r [⟨s 43,m (t 9),n⟩,⟨s 44,b .eql (t 43) (c (i j 1)),n⟩] []) (d (t 44) (r [⟨s 45,m (t 0),n⟩,⟨s 46,m (t 1),n⟩,⟨s 47,m (t 2),n⟩,⟨s 48,z (w 191) [t 45,t 46,t 47],n⟩] []) o))))
def R166 : RFunc := ⟨49,[],B166,.run⟩
theorem c166 : compileF Try.prog 166 R166.iso = s R166 := by kernel_rfl
theorem fin166 (e : Env) (h : Heap) : finishV R166 e h = s (.tuple #[],h) := by kernel_rfl
theorem env166 (v0 v1 v2 : Value) : mkEnv R166 [v0,v1,v2] = #[v0,v1,v2,u,u,u,u,u,u,u,u,u,u,u,u,u,u,u,u,u,u,u,u,u,u,u,u,u,u,u,u,u,u,u,u,u,u,u,u,u,u,u,u,u,u,u,u,u,u] := by kernel_rfl
def B167 : RCode := q (r [⟨s 6,m (c (i j 0)),n⟩] []) (q (r [⟨s 7,m (t 0),n⟩,⟨s 8,y (t 7),n⟩,⟨s 9,f 0 (t 8),n⟩,⟨s 10,l 1 false (t 9),n⟩,⟨s 11,m (t 1),n⟩,⟨s 12,m (t 2),n⟩,⟨s 13,z (w 86) [t 10,t 11,t 12],n⟩,⟨s 14,z (w 98) [t 13],n⟩,⟨s 15,m (t 0),n⟩,⟨s 16,y (t 15),n⟩,⟨s 17,f 3 (t 16),n⟩,⟨s 18,l 1 false (t 17),n⟩,⟨s 19,.convInt .u64 (t 18),n⟩,⟨s 20,b .shr (t 14) (t 19),n⟩,⟨s 21,.convInt j (t 20),n⟩,⟨s 22,b .and (t 21) (c (i j 1)),n⟩,⟨s 6,m (t 22),n⟩] [(11,6),(11,7)]) .ret)
def R167 : RFunc := ⟨23,[.tmp 6],B167,.rd⟩
theorem c167 : compileF Try.prog 167 R167.iso = s R167 := by kernel_rfl
theorem fin167 (e : Env) (h : Heap) : finishV R167 e h = s (e.getD 6 u,h) := by kernel_rfl
theorem env167 (v0 v1 v2 : Value) : mkEnv R167 [v0,v1,v2] = #[v0,v1,v2,u,u,u,u,u,u,u,u,u,u,u,u,u,u,u,u,u,u,u,u] := by kernel_rfl
def L168_0a : RCode := q (r [⟨s 16,m (t 7),n⟩,⟨s 17,m (t 2),n⟩,⟨s 18,b .add (t 17) (c (i j 4)),n⟩,⟨s 19,b .lss (t 16) (t 18),n⟩] []) (d (t 19) o (.exit 0))
def L168_0b : RCode := q (.block 1 (q (r [⟨s 22,m (t 0),n⟩,⟨s 23,y (t 22),n⟩,⟨s 24,f 0 (t 23),n⟩,⟨s 25,l 1 false (t 24),n⟩,⟨s 26,m (t 1),n⟩,⟨s 27,m (t 7),n⟩,⟨s 28,z (w 88) [t 25,t 26,t 27],n⟩,⟨s 29,m (t 28),n⟩,⟨s 30,m (t 0),s (s 29,false)⟩,⟨s 31,y (t 30),s (s 29,false)⟩,⟨s 32,f 0 (t 31),s (s 29,false)⟩,⟨s 33,l 1 false (t 32),s (s 29,false)⟩,⟨s 34,m (t 1),s (s 29,false)⟩,⟨s 35,m (t 7),s (s 29,false)⟩,⟨s 36,z (w 90) [t 33,t 34,t 35],s (s 29,false)⟩,⟨s 37,p (t 29) (c (.bool true)) (t 36),n⟩,⟨s 38,m (t 37),n⟩,⟨s 39,m (t 0),s (s 38,false)⟩,⟨s 40,m (t 1),s (s 38,false)⟩,⟨s 41,m (t 7),s (s 38,false)⟩,⟨s 42,z (w 165) [t 39,t 40,t 41],s (s 38,false)⟩,⟨s 43,p (t 38) (c (.bool true)) (t 42),n⟩] []) (d (t 43) (q (r [⟨s 6,m (c (.bool false)),n⟩] []) .ret) o))) (r [⟨s 20,m (t 7),n⟩,⟨s 21,b .add (t 20) (c (i j 1)),n⟩,⟨s 7,m (t 21),n⟩] [])
def L168_0 : RCode := q L168_0a L168_0b
theorem l168_0 : Ok T F (.code L168_0 :: k) e h R = Ok T F (.code L168_0a :: .code L168_0b :: k) e h R := by rw [L168_0,s_seq]
def B168 : RCode := q (r [⟨s 6,m (c (.bool false)),n⟩] []) (q (q (r [⟨s 8,m (t 2),n⟩,⟨s 9,b .add (t 8) (c (i j 4)),n⟩,⟨s 10,m (t 0),n⟩,⟨s 11,y (t 10),n⟩,⟨s 12,f 2 (t 11),n⟩,⟨s 13,l 1 false (t 12),n⟩,⟨s 14,b .gtr (t 9) (t 13),n⟩] []) (d (t 14) (q (r [⟨s 6,m (c (.bool false)),n⟩] []) .ret) o)) (q (q (r [⟨s 15,m (t 2),n⟩,⟨s 7,m (t 15),n⟩] []) (.block 0 (.loop L168_0))) (q (r [⟨s 6,m (c (.bool true)),n⟩] []) .ret)))
def R168 : RFunc := ⟨44,[.tmp 6],B168,.rd⟩
theorem c168 : compileF Try.prog 168 R168.iso = s R168 := by kernel_rfl
theorem fin168 (e : Env) (h : Heap) : finishV R168 e h = s (e.getD 6 u,h) := by kernel_rfl
theorem env168 (v0 v1 v2 : Value) : mkEnv R168 [v0,v1,v2] = #[v0,v1,v2,u,u,u,u,u,u,u,u,u,u,u,u,u,u,u,u,u,u,u,u,u,u,u,u,u,u,u,u,u,u,u,u,u,u,u,u,u,u,u,u,u] := by kernel_rfl
def L169_0a : RCode := r [⟨s 9,b .lss (t 8) (c (i j 4)),n⟩] []
def L169_0b : RCode := q (d (t 9) o (.exit 0)) (q (.block 1 (q (r [⟨s 10,m (t 8),n⟩,⟨s 7,m (t 10),n⟩] []) (q (r [⟨s 11,m (t 0),n⟩,⟨s 12,m (t 1),n⟩,⟨s 13,m (t 2),n⟩,⟨s 14,m (t 7),n⟩,⟨s 15,b .add (t 13) (t 14),n⟩,⟨s 16,z (w 167) [t 11,t 12,t 15],n⟩,⟨s 17,b .eql (t 16) (c (i j 1)),n⟩] []) (d (t 17) (q (r [⟨s 18,m (t 0),n⟩,⟨s 19,y (t 18),n⟩,⟨s 20,f 7 (t 19),n⟩,⟨s 21,l 1 false (t 20),n⟩,⟨s 22,z (t 21) [c (i j 17),c (i j 1)],n⟩] []) (q (r [⟨s 23,m (t 0),n⟩,⟨s 24,y (t 23),n⟩,⟨s 25,f 7 (t 24),n⟩,⟨s 26,l 1 false (t 25),n⟩,⟨s 27,m (t 7),n⟩,⟨s 28,b .shr (t 27) (c (i .u64 1)),n⟩,⟨s 29,z (t 26) [c (i j 18),t 28],n⟩] []) (q (r [⟨s 30,m (t 0),n⟩,⟨s 31,y (t 30),n⟩,⟨s 32,f 7 (t 31),n⟩,⟨s 33,l 1 false (t 32),n⟩,⟨s 34,m (t 7),n⟩,⟨s 35,b .and (t 34) (c (i j 1)),n⟩,⟨s 36,z (t 33) [c (i j 18),t 35],n⟩] []) (q (r [⟨s 37,m (t 0),n⟩,⟨s 38,m (t 1),n⟩,⟨s 39,m (t 2),n⟩,⟨s 40,m (t 7),n⟩,⟨s 41,b .add (t 39) (t 40),n⟩,⟨s 42,z (w 191) [t 37,t 38,t 41],n⟩] []) (q (r [⟨s 43,m (t 2),n⟩,⟨s 44,m (t 7),n⟩,⟨s 45,b .add (t 43) (t 44),n⟩,⟨s 46,b .add (t 45) (c (i j 1)),n⟩,⟨s 6,m (t 46),n⟩] []) .ret))))) o)))) (r [⟨s 47,b .add (t 8) (c (i j 1)),n⟩,⟨s 8,m (t 47),n⟩] []))
def L169_0 : RCode := q L169_0a L169_0b
theorem l169_0 : Ok T F (.code L169_0 :: k) e h R = Ok T F (.code L169_0a :: .code L169_0b :: k) e h R := by rw [L169_0,s_seq]
def B169 : RCode := q (r [⟨s 6,m (c (i j 0)),n⟩] []) (q (q (r [⟨s 8,m (c (i j 0)),n⟩] []) (.block 0 (.loop L169_0))) (q (r [⟨s 48,m (t 0),n⟩,⟨s 49,y (t 48),n⟩,⟨s 50,f 7 (t 49),n⟩,⟨s 51,l 1 false (t 50),n⟩,⟨s 52,z (t 51) [c (i j 17),c (i j 0)],n⟩] []) (q (r [⟨s 53,m (t 2),n⟩,⟨s 54,b .add (t 53) (c (i j 4)),n⟩,⟨s 6,m (t 54),n⟩] []) .ret)))
def R169 : RFunc := ⟨55,[.tmp 6],B169,.run⟩
theorem c169 : compileF Try.prog 169 R169.iso = s R169 := by kernel_rfl
theorem fin169 (e : Env) (h : Heap) : finishV R169 e h = s (e.getD 6 u,h) := by kernel_rfl
theorem env169 (v0 v1 v2 : Value) : mkEnv R169 [v0,v1,v2] = #[v0,v1,v2,u,u,u,u,u,u,u,u,u,u,u,u,u,u,u,u,u,u,u,u,u,u,u,u,u,u,u,u,u,u,u,u,u,u,u,u,u,u,u,u,u,u,u,u,u,u,u,u,u,u,u,u] := by kernel_rfl
def B170 : RCode := q (r [⟨s 2,m (c (.bool false)),n⟩] []) (q (r [⟨s 3,m (t 0),n⟩,⟨s 4,.eq true .ptr (t 3) (c (.pointer n)),n⟩,⟨s 5,m (t 4),n⟩,⟨s 6,m (t 0),s (s 5,true)⟩,⟨s 7,y (t 6),s (s 5,true)⟩,⟨s 8,f 0 (t 7),s (s 5,true)⟩,⟨s 9,f 0 (t 8),s (s 5,true)⟩,⟨s 10,l 1 false (t 9),s (s 5,true)⟩,⟨s 11,.len (t 10),s (s 5,true)⟩,⟨s 12,b .gtr (t 11) (c (i j 0)),s (s 5,true)⟩,⟨s 13,p (t 5) (t 12) (c (.bool false)),n⟩,⟨s 2,m (t 13),n⟩] []) .ret)
def R170 : RFunc := ⟨14,[.tmp 2],B170,.run⟩
theorem c170 : compileF Try.prog 170 R170.iso = s R170 := by kernel_rfl
theorem fin170 (e : Env) (h : Heap) : finishV R170 e h = s (e.getD 2 u,h) := by kernel_rfl
theorem env170 (v0 : Value) : mkEnv R170 [v0] = #[v0,u,u,u,u,u,u,u,u,u,u,u,u,u] := by kernel_rfl
def B171 : RCode := q (r [⟨s 2,m (c (i j 0)),n⟩] []) (q (q (r [⟨s 3,m (t 0),n⟩,⟨s 4,y (t 3),n⟩,⟨s 5,f 2 (t 4),n⟩,⟨s 6,l 1 false (t 5),n⟩,⟨s 7,m (t 0),n⟩,⟨s 8,y (t 7),n⟩,⟨s 9,f 1 (t 8),n⟩,⟨s 10,l 1 false (t 9),n⟩,⟨s 11,.len (t 10),n⟩,⟨s 12,b .geq (t 6) (t 11),n⟩] []) (d (t 12) (q (r [⟨s 2,m (c (i j 0)),n⟩] []) .ret) o)) (q (r [⟨s 13,m (t 0),n⟩,⟨s 14,y (t 13),n⟩,⟨s 15,f 2 (t 14),n⟩,⟨s 16,l 1 false (t 15),n⟩,⟨s 17,b .add (t 16) (c (i j 1)),n⟩,⟨s 18,y (t 13),n⟩,⟨s 19,f 2 (t 18),n⟩,⟨n,.store 1 (t 19) (t 17),n⟩] []) (q (r [⟨s 20,m (t 0),n⟩,⟨s 21,y (t 20),n⟩,⟨s 22,f 1 (t 21),n⟩,⟨s 23,l 1 false (t 22),n⟩,⟨s 24,m (t 0),n⟩,⟨s 25,y (t 24),n⟩,⟨s 26,f 2 (t 25),n⟩,⟨s 27,l 1 false (t 26),n⟩,⟨s 28,b .sub (t 27) (c (i j 1)),n⟩,⟨s 29,.indexSl 1 (t 23) (t 28),n⟩,⟨s 30,l 1 false (t 29),n⟩,⟨s 31,.convInt j (t 30),n⟩,⟨s 2,m (t 31),n⟩] []) .ret)))
def R171 : RFunc := ⟨32,[.tmp 2],B171,.run⟩
theorem c171 : compileF Try.prog 171 R171.iso = s R171 := by kernel_rfl
theorem fin171 (e : Env) (h : Heap) : finishV R171 e h = s (e.getD 2 u,h) := by kernel_rfl
theorem env171 (v0 : Value) : mkEnv R171 [v0] = #[v0,u,u,u,u,u,u,u,u,u,u,u,u,u,u,u,u,u,u,u,u,u,u,u,u,u,u,u,u,u,u,u] := by kernel_rfl
def B177 : RCode := q (r [⟨s 6,m (c (i j 0)),n⟩] []) (q (q (r [⟨s 7,m (t 0),n⟩,⟨s 8,m (t 1),n⟩,⟨s 9,m (t 2),n⟩,⟨s 10,z (w 88) [t 7,t 8,t 9],n⟩] []) (d (t 10) (q (r [⟨s 6,m (c (i j 1)),n⟩] []) .ret) o)) (q (r [⟨s 6,m (c (i j 0)),n⟩] []) .ret))
def R177 : RFunc := ⟨11,[.tmp 6],B177,.rd⟩
theorem c177 : compileF Try.prog 177 R177.iso = s R177 := by kernel_rfl
theorem fin177 (e : Env) (h : Heap) : finishV R177 e h = s (e.getD 6 u,h) := by kernel_rfl
theorem env177 (v0 v1 v2 : Value) : mkEnv R177 [v0,v1,v2] = #[v0,v1,v2,u,u,u,u,u,u,u,u] := by kernel_rfl
def B178 : RCode := q (r [⟨s 6,m (c (i j 0)),n⟩] []) (q (r [⟨s 7,m (t 0),n⟩,⟨s 8,m (t 1),n⟩,⟨s 9,.max [t 7,t 8],n⟩,⟨s 10,m (t 2),n⟩,⟨s 11,.min [t 9,t 10],n⟩,⟨s 6,m (t 11),n⟩] []) .ret)
def R178 : RFunc := ⟨12,[.tmp 6],B178,.rd⟩
theorem c178 : compileF Try.prog 178 R178.iso = s R178 := by kernel_rfl
theorem fin178 (e : Env) (h : Heap) : finishV R178 e h = s (e.getD 6 u,h) := by kernel_rfl
theorem env178 (v0 v1 v2 : Value) : mkEnv R178 [v0,v1,v2] = #[v0,v1,v2,u,u,u,u,u,u,u,u,u] := by kernel_rfl
def B179 : RCode := q (r [⟨s 4,m (c (i j 0)),n⟩] []) (q (r [⟨s 6,.build [i j 0,i j 0,i j 0] [(0,1),(1,1),(2,1)] [(0,c (i j 0)),(1,c (i j 1)),(2,c (i j 2))],n⟩,⟨s 7,.build [i j 0,i j 0,i j 0] [(0,1),(1,1),(2,1)] [(0,c (i j 3)),(1,c (i j 4)),(2,c (i j 5))],n⟩,⟨s 8,.build [i j 0,i j 0,i j 0] [(0,1),(1,1),(2,1)] [(0,c (i j 6)),(1,c (i j 7)),(2,c (i j 7))],n⟩,⟨s 9,.build [i j 0,i j 0,i j 0] [(0,1),(1,1),(2,1)] [(0,c (i j 8)),(1,c (i j 8)),(2,c (i j 8))],n⟩,⟨s 10,.build [i j 0,i j 0,i j 0] [(0,1),(1,1),(2,1)] [(0,c (i j 8)),(1,c (i j 8)),(2,c (i j 8))],n⟩,⟨s 11,.build [i j 0,i j 0,i j 0,i j 0,i j 0,i j 0,i j 0,i j 0,i j 0,i j 0,i j 0,i j 0,i j 0,i j 0,i j 0] [(0,3),(3,3),(6,3),(9,3),(12,3)] [(0,t 6),(1,t 7),(2,t 8),(3,t 9),(4,t 10)],n⟩,⟨s 5,.alloc [i j 0,i j 0,i j 0,i j 0,i j 0,i j 0,i j 0,i j 0,i j 0,i j 0,i j 0,i j 0,i j 0,i j 0,i j 0],n⟩,⟨n,.store 15 (t 5) (t 11),n⟩] []) (q (r [⟨s 12,m (t 1),n⟩,⟨s 13,m (t 0),n⟩,⟨s 14,.min [t 13,c (i j 2)],n⟩,⟨s 15,.indexArr 5 3 (t 5) (t 12),n⟩,⟨s 16,.indexArr 3 1 (t 15) (t 14),n⟩,⟨s 17,l 1 false (t 16),n⟩,⟨s 4,m (t 17),n⟩] []) .ret))
def R179 : RFunc := ⟨18,[.tmp 4],B179,.rd⟩
theorem c179 : compileF Try.prog 179 R179.iso = s R179 := by kernel_rfl
theorem fin179 (e : Env) (h : Heap) : finishV R179 e h = s (e.getD 4 u,h) := by kernel_rfl
theorem env179 (v0 v1 : Value) : mkEnv R179 [v0,v1] = #[v0,v1,u,u,u,u,u,u,u,u,u,u,u,u,u,u,u,u] := by kernel_rfl
def B180 : RCode := q (r [⟨s 6,m (c (i j 0)),n⟩] []) (q (.block 0 (q (r [⟨s 8,m (t 0),n⟩,⟨s 9,b .eql (t 8) (c (i j 2)),n⟩,⟨s 7,m (t 9),n⟩] []) (d (t 7) (q (r [⟨s 6,m (c (i j 8)),n⟩] []) .ret) (q (r [⟨s 11,m (t 0),n⟩,⟨s 12,b .eql (t 11) (c (i j 1)),n⟩,⟨s 13,m (t 12),n⟩,⟨s 14,m (t 1),s (s 13,true)⟩,⟨s 15,b .gtr (t 14) (c (i j 0)),s (s 13,true)⟩,⟨s 16,p (t 13) (t 15) (c (.bool false)),n⟩,⟨s 10,m (t 16),n⟩] []) (d (t 10) (q (r [⟨s 6,m (c (i j 7)),n⟩] []) .ret) (q (r [⟨s 18,m (t 0),n⟩,⟨s 19,b .eql (t 18) (c (i j 1)),n⟩,⟨s 17,m (t 19),n⟩] []) (d (t 17) (q (r [⟨s 20,m (t 2),n⟩,⟨s 21,.min [t 20,c (i j 1)],n⟩,⟨s 22,b .add (c (i j 5)) (t 21),n⟩,⟨s 6,m (t 22),n⟩] []) .ret) (q (r [⟨s 24,m (t 1),n⟩,⟨s 25,b .gtr (t 24) (c (i j 0)),n⟩,⟨s 23,m (t 25),n⟩] []) (d (t 23) (q (r [⟨s 26,m (t 1),n⟩,⟨s 27,b .add (c (i j 2)) (t 26),n⟩,⟨s 6,m (t 27),n⟩] []) .ret) o))))))))) (q (r [⟨s 28,m (t 2),n⟩,⟨s 29,.min [t 28,c (i j 2)],n⟩,⟨s 6,m (t 29),n⟩] []) .ret))
def R180 : RFunc := ⟨30,[.tmp 6],B180,.rd⟩
theorem c180 : compileF Try.prog 180 R180.iso = s R180 := by kernel_rfl
theorem fin180 (e : Env) (h : Heap) : finishV R180 e h = s (e.getD 6 u,h) := by kernel_rfl
theorem env180 (v0 v1 v2 : Value) : mkEnv R180 [v0,v1,v2] = #[v0,v1,v2,u,u,u,u,u,u,u,u,u,u,u,u,u,u,u,u,u,u,u,u,u,u,u,u,u,u,u] := by kernel_rfl
def B181 : RCode := q (r [⟨s 6,m (c (i j 0)),n⟩] []) (q (r [⟨s 8,m (t 0),n⟩,⟨s 9,m (t 1),n⟩,⟨s 10,m (t 2),n⟩,⟨s 11,z (w 116) [t 8,t 9,t 10],n⟩,⟨s 7,m (t 11),n⟩] []) (q (q (r [⟨s 12,m (t 7),n⟩,⟨s 13,.eq false .ptr (t 12) (c (.pointer n)),n⟩,⟨s 14,m (t 13),n⟩,⟨s 15,m (t 7),s (s 14,false)⟩,⟨s 16,y (t 15),s (s 14,false)⟩,⟨s 17,f 1 (t 16),s (s 14,false)⟩,⟨s 18,l 1 false (t 17),s (s 14,false)⟩,⟨s 19,.un .not (t 18),s (s 14,false)⟩,⟨s 20,p (t 14) (c (.bool true)) (t 19),n⟩] []) (d (t 20) (q (r [⟨s 6,m (c (i j 0)),n⟩] []) .ret) o)) (q (q (r [⟨s 21,m (t 7),n⟩,⟨s 22,y (t 21),n⟩,⟨s 23,f 0 (t 22),n⟩,⟨s 24,l 1 false (t 23),n⟩,⟨s 25,b .lss (t 24) (c (i j 0)),n⟩] []) (d (t 25) (q (r [⟨s 6,m (c (i j (-1))),n⟩] []) .ret) o)) (q (r [⟨s 6,m (c (i j 1)),n⟩] []) .ret))))
def R181 : RFunc := ⟨26,[.tmp 6],B181,.rd⟩
theorem c181 : compileF Try.prog 181 R181.iso = s R181 := by kernel_rfl
theorem fin181 (e : Env) (h : Heap) : finishV R181 e h = s (e.getD 6 u,h) := by kernel_rfl
theorem env181 (v0 v1 v2 : Value) : mkEnv R181 [v0,v1,v2] = #[v0,v1,v2,u,u,u,u,u,u,u,u,u,u,u,u,u,u,u,u,u,u,u,u,u,u,u] := by kernel_rfl
def B182 : RCode := q (r [⟨s 4,m (c (i j 0)),n⟩] []) (q (r [⟨s 5,m (t 0),n⟩,⟨s 6,m (t 1),n⟩,⟨s 7,b .add (t 5) (t 6),n⟩,⟨s 8,.max [t 7,c (i j (-1))],n⟩,⟨s 9,.min [t 8,c (i j 1)],n⟩,⟨s 4,m (t 9),n⟩] []) .ret)
def R182 : RFunc := ⟨10,[.tmp 4],B182,.rd⟩
theorem c182 : compileF Try.prog 182 R182.iso = s R182 := by kernel_rfl
theorem fin182 (e : Env) (h : Heap) : finishV R182 e h = s (e.getD 4 u,h) := by kernel_rfl
theorem env182 (v0 v1 : Value) : mkEnv R182 [v0,v1] = #[v0,v1,u,u,u,u,u,u,u,u] := by kernel_rfl
def B191 : RCode := q (r [⟨s 6,m (c (i j 0)),n⟩] []) (q (q (r [⟨s 9,m (t 0),n⟩,⟨s 10,y (t 9),n⟩,⟨s 11,f 0 (t 10),n⟩,⟨s 12,l 1 false (t 11),n⟩,⟨s 13,m (t 1),n⟩,⟨s 14,m (t 2),n⟩,⟨s 15,z (w 86) [t 12,t 13,t 14],n⟩,⟨s 16,b .lss (t 15) (c (i j 0)),n⟩] []) (d (t 16) (r [⟨s 6,m (c (i j 1)),n⟩] []) o)) (q (r [⟨s 18,m (t 0),n⟩,⟨s 19,y (t 18),n⟩,⟨s 20,f 0 (t 19),n⟩,⟨s 21,l 1 false (t 20),n⟩,⟨s 22,m (t 1),n⟩,⟨s 23,m (t 2),n⟩,⟨s 24,m (t 0),n⟩,⟨s 25,y (t 24),n⟩,⟨s 26,f 5 (t 25),n⟩,⟨s 27,l 1 false (t 26),n⟩,⟨s 28,z (w 160) [t 21,t 22,t 23,t 27],n⟩,⟨s 29,x (t 28) 0,n⟩,⟨s 30,x (t 28) 1,n⟩,⟨s 31,z (w 159) [t 29,t 30],n⟩,⟨s 17,m (t 31),n⟩,⟨s 32,x (t 17) 0,n⟩,⟨s 33,x (t 17) 1,n⟩,⟨s 7,m (t 32),n⟩,⟨s 8,m (t 33),n⟩] []) (q (q (r [⟨s 34,m (t 0),n⟩,⟨s 35,y (t 34),n⟩,⟨s 36,f 6 (t 35),n⟩,⟨s 37,l 1 false (t 36),n⟩] []) (d (t 37) (r [⟨s 8,m (c (i j 0)),n⟩] []) o)) (q (r [⟨s 38,m (t 0),n⟩,⟨s 39,y (t 38),n⟩,⟨s 40,f 7 (t 39),n⟩,⟨s 41,l 1 false (t 40),n⟩,⟨s 42,m (t 7),n⟩,⟨s 43,m (t 6),n⟩,⟨s 44,m (t 8),n⟩,⟨s 45,b .xor (t 43) (t 44),n⟩,⟨s 46,z (t 41) [t 42,t 45],n⟩] []) (r [⟨s 47,m (t 0),n⟩,⟨s 48,y (t 47),n⟩,⟨s 49,f 0 (t 48),n⟩,⟨s 50,l 1 false (t 49),n⟩,⟨s 51,m (t 1),n⟩,⟨s 52,m (t 2),n⟩,⟨s 53,z (w 67) [t 50,t 51,t 52],n⟩] [])))))
def R191 : RFunc := ⟨54,[],B191,.run⟩
theorem c191 : compileF Try.prog 191 R191.iso = s R191 := by kernel_rfl
theorem fin191 (e : Env) (h : Heap) : finishV R191 e h = s (.tuple #[],h) := by kernel_rfl
theorem env191 (v0 v1 v2 : Value) : mkEnv R191 [v0,v1,v2] = #[v0,v1,v2,u,u,u,u,u,u,u,u,u,u,u,u,u,u,u,u,u,u,u,u,u,u,u,u,u,u,u,u,u,u,u,u,u,u,u,u,u,u,u,u,u,u,u,u,u,u,u,u,u,u,u] := by kernel_rfl
def B213 : RCode := q (r [⟨s 1,.box (t 0),n⟩,⟨s 2,m (c (.slice n 0 0)),n⟩] []) (q (r [⟨s 3,f 0 (t 1),n⟩,⟨s 4,l 1 false (t 3),n⟩,⟨s 5,z (w 216) [t 4],n⟩,⟨s 2,m (t 5),n⟩] []) .ret)
def R213 : RFunc := ⟨6,[.tmp 2],B213,.run⟩
theorem c213 : compileF Try.prog 213 R213.iso = s R213 := by kernel_rfl
theorem fin213 (e : Env) (h : Heap) : finishV R213 e h = s (e.getD 2 u,h) := by kernel_rfl
theorem env213 (v0 : Value) : mkEnv R213 [v0] = #[v0,u,u,u,u,u] := by kernel_rfl
def B214 : RCode := q (r [⟨s 1,.box (t 0),n⟩,⟨s 2,m (c (i j 0)),n⟩] []) (q (r [⟨s 3,f 0 (t 1),n⟩,⟨s 4,l 1 false (t 3),n⟩,⟨s 5,z (w 217) [t 4],n⟩,⟨s 2,m (t 5),n⟩] []) .ret)
def R214 : RFunc := ⟨6,[.tmp 2],B214,.run⟩
theorem c214 : compileF Try.prog 214 R214.iso = s R214 := by kernel_rfl
theorem fin214 (e : Env) (h : Heap) : finishV R214 e h = s (e.getD 2 u,h) := by kernel_rfl
theorem env214 (v0 : Value) : mkEnv R214 [v0] = #[v0,u,u,u,u,u] := by kernel_rfl
def B215 : RCode := q (r [⟨s 2,.box (t 0),n⟩,⟨s 3,.box (t 1),n⟩] []) (r [⟨s 4,f 0 (t 2),n⟩,⟨s 5,l 1 false (t 4),n⟩,⟨s 6,f 0 (t 3),n⟩,⟨s 7,l 1 false (t 6),n⟩,⟨s 8,f 1 (t 3),n⟩,⟨s 9,l 1 false (t 8),n⟩,⟨s 10,z (w 218) [t 5,t 7,t 9],n⟩] [])
def R215 : RFunc := ⟨11,[],B215,.run⟩
theorem c215 : compileF Try.prog 215 R215.iso = s R215 := by kernel_rfl
theorem fin215 (e : Env) (h : Heap) : finishV R215 e h = s (.tuple #[],h) := by kernel_rfl
theorem env215 (v0 v1 : Value) : mkEnv R215 [v0,v1] = #[v0,v1,u,u,u,u,u,u,u,u,u] := by kernel_rfl
def L216_0a : RCode := q (r [⟨s 43,m (t 3),n⟩,⟨s 44,.len (t 43),n⟩,⟨s 45,b .gtr (t 44) (c (i j 0)),n⟩,⟨s 46,m (t 45),n⟩,⟨s 47,m (t 3),s (s 46,true)⟩,⟨s 48,m (t 3),s (s 46,true)⟩,⟨s 49,.len (t 48),s (s 46,true)⟩,⟨s 50,b .sub (t 49) (c (i j 1)),s (s 46,true)⟩,⟨s 51,.indexSl 1 (t 47) (t 50),s (s 46,true)⟩,⟨s 52,l 1 false (t 51),s (s 46,true)⟩,⟨s 53,b .eql (t 52) (c (i .u8 0)),s (s 46,true)⟩,⟨s 54,p (t 46) (t 53) (c (.bool false)),n⟩] []) (d (t 54) o (.exit 0))
def L216_0b : RCode := .block 1 (r [⟨s 55,m (t 3),n⟩,⟨s 56,m (t 3),n⟩,⟨s 57,.len (t 56),n⟩,⟨s 58,b .sub (t 57) (c (i j 1)),n⟩,⟨s 59,.slice 1 (t 55) n (s (t 58)),n⟩,⟨s 3,m (t 59),n⟩] [])
def L216_0 : RCode := q L216_0a L216_0b
theorem l216_0 : Ok T F (.code L216_0 :: k) e h R = Ok T F (.code L216_0a :: .code L216_0b :: k) e h R := by rw [L216_0,s_seq]
def B216 : RCode := q (r [⟨s 2,m (c (.slice n 0 0)),n⟩] []) (q (q (r [⟨s 6,m (t 0),n⟩,⟨s 7,z (w 144) [t 6],n⟩,⟨s 8,.un .not (t 7),n⟩] []) (d (t 8) (q (r [⟨s 2,m (c (.slice n 0 0)),n⟩] []) .ret) o)) (q (r [⟨s 9,m (t 0),n⟩,⟨s 10,y (t 9),n⟩,⟨s 11,f 1 (t 10),n⟩,⟨s 12,l 1 false (t 11),n⟩,⟨s 13,.append 1 1 (c (.slice n 0 0)) (t 12),n⟩,⟨s 3,m (t 13),n⟩] []) (q (r [⟨s 15,m (t 0),n⟩,⟨s 16,y (t 15),n⟩,⟨s 17,f 2 (t 16),n⟩,⟨s 18,l 1 false (t 17),n⟩,⟨s 19,m (t 0),n⟩,⟨s 20,y (t 19),n⟩,⟨s 21,f 3 (t 20),n⟩,⟨s 22,l 1 false (t 21),n⟩,⟨s 23,z (w 219) [t 18,t 22],n⟩,⟨s 14,m (t 23),n⟩,⟨s 24,x (t 14) 0,n⟩,⟨s 25,x (t 14) 1,n⟩,⟨s 4,m (t 24),n⟩,⟨s 5,m (t 25),n⟩] []) (q (q (r [⟨s 26,m (t 5),n⟩] []) (d (t 26) (r [⟨s 27,m (t 3),n⟩,⟨s 28,z (w 220) [t 27],n⟩] []) o)) (q (r [⟨s 29,m (t 3),n⟩,⟨s 30,m (t 4),n⟩,⟨s 31,b .shr (t 30) (c (i .u64 24)),n⟩,⟨s 32,.convInt .u8 (t 31),n⟩,⟨s 33,m (t 4),n⟩,⟨s 34,b .shr (t 33) (c (i .u64 16)),n⟩,⟨s 35,.convInt .u8 (t 34),n⟩,⟨s 36,m (t 4),n⟩,⟨s 37,b .shr (t 36) (c (i .u64 8)),n⟩,⟨s 38,.convInt .u8 (t 37),n⟩,⟨s 39,m (t 4),n⟩,⟨s 40,.convInt .u8 (t 39),n⟩,⟨s 41,.buildSlice 1 4 [i .u8 0] [(0,t 32),(1,t 35),(2,t 38),(3,t 40)],n⟩,⟨s 42,.append 1 1 (t 29) (t 41),n⟩,⟨s 3,m (t 42),n⟩] []) (q (.block 0 (.loop L216_0)) (q (r [⟨s 60,m (t 0),n⟩,⟨s 61,m (t 0),n⟩,⟨s 62,m (t 0),n⟩,⟨s 63,m (t 0),n⟩,⟨s 64,y (t 60),n⟩,⟨s 65,f 1 (t 64),n⟩,⟨n,.store 1 (t 65) (c (.slice n 0 0)),n⟩,⟨s 66,y (t 61),n⟩,⟨s 67,f 2 (t 66),n⟩,⟨n,.store 1 (t 67) (c (i j 0)),n⟩,⟨s 68,y (t 62),n⟩,⟨s 69,f 3 (t 68),n⟩,⟨n,.store 1 (t 69) (c (i j 4294967295)),n⟩,⟨s 70,y (t 63),n⟩,⟨s 71,f 4 (t 70),n⟩,⟨n,.store 1 (t 71) (c (.bool false)),n⟩] []) (q (r [⟨s 72,m (t 3),n⟩,⟨s 2,m (t 72),n⟩] []) .ret))))))))
def R216 : RFunc := ⟨73,[.tmp 2],B216,.run⟩
theorem c216 : compileF Try.prog 216 R216.iso = s R216 := by kernel_rfl
theorem fin216 (e : Env) (h : Heap) : finishV R216 e h = s (e.getD 2 u,h) := by kernel_rfl
theorem env216 (v0 : Value) : mkEnv R216 [v0] = #[v0,u,u,u,u,u,u,u,u,u,u,u,u,u,u,u,u,u,u,u,u,u,u,u,u,u,u,u,u,u,u,u,u,u,u,u,u,u,u,u,u,u,u,u,u,u,u,u,u,u,u,u,u,u,u,u,u,u,u,u,u,u,u,u,u,u,u,u,u,u,u,u,u] := by kernel_rfl
def B217 : RCode := q (r [⟨s 2,m (c (i j 0)),n⟩] []) (q (q (r [⟨s 3,m (t 0),n⟩,⟨s 4,z (w 144) [t 3],n⟩,⟨s 5,.un .not (t 4),n⟩,⟨s 6,m (t 5),n⟩,⟨s 7,m (t 0),s (s 6,false)⟩,⟨s 8,y (t 7),s (s 6,false)⟩,⟨s 9,f 4 (t 8),s (s 6,false)⟩,⟨s 10,l 1 false (t 9),s (s 6,false)⟩,⟨s 11,.un .not (t 10),s (s 6,false)⟩,⟨s 12,p (t 6) (c (.bool true)) (t 11),n⟩] []) (d (t 12) (q (r [⟨s 2,m (c (i j 0)),n⟩] []) .ret) o)) (q (r [⟨s 13,m (t 0),n⟩,⟨s 14,y (t 13),n⟩,⟨s 15,f 1 (t 14),n⟩,⟨s 16,l 1 false (t 15),n⟩,⟨s 17,.len (t 16),n⟩,⟨s 18,b .add (t 17) (c (i j 4)),n⟩,⟨s 2,m (t 18),n⟩] []) .ret))
def R217 : RFunc := ⟨19,[.tmp 2],B217,.run⟩
theorem c217 : compileF Try.prog 217 R217.iso = s R217 := by kernel_rfl
theorem fin217 (e : Env) (h : Heap) : finishV R217 e h = s (e.getD 2 u,h) := by kernel_rfl
theorem env217 (v0 : Value) : mkEnv R217 [v0] = #[v0,u,u,u,u,u,u,u,u,u,u,u,u,u,u,u,u,u,u] := by kernel_rfl
def L218_0a : RCode := q (r [⟨s 73,m (t 0),n⟩,⟨s 74,y (t 73),n⟩,⟨s 75,f 3 (t 74),n⟩,⟨s 76,l 1 false (t 75),n⟩,⟨s 77,b .lss (t 76) (c (i j 16777216)),n⟩] []) (d (t 77) o (.exit 0))
def L218_0b : RCode := .block 1 (q (r [⟨s 78,m (t 0),n⟩,⟨s 79,m (t 0),n⟩,⟨s 80,y (t 79),n⟩,⟨s 81,f 1 (t 80),n⟩,⟨s 82,l 1 false (t 81),n⟩,⟨s 83,m (t 0),n⟩,⟨s 84,y (t 83),n⟩,⟨s 85,f 2 (t 84),n⟩,⟨s 86,l 1 false (t 85),n⟩,⟨s 87,b .shr (t 86) (c (i .u64 24)),n⟩,⟨s 88,.convInt .u8 (t 87),n⟩,⟨s 89,.buildSlice 1 1 [i .u8 0] [(0,t 88)],n⟩,⟨s 90,.append 1 1 (t 82) (t 89),n⟩,⟨s 91,y (t 78),n⟩,⟨s 92,f 1 (t 91),n⟩,⟨n,.store 1 (t 92) (t 90),n⟩] []) (q (r [⟨s 93,m (t 0),n⟩,⟨s 94,m (t 0),n⟩,⟨s 95,y (t 94),n⟩,⟨s 96,f 2 (t 95),n⟩,⟨s 97,l 1 false (t 96),n⟩,⟨s 98,b .shl (t 97) (c (i .u64 8)),n⟩,⟨s 99,b .and (t 98) (c (i j 4294967295)),n⟩,⟨s 100,y (t 93),n⟩,⟨s 101,f 2 (t 100),n⟩,⟨n,.store 1 (t 101) (t 99),n⟩] []) (r [⟨s 102,m (t 0),n⟩,⟨s 103,y (t 102),n⟩,⟨s 104,f 3 (t 103),n⟩,⟨s 105,l 1 false (t 104),n⟩,⟨s 106,b .shl (t 105) (c (i .u64 8)),n⟩,⟨s 107,y (t 102),n⟩,⟨s 108,f 3 (t 107),n⟩,⟨n,.store 1 (t 108) (t 106),n⟩] [])))
def L218_0 : RCode := q L218_0a L218_0b
theorem l218_0 : Ok T F (.code L218_0 :: k) e h R = Ok T F (.code L218_0a :: .code L218_0b :: k) e h R := by rw [L218_0,s_seq]
def B218 : RCode := q (r [⟨s 6,m (c (i j 0)),n⟩] []) (q (q (r [⟨s 8,m (t 0),n⟩,⟨s 9,z (w 144) [t 8],n⟩,⟨s 10,.un .not (t 9),n⟩] []) (d (t 10) (q (r [⟨s 6,m (c (i j 6)),n⟩] []) .ret) o)) (q (q (r [⟨s 11,m (t 0),n⟩,⟨s 12,y (t 11),n⟩,⟨s 13,f 0 (t 12),n⟩,⟨s 14,m (t 1),n⟩,⟨s 15,z (w 221) [t 13,t 14],n⟩,⟨s 16,.un .not (t 15),n⟩,⟨s 17,m (t 16),n⟩,⟨s 18,m (t 2),s (s 17,false)⟩,⟨s 19,b .neq (t 18) (c (i j 0)),s (s 17,false)⟩,⟨s 20,m (t 19),s (s 17,false)⟩,⟨s 21,m (t 2),s (s 20,true)⟩,⟨s 22,b .neq (t 21) (c (i j 1)),s (s 20,true)⟩,⟨s 23,p (t 20) (t 22) (c (.bool false)),s (s 17,false)⟩,⟨s 24,p (t 17) (c (.bool true)) (t 23),n⟩] []) (d (t 24) (q (r [⟨s 6,m (c (i j 2)),n⟩] []) .ret) o)) (q (r [⟨s 25,m (t 0),n⟩,⟨s 26,y (t 25),n⟩,⟨s 27,f 0 (t 26),n⟩,⟨s 28,m (t 1),n⟩,⟨s 29,m (t 0),n⟩,⟨s 30,y (t 29),n⟩,⟨s 31,f 3 (t 30),n⟩,⟨s 32,l 1 false (t 31),n⟩,⟨s 33,z (w 222) [t 27,t 28,t 32],n⟩,⟨s 7,m (t 33),n⟩] []) (q (q (r [⟨s 34,m (t 2),n⟩,⟨s 35,b .eql (t 34) (c (i j 0)),n⟩] []) (d (t 35) (r [⟨s 36,m (t 0),n⟩,⟨s 37,m (t 7),n⟩,⟨s 38,y (t 36),n⟩,⟨s 39,f 3 (t 38),n⟩,⟨n,.store 1 (t 39) (t 37),n⟩] []) (q (r [⟨s 40,m (t 0),n⟩,⟨s 41,y (t 40),n⟩,⟨s 42,f 2 (t 41),n⟩,⟨s 43,l 1 false (t 42),n⟩,⟨s 44,m (t 7),n⟩,⟨s 45,b .add (t 43) (t 44),n⟩,⟨s 46,y (t 40),n⟩,⟨s 47,f 2 (t 46),n⟩,⟨n,.store 1 (t 47) (t 45),n⟩] []) (q (r [⟨s 48,m (t 0),n⟩,⟨s 49,y (t 48),n⟩,⟨s 50,f 3 (t 49),n⟩,⟨s 51,l 1 false (t 50),n⟩,⟨s 52,m (t 7),n⟩,⟨s 53,b .sub (t 51) (t 52),n⟩,⟨s 54,y (t 48),n⟩,⟨s 55,f 3 (t 54),n⟩,⟨n,.store 1 (t 55) (t 53),n⟩] []) (q (r [⟨s 56,m (t 0),n⟩,⟨s 57,y (t 56),n⟩,⟨s 58,f 2 (t 57),n⟩,⟨s 59,l 1 false (t 58),n⟩,⟨s 60,b .gtr (t 59) (c (i j 4294967295)),n⟩] []) (d (t 60) (q (r [⟨s 61,m (t 0),n⟩,⟨s 62,y (t 61),n⟩,⟨s 63,f 2 (t 62),n⟩,⟨s 64,l 1 false (t 63),n⟩,⟨s 65,b .sub (t 64) (c (i j 4294967296)),n⟩,⟨s 66,y (t 61),n⟩,⟨s 67,f 2 (t 66),n⟩,⟨n,.store 1 (t 67) (t 65),n⟩] []) (r [⟨s 68,m (t 0),n⟩,⟨s 69,y (t 68),n⟩,⟨s 70,f 1 (t 69),n⟩,⟨s 71,l 1 false (t 70),n⟩,⟨s 72,z (w 220) [t 71],n⟩] [])) o)))))) (q (.block 0 (.loop L218_0)) (q (r [⟨s 109,m (t 0),n⟩,⟨s 110,y (t 109),n⟩,⟨s 111,f 4 (t 110),n⟩,⟨n,.store 1 (t 111) (c (.bool true)),n⟩] []) (q (r [⟨s 112,m (t 0),n⟩,⟨s 113,y (t 112),n⟩,⟨s 114,f 0 (t 113),n⟩,⟨s 115,m (t 1),n⟩,⟨s 116,m (t 2),n⟩,⟨s 117,z (w 223) [t 114,t 115,t 116],n⟩] []) (q (r [⟨s 6,m (c (i j 0)),n⟩] []) .ret))))))))
def R218 : RFunc := ⟨118,[.tmp 6],B218,.run⟩
theorem c218 : compileF Try.prog 218 R218.iso = s R218 := by kernel_rfl
theorem fin218 (e : Env) (h : Heap) : finishV R218 e h = s (e.getD 6 u,h) := by kernel_rfl
theorem env218 (v0 v1 v2 : Value) : mkEnv R218 [v0,v1,v2] = #[v0,v1,v2,u,u,u,u,u,u,u,u,u,u,u,u,u,u,u,u,u,u,u,u,u,u,u,u,u,u,u,u,u,u,u,u,u,u,u,u,u,u,u,u,u,u,u,u,u,u,u,u,u,u,u,u,u,u,u,u,u,u,u,u,u,u,u,u,u,u,u,u,u,u,u,u,u,u,u,u,u,u,u,u,u,u,u,u,u,u,u,u,u,u,u,u,u,u,u,u,u,u,u,u,u,u,u,u,u,u,u,u,u,u,u,u,u,u,u] := by kernel_rfl
def L219_0a : RCode := .block 1 (q (r [⟨s 15,m (t 0),n⟩,⟨s 16,m (t 6),n⟩,⟨s 17,b .shl (c (i j 1)) (t 16),n⟩,⟨s 18,b .add (t 15) (t 17),n⟩,⟨s 19,b .sub (t 18) (c (i j 1)),n⟩,⟨s 20,m (t 6),n⟩,⟨s 21,b .shr (t 19) (t 20),n⟩,⟨s 22,m (t 6),n⟩,⟨s 23,b .shl (t 21) (t 22),n⟩,⟨s 4,m (t 23),n⟩] []) (q (r [⟨s 24,m (t 4),n⟩,⟨s 25,m (t 0),n⟩,⟨s 26,m (t 1),n⟩,⟨s 27,b .add (t 25) (t 26),n⟩,⟨s 28,b .lss (t 24) (t 27),n⟩,⟨s 29,m (t 28),n⟩,⟨s 30,m (t 6),s (s 29,false)⟩,⟨s 31,b .eql (t 30) (c (i .u64 0)),s (s 29,false)⟩,⟨s 32,p (t 29) (c (.bool true)) (t 31),n⟩] []) (d (t 32) (q (r [⟨s 33,m (t 4),n⟩,⟨s 4,m (t 33),n⟩,⟨s 5,m (c (.bool false)),n⟩] []) .ret) o)))
def L219_0b : RCode := r [⟨s 13,m (t 6),n⟩,⟨s 14,b .sub (t 13) (c (i .u64 8)),n⟩,⟨s 6,m (t 14),n⟩] []
def L219_0 : RCode := q L219_0a L219_0b
theorem l219_0 : Ok T F (.code L219_0 :: k) e h R = Ok T F (.code L219_0a :: .code L219_0b :: k) e h R := by rw [L219_0,s_seq]
def B219 : RCode := q (r [⟨s 4,m (c (i j 0)),n⟩,⟨s 5,m (c (.bool false)),n⟩] []) (q (q (r [⟨s 7,m (t 0),n⟩,⟨s 8,b .eql (t 7) (c (i j 0)),n⟩] []) (d (t 8) (q (r [⟨s 4,m (c (i j 0)),n⟩,⟨s 5,m (c (.bool false)),n⟩] []) .ret) o)) (q (q (r [⟨s 9,m (t 0),n⟩,⟨s 10,m (t 1),n⟩,⟨s 11,b .add (t 9) (t 10),n⟩,⟨s 12,b .gtr (t 11) (c (i j 4294967296)),n⟩] []) (d (t 12) (q (r [⟨s 4,m (c (i j 0)),n⟩,⟨s 5,m (c (.bool true)),n⟩] []) .ret) o)) (q (r [⟨s 6,m (c (i .u64 24)),n⟩] []) (.block 0 (.loop L219_0)))))
def R219 : RFunc := ⟨34,[.tmp 4,.tmp 5],B219,.run⟩
theorem c219 : compileF Try.prog 219 R219.iso = s R219 := by kernel_rfl
theorem fin219 (e : Env) (h : Heap) : finishV R219 e h = s (.tuple #[e.getD 4 u,e.getD 5 u],h) := by kernel_rfl
theorem env219 (v0 v1 : Value) : mkEnv R219 [v0,v1] = #[v0,v1,u,u,u,u,u,u,u,u,u,u,u,u,u,u,u,u,u,u,u,u,u,u,u,u,u,u,u,u,u,u,u,u] := by kernel_rfl
def L220_0a : RCode := q (r [⟨s 6,m (t 2),n⟩,⟨s 7,b .geq (t 6) (c (i j 0)),n⟩] []) (d (t 7) o (.exit 0))
def L220_0b : RCode := q (.block 1 (q (r [⟨s 10,m (t 0),n⟩,⟨s 11,m (t 2),n⟩,⟨s 12,.indexSl 1 (t 10) (t 11),n⟩,⟨s 13,l 1 false (t 12),n⟩,⟨s 14,b .add (t 13) (c (i .u8 1)),n⟩,⟨s 15,.indexSl 1 (t 10) (t 11),n⟩,⟨n,.store 1 (t 15) (t 14),n⟩] []) (q (r [⟨s 16,m (t 0),n⟩,⟨s 17,m (t 2),n⟩,⟨s 18,.indexSl 1 (t 16) (t 17),n⟩,⟨s 19,l 1 false (t 18),n⟩,⟨s 20,b .neq (t 19) (c (i .u8 0)),n⟩] []) (d (t 20) .ret o)))) (r [⟨s 8,m (t 2),n⟩,⟨s 9,b .sub (t 8) (c (i j 1)),n⟩,⟨s 2,m (t 9),n⟩] [])
def L220_0 : RCode := q L220_0a L220_0b
theorem l220_0 : Ok T F (.code L220_0 :: k) e h R = Ok T F (.code L220_0a :: .code L220_0b :: k) e h R := by rw [L220_0,s_seq]
def B220 : RCode := q (r [⟨s 3,m (t 0),n⟩,⟨s 4,.len (t 3),n⟩,⟨s 5,b .sub (t 4) (c (i j 1)),n⟩,⟨s 2,m (t 5),n⟩] []) (.block 0 (.loop L220_0))
def R220 : RFunc := ⟨21,[],B220,.run⟩
theorem c220 : compileF Try.prog 220 R220.iso = s R220 := by kernel_rfl
theorem fin220 (e : Env) (h : Heap) : finishV R220 e h = s (.tuple #[],h) := by kernel_rfl
theorem env220 (v0 : Value) : mkEnv R220 [v0] = #[v0,u,u,u,u,u,u,u,u,u,u,u,u,u,u,u,u,u,u,u,u] := by kernel_rfl
def B221 : RCode := q (r [⟨s 4,m (c (.bool false)),n⟩] []) (q (r [⟨s 5,m (t 1),n⟩,⟨s 6,b .geq (t 5) (c (i j 0)),n⟩,⟨s 7,m (t 6),n⟩,⟨s 8,m (t 1),s (s 7,true)⟩,⟨s 9,m (t 0),s (s 7,true)⟩,⟨s 10,y (t 9),s (s 7,true)⟩,⟨s 11,f 0 (t 10),s (s 7,true)⟩,⟨s 12,l 1 false (t 11),s (s 7,true)⟩,⟨s 13,.len (t 12),s (s 7,true)⟩,⟨s 14,b .lss (t 8) (t 13),s (s 7,true)⟩,⟨s 15,p (t 7) (t 14) (c (.bool false)),n⟩,⟨s 4,m (t 15),n⟩] []) .ret)
def R221 : RFunc := ⟨16,[.tmp 4],B221,.run⟩
theorem c221 : compileF Try.prog 221 R221.iso = s R221 := by kernel_rfl
theorem fin221 (e : Env) (h : Heap) : finishV R221 e h = s (e.getD 4 u,h) := by kernel_rfl
theorem env221 (v0 v1 : Value) : mkEnv R221 [v0,v1] = #[v0,v1,u,u,u,u,u,u,u,u,u,u,u,u,u,u] := by kernel_rfl
def B222 : RCode := q (r [⟨s 6,m (c (i j 0)),n⟩] []) (q (r [⟨s 7,m (t 2),n⟩,⟨s 8,b .quo (t 7) (c (i j 4096)),n⟩,⟨s 9,m (t 0),n⟩,⟨s 10,y (t 9),n⟩,⟨s 11,f 0 (t 10),n⟩,⟨s 12,l 1 false (t 11),n⟩,⟨s 13,m (t 1),n⟩,⟨s 14,.indexSl 1 (t 12) (t 13),n⟩,⟨s 15,l 1 false (t 14),n⟩,⟨s 16,b .mul (t 8) (t 15),n⟩,⟨s 6,m (t 16),n⟩] []) .ret)
def R222 : RFunc := ⟨17,[.tmp 6],B222,.run⟩
theorem c222 : compileF Try.prog 222 R222.iso = s R222 := by kernel_rfl
theorem fin222 (e : Env) (h : Heap) : finishV R222 e h = s (e.getD 6 u,h) := by kernel_rfl
theorem env222 (v0 v1 v2 : Value) : mkEnv R222 [v0,v1,v2] = #[v0,v1,v2,u,u,u,u,u,u,u,u,u,u,u,u,u,u] := by kernel_rfl
def B223 : RCode := r [⟨s 6,m (t 0),n⟩,⟨s 7,y (t 6),n⟩,⟨s 8,f 0 (t 7),n⟩,⟨s 9,l 1 false (t 8),n⟩,⟨s 10,m (t 1),n⟩,⟨s 11,m (t 0),n⟩,⟨s 12,y (t 11),n⟩,⟨s 13,f 0 (t 12),n⟩,⟨s 14,l 1 false (t 13),n⟩,⟨s 15,m (t 1),n⟩,⟨s 16,.indexSl 1 (t 14) (t 15),n⟩,⟨s 17,l 1 false (t 16),n⟩,⟨s 18,m (t 2),n⟩,⟨s 19,z (w 224) [t 17,t 18],n⟩,⟨s 20,.indexSl 1 (t 9) (t 10),n⟩,⟨n,.store 1 (t 20) (t 19),n⟩] [(3,13)]
def R223 : RFunc := ⟨21,[],B223,.run⟩
theorem c223 : compileF Try.prog 223 R223.iso = s R223 := by kernel_rfl
theorem fin223 (e : Env) (h : Heap) : finishV R223 e h = s (.tuple #[],h) := by kernel_rfl
theorem env223 (v0 v1 v2 : Value) : mkEnv R223 [v0,v1,v2] = #[v0,v1,v2,u,u,u,u,u,u,u,u,u,u,u,u,u,u,u,u,u,u] := by kernel_rfl
def B224 : RCode := q (r [⟨s 4,m (c (i j 0)),n⟩] []) (q (q (r [⟨s 5,m (t 0),n⟩,⟨s 6,b .lss (t 5) (c (i j 0)),n⟩,⟨s 7,m (t 6),n⟩,⟨s 8,m (t 0),s (s 7,false)⟩,⟨s 9,b .gtr (t 8) (c (i j 4096)),s (s 7,false)⟩,⟨s 10,p (t 7) (c (.bool true)) (t 9),n⟩] []) (d (t 10) (q (r [⟨s 4,m (c (i j 0)),n⟩] []) .ret) o)) (q (q (r [⟨s 11,m (t 1),n⟩] []) (.block 0 (q (r [⟨s 13,b .eql (t 11) (c (i j 0)),n⟩,⟨s 12,m (t 13),n⟩] []) (d (t 12) (q (r [⟨s 14,m (t 0),n⟩,⟨s 15,m (t 0),n⟩,⟨s 16,b .sub (c (i j 4096)) (t 15),n⟩,⟨s 17,b .quo (t 16) (c (i j 32)),n⟩,⟨s 18,b .add (t 14) (t 17),n⟩,⟨s 4,m (t 18),n⟩] []) .ret) (q (r [⟨s 20,b .eql (t 11) (c (i j 1)),n⟩,⟨s 19,m (t 20),n⟩] []) (d (t 19) (q (r [⟨s 21,m (t 0),n⟩,⟨s 22,m (t 0),n⟩,⟨s 23,b .quo (t 22) (c (i j 32)),n⟩,⟨s 24,b .sub (t 21) (t 23),n⟩,⟨s 4,m (t 24),n⟩] []) .ret) o)))))) (q (r [⟨s 4,m (c (i j 0)),n⟩] []) .ret)))
def R224 : RFunc := ⟨25,[.tmp 4],B224,.run⟩
theorem c224 : compileF Try.prog 224 R224.iso = s R224 := by kernel_rfl
theorem fin224 (e : Env) (h : Heap) : finishV R224 e h = s (e.getD 4 u,h) := by kernel_rfl
theorem env224 (v0 v1 : Value) : mkEnv R224 [v0,v1] = #[v0,v1,u,u,u,u,u,u,u,u,u,u,u,u,u,u,u,u,u,u,u,u,u,u,u] := by kernel_rfl
def B225 : RCode := q (r [⟨s 2,m (c (i j 0)),n⟩] []) (q (q (r [⟨s 3,m (t 0),n⟩,⟨s 4,.eq false .ptr (t 3) (c (.pointer n)),n⟩,⟨s 5,m (t 4),n⟩,⟨s 6,m (t 0),s (s 5,false)⟩,⟨s 7,y (t 6),s (s 5,false)⟩,⟨s 8,f 0 (t 7),s (s 5,false)⟩,⟨s 9,f 0 (t 8),s (s 5,false)⟩,⟨s 10,l 1 false (t 9),s (s 5,false)⟩,⟨s 11,.un .not (t 10),s (s 5,false)⟩,⟨s 12,p (t 5) (c (.bool true)) (t 11),n⟩] []) (d (t 12) (q (r [⟨s 2,m (c (i j 0)),n⟩] []) .ret) o)) (q (r [⟨s 13,m (t 0),n⟩,⟨s 14,y (t 13),n⟩,⟨s 15,f 0 (t 14),n⟩,⟨s 16,f 1 (t 15),n⟩,⟨s 17,l 1 false (t 16),n⟩,⟨s 18,.len (t 17),n⟩,⟨s 2,m (t 18),n⟩] []) .ret))
def R225 : RFunc := ⟨19,[.tmp 2],B225,.run⟩
theorem c225 : compileF Try.prog 225 R225.iso = s R225 := by kernel_rfl
theorem fin225 (e : Env) (h : Heap) : finishV R225 e h = s (e.getD 2 u,h) := by kernel_rfl
theorem env225 (v0 : Value) : mkEnv R225 [v0] = #[v0,u,u,u,u,u,u,u,u,u,u,u,u,u,u,u,u,u,u] := by kernel_rfl
def B226 : RCode := q (r [⟨s 1,.box (t 0),n⟩,⟨s 2,m (c (.slice n 0 0)),n⟩] []) (q (r [⟨s 3,f 0 (t 1),n⟩,⟨s 4,l 1 false (t 3),n⟩,⟨s 5,z (w 229) [t 4],n⟩,⟨s 2,m (t 5),n⟩] []) .ret)
def R226 : RFunc := ⟨6,[.tmp 2],B226,.run⟩
theorem c226 : compileF Try.prog 226 R226.iso = s R226 := by kernel_rfl
theorem fin226 (e : Env) (h : Heap) : finishV R226 e h = s (e.getD 2 u,h) := by kernel_rfl
theorem env226 (v0 : Value) : mkEnv R226 [v0] = #[v0,u,u,u,u,u] := by kernel_rfl
def B227 : RCode := q (r [⟨s 1,.box (t 0),n⟩,⟨s 2,m (c (i j 0)),n⟩] []) (q (r [⟨s 3,f 0 (t 1),n⟩,⟨s 4,l 1 false (t 3),n⟩,⟨s 5,z (w 225) [t 4],n⟩,⟨s 2,m (t 5),n⟩] []) .ret)
def R227 : RFunc := ⟨6,[.tmp 2],B227,.run⟩
theorem c227 : compileF Try.prog 227 R227.iso = s R227 := by kernel_rfl
theorem fin227 (e : Env) (h : Heap) : finishV R227 e h = s (e.getD 2 u,h) := by kernel_rfl
theorem env227 (v0 : Value) : mkEnv R227 [v0] = #[v0,u,u,u,u,u] := by kernel_rfl
def B228 : RCode := q (r [⟨s 2,.box (t 0),n⟩,⟨s 3,.box (t 1),n⟩] []) (r [⟨s 4,f 0 (t 2),n⟩,⟨s 5,l 1 false (t 4),n⟩,⟨s 6,f 1 (t 3),n⟩,⟨s 7,l 1 false (t 6),n⟩,⟨s 8,z (w 230) [t 5,t 7],n⟩] [])
def R228 : RFunc := ⟨9,[],B228,.run⟩
theorem c228 : compileF Try.prog 228 R228.iso = s R228 := by kernel_rfl
theorem fin228 (e : Env) (h : Heap) : finishV R228 e h = s (.tuple #[],h) := by kernel_rfl
theorem env228 (v0 v1 : Value) : mkEnv R228 [v0,v1] = #[v0,v1,u,u,u,u,u,u,u] := by kernel_rfl
def L229_0a : RCode := q (r [⟨s 19,m (t 3),n⟩,⟨s 20,.len (t 19),n⟩,⟨s 21,b .gtr (t 20) (c (i j 0)),n⟩,⟨s 22,m (t 21),n⟩,⟨s 23,m (t 3),s (s 22,true)⟩,⟨s 24,m (t 3),s (s 22,true)⟩,⟨s 25,.len (t 24),s (s 22,true)⟩,⟨s 26,b .sub (t 25) (c (i j 1)),s (s 22,true)⟩,⟨s 27,.indexSl 1 (t 23) (t 26),s (s 22,true)⟩,⟨s 28,l 1 false (t 27),s (s 22,true)⟩,⟨s 29,b .eql (t 28) (c (i .u8 0)),s (s 22,true)⟩,⟨s 30,p (t 22) (t 29) (c (.bool false)),n⟩] []) (d (t 30) o (.exit 0))
def L229_0b : RCode := .block 1 (r [⟨s 31,m (t 3),n⟩,⟨s 32,m (t 3),n⟩,⟨s 33,.len (t 32),n⟩,⟨s 34,b .sub (t 33) (c (i j 1)),n⟩,⟨s 35,.slice 1 (t 31) n (s (t 34)),n⟩,⟨s 3,m (t 35),n⟩] [])
def L229_0 : RCode := q L229_0a L229_0b
theorem l229_0 : Ok T F (.code L229_0 :: k) e h R = Ok T F (.code L229_0a :: .code L229_0b :: k) e h R := by rw [L229_0,s_seq]
def B229 : RCode := q (r [⟨s 2,m (c (.slice n 0 0)),n⟩] []) (q (q (r [⟨s 4,m (t 0),n⟩,⟨s 5,.eq false .ptr (t 4) (c (.pointer n)),n⟩,⟨s 6,m (t 5),n⟩,⟨s 7,m (t 0),s (s 6,false)⟩,⟨s 8,y (t 7),s (s 6,false)⟩,⟨s 9,f 0 (t 8),s (s 6,false)⟩,⟨s 10,f 0 (t 9),s (s 6,false)⟩,⟨s 11,l 1 false (t 10),s (s 6,false)⟩,⟨s 12,.un .not (t 11),s (s 6,false)⟩,⟨s 13,p (t 6) (c (.bool true)) (t 12),n⟩] []) (d (t 13) (q (r [⟨s 2,m (c (.slice n 0 0)),n⟩] []) .ret) o)) (q (r [⟨s 14,m (t 0),n⟩,⟨s 15,y (t 14),n⟩,⟨s 16,f 0 (t 15),n⟩,⟨s 17,f 1 (t 16),n⟩,⟨s 18,l 1 false (t 17),n⟩,⟨s 3,m (t 18),n⟩] []) (q (.block 0 (.loop L229_0)) (q (r [⟨s 36,m (t 0),n⟩,⟨s 37,m (t 0),n⟩,⟨s 38,y (t 36),n⟩,⟨s 39,f 0 (t 38),n⟩,⟨s 40,f 1 (t 39),n⟩,⟨n,.store 1 (t 40) (c (.slice n 0 0)),n⟩,⟨s 41,y (t 37),n⟩,⟨s 42,f 0 (t 41),n⟩,⟨s 43,f 2 (t 42),n⟩,⟨n,.store 1 (t 43) (c (i j 0)),n⟩] []) (q (r [⟨s 44,m (t 3),n⟩,⟨s 2,m (t 44),n⟩] []) .ret)))))
def R229 : RFunc := ⟨45,[.tmp 2],B229,.run⟩
theorem c229 : compileF Try.prog 229 R229.iso = s R229 := by kernel_rfl
theorem fin229 (e : Env) (h : Heap) : finishV R229 e h = s (e.getD 2 u,h) := by kernel_rfl
theorem env229 (v0 : Value) : mkEnv R229 [v0] = #[v0,u,u,u,u,u,u,u,u,u,u,u,u,u,u,u,u,u,u,u,u,u,u,u,u,u,u,u,u,u,u,u,u,u,u,u,u,u,u,u,u,u,u,u,u] := by kernel_rfl
def B230 : RCode := q (r [⟨s 4,m (c (i j 0)),n⟩] []) (q (q (r [⟨s 5,m (t 0),n⟩,⟨s 6,.eq false .ptr (t 5) (c (.pointer n)),n⟩,⟨s 7,m (t 6),n⟩,⟨s 8,m (t 0),s (s 7,false)⟩,⟨s 9,y (t 8),s (s 7,false)⟩,⟨s 10,f 0 (t 9),s (s 7,false)⟩,⟨s 11,f 0 (t 10),s (s 7,false)⟩,⟨s 12,l 1 false (t 11),s (s 7,false)⟩,⟨s 13,.un .not (t 12),s (s 7,false)⟩,⟨s 14,p (t 7) (c (.bool true)) (t 13),n⟩] []) (d (t 14) (q (r [⟨s 4,m (c (i j 6)),n⟩] []) .ret) o)) (q (q (r [⟨s 15,m (t 1),n⟩,⟨s 16,b .neq (t 15) (c (i j 0)),n⟩,⟨s 17,m (t 16),n⟩,⟨s 18,m (t 1),s (s 17,true)⟩,⟨s 19,b .neq (t 18) (c (i j 1)),s (s 17,true)⟩,⟨s 20,p (t 17) (t 19) (c (.bool false)),n⟩] []) (d (t 20) (q (r [⟨s 4,m (c (i j 2)),n⟩] []) .ret) o)) (q (r [⟨s 21,m (t 0),n⟩,⟨s 22,y (t 21),n⟩,⟨s 23,f 0 (t 22),n⟩,⟨s 24,m (t 1),n⟩,⟨s 25,z (w 231) [t 23,t 24],n⟩] []) (q (r [⟨s 4,m (c (i j 0)),n⟩] []) .ret))))
def R230 : RFunc := ⟨26,[.tmp 4],B230,.run⟩
theorem c230 : compileF Try.prog 230 R230.iso = s R230 := by kernel_rfl
theorem fin230 (e : Env) (h : Heap) : finishV R230 e h = s (e.getD 4 u,h) := by kernel_rfl
theorem env230 (v0 v1 : Value) : mkEnv R230 [v0,v1] = #[v0,v1,u,u,u,u,u,u,u,u,u,u,u,u,u,u,u,u,u,u,u,u,u,u,u,u] := by kernel_rfl
def B231 : RCode := q (q (r [⟨s 4,m (t 0),n⟩,⟨s 5,y (t 4),n⟩,⟨s 6,f 2 (t 5),n⟩,⟨s 7,l 1 false (t 6),n⟩,⟨s 8,b .rem (t 7) (c (i j 8)),n⟩,⟨s 9,b .eql (t 8) (c (i j 0)),n⟩] []) (d (t 9) (r [⟨s 10,m (t 0),n⟩,⟨s 11,m (t 0),n⟩,⟨s 12,y (t 11),n⟩,⟨s 13,f 1 (t 12),n⟩,⟨s 14,l 1 false (t 13),n⟩,⟨s 15,.buildSlice 1 1 [i .u8 0] [(0,c (i .u8 0))],n⟩,⟨s 16,.append 1 1 (t 14) (t 15),n⟩,⟨s 17,y (t 10),n⟩,⟨s 18,f 1 (t 17),n⟩,⟨n,.store 1 (t 18) (t 16),n⟩] []) o)) (q (r [⟨s 19,m (t 0),n⟩,⟨s 20,y (t 19),n⟩,⟨s 21,f 1 (t 20),n⟩,⟨s 22,l 1 false (t 21),n⟩,⟨s 23,m (t 0),n⟩,⟨s 24,y (t 23),n⟩,⟨s 25,f 2 (t 24),n⟩,⟨s 26,l 1 false (t 25),n⟩,⟨s 27,b .quo (t 26) (c (i j 8)),n⟩,⟨s 28,.indexSl 1 (t 22) (t 27),n⟩,⟨s 29,l 1 false (t 28),n⟩,⟨s 30,m (t 1),n⟩,⟨s 31,m (t 0),n⟩,⟨s 32,y (t 31),n⟩,⟨s 33,f 2 (t 32),n⟩,⟨s 34,l 1 false (t 33),n⟩,⟨s 35,b .rem (t 34) (c (i j 8)),n⟩,⟨s 36,b .sub (c (i j 7)) (t 35),n⟩,⟨s 37,.convInt .u64 (t 36),n⟩,⟨s 38,b .shl (t 30) (t 37),n⟩,⟨s 39,.convInt .u8 (t 38),n⟩,⟨s 40,b .or (t 29) (t 39),n⟩,⟨s 41,.indexSl 1 (t 22) (t 27),n⟩,⟨n,.store 1 (t 41) (t 40),n⟩] []) (r [⟨s 42,m (t 0),n⟩,⟨s 43,y (t 42),n⟩,⟨s 44,f 2 (t 43),n⟩,⟨s 45,l 1 false (t 44),n⟩,⟨s 46,b .add (t 45) (c (i j 1)),n⟩,⟨s 47,y (t 42),n⟩,⟨s 48,f 2 (t 47),n⟩,⟨n,.store 1 (t 48) (t 46),n⟩] []))
def R231 : RFunc := ⟨49,[],B231,.run⟩
theorem c231 : compileF Try.prog 231 R231.iso = s R231 := by kernel_rfl
theorem fin231 (e : Env) (h : Heap) : finishV R231 e h = s (.tuple #[],h) := by kernel_rfl
theorem env231 (v0 v1 : Value) : mkEnv R231 [v0,v1] = #[v0,v1,u,u,u,u,u,u,u,u,u,u,u,u,u,u,u,u,u,u,u,u,u,u,u,u,u,u,u,u,u,u,u,u,u,u,u,u,u,u,u,u,u,u,u,u,u,u,u] := by kernel_rfl
def B232 : RCode := q (r [⟨s 2,.box (t 0),n⟩,⟨s 4,m (c (i j 0)),n⟩] []) (q (r [⟨s 8,f 0 (t 2),n⟩,⟨s 9,l 1 false (t 8),n⟩,⟨s 10,m (t 1),n⟩,⟨s 11,z (w 233) [t 9,t 10],n⟩,⟨s 7,m (t 11),n⟩,⟨s 12,x (t 7) 0,n⟩,⟨s 13,x (t 7) 1,n⟩,⟨s 5,m (t 12),n⟩,⟨s 6,m (t 13),n⟩] []) (q (r [⟨s 14,m (t 5),n⟩,⟨s 4,m (t 14),n⟩] []) .ret))
def R232 : RFunc := ⟨15,[.tmp 4],B232,.run⟩
theorem c232 : compileF Try.prog 232 R232.iso = s R232 := by kernel_rfl
theorem fin232 (e : Env) (h : Heap) : finishV R232 e h = s (e.getD 4 u,h) := by kernel_rfl
theorem env232 (v0 v1 : Value) : mkEnv R232 [v0,v1] = #[v0,v1,u,u,u,u,u,u,u,u,u,u,u,u,u] := by kernel_rfl
def L233_0a : RCode := q (r [⟨s 59,m (t 0),n⟩,⟨s 60,y (t 59),n⟩,⟨s 61,f 4 (t 60),n⟩,⟨s 62,l 1 false (t 61),n⟩,⟨s 63,b .lss (t 62) (c (i j 16777216)),n⟩] []) (d (t 63) o (.exit 0))
def L233_0b : RCode := .block 1 (q (r [⟨s 64,m (t 0),n⟩,⟨s 65,m (t 0),n⟩,⟨s 66,y (t 65),n⟩,⟨s 67,f 3 (t 66),n⟩,⟨s 68,l 1 false (t 67),n⟩,⟨s 69,b .shl (t 68) (c (i .u64 8)),n⟩,⟨s 70,m (t 0),n⟩,⟨s 71,z (w 171) [t 70],n⟩,⟨s 72,b .add (t 69) (t 71),n⟩,⟨s 73,y (t 64),n⟩,⟨s 74,f 3 (t 73),n⟩,⟨n,.store 1 (t 74) (t 72),n⟩] [(4,7)]) (r [⟨s 75,m (t 0),n⟩,⟨s 76,y (t 75),n⟩,⟨s 77,f 4 (t 76),n⟩,⟨s 78,l 1 false (t 77),n⟩,⟨s 79,b .shl (t 78) (c (i .u64 8)),n⟩,⟨s 80,y (t 75),n⟩,⟨s 81,f 4 (t 80),n⟩,⟨n,.store 1 (t 81) (t 79),n⟩] []))
def L233_0 : RCode := q L233_0a L233_0b
theorem l233_0 : Ok T F (.code L233_0 :: k) e h R = Ok T F (.code L233_0a :: .code L233_0b :: k) e h R := by rw [L233_0,s_seq]
def B233 : RCode := q (r [⟨s 4,m (c (i j 0)),n⟩,⟨s 5,m (c (i j 0)),n⟩] []) (q (q (r [⟨s 8,m (t 0),n⟩,⟨s 9,z (w 170) [t 8],n⟩,⟨s 10,.un .not (t 9),n⟩,⟨s 11,m (t 10),n⟩,⟨s 12,m (t 0),s (s 11,false)⟩,⟨s 13,y (t 12),s (s 11,false)⟩,⟨s 14,f 5 (t 13),s (s 11,false)⟩,⟨s 15,l 1 false (t 14),s (s 11,false)⟩,⟨s 16,.un .not (t 15),s (s 11,false)⟩,⟨s 17,p (t 11) (c (.bool true)) (t 16),n⟩] []) (d (t 17) (q (r [⟨s 4,m (c (i j 0)),n⟩,⟨s 5,m (c (i j 6)),n⟩] []) .ret) o)) (q (q (r [⟨s 18,m (t 0),n⟩,⟨s 19,y (t 18),n⟩,⟨s 20,f 0 (t 19),n⟩,⟨s 21,m (t 1),n⟩,⟨s 22,z (w 221) [t 20,t 21],n⟩,⟨s 23,.un .not (t 22),n⟩] []) (d (t 23) (q (r [⟨s 4,m (c (i j 0)),n⟩,⟨s 5,m (c (i j 2)),n⟩] []) .ret) o)) (q (r [⟨s 24,m (t 0),n⟩,⟨s 25,y (t 24),n⟩,⟨s 26,f 0 (t 25),n⟩,⟨s 27,m (t 1),n⟩,⟨s 28,m (t 0),n⟩,⟨s 29,y (t 28),n⟩,⟨s 30,f 4 (t 29),n⟩,⟨s 31,l 1 false (t 30),n⟩,⟨s 32,z (w 222) [t 26,t 27,t 31],n⟩,⟨s 6,m (c (i j 0)),n⟩,⟨s 7,m (t 32),n⟩] []) (q (q (r [⟨s 33,m (t 0),n⟩,⟨s 34,y (t 33),n⟩,⟨s 35,f 3 (t 34),n⟩,⟨s 36,l 1 false (t 35),n⟩,⟨s 37,m (t 7),n⟩,⟨s 38,b .lss (t 36) (t 37),n⟩] []) (d (t 38) (r [⟨s 39,m (t 0),n⟩,⟨s 40,m (t 7),n⟩,⟨s 41,y (t 39),n⟩,⟨s 42,f 4 (t 41),n⟩,⟨n,.store 1 (t 42) (t 40),n⟩] []) (q (r [⟨s 6,m (c (i j 1)),n⟩] []) (q (r [⟨s 43,m (t 0),n⟩,⟨s 44,y (t 43),n⟩,⟨s 45,f 3 (t 44),n⟩,⟨s 46,l 1 false (t 45),n⟩,⟨s 47,m (t 7),n⟩,⟨s 48,b .sub (t 46) (t 47),n⟩,⟨s 49,y (t 43),n⟩,⟨s 50,f 3 (t 49),n⟩,⟨n,.store 1 (t 50) (t 48),n⟩] []) (r [⟨s 51,m (t 0),n⟩,⟨s 52,y (t 51),n⟩,⟨s 53,f 4 (t 52),n⟩,⟨s 54,l 1 false (t 53),n⟩,⟨s 55,m (t 7),n⟩,⟨s 56,b .sub (t 54) (t 55),n⟩,⟨s 57,y (t 51),n⟩,⟨s 58,f 4 (t 57),n⟩,⟨n,.store 1 (t 58) (t 56),n⟩] []))))) (q (.block 0 (.loop L233_0)) (q (r [⟨s 82,m (t 0),n⟩,⟨s 83,y (t 82),n⟩,⟨s 84,f 0 (t 83),n⟩,⟨s 85,m (t 1),n⟩,⟨s 86,m (t 6),n⟩,⟨s 87,z (w 223) [t 84,t 85,t 86],n⟩] []) (q (r [⟨s 88,m (t 6),n⟩,⟨s 4,m (t 88),n⟩,⟨s 5,m (c (i j 0)),n⟩] []) .ret)))))))
def R233 : RFunc := ⟨89,[.tmp 4,.tmp 5],B233,.run⟩
theorem c233 : compileF Try.prog 233 R233.iso = s R233 := by kernel_rfl
theorem fin233 (e : Env) (h : Heap) : finishV R233 e h = s (.tuple #[e.getD 4 u,e.getD 5 u],h) := by kernel_rfl
theorem env233 (v0 v1 : Value) : mkEnv R233 [v0,v1] = #[v0,v1,u,u,u,u,u,u,u,u,u,u,u,u,u,u,u,u,u,u,u,u,u,u,u,u,u,u,u,u,u,u,u,u,u,u,u,u,u,u,u,u,u,u,u,u,u,u,u,u,u,u,u,u,u,u,u,u,u,u,u,u,u,u,u,u,u,u,u,u,u,u,u,u,u,u,u,u,u,u,u,u,u,u,u,u,u,u,u] := by kernel_rfl
def B235 : RCode := q (r [⟨s 2,.box (t 0),n⟩,⟨s 4,m (c (i j 0)),n⟩] []) (q (r [⟨s 5,f 0 (t 2),n⟩,⟨s 6,l 1 false (t 5),n⟩,⟨s 7,z (w 236) [t 6],n⟩,⟨s 4,m (t 7),n⟩] []) .ret)
def R235 : RFunc := ⟨8,[.tmp 4],B235,.run⟩
theorem c235 : compileF Try.prog 235 R235.iso = s R235 := by kernel_rfl
theorem fin235 (e : Env) (h : Heap) : finishV R235 e h = s (e.getD 4 u,h) := by kernel_rfl
theorem env235 (v0 v1 : Value) : mkEnv R235 [v0,v1] = #[v0,v1,u,u,u,u,u,u] := by kernel_rfl
def B236 : RCode := q (r [⟨s 2,m (c (i j 0)),n⟩] []) (q (q (r [⟨s 3,m (t 0),n⟩,⟨s 4,.eq false .ptr (t 3) (c (.pointer n)),n⟩,⟨s 5,m (t 4),n⟩,⟨s 6,m (t 0),s (s 5,false)⟩,⟨s 7,y (t 6),s (s 5,false)⟩,⟨s 8,f 0 (t 7),s (s 5,false)⟩,⟨s 9,f 0 (t 8),s (s 5,false)⟩,⟨s 10,l 1 false (t 9),s (s 5,false)⟩,⟨s 11,.un .not (t 10),s (s 5,false)⟩,⟨s 12,p (t 5) (c (.bool true)) (t 11),n⟩] []) (d (t 12) (q (r [⟨s 2,m (c (i j 0)),n⟩] []) .ret) o)) (q (r [⟨s 13,m (t 0),n⟩,⟨s 14,y (t 13),n⟩,⟨s 15,f 0 (t 14),n⟩,⟨s 16,z (w 237) [t 15],n⟩,⟨s 2,m (t 16),n⟩] []) .ret))
def R236 : RFunc := ⟨17,[.tmp 2],B236,.run⟩
theorem c236 : compileF Try.prog 236 R236.iso = s R236 := by kernel_rfl
theorem fin236 (e : Env) (h : Heap) : finishV R236 e h = s (e.getD 2 u,h) := by kernel_rfl
theorem env236 (v0 : Value) : mkEnv R236 [v0] = #[v0,u,u,u,u,u,u,u,u,u,u,u,u,u,u,u,u] := by kernel_rfl
def B237 : RCode := q (r [⟨s 2,m (c (i j 0)),n⟩] []) (q (r [⟨s 4,m (t 0),n⟩,⟨s 5,y (t 4),n⟩,⟨s 6,f 2 (t 5),n⟩,⟨s 7,l 1 false (t 6),n⟩,⟨s 3,m (t 7),n⟩] []) (q (r [⟨s 8,m (t 0),n⟩,⟨s 9,y (t 8),n⟩,⟨s 10,f 2 (t 9),n⟩,⟨s 11,l 1 false (t 10),n⟩,⟨s 12,b .add (t 11) (c (i j 1)),n⟩,⟨s 13,y (t 8),n⟩,⟨s 14,f 2 (t 13),n⟩,⟨n,.store 1 (t 14) (t 12),n⟩] []) (q (q (r [⟨s 15,m (t 3),n⟩,⟨s 16,b .quo (t 15) (c (i j 8)),n⟩,⟨s 17,m (t 0),n⟩,⟨s 18,y (t 17),n⟩,⟨s 19,f 1 (t 18),n⟩,⟨s 20,l 1 false (t 19),n⟩,⟨s 21,.len (t 20),n⟩,⟨s 22,b .geq (t 16) (t 21),n⟩] []) (d (t 22) (q (r [⟨s 2,m (c (i j 0)),n⟩] []) .ret) o)) (q (r [⟨s 23,m (t 0),n⟩,⟨s 24,y (t 23),n⟩,⟨s 25,f 1 (t 24),n⟩,⟨s 26,l 1 false (t 25),n⟩,⟨s 27,m (t 3),n⟩,⟨s 28,b .quo (t 27) (c (i j 8)),n⟩,⟨s 29,.indexSl 1 (t 26) (t 28),n⟩,⟨s 30,l 1 false (t 29),n⟩,⟨s 31,.convInt j (t 30),n⟩,⟨s 32,m (t 3),n⟩,⟨s 33,b .rem (t 32) (c (i j 8)),n⟩,⟨s 34,b .sub (c (i j 7)) (t 33),n⟩,⟨s 35,.convInt .u64 (t 34),n⟩,⟨s 36,b .shr (t 31) (t 35),n⟩,⟨s 37,b .and (t 36) (c (i j 1)),n⟩,⟨s 2,m (t 37),n⟩] []) .ret))))
def R237 : RFunc := ⟨38,[.tmp 2],B237,.run⟩
theorem c237 : compileF Try.prog 237 R237.iso = s R237 := by kernel_rfl
theorem fin237 (e : Env) (h : Heap) : finishV R237 e h = s (e.getD 2 u,h) := by kernel_rfl
theorem env237 (v0 : Value) : mkEnv R237 [v0] = #[v0,u,u,u,u,u,u,u,u,u,u,u,u,u,u,u,u,u,u,u,u,u,u,u,u,u,u,u,u,u,u,u,u,u,u,u,u,u] := by kernel_rfl
end Go.Proofs.Ytjpjohchdfoeaaa
