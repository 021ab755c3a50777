/-
  From a run of the evaluator to a call of the program: the tie at the top.
  Blocks of the abstract heap: what writes and new blocks leave; slices; the rows that came in.
  The rules by which a run is followed, as rewriting rules.
  Rows of integers that came in, as blocks.
  The rules for a statement whose order is open: what it reads and writes is booked, and looked at behind it.
  Slices that a value alone leads to: append, and what it leaves.
  Rows of any flat element that came in, as blocks.
  The rules for functions that only read, and for calls of function values.
  Parts of a function's code.
  What leads below stays below.
  Interface values, and calls by them.
  What came in, opened: parameters that are flat but for slices of integers.
-/
import Derived.Test.YtjpjohchdfoeaaaGreatSimN
import Derived.Below
import Derived.ChangeSame
import Derived.DataReads
import Derived.Laws.BitsAllLaws
import Derived.Laws.Bits64
import Derived.ChangeSlices
import Derived.DataElems
import Derived.WalkKit
import Derived.OpenShut
import Derived.ChangeArms
namespace Go.Sim
open Go.RowKit Go.WideShapes Go.ChangeShapes
def G81 (h : Gag) : Prop:=∀ id b,blk? h id = some b→b.ro = true
theorem Gtg {ρ ρ' : Gbd} {h h' : Gag} {w w' : World} (hro : G81 h) (hev : Ev ρ (Ga5 h) w ρ' (Ga5 h') w') : Below w.heap.size w w':=by
 refine ⟨hev.os,hev.tape,hev.output,hev.size,fun k hk=>?_⟩
 have hwk : w.heap[k]? = some w.heap[k]:=by simp [hk]
 obtain ⟨o',h1,h2⟩:=hev.mem k _ hwk
 rw [h1,hwk]
 congr 1
 have hno : ∀ i,¬ Own ρ (Ga5 h) k i:=by
  rintro i ⟨id,blk,p,h1,h2,_⟩
  rw [hro id blk h1] at h2; cases h2
 generalize w.heap[k] = o at h2
 cases o with
 | cells c t f =>
  cases o' with
  | cells c' t' f' =>
   obtain ⟨rfl,rfl,hs,hc⟩:=h2
   congr 1
   apply Array.ext_getElem?
   intro i; exact hc i (hno i)
  | _=>simp [Gb4] at h2
 | _=>exact h2
theorem calls_of_ret {P : Program} {T : Tab} (hT : G43 P T) (hmix : P.follows .mixedOrders = true) {g : FuncId} {vs : List Value} {h : Gag} {ρ : Gbd} {W : World} {args : Array Value} {v : Value} (hv : Gbi v = true)
  (hret : Ret T g vs h fun r _=>r = v) (hro : G81 h) (hrel : Rel ρ (Ga5 h) W) (hl : LRel ρ vs args.toList) (hf : ∀ id,h.length≤id→ρ id = none) :
  Calls P g args W fun e W'=>e = .returned v∧Below W.heap.size W W':=by
 obtain ⟨G,hG,hor⟩:=hret
 have key : ∃ N h',CRN T N g vs h v h':=by
  rcases hor with ⟨hi,hn,n,r,h0,hr,hnr,rfl⟩ | ⟨hi,hn,n,r,h0,hr,hnr,rfl⟩ | ⟨hi,n,r,h0,hr,rfl⟩
  ·exact ⟨n + 1,h,G,n,hG,by omega,.inl ⟨hi,hn,hnr,rfl,h0,hr⟩⟩
  ·exact ⟨n + 1,h,G,n,hG,by omega,.inr (.inl ⟨hi,hn,hnr,rfl,h0,hr⟩)⟩
  ·exact ⟨n + 1,h0,G,n,hG,by omega,.inr (.inr ⟨hi,hr⟩)⟩
 obtain ⟨N,h',hc⟩:=key
 have:=(Gym hT N (fun m _=>runSim hT hmix m) g vs h v h' hc ρ W args.toList hrel hl (fun id h1 _=>hf id h1)).2
 rw [Array.toArray_toList] at this
 refine this.mono fun e w' ⟨v',ρ',he,hvr,hr',hev,_,_⟩=>⟨?_,Gtg hro hev⟩
 rw [he,hvr.noAddr_eq hv]
section
variable {H : Type} {enc : TypeId × Value→H} {P : Program}
end
open Go.RowKit
theorem blk?_lt {h : Gag} {id : Nat} {b : Blk} (hb : blk? h id = some b) : id < h.length:=by
 unfold blk? at hb
 split at hb
 ·rename_i h1; exact (List.getElem?_eq_some_iff.1 h1).1
 ·cases hb
theorem blk?_set {h : Gag} {i j : Nat} {x : Option Blk} : blk? (h.set i x) j = if i = j∧i < h.length then x else blk? h j:=by
 unfold blk?
 rw [List.getElem?_set]
 by_cases hij : i = j
 ·subst hij
  by_cases hi : i < h.length
  ·simp [hi]; cases x <;> rfl
  ·simp [hi]
 ·simp [hij]
theorem blk?_set_ne {h : Gag} {i j : Nat} {x : Option Blk} (hij : i ≠ j) : blk? (h.set i x) j = blk? h j:=by
 rw [blk?_set,if_neg (by simp [hij])]
theorem blk?_set_eq {h : Gag} {i : Nat} {x : Option Blk} (hi : i < h.length) : blk? (h.set i x) i = x:=by
 rw [blk?_set,if_pos ⟨rfl,hi⟩]
theorem blk?_push_lt {h : Gag} {j : Nat} {x : Option Blk} (hj : j < h.length) : blk? (h++[x]) j = blk? h j:=by
 unfold blk?
 rw [List.getElem?_append_left hj]
theorem blk?_push_eq {h : Gag} {x : Option Blk} : blk? (h++[x]) h.length = x:=by
 unfold blk?
 rw [List.getElem?_append_right (Nat.le_refl _)]
 cases x <;> simp
theorem blk?_push {h : Gag} {j : Nat} {b : Blk} {x : Option Blk} (hb : blk? h j = some b) : blk? (h++[x]) j = some b:=by
 rw [blk?_push_lt (blk?_lt hb)]; exact hb
def Sl (h : Gag) (esz : Nat) (s : Value) (n : Nat) (cs : List Value) : Prop :=
  cs.length = n * esz ∧
  ((s = .slice none 0 0∧n = 0) ∨
   ∃ id off,s = .slice (some ⟨id,off,none⟩) n esz∧(n = 0∨∃ b,blk? h id = some b∧off + n * esz≤b.cells.length∧(b.cells.drop off).take (n * esz) = cs))
theorem Sl.lenV {h : Gag} {esz n : Nat} {s : Value} {cs : List Value} (hs : Sl h esz s n cs) : lenV s = some n:=by
 rcases hs.2 with ⟨rfl,rfl⟩ | ⟨id,off,rfl,_⟩ <;> rfl
theorem Sl.firstC {h : Gag} {esz n : Nat} {s : Value} {cs : List Value} (hs : Sl h esz s n cs) : firstC h esz n s = some cs:=by
 obtain ⟨hl,hs⟩:=hs
 rcases hs with ⟨rfl,rfl⟩ | ⟨id,off,rfl,h0 | ⟨b,hb,hle,hc⟩⟩
 ·simp at hl; subst hl; simp [Sim.firstC]
 ·subst h0; simp at hl; subst hl; simp [Sim.firstC]
 ·by_cases h0 : n = 0
  ·subst h0; simp at hl; subst hl; simp [Sim.firstC]
  ·simp only [Sim.firstC,if_neg h0,hb]
   rw [if_pos ⟨Nat.le_refl _,hle⟩,hc]
theorem Sl.get {h : Gag} {esz n : Nat} {s : Value} {cs : List Value} (hs : Sl h esz s n cs) {i : Nat} (hi : i < n) :
  ∃ id off b,s = .slice (some ⟨id,off,none⟩) n esz∧blk? h id = some b∧∀ j,j < esz→b.cells[off + i * esz + j]? = cs[i * esz + j]?:=by
 obtain ⟨hl,hs⟩:=hs
 rcases hs with ⟨rfl,rfl⟩ | ⟨id,off,rfl,h0 | ⟨b,hb,hle,hc⟩⟩
 ·omega
 ·omega
 ·refine ⟨id,off,b,rfl,hb,fun j hj=>?_⟩
  have : i * esz + j < n * esz:=by
   have:=Nat.mul_le_mul_right esz (show i + 1≤n by omega)
   rw [Nat.add_mul] at this; omega
  rw [← hc,List.getElem?_take,if_pos this,List.getElem?_drop]
  congr 1; omega
theorem Sl.of_blk {h h' : Gag} {esz n : Nat} {s : Value} {cs : List Value} (hs : Sl h esz s n cs) (hk : ∀ id off b,s = .slice (some ⟨id,off,none⟩) n esz→blk? h id = some b→n ≠ 0→blk? h' id = some b) : Sl h' esz s n cs:=by
 obtain ⟨hl,hs⟩:=hs
 refine ⟨hl,?_⟩
 rcases hs with hs | ⟨id,off,rfl,h0 | ⟨b,hb,hle,hc⟩⟩
 ·exact .inl hs
 ·exact .inr ⟨id,off,rfl,.inl h0⟩
 ·by_cases h0 : n = 0
  ·exact .inr ⟨id,off,rfl,.inl h0⟩
  ·exact .inr ⟨id,off,rfl,.inr ⟨b,hk id off b rfl hb h0,hle,hc⟩⟩
theorem Sl.push {h : Gag} {esz n : Nat} {s : Value} {cs : List Value} (hs : Sl h esz s n cs) (x : Option Blk) : Sl (h++[x]) esz s n cs :=
 hs.of_blk fun _ _ _ _ hb _=>blk?_push hb
structure Row where
 esz : Nat
 a : Option Addr
 len : Nat
 cap : Nat
 cs : List Value
def Row.ok (W : World) (r : Row) : Prop :=
 (r.a = none∧r.len = 0∧r.cap = 0∧r.cs = []) ∨
 ∃ x,r.a = some x∧r.len≤r.cap∧r.cs.length = r.cap * r.esz∧∀ i v,r.cs[i]? = some v→Sim.isCell v = true∧Gbi v = true∧W.cell? (x.add i) = some v
def Row.blk (r : Row) : Option Blk:=if r.cs = [] then none else some ⟨true,r.cs⟩
def Row.place (r : Row) : Option Place :=
 match r.a with
 | none=>none
 | some x=>if r.cs = [] then some ⟨0,0,0,r.esz⟩ else some ⟨x.block,x.off,r.cap * r.esz,r.esz⟩
def Row.val (id : Nat) (r : Row) : Value :=
 match r.a with
 | none=>.slice none 0 0
 | some _=>.slice (some ⟨id,0,none⟩) r.len r.esz
def heapOf (rs : List Row) : Gag:=rs.map Row.blk
def Go6 (rs : List Row) : Gbd:=fun id=>(rs[id]?).bind Row.place
theorem Gia {rs : List Row} {id : Nat} {b : Blk} (hb : blk? (heapOf rs) id = some b) : ∃ r,rs[id]? = some r∧r.cs ≠ []∧b = ⟨true,r.cs⟩:=by
 unfold blk? heapOf at hb
 rw [List.getElem?_map] at hb
 cases hr : rs[id]? with
 | none=>rw [hr] at hb; cases hb
 | some r =>
  rw [hr] at hb
  simp only [Option.map_some,Row.blk] at hb
  by_cases hc : r.cs = []
  ·rw [if_pos hc] at hb; cases hb
  ·rw [if_neg hc] at hb
   injection hb with hb
   exact ⟨r,rfl,hc,hb.symm⟩
theorem allRo_heapOf (rs : List Row) : G81 (heapOf rs):=fun id b hb=>by
 obtain ⟨r,_,_,rfl⟩:=Gia hb; rfl
theorem rhoOf_none (rs : List Row) (id : Nat) (h : (heapOf rs).length≤id) : Go6 rs id = none:=by
 simp only [heapOf,List.length_map] at h
 simp [Go6,List.getElem?_eq_none h]
theorem rel_heapOf {rs : List Row} {W : World} (hok : ∀ r ∈ rs,r.ok W) : Rel (Go6 rs) (Ga5 (heapOf rs)) W:=by
 refine ⟨fun id b hb=>?_,fun i j bi bj p q hi hj hij hro=>?_⟩
 ·obtain ⟨r,hr,hc,rfl⟩:=Gia hb
  rcases hok r (List.mem_of_getElem? hr) with ⟨_,_,_,h4⟩ | ⟨x,hx,hle,hlen,hcell⟩
  ·exact absurd h4 hc
  have hpos : 0 < r.cs.length:=List.length_pos_iff.2 hc
  have hlast:=hcell (r.cs.length - 1) (r.cs[r.cs.length - 1]) (by simp)
  have hfirst:=hcell 0 (r.cs[0]) (by simp [hpos])
  have hsp : x.spot = none:=by
   have:=World.cell?_spot hfirst.2.2
   simpa [Addr.add] using this
  have hblk : ∀ i,(x.add i).block = x.block∧(x.add i).off = x.off + i∧(x.add i).spot = none:=by
   intro i
   unfold Addr.add
   by_cases hi : i = 0
   ·subst hi; simp [hsp]
   ·simp [hi]
  obtain ⟨c,t,fz,hh⟩ : ∃ c t fz,W.heap[x.block]? = some (.cells c t fz):=by
   have:=hfirst.2.2
   unfold World.cell? at this
   rw [(hblk 0).1] at this
   split at this
   ·rename_i c t fz h1; exact ⟨c,t,fz,h1⟩
   ·cases this
  have hget : ∀ i v,r.cs[i]? = some v→c[x.off + i]? = some v:=by
   intro i v hv
   have:=(hcell i v hv).2.2
   unfold World.cell? at this
   rw [(hblk i).1,hh] at this
   simpa [(hblk i).2.1,(hblk i).2.2] using this
  have hρ : Go6 rs id = some ⟨x.block,x.off,r.cap * r.esz,r.esz⟩:=by
   simp [Go6,hr,Row.place,hx,hc]
  refine ⟨_,c,t,fz,hρ,hh,?_,?_,?_,fun h=>by cases h⟩
  ·have:=hget (r.cs.length - 1) (r.cs[r.cs.length - 1]) (by simp)
   have:=(Array.getElem?_eq_some_iff.1 this).1
   simp only
   omega
  ·simp only; omega
  ·intro i v hv
   exact ⟨(hcell i v hv).1,v,hget i v hv,Gbk _ v (hcell i v hv).2.1⟩
 ·have hi' : blk? (heapOf rs) i = some bi:=hi
  have:=allRo_heapOf rs i bi hi'
  rw [this] at hro; cases hro
theorem vrel_row {rs : List Row} {W : World} {id : Nat} {r : Row} (hr : rs[id]? = some r) (hok : r.ok W) (hesz : 0 < r.esz) : Gav (Go6 rs) (r.val id) (.slice r.a r.len r.cap):=by
 rcases hok with ⟨h1,h2,h3,h4⟩ | ⟨x,hx,hle,hlen,hcell⟩
 ·rw [Row.val,h1,h2,h3]; exact .nilS
 ·rw [Row.val,hx]
  by_cases hc : r.cs = []
  ·have hcap : r.cap = 0:=by
    rw [hc] at hlen
    simp only [List.length_nil] at hlen
    rcases Nat.mul_eq_zero.1 hlen.symm with h | h
    ·exact h
    ·omega
   have hl0 : r.len = 0:=by omega
   rw [hcap,hl0]
   refine .sliceE (p:=⟨0,0,0,r.esz⟩) ?_
   simp [Go6,hr,Row.place,hx,hc]
  ·have hpos : 0 < r.cs.length:=List.length_pos_iff.2 hc
   have hfirst:=hcell 0 (r.cs[0]) (by simp [hpos])
   have hsp : x.spot = none:=by
    have:=World.cell?_spot hfirst.2.2
    simpa [Addr.add] using this
   obtain ⟨b,off,spot⟩:=x
   simp only at hsp; subst hsp
   have:=Gav.slice (ρ:=Go6 rs) (id:=id) (off:=0) (n:=r.len) (c:=r.esz) (cap:=r.cap) (p:=⟨b,off,r.cap * r.esz,r.esz⟩) (by simp [Go6,hr,Row.place,hx,hc]) rfl hle (by simp)
   simpa using this
theorem sl_row {rs : List Row} {W : World} {id : Nat} {r : Row} (hr : rs[id]? = some r) (hok : r.ok W) (hesz : 0 < r.esz) : Sl (heapOf rs) r.esz (r.val id) r.len (r.cs.take (r.len * r.esz)):=by
 rcases hok with ⟨h1,h2,h3,h4⟩ | ⟨x,hx,hle,hlen,hcell⟩
 ·refine ⟨by simp [h2,h4],.inl ⟨by rw [Row.val,h1],h2⟩⟩
 ·have hm : r.len * r.esz≤r.cap * r.esz:=Nat.mul_le_mul_right _ hle
  refine ⟨by rw [List.length_take,hlen]; omega,.inr ⟨id,0,by rw [Row.val,hx],?_⟩⟩
  by_cases hc : r.cs = []
  ·left
   rw [hc] at hlen
   simp only [List.length_nil] at hlen
   rcases Nat.mul_eq_zero.1 hlen.symm with h | h <;> omega
  ·refine .inr ⟨⟨true,r.cs⟩,?_,by simp only; omega,by simp⟩
   simp [blk?,heapOf,hr,Row.blk,hc]
def Qa7 (i : IntKind) (a b : Int) : Int:=i.wrap (BitVec.ofInt i.bits a &&& BitVec.ofInt i.bits b).toNat
def orI (i : IntKind) (a b : Int) : Int:=i.wrap (BitVec.ofInt i.bits a ||| BitVec.ofInt i.bits b).toNat
def Qbx (i : IntKind) (a b : Int) : Int:=i.wrap (BitVec.ofInt i.bits a ^^^ BitVec.ofInt i.bits b).toNat
def Gmf (i : IntKind) (a b : Int) : Int:=i.wrap (a * 2 ^ (min b.toNat i.bits))
def Gxo (i : IntKind) (a b : Int) : Int:=a.fdiv (2 ^ (min b.toNat i.bits))
section
variable {T : Tab} {F : Gak} {k : List Ga1} {e : Env} {h : Gag} {R : RP} {x y z : Operand}
theorem Gnp {k1 k2 : List Ga1} (hr : ∀ n,run T n F k1 e h = run T n F k2 e h) : Ok T F k1 e h R = Ok T F k2 e h R:=by
 unfold Ok; simp only [hr]
@[simp] theorem x_code {id : Nat} {c : RCode} : Ok T F (.code (.exit id) :: .code c :: k) e h R = Ok T F (.code (.exit id) :: k) e h R:=Gnp fun n=>by cases n <;> simp [run,Ghb]
@[simp] theorem x_loop {id : Nat} {c : RCode} : Ok T F (.code (.exit id) :: .inLoop c :: k) e h R = Ok T F (.code (.exit id) :: k) e h R:=Gnp fun n=>by cases n <;> simp [run,Ghb]
theorem Qa8 {id : Nat} : Ok T F (.code (.exit id) :: .inBlock id :: k) e h R = Ok T F k e h R:=propext (Qas (by simp [Ghb]))
@[simp] theorem x_block {id j : Nat} : Ok T F (.code (.exit id) :: .inBlock j :: k) e h R = if j = id then Ok T F k e h R else Ok T F (.code (.exit id) :: k) e h R:=by
 by_cases hj : j = id
 ·subst hj; rw [if_pos rfl]; exact Qa8
 ·rw [if_neg hj]; exact Gnp fun n=>by cases n <;> simp [run,Ghb,hj]
@[simp] theorem ev_tmp {t : Tmp} : ev e (.tmp t) = e.getD t undef:=rfl
@[simp] theorem ev_const {v : Value} : ev e (.const v) = v:=rfl
@[simp] theorem ev_func {f : FuncId} : ev e (.func f) = .func (.func f) #[] #[]:=rfl
@[simp] theorem put_some {d : Tmp} {v : Value} : put e (some d) v = e.setIfInBounds d v:=rfl
@[simp] theorem put_none {v : Value} : put e none v = e:=rfl
@[simp] theorem st_mov : Gam (.mov x) e h = some (ev e x,h):=rfl
@[simp] theorem st_movS : Gam (.movS x) e h = (match ev e x with | .string s=>some (.string s,h) | _=>none):=rfl
@[simp] theorem st_pick {c : Operand} : Gam (.pick c x y) e h = (match ev e c with | .bool t=>some (match t with | true=>ev e x | false=>ev e y,h) | _=>none):=rfl
@[simp] theorem st_alloc {zero : List Value} : Gam (.alloc zero) e h = some (.pointer (some ⟨h.length,0,none⟩),h++[some ⟨false,zero⟩]):=rfl
@[simp] theorem st_box : Gam (.box x) e h = (if isVar (ev e x) = true then some (.pointer (some ⟨h.length,0,none⟩),h++[some ⟨false,(ev e x).cells.toList⟩]) else none):=rfl
@[simp] theorem st_build {zero : List Value} {places : List (Nat × Nat)} {parts : List (Nat × Operand)} : Gam (.build zero places parts) e h =
  (match Gfs (fun i=>places[i]?) zero (parts.map fun p=>(p.1,ev e p.2)) with | some cs=>some (.agg cs.toArray,h) | none=>none):=rfl
@[simp] theorem st_buildSlice {esz len : Nat} {zero : List Value} {parts : List (Nat × Operand)} : Gam (.buildSlice esz len zero parts) e h =
  (match Gfs (fun i=>some (i * esz,esz)) (Gd4 zero len) (parts.map fun p=>(p.1,ev e p.2)) with
  | some cs=>some (.slice (some ⟨h.length,0,none⟩) len esz,h++[some ⟨false,cs⟩]) | none=>none):=rfl
@[simp] theorem st_load {n : Nat} {agg : Bool} : Gam (.load n agg x) e h = (match Gdq h n agg (ev e x) with | some v=>some (v,h) | none=>none):=rfl
@[simp] theorem st_store {n : Nat} : Gam (.store n x y) e h = (match Gmn h n (ev e x) (ev e y) with | some h'=>some (undef,h') | none=>none):=rfl
@[simp] theorem st_nilCheck : Gam (.nilCheck x) e h = (match ev e x with | .pointer (some a)=>some (.pointer (some a),h) | .func (.func f) a b=>some (.func (.func f) a b,h) | _=>none):=rfl
@[simp] theorem st_bin {op : BinOp} : Gam (.bin op x y) e h = (match Qe1 op (ev e x) (ev e y) with | some v=>some (v,h) | none=>none):=rfl
@[simp] theorem st_eq {neg : Bool} {q : EqK} : Gam (.eq neg q x y) e h = (match eqV q (ev e x) (ev e y) with | some b=>some (.bool (match neg with | true=>!b | false=>b),h) | none=>none):=rfl
@[simp] theorem st_un {op : UnOp} : Gam (.un op x) e h = (match unV op (ev e x) with | some v=>some (v,h) | none=>none):=rfl
@[simp] theorem st_convInt {i : IntKind} : Gam (.convInt i x) e h = (match ev e x with | .int _ n=>some (.int i (i.wrap n),h) | _=>none):=rfl
@[simp] theorem st_makeFunc {fn : FuncId} {first cap : List Operand} : Gam (.makeFunc fn first cap) e h = some (.func (.func fn) (first.map (ev e)).toArray (cap.map (ev e)).toArray,h):=rfl
@[simp] theorem st_makeSlice {esz bytes : Nat} {zero : List Value} : Gam (.makeSlice esz bytes zero x y) e h =
  (match ev e x,ev e y with
  | .int .i64 a,.int .i64 b =>
   if 0≤a∧a≤b∧b≤(Gaq : Int)∧bytes≤4096 then
    some (.slice (some ⟨h.length,0,none⟩) a.toNat esz,h++[some ⟨false,Gd4 zero a.toNat⟩])
   else none
  | _,_=>none):=rfl
@[simp] theorem st_slice {esz : Nat} {lo hi : Option Operand} : Gam (.slice esz x lo hi) e h = (match Gc8 esz (ev e x) (lo.map (ev e)) (hi.map (ev e)) with | some v=>some (v,h) | none=>none):=rfl
@[simp] theorem st_fieldAddr {off : Nat} : Gam (.fieldAddr off x) e h = (match ev e x with | .pointer (some ⟨id,o,none⟩)=>some (.pointer (some ⟨id,o + off,none⟩),h) | _=>none):=rfl
@[simp] theorem st_field {off n : Nat} {agg : Bool} : Gam (.field off n agg x) e h =
  (match ev e x with
  | .agg cs =>
   (match agg with
   | true=>if off + n≤cs.size then some (.agg (cs.extract off (off + n)),h) else none
   | false=>match cs[off]? with | some v=>some (v,h) | none=>none)
  | _=>none):=rfl
@[simp] theorem st_indexArr {len esz : Nat} : Gam (.indexArr len esz x y) e h =
  (match ev e x,ev e y with
  | .pointer (some ⟨id,o,none⟩),.int _ j=>if 0≤j∧j < (len : Int) then some (.pointer (some ⟨id,o + j.toNat * esz,none⟩),h) else none
  | _,_=>none):=rfl
@[simp] theorem st_indexSl {esz : Nat} : Gam (.indexSl esz x y) e h =
  (match ev e x,ev e y with
  | .slice (some ⟨id,o,none⟩) len _,.int _ j=>if 0≤j∧j < (len : Int) then some (.pointer (some ⟨id,o + j.toNat * esz,none⟩),h) else none
  | _,_=>none):=rfl
@[simp] theorem st_indexV {len esz : Nat} {agg : Bool} : Gam (.indexV len esz agg x y) e h =
  (match ev e x,ev e y with
  | .agg cs,.int _ j =>
   if 0≤j∧j < (len : Int) then
    match agg with
    | true=>if j.toNat * esz + esz≤cs.size then some (.agg (cs.extract (j.toNat * esz) (j.toNat * esz + esz)),h) else none
    | false=>match cs[j.toNat * esz]? with | some v=>some (v,h) | none=>none
   else none
  | _,_=>none):=rfl
@[simp] theorem st_len : Gam (.len x) e h = (match ev e x with | .slice _ n _=>some (.int .i64 n,h) | _=>none):=rfl
@[simp] theorem st_lenS : Gam (.lenS x) e h = (match ev e x with | .string s=>some (.int .i64 s.size,h) | _=>none):=rfl
@[simp] theorem st_min {args : List Operand} : Gam (.min args) e h = (match Gci Gfo (args.map (ev e)) with | some v=>some (v,h) | none=>none):=rfl
@[simp] theorem st_max {args : List Operand} : Gam (.max args) e h = (match Gci Gh1 (args.map (ev e)) with | some v=>some (v,h) | none=>none):=rfl
@[simp] theorem st_append {esz bytes : Nat} : Gam (.append esz bytes x y) e h = Gb0 h esz bytes (ev e x) (ev e y):=rfl
@[simp] theorem st_copy {esz : Nat} : Gam (.copy esz x y) e h = copyV h esz (ev e x) (ev e y):=rfl
@[simp] theorem st_extract {i : Nat} : Gam (.extract x i) e h = (match ev e x with | .tuple vs=>(match vs[i]? with | some v=>some (v,h) | none=>none) | _=>none):=rfl
@[simp] theorem bv_int {op : BinOp} {i j : IntKind} {a b : Int} : Qe1 op (.int i a) (.int j b) = Gfp op i a j b:=rfl
@[simp] theorem bi_add {i : IntKind} {a b : Int} : Gfp .add i a i b = some (.int i (i.wrap (a + b))):=by simp [Gfp]
@[simp] theorem bi_sub {i : IntKind} {a b : Int} : Gfp .sub i a i b = some (.int i (i.wrap (a - b))):=by simp [Gfp]
@[simp] theorem bi_mul {i : IntKind} {a b : Int} : Gfp .mul i a i b = some (.int i (i.wrap (a * b))):=by simp [Gfp]
@[simp] theorem bi_quo {i : IntKind} {a b : Int} : Gfp .quo i a i b = if b = 0 then none else some (.int i (i.wrap (a.tdiv b))):=by simp [Gfp]
@[simp] theorem bi_rem {i : IntKind} {a b : Int} : Gfp .rem i a i b = if b = 0 then none else some (.int i (a.tmod b)):=by simp [Gfp]
@[simp] theorem bi_eql {i : IntKind} {a b : Int} : Gfp .eql i a i b = some (.bool (a == b)):=by simp [Gfp]
@[simp] theorem bi_neq {i : IntKind} {a b : Int} : Gfp .neq i a i b = some (.bool (a != b)):=by simp [Gfp]
@[simp] theorem bi_lss {i : IntKind} {a b : Int} : Gfp .lss i a i b = some (.bool (a < b)):=by simp [Gfp]
@[simp] theorem bi_leq {i : IntKind} {a b : Int} : Gfp .leq i a i b = some (.bool (a≤b)):=by simp [Gfp]
@[simp] theorem bi_gtr {i : IntKind} {a b : Int} : Gfp .gtr i a i b = some (.bool (a > b)):=by simp [Gfp]
@[simp] theorem bi_geq {i : IntKind} {a b : Int} : Gfp .geq i a i b = some (.bool (a ≥ b)):=by simp [Gfp]
@[simp] theorem bi_and {i : IntKind} {a b : Int} : Gfp .and i a i b = some (.int i (Qa7 i a b)):=by simp [Gfp,Qa7]
@[simp] theorem bi_or {i : IntKind} {a b : Int} : Gfp .or i a i b = some (.int i (orI i a b)):=by simp [Gfp,orI]
@[simp] theorem bi_xor {i : IntKind} {a b : Int} : Gfp .xor i a i b = some (.int i (Qbx i a b)):=by simp [Gfp,Qbx]
@[simp] theorem bi_shl {i j : IntKind} {a b : Int} : Gfp .shl i a j b = if b < 0 then none else some (.int i (Gmf i a b)):=by simp [Gfp,Gmf]
@[simp] theorem bi_shr {i j : IntKind} {a b : Int} : Gfp .shr i a j b = if b < 0 then none else some (.int i (Gxo i a b)):=by simp [Gfp,Gxo]
@[simp] theorem un_neg {i : IntKind} {a : Int} : unV .neg (.int i a) = some (.int i (i.wrap (0 - a))):=rfl
@[simp] theorem un_not {b : Bool} : unV .not (.bool b) = some (.bool !b):=rfl
@[simp] theorem ld_word {n id off : Nat} : Gdq h n false (.pointer (some ⟨id,off,none⟩)) = match blk? h id with | some b=>b.cells[off]? | none=>none:=rfl
@[simp] theorem ld_agg {n id off : Nat} : Gdq h n true (.pointer (some ⟨id,off,none⟩)) = match blk? h id with | some b=>if off + n≤b.cells.length then some (.agg ((b.cells.drop off).take n).toArray) else none | none=>none:=rfl
@[simp] theorem sto_ptr {n id off : Nat} {v : Value} : Gmn h n (.pointer (some ⟨id,off,none⟩)) v = match blk? h id with
  | some b =>
   if b.ro = false∧isVar v = true∧v.cells.size = n∧off + n≤b.cells.length then
    some (h.set id (some { b with cells:=writeAt b.cells off v.cells.toList }))
   else none
  | none=>none:=rfl
@[simp] theorem var_int {i : IntKind} {n : Int} : isVar (.int i n) = true:=rfl
@[simp] theorem var_bool {b : Bool} : isVar (.bool b) = true:=rfl
@[simp] theorem var_ptr {a : Option Addr} : isVar (.pointer a) = true:=rfl
@[simp] theorem var_slice {a : Option Addr} {n c : Nat} : isVar (.slice a n c) = true:=rfl
@[simp] theorem var_agg {a : Array Value} : isVar (.agg a) = true:=rfl
@[simp] theorem var_str {s : ByteArray} : isVar (.string s) = true:=rfl
@[simp] theorem cells_int {i : IntKind} {n : Int} : (Value.int i n).cells = #[.int i n]:=rfl
@[simp] theorem cells_bool {b : Bool} : (Value.bool b).cells = #[.bool b]:=rfl
@[simp] theorem cells_ptr {a : Option Addr} : (Value.pointer a).cells = #[.pointer a]:=rfl
@[simp] theorem cells_slice {a : Option Addr} {n c : Nat} : (Value.slice a n c).cells = #[.slice a n c]:=rfl
@[simp] theorem cells_str {s : ByteArray} : (Value.string s).cells = #[.string s]:=rfl
@[simp] theorem cells_agg {a : Array Value} : (Value.agg a).cells = a:=rfl
@[simp] theorem Ghr {l : List Value} {o : Nat} : writeAt l o [] = l:=rfl
@[simp] theorem Ggf {l : List Value} {o : Nat} {v : Value} {vs : List Value} : writeAt l o (v :: vs) = writeAt (l.set o v) (o + 1) vs:=rfl
@[simp] theorem fill_nil {p : Nat→Option (Nat × Nat)} {cs : List Value} : Gfs p cs [] = some cs:=rfl
@[simp] theorem fill_cons {p : Nat→Option (Nat × Nat)} {cs : List Value} {i : Nat} {v : Value} {rest : List (Nat × Value)} : Gfs p cs ((i,v) :: rest) =
  match p i with
  | none=>none
  | some (off,size) =>
   if isVar v = true∧v.cells.size = size∧off + size≤cs.length then Gfs p (writeAt cs off v.cells.toList) rest else none:=by
 rw [Gfs]; cases p i <;> rfl
@[simp] theorem rep_zero {z : List Value} : Gd4 z 0 = []:=rfl
end
@[simp] theorem eq_pn {b : Option Addr} : eqV .ptr (.pointer none) (.pointer b) = some b.isNone:=by simp [eqV]
@[simp] theorem eq_ps {a : Addr} : eqV .ptr (.pointer (some a)) (.pointer none) = some false:=by simp [eqV]
theorem Gno {T : Tab} {F : Gak} {k : List Ga1} {e : Env} {h : Gag} {n m : Nat} {r r' : Value × Gag} (h1 : run T n F k e h = some r) (h2 : run T m F k e h = some r') : r = r':=by
 have a:=Gen T n (n + m) F k e h r (by omega) h1
 have b:=Gen T m (n + m) F k e h r' (by omega) h2
 rw [a] at b; exact Option.some.inj b
theorem iso_eq {T : Tab} {g : FuncId} {G : Gak} {vs : List Value} {h : Gag} {R : RP} (hG : T g = some G) (hi : G.iso = .iso) (hv : vs.all Gbi = true) {n : Nat} {v : Value} (hr : (run T n G [.code G.body] (Gby G vs) []).map (·.1) = some v) (hn : Gbi v = true) :
  Ret T g vs h R = R v h:=by
 apply propext
 constructor
 ·rintro ⟨G',hG',hor⟩
  rw [hG] at hG'; injection hG' with hG'; subst hG'
  rcases hor with ⟨_,_,n',v',h',h1,_,h2⟩ | ⟨hi',_⟩ | ⟨hi',_⟩
  ·rw [Option.map_eq_some_iff] at hr
   obtain ⟨⟨v0,h0⟩,h3,h4⟩:=hr
   have:=Gno h1 h3
   injection this with e1 _
   subst e1
   simp only at h4; subst h4
   exact h2
  ·rw [hi] at hi'; cases hi'
  ·rw [hi] at hi'; cases hi'
 ·exact fun hR=>G9g hG hi hv hr hn hR
abbrev ptr (p : Nat) : Value:=.pointer (some ⟨p,0,none⟩)
theorem Gbc {n : Nat} (h : n < 9223372036854775808) : IntKind.i64.wrap (n : Int) = n:=by
 rw [IntKind.wrap_i64]; omega
theorem G8g {i : IntKind} {a b : Nat} (h : b≤i.bits) : Gxo i (a : Int) (b : Int) = ((a / 2 ^ b : Nat) : Int):=by
 unfold Gxo
 rw [Int.toNat_natCast,Nat.min_eq_left h,show ((2 : Int) ^ b) = ((2 ^ b : Nat) : Int) by simp]
 exact Int.fdiv_eq_ediv_of_nonneg _ (Int.natCast_nonneg _)
theorem Gan {n : Int} (h : -9223372036854775808≤n) (h' : n < 9223372036854775808) : IntKind.i64.wrap n = n:=by
 rw [IntKind.wrap_i64]; omega
def Gi1 (k : IntKind) (w : World) (a : Option Addr) (len cap : Nat) (zs : List Int) : Prop :=
 (a = none∧len = 0∧cap = 0∧zs = []) ∨
 ∃ x,a = some x∧len≤cap∧cap≤maxLen∧zs.length = cap∧(∀ i,i < zs.length→w.cell? (x.add i) = some (.int k (zs.getD i 0)))∧∀ n ∈ zs,(Lit.int k n).wf = true
def rowOf (k : IntKind) (a : Option Addr) (len cap : Nat) (zs : List Int) : Row:=⟨1,a,len,cap,zs.map fun n=>.int k n⟩
theorem Gi1.ok {k : IntKind} {w : World} {a : Option Addr} {len cap : Nat} {zs : List Int} (hr : Gi1 k w a len cap zs) : (rowOf k a len cap zs).ok w:=by
 rcases hr with ⟨h1,h2,h3,h4⟩ | ⟨x,h1,h2,_,h4,h5,_⟩
 ·exact .inl ⟨h1,h2,h3,by simp [rowOf,h4]⟩
 ·refine .inr ⟨x,h1,h2,by simp [rowOf,h4],fun i v hv=>?_⟩
  simp only [rowOf,List.getElem?_map] at hv
  cases hz : zs[i]? with
  | none=>rw [hz] at hv; cases hv
  | some z =>
   rw [hz] at hv
   simp only [Option.map_some,Option.some.injEq] at hv
   subst hv
   refine ⟨rfl,rfl,?_⟩
   have:=h5 i (List.getElem?_eq_some_iff.1 hz).1
   rw [this,List.getD_eq_getElem?_getD,hz]; rfl
theorem Gi1.le {k : IntKind} {w : World} {a : Option Addr} {len cap : Nat} {zs : List Int} (hr : Gi1 k w a len cap zs) : len≤zs.length:=by
 rcases hr with ⟨_,h2,_,_⟩ | ⟨_,_,h2,_,h4,_⟩ <;> omega
theorem Gi1.wf {k : IntKind} {w : World} {a : Option Addr} {len cap : Nat} {zs : List Int} (hr : Gi1 k w a len cap zs) : ∀ n ∈ zs,(Lit.int k n).wf = true:=by
 rcases hr with ⟨_,_,_,h4⟩ | ⟨_,_,_,_,_,_,h⟩
 ·subst h4; intro n hn; cases hn
 ·exact h
theorem Gi1.sl {k : IntKind} {w : World} {a : Option Addr} {len cap : Nat} {zs : List Int} (hr : Gi1 k w a len cap zs) {rs : List Row} {id : Nat} (hid : rs[id]? = some (rowOf k a len cap zs)) :
  Sl (heapOf rs) 1 ((rowOf k a len cap zs).val id) len ((zs.take len).map fun n=>.int k n):=by
 have:=sl_row hid hr.ok (by simp [rowOf])
 simpa [rowOf,List.map_take] using this
theorem wf_i64 {n : Int} (h : (Lit.int .i64 n).wf = true) : -9223372036854775808≤n∧n < 9223372036854775808:=by
 have : (Lit.int .i64 n).wf = (decide (-9223372036854775808≤n) && decide (n≤9223372036854775807)):=rfl
 rw [this] at h
 simp at h; omega
section
variable {T : Tab} {F : Gak} {k : List Ga1} {e : Env} {h : Gag} {R : RP} {p : Nat × Nat} {ps : List (Nat × Nat)} {log : Log} {i : Nat} {os : List Ga6} {d : Option Tmp}
def opKP (o : Option (Value × Gag)) (T : Tab) (F : Gak) (d : Option Tmp) (op : ROp) (os : List Ga6) (i : Nat) (ps : List (Nat × Nat)) (log : Log) (k : List Ga1) (e : Env) (h : Gag) (R : RP) : Prop :=
 match o with
 | some (v,h')=>Ok T F (.ops os (i + 1) ps (book ps i op e h h' v log) :: k) (put e d v) h' R
 | none=>False
@[simp] theorem opKP_some {v : Value} {h' : Gag} {op : ROp} : opKP (some (v,h')) T F d op os i ps log k e h R = Ok T F (.ops os (i + 1) ps (book ps i op e h h' v log) :: k) (put e d v) h' R:=rfl
@[simp] theorem q_regionP : Ok T F (.code (.region os (p :: ps)) :: k) e h R = Ok T F (.ops os 0 (p :: ps) [] :: k) e h R:=propext Gqk
@[simp] theorem q_opP {op : ROp} (hn : ∀ f args,op ≠ .call f args) :
  Ok T F (.ops (⟨d,op,none⟩ :: os) i (p :: ps) log :: k) e h R = opKP (Gam op e h) T F d op os i (p :: ps) log k e h R:=by
 apply propext
 have hw : wanted ⟨d,op,none⟩ e = true:=rfl
 cases hs : Gam op e h with
 | some vh=>exact Qds hw hn hs
 | none =>
  constructor
  ·rintro ⟨n,v,h',h1,_⟩
   cases n with
   | zero=>simp [run] at h1
   | succ n =>
    simp only [run,hw] at h1
    cases op <;> first | (simp only [hs] at h1; cases h1; done) | exact absurd rfl (hn _ _)
  ·exact fun hf=>hf.elim
@[simp] theorem q_endP : Ok T F (.ops [] i (p :: ps) log :: k) e h R = ((p :: ps).all (Ghw log) = true∧Ok T F k e h R):=by
 apply propext
 constructor
 ·rintro ⟨n,v,h',h1,h2⟩
  cases n with
  | zero=>simp [run] at h1
  | succ n =>
   simp only [run] at h1
   split at h1 <;> try cases h1
   rename_i hc
   exact ⟨hc,n,v,h',h1,h2⟩
 ·rintro ⟨hc,ho⟩
  exact (Gmz hc).2 ho
@[simp] theorem q_callP {f : FuncId} {args : List Operand} :
  Ok T F (.ops (⟨d,.call (.func f) args,none⟩ :: os) i (p :: ps) log :: k) e h R =
   Ret T f (args.map (ev e)) h fun v h'=>Ok T F (.ops os (i + 1) (p :: ps) (book (p :: ps) i (.call (.func f) args) e h h' v log) :: k) (put e d v) h' R:=by
 apply propext
 constructor
 ·rintro ⟨n,v,h',h1,h2⟩
  cases n with
  | zero=>simp [run] at h1
  | succ n =>
   have hw : wanted ⟨d,.call (.func f) args,none⟩ e = true:=rfl
   have hce : callee e (.func f) args = some (f,args.map (ev e)):=by simp [callee,ev]
   simp only [run,hw,hce] at h1
   cases hG : T f with
   | none=>simp only [hG] at h1; cases h1
   | some G =>
    simp only [hG] at h1
    refine ⟨G,hG,?_⟩
    cases hi : G.iso with
    | rd =>
     simp only [hi] at h1
     split at h1 <;> try cases h1
     rename_i hv
     cases hr : run T n G [.code G.body] (Gby G (args.map (ev e))) (frz h) with
     | none=>rw [hr] at h1; cases h1
     | some vh =>
      obtain ⟨v1,h0⟩:=vh
      rw [hr] at h1
      simp only at h1
      split at h1 <;> try cases h1
      rename_i hna
      exact .inr (.inl ⟨rfl,hv,n,v1,h0,hr,hna,n,v,h',h1,h2⟩)
    | iso =>
     simp only [hi] at h1
     split at h1 <;> try cases h1
     rename_i hv
     cases hr : run T n G [.code G.body] (Gby G (args.map (ev e))) [] with
     | none=>rw [hr] at h1; cases h1
     | some vh =>
      obtain ⟨v1,h0⟩:=vh
      rw [hr] at h1
      simp only at h1
      split at h1 <;> try cases h1
      rename_i hna
      exact .inl ⟨rfl,hv,n,v1,h0,hr,hna,n,v,h',h1,h2⟩
    | run =>
     simp only [hi] at h1
     cases hr : run T n G [.code G.body] (Gby G (args.map (ev e))) h with
     | none=>rw [hr] at h1; cases h1
     | some vh =>
      obtain ⟨v1,h1'⟩:=vh
      rw [hr] at h1
      exact .inr (.inr ⟨rfl,n,v1,h1',hr,n,v,h',h1,h2⟩)
 ·intro hc
  exact Gh2 rfl rfl (g:=f) (vs:=args.map (ev e)) (by simp [callee,ev]) hc
end
def sid : Value→Option Nat
 | .slice (some a) _ _=>some a.block
 | _=>none
def Ga7 (h : Gag) (esz : Nat) (s : Value) (n : Nat) (cs : List Value) : Prop :=
 cs.length = n * esz∧((s = .slice none 0 0∧n = 0)∨∃ id,s = .slice (some ⟨id,0,none⟩) n esz∧blk? h id = some ⟨false,cs⟩)
theorem Ga7.sl {h : Gag} {esz n : Nat} {s : Value} {cs : List Value} (ho : Ga7 h esz s n cs) : Sl h esz s n cs:=by
 obtain ⟨hl,hs⟩:=ho
 refine ⟨hl,?_⟩
 rcases hs with hs | ⟨id,rfl,hb⟩
 ·exact .inl hs
 ·exact .inr ⟨id,0,rfl,.inr ⟨_,hb,by show 0 + n * esz≤cs.length; omega,by rw [List.drop_zero]; exact List.take_of_length_le (show cs.length≤n * esz by omega)⟩⟩
theorem Ga7.nil (h : Gag) (esz : Nat) : Ga7 h esz (.slice none 0 0) 0 []:=⟨by simp,.inl ⟨rfl,rfl⟩⟩
theorem Ga7.of_blk {h h' : Gag} {esz n : Nat} {s : Value} {cs : List Value} (ho : Ga7 h esz s n cs) (hk : ∀ id,sid s = some id→blk? h id = some ⟨false,cs⟩→blk? h' id = some ⟨false,cs⟩) : Ga7 h' esz s n cs:=by
 obtain ⟨hl,hs⟩:=ho
 refine ⟨hl,?_⟩
 rcases hs with hs | ⟨id,rfl,hb⟩
 ·exact .inl hs
 ·exact .inr ⟨id,rfl,hk id rfl hb⟩
theorem Ga7.lt {h : Gag} {esz n : Nat} {s : Value} {cs : List Value} (ho : Ga7 h esz s n cs) {id : Nat} (hs : sid s = some id) : id < h.length:=by
 rcases ho.2 with ⟨rfl,_⟩ | ⟨id',rfl,hb⟩
 ·simp [sid] at hs
 ·simp [sid] at hs; subst hs; exact blk?_lt hb
theorem Ga7.ne_nil {h : Gag} {esz n : Nat} {s : Value} {cs : List Value} (ho : Ga7 h esz s n cs) (hn : n ≠ 0) : ∃ id,s = .slice (some ⟨id,0,none⟩) n esz∧blk? h id = some ⟨false,cs⟩:=by
 rcases ho.2 with ⟨_,h0⟩ | hx
 ·exact absurd h0 hn
 ·exact hx
theorem Sl.of_sid {h h' : Gag} {esz n : Nat} {s : Value} {cs : List Value} (hs : Sl h esz s n cs) (hk : ∀ id b,sid s = some id→blk? h id = some b→blk? h' id = some b) : Sl h' esz s n cs :=
 hs.of_blk fun id _ b e hb _=>hk id b (by rw [e]; rfl) hb
theorem Sl.shape {h : Gag} {esz n : Nat} {s : Value} {cs : List Value} (hs : Sl h esz s n cs) : ∃ a c,s = .slice a n c:=by
 rcases hs.2 with ⟨rfl,h0⟩ | ⟨id,off,rfl,_⟩
 ·exact ⟨none,0,by rw [h0]⟩
 ·exact ⟨_,_,rfl⟩
theorem Gbs {h : Gag} {esz bytes n m : Nat} {s t : Value} {cs new : List Value} (ho : Ga7 h esz s n cs) (ht : Sl h esz t m new) (hr : n + m≤Gaq) (hb : bytes≤4096) (hm : m ≠ 0) :
  ∃ H,Gb0 h esz bytes s t = some (.slice (some ⟨h.length,0,none⟩) (n + m) esz,H)∧blk? H h.length = some ⟨false,cs++new⟩∧H.length = h.length + 1∧(∀ id,id < h.length→sid s ≠ some id→blk? H id = blk? h id):=by
 obtain ⟨hl,hs⟩:=ho
 rcases hs with ⟨rfl,rfl⟩ | ⟨id,rfl,hbk⟩
 ·have hc : cs = []:=List.eq_nil_of_length_eq_zero (by omega)
  subst hc
  refine ⟨h++[some ⟨false,new⟩],?_,blk?_push_eq,by simp,fun id hid _=>blk?_push_lt hid⟩
  simp only [Gb0,ht.lenV,ht.firstC,if_neg hm]
  rw [if_pos ⟨by omega,hb⟩,Nat.zero_add]
 ·refine ⟨h.set id none++[some ⟨false,cs++new⟩],?_,?_,by simp,fun j hj hne=>?_⟩
  ·simp only [Gb0,ht.lenV,ht.firstC,hbk]
   rw [if_pos ⟨trivial,trivial,by omega,hr,hb⟩]
   rw [List.drop_zero,List.take_of_length_le (by omega)]
  ·have:=blk?_push_eq (h:=h.set id none) (x:=some ⟨false,cs++new⟩)
   simpa using this
  ·rw [blk?_push_lt (by simpa using hj),blk?_set_ne (fun e=>hne (by rw [e]; rfl))]
open Go.RowKit Go.ChangeShapes Go.WideShapes
section
variable {H : Type} {enc : TypeId × Value→H} {P : Program} {w : World} {base : Nat} {held : Bool}
end
section
variable {n : Nat}
@[simp] theorem bl_int {k : IntKind} {a : Int} : below n (.int k a) = true:=by simp [below]
@[simp] theorem bl_bool {b : Bool} : below n (.bool b) = true:=by simp [below]
@[simp] theorem bl_str {b : ByteArray} : below n (.string b) = true:=by simp [below]
@[simp] theorem bl_nilP : below n (.pointer none) = true:=by simp [below]
@[simp] theorem bl_ptr {a : Addr} : below n (.pointer (some a)) = decide (a.block < n):=by simp [below]
@[simp] theorem bl_nilS {l c : Nat} : below n (.slice none l c) = true:=by simp [below]
@[simp] theorem bl_slice {a : Addr} {l c : Nat} : below n (.slice (some a) l c) = decide (a.block < n):=by simp [below]
@[simp] theorem Qaw {f : Fn} {a b : Array Value} : below n (.func f a b) = (Gat n a.toList && Gat n b.toList):=by simp [below]
@[simp] theorem bl_agg {a : Array Value} : below n (.agg a) = Gat n a.toList:=by simp [below]
@[simp] theorem G6h {a : Array Value} : below n (.tuple a) = Gat n a.toList:=by simp [below]
@[simp] theorem bl_nil : Gat n [] = true:=by simp [Gat]
@[simp] theorem G13 {v : Value} {r : List Value} : Gat n (v :: r) = (below n v && Gat n r):=by simp [Gat]
theorem Gh3 {l : List Value} : Gat n l = true ↔ ∀ v ∈ l,below n v = true:=by
 induction l with
 | nil=>simp
 | cons v r ih=>rw [G13,Bool.and_eq_true,ih]; simp
end
section
variable {T : Tab} {F : Gak} {k : List Ga1} {e : Env} {h : Gag} {R : RP}
theorem Glf {id : Nat} {b : Blk} (hb : blk? h id = some b) (hc : Gat h.length b.cells = true) : blk? (frz h) id = some ⟨true,b.cells⟩:=by
 unfold blk? at hb ⊢
 unfold frz
 rw [List.getElem?_map]
 split at hb
 ·rename_i h1
  injection hb with hb; subst hb
  rw [h1]
  simp [Qe7,hc]
 ·cases hb
@[simp] theorem Ghx : (frz h).length = h.length:=Gtf h
theorem Gah {d : Option Tmp} {op : ROp} {os : List Ga6} {i : Nat} {t : Tmp} {want : Bool} (hv : e[t]? = some undef) :
  Ok T F (.ops (⟨d,op,some (some t,want)⟩ :: os) i [] [] :: k) e h R = Ok T F (.ops os 0 [] [] :: k) (put e d undef) h R:=by
 have hw : wanted ⟨d,op,some (some t,want)⟩ e = false:=by simp [wanted,hv,undef]
 apply propext
 refine (G18 hw).trans ?_
 unfold Ok
 simp only [Ghq]
 simp only [Gdl os _ (i + 1) 0]
def Gh8 (fv : Value) (args : List Value) (T : Tab) (h : Gag) (R : RP) : Prop :=
 match fv with
 | .func (.func g) first cap=>Ret T g (first.toList++args++cap.toList) h R
 | _=>False
@[simp] theorem Gxa {g : FuncId} {a b : Array Value} {args : List Value} : Gh8 (.func (.func g) a b) args T h R = Ret T g (a.toList++args++b.toList) h R:=rfl
@[simp] theorem q_callV {d : Option Tmp} {t : Tmp} {args : List Operand} {os : List Ga6} {i : Nat} :
  Ok T F (.ops (⟨d,.call (.tmp t) args,none⟩ :: os) i [] [] :: k) e h R = Gh8 (e.getD t undef) (args.map (ev e)) T h fun v h'=>Ok T F (.ops os 0 [] [] :: k) (put e d v) h' R:=by
 have hw : wanted ⟨d,.call (.tmp t) args,none⟩ e = true:=rfl
 cases hce : callee e (.tmp t) args with
 | none =>
  have hn : Gh8 (e.getD t undef) (args.map (ev e)) T h (fun v h'=>Ok T F (.ops os 0 [] [] :: k) (put e d v) h' R) = False:=by
   unfold callee at hce
   unfold Gh8
   simp only [ev] at hce
   split at hce
   ·cases hce
   ·rename_i hnot
    split
    ·rename_i heq; exact absurd heq (hnot _ _ _)
    ·rfl
  rw [hn]
  apply propext
  constructor
  ·rintro ⟨n,v,h',h1,h2⟩
   cases n with
   | zero=>simp [run] at h1
   | succ n=>simp only [run,hw,hce] at h1; cases h1
  ·exact fun h=>h.elim
 | some gv =>
  obtain ⟨g,vs⟩:=gv
  have hk : Gh8 (e.getD t undef) (args.map (ev e)) T h (fun v h'=>Ok T F (.ops os 0 [] [] :: k) (put e d v) h' R) = Ret T g vs h (fun v h'=>Ok T F (.ops os 0 [] [] :: k) (put e d v) h' R):=by
   unfold callee at hce
   unfold Gh8
   simp only [ev] at hce
   split at hce
   ·rename_i heq
    injection hce with hce; injection hce with e1 e2
    subst e1; subst e2
    rw [heq]
   ·cases hce
  rw [hk]
  apply propext
  constructor
  ·rintro ⟨n,v,h',h1,h2⟩
   cases n with
   | zero=>simp [run] at h1
   | succ n =>
    simp only [run,hw,hce,book] at h1
    cases hG : T g with
    | none=>simp only [hG] at h1; cases h1
    | some G =>
     simp only [hG] at h1
     refine ⟨G,hG,?_⟩
     cases hi : G.iso with
     | rd =>
      simp only [hi] at h1
      split at h1 <;> try cases h1
      rename_i hv
      cases hr : run T n G [.code G.body] (Gby G vs) (frz h) with
      | none=>rw [hr] at h1; cases h1
      | some vh =>
       obtain ⟨v1,h0⟩:=vh
       rw [hr] at h1
       simp only at h1
       split at h1 <;> try cases h1
       rename_i hna
       rw [Gdl os n (i + 1) 0] at h1
       exact .inr (.inl ⟨rfl,hv,n,v1,h0,hr,hna,n,v,h',h1,h2⟩)
     | iso =>
      simp only [hi] at h1
      split at h1 <;> try cases h1
      rename_i hv
      cases hr : run T n G [.code G.body] (Gby G vs) [] with
      | none=>rw [hr] at h1; cases h1
      | some vh =>
       obtain ⟨v1,h0⟩:=vh
       rw [hr] at h1
       simp only at h1
       split at h1 <;> try cases h1
       rename_i hna
       rw [Gdl os n (i + 1) 0] at h1
       exact .inl ⟨rfl,hv,n,v1,h0,hr,hna,n,v,h',h1,h2⟩
     | run =>
      simp only [hi] at h1
      cases hr : run T n G [.code G.body] (Gby G vs) h with
      | none=>rw [hr] at h1; cases h1
      | some vh =>
       obtain ⟨v1,h1'⟩:=vh
       rw [hr] at h1
       simp only at h1
       rw [Gdl os n (i + 1) 0] at h1
       exact .inr (.inr ⟨rfl,n,v1,h1',hr,n,v,h',h1,h2⟩)
  ·intro hc
   refine Gh2 rfl rfl hce (hc.mono fun v h' ho=>?_)
   unfold Ok at ho ⊢
   simp only [book]
   simpa only [Gdl os _ (i + 1) 0] using ho
@[simp] theorem q_callVP {p : Nat × Nat} {ps : List (Nat × Nat)} {log : Log} {d : Option Tmp} {t : Tmp} {args : List Operand} {os : List Ga6} {i : Nat} :
  Ok T F (.ops (⟨d,.call (.tmp t) args,none⟩ :: os) i (p :: ps) log :: k) e h R =
   Gh8 (e.getD t undef) (args.map (ev e)) T h fun v h'=>Ok T F (.ops os (i + 1) (p :: ps) (book (p :: ps) i (.call (.tmp t) args) e h h' v log) :: k) (put e d v) h' R:=by
 have hw : wanted ⟨d,.call (.tmp t) args,none⟩ e = true:=rfl
 generalize hK : (fun v h'=>Ok T F (.ops os (i + 1) (p :: ps) (book (p :: ps) i (.call (.tmp t) args) e h h' v log) :: k) (put e d v) h' R) = K
 cases hce : callee e (.tmp t) args with
 | none =>
  have hn : Gh8 (e.getD t undef) (args.map (ev e)) T h K = False:=by
   unfold callee at hce
   unfold Gh8
   simp only [ev] at hce
   split at hce
   ·cases hce
   ·rename_i hnot
    split
    ·rename_i heq; exact absurd heq (hnot _ _ _)
    ·rfl
  rw [hn]
  apply propext
  constructor
  ·rintro ⟨n,v,h',h1,h2⟩
   cases n with
   | zero=>simp [run] at h1
   | succ n=>simp only [run,hw,hce] at h1; cases h1
  ·exact fun h=>h.elim
 | some gv =>
  obtain ⟨g,vs⟩:=gv
  have hk : Gh8 (e.getD t undef) (args.map (ev e)) T h K = Ret T g vs h K:=by
   unfold callee at hce
   unfold Gh8
   simp only [ev] at hce
   split at hce
   ·rename_i heq
    injection hce with hce; injection hce with e1 e2
    subst e1; subst e2
    rw [heq]
   ·cases hce
  rw [hk]
  subst hK
  apply propext
  constructor
  ·rintro ⟨n,v,h',h1,h2⟩
   cases n with
   | zero=>simp [run] at h1
   | succ n =>
    simp only [run,hw,hce] at h1
    cases hG : T g with
    | none=>simp only [hG] at h1; cases h1
    | some G =>
     simp only [hG] at h1
     refine ⟨G,hG,?_⟩
     cases hi : G.iso with
     | rd =>
      simp only [hi] at h1
      split at h1 <;> try cases h1
      rename_i hv
      cases hr : run T n G [.code G.body] (Gby G vs) (frz h) with
      | none=>rw [hr] at h1; cases h1
      | some vh =>
       obtain ⟨v1,h0⟩:=vh
       rw [hr] at h1
       simp only at h1
       split at h1 <;> try cases h1
       rename_i hna
       exact .inr (.inl ⟨rfl,hv,n,v1,h0,hr,hna,n,v,h',h1,h2⟩)
     | iso =>
      simp only [hi] at h1
      split at h1 <;> try cases h1
      rename_i hv
      cases hr : run T n G [.code G.body] (Gby G vs) [] with
      | none=>rw [hr] at h1; cases h1
      | some vh =>
       obtain ⟨v1,h0⟩:=vh
       rw [hr] at h1
       simp only at h1
       split at h1 <;> try cases h1
       rename_i hna
       exact .inl ⟨rfl,hv,n,v1,h0,hr,hna,n,v,h',h1,h2⟩
     | run =>
      simp only [hi] at h1
      cases hr : run T n G [.code G.body] (Gby G vs) h with
      | none=>rw [hr] at h1; cases h1
      | some vh =>
       obtain ⟨v1,h1'⟩:=vh
       rw [hr] at h1
       exact .inr (.inr ⟨rfl,n,v1,h1',hr,n,v,h',h1,h2⟩)
  ·intro hc
   exact Gh2 rfl rfl hce hc
theorem Gck {g : FuncId} {vs : List Value} {R0 : RP} (hr : Ret T g vs h R0) : ∃ v h',(∀ R,Ret T g vs h R = R v h')∧R0 v h':=by
 obtain ⟨G,hG,hor⟩:=hr
 rcases hor with ⟨hi,hv,n,v,h',h1,h2,h3⟩ | ⟨hi,hv,n,v,h',h1,h2,h3⟩ | ⟨hi,n,v,h',h1,h3⟩
 ·refine ⟨v,h,fun R=>propext ⟨?_,fun hR=>⟨G,hG,.inl ⟨hi,hv,n,v,h',h1,h2,hR⟩⟩⟩,h3⟩
  rintro ⟨G',hG',hor⟩
  rw [hG] at hG'; injection hG' with e; subst e
  rcases hor with ⟨_,_,n',v',h'',a1,_,a3⟩ | ⟨hi',_⟩ | ⟨hi',_⟩
  ·have:=Gno h1 a1
   injection this with e1 _; subst e1; exact a3
  ·rw [hi] at hi'; cases hi'
  ·rw [hi] at hi'; cases hi'
 ·refine ⟨v,h,fun R=>propext ⟨?_,fun hR=>⟨G,hG,.inr (.inl ⟨hi,hv,n,v,h',h1,h2,hR⟩)⟩⟩,h3⟩
  rintro ⟨G',hG',hor⟩
  rw [hG] at hG'; injection hG' with e; subst e
  rcases hor with ⟨hi',_⟩ | ⟨_,_,n',v',h'',a1,_,a3⟩ | ⟨hi',_⟩
  ·rw [hi] at hi'; cases hi'
  ·have:=Gno h1 a1
   injection this with e1 _; subst e1; exact a3
  ·rw [hi] at hi'; cases hi'
 ·refine ⟨v,h',fun R=>propext ⟨?_,fun hR=>⟨G,hG,.inr (.inr ⟨hi,n,v,h',h1,hR⟩)⟩⟩,h3⟩
  rintro ⟨G',hG',hor⟩
  rw [hG] at hG'; injection hG' with e; subst e
  rcases hor with ⟨hi',_⟩ | ⟨hi',_⟩ | ⟨_,n',v',h'',a1,a3⟩
  ·rw [hi] at hi'; cases hi'
  ·rw [hi] at hi'; cases hi'
  ·have:=Gno h1 a1
   injection this with e1 e2; subst e1; subst e2; exact a3
@[simp] theorem vq_int {d : Nat} {i : IntKind} {a : Int} : veq (d + 1) (.int i a) (.int i a) = true:=by simp [veq]
@[simp] theorem vq_bool {d : Nat} {a : Bool} : veq (d + 1) (.bool a) (.bool a) = true:=by simp [veq]
@[simp] theorem vq_ptr {d : Nat} {a : Option Addr} : veq (d + 1) (.pointer a) (.pointer a) = true:=by simp [veq]
@[simp] theorem vq_slice {d : Nat} {a : Option Addr} {n c : Nat} : veq (d + 1) (.slice a n c) (.slice a n c) = true:=by simp [veq]
@[simp] theorem vq_nil {d : Nat} : veq.all2 d [] [] = true:=by simp [veq.all2]
@[simp] theorem vq_cons {d : Nat} {x : Value} {l : List Value} : veq.all2 d (x :: l) (x :: l) = (veq d x x && veq.all2 d l l):=by simp [veq.all2]
@[simp] theorem vq_func {d : Nat} {f : Fn} {a b : Array Value} : veq (d + 1) (.func f a b) (.func f a b) = (veq.all2 d a.toList a.toList && veq.all2 d b.toList b.toList):=by simp [veq]
end
def tlC : Nat→RCode→RCode
 | 0,c=>c
 | n + 1,.seq _ b=>tlC n b
 | _ + 1,c=>c
def Gd5 : RCode→RCode
 | .seq a _=>a
 | c=>c
def Gau (n : Nat) (c : RCode) : RCode:=Gd5 (tlC n c)
@[simp] theorem var_func {f : Fn} {a b : Array Value} : isVar (.func f a b) = true:=rfl
@[simp] theorem var_nilF : isVar .nilFunc = true:=rfl
@[simp] theorem cells_func {f : Fn} {a b : Array Value} : (Value.func f a b).cells = #[.func f a b]:=rfl
@[simp] theorem cells_nilF : (Value.nilFunc).cells = #[.nilFunc]:=rfl
section
variable {h l : Gag} {k : Nat} {x : Option Blk}
theorem Gbe : blk? (h++l) h.length = blk? l 0:=by
 unfold blk?; rw [List.getElem?_append_right (Nat.le_refl _),Nat.sub_self]
theorem Ga0 : blk? (h++l) (h.length + k) = blk? l k:=by
 unfold blk?; rw [List.getElem?_append_right (by omega)]; congr 2; omega
theorem Gbf {id : Nat} (hi : id < h.length) : blk? (h++l) id = blk? h id:=by
 unfold blk?; rw [List.getElem?_append_left hi]
theorem Gb8 : blk? (x :: l) 0 = x:=by unfold blk?; cases x <;> rfl
theorem Gc4 : blk? (x :: l) (k + 1) = blk? l k:=rfl
theorem Gou : (h++l).set h.length x = h++l.set 0 x:=by rw [List.set_append_right _ _ (Nat.le_refl _),Nat.sub_self]
theorem Gnj : (h++l).set (h.length + k) x = h++l.set k x:=by
 rw [List.set_append_right _ _ (by omega)]; congr 2; omega
end
mutual
theorem Gih {n m : Nat} (hl : n≤m) : ∀ v,below n v = true→below m v = true
 | .pointer (some a),h=>by simp at h ⊢; omega
 | .slice (some a) _ _,h=>by simp at h ⊢; omega
 | .func _ ⟨a⟩ ⟨b⟩,h=>by
  simp only [Qaw,Bool.and_eq_true] at h ⊢
  exact ⟨Gdn hl _ h.1,Gdn hl _ h.2⟩
 | .agg ⟨a⟩,h=>by
  rw [bl_agg] at h ⊢
  exact Gdn hl _ h
 | .tuple ⟨a⟩,h=>by
  rw [G6h] at h ⊢
  exact Gdn hl _ h
 | .pointer none,_=>by simp
 | .slice none _ _,_=>by simp
 | .bool _,_=>by simp
 | .int _ _,_=>by simp
 | .string _,_=>by simp
 | .float _ _,_=>by simp [below]
 | .complex _ _ _,_=>by simp [below]
 | .map _,_=>by simp [below]
 | .chan _,_=>by simp [below]
 | .nilFunc,_=>by simp [below]
 | .iface _ v,h=>by
  simp only [below] at h ⊢
  exact Gih hl v h
 | .nilIface,_=>by simp [below]
theorem Gdn {n m : Nat} (hl : n≤m) : ∀ l,Gat n l = true→Gat m l = true
 | [],_=>by simp
 | v :: r,h=>by
  rw [G13,Bool.and_eq_true] at h ⊢
  exact ⟨Gih hl v h.1,Gdn hl r h.2⟩
end
section
variable {n : Nat} {T : Tab} {F : Gak} {k : List Ga1} {e : Env} {h : Gag} {R : RP}
@[simp] theorem var_iface {t : TypeId} {v : Value} : isVar (.iface t v) = true:=rfl
@[simp] theorem var_nilI : isVar .nilIface = true:=rfl
@[simp] theorem cells_iface {t : TypeId} {v : Value} : (Value.iface t v).cells = #[.iface t v]:=rfl
@[simp] theorem cells_nilI : (Value.nilIface).cells = #[.nilIface]:=rfl
@[simp] theorem st_mkI {t : TypeId} {x : Operand} : Gam (.mkI t x) e h = (if isVar (ev e x) = true then some (.iface t (ev e x),h) else none):=rfl
@[simp] theorem st_bad : Gam .bad e h = none:=rfl
def Gtm (o : Option (FuncId × List Value)) (T : Tab) (h : Gag) (R : RP) : Prop :=
 match o with
 | some (g,vs)=>Ret T g vs h R
 | none=>False
theorem G9d {d : Option Tmp} {f : Operand} {args : List Operand} {os : List Ga6} {i : Nat} :
  Ok T F (.ops (⟨d,.call f args,none⟩ :: os) i [] [] :: k) e h R = Gtm (callee e f args) T h fun v h'=>Ok T F (.ops os 0 [] [] :: k) (put e d v) h' R:=by
 have hw : wanted ⟨d,.call f args,none⟩ e = true:=rfl
 apply propext
 cases hce : callee e f args with
 | none =>
  constructor
  ·rintro ⟨n,v,h',h1,h2⟩
   cases n with
   | zero=>simp [run] at h1
   | succ n=>simp only [run,hw,hce] at h1; cases h1
  ·exact fun h=>h.elim
 | some gv =>
  obtain ⟨g,vs⟩:=gv
  constructor
  ·rintro ⟨n,v,h',h1,h2⟩
   cases n with
   | zero=>simp [run] at h1
   | succ n =>
    simp only [run,hw,hce,book] at h1
    cases hG : T g with
    | none=>simp only [hG] at h1; cases h1
    | some G =>
     simp only [hG] at h1
     refine ⟨G,hG,?_⟩
     cases hi : G.iso with
     | rd =>
      simp only [hi] at h1
      split at h1 <;> try cases h1
      rename_i hv
      cases hr : run T n G [.code G.body] (Gby G vs) (frz h) with
      | none=>rw [hr] at h1; cases h1
      | some vh =>
       obtain ⟨v1,h0⟩:=vh
       rw [hr] at h1
       simp only at h1
       split at h1 <;> try cases h1
       rename_i hna
       rw [Gdl os n (i + 1) 0] at h1
       exact .inr (.inl ⟨rfl,hv,n,v1,h0,hr,hna,n,v,h',h1,h2⟩)
     | iso =>
      simp only [hi] at h1
      split at h1 <;> try cases h1
      rename_i hv
      cases hr : run T n G [.code G.body] (Gby G vs) [] with
      | none=>rw [hr] at h1; cases h1
      | some vh =>
       obtain ⟨v1,h0⟩:=vh
       rw [hr] at h1
       simp only at h1
       split at h1 <;> try cases h1
       rename_i hna
       rw [Gdl os n (i + 1) 0] at h1
       exact .inl ⟨rfl,hv,n,v1,h0,hr,hna,n,v,h',h1,h2⟩
     | run =>
      simp only [hi] at h1
      cases hr : run T n G [.code G.body] (Gby G vs) h with
      | none=>rw [hr] at h1; cases h1
      | some vh =>
       obtain ⟨v1,h1'⟩:=vh
       rw [hr] at h1
       simp only at h1
       rw [Gdl os n (i + 1) 0] at h1
       exact .inr (.inr ⟨rfl,n,v1,h1',hr,n,v,h',h1,h2⟩)
  ·intro hc
   have hc' : Ret T g vs h (fun v h'=>Ok T F (.ops os 0 [] [] :: k) (put e d v) h' R):=hc
   refine Gh2 rfl rfl hce (hc'.mono fun v h' ho=>?_)
   unfold Ok at ho ⊢
   simp only [book]
   simpa only [Gdl os _ (i + 1) 0] using ho
theorem G2k {p : Nat × Nat} {ps : List (Nat × Nat)} {log : Log} {d : Option Tmp} {f : Operand} {args : List Operand} {os : List Ga6} {i : Nat} :
  Ok T F (.ops (⟨d,.call f args,none⟩ :: os) i (p :: ps) log :: k) e h R =
   Gtm (callee e f args) T h fun v h'=>Ok T F (.ops os (i + 1) (p :: ps) (book (p :: ps) i (.call f args) e h h' v log) :: k) (put e d v) h' R:=by
 have hw : wanted ⟨d,.call f args,none⟩ e = true:=rfl
 apply propext
 cases hce : callee e f args with
 | none =>
  constructor
  ·rintro ⟨n,v,h',h1,h2⟩
   cases n with
   | zero=>simp [run] at h1
   | succ n=>simp only [run,hw,hce] at h1; cases h1
  ·exact fun h=>h.elim
 | some gv =>
  obtain ⟨g,vs⟩:=gv
  constructor
  ·rintro ⟨n,v,h',h1,h2⟩
   cases n with
   | zero=>simp [run] at h1
   | succ n =>
    simp only [run,hw,hce] at h1
    cases hG : T g with
    | none=>simp only [hG] at h1; cases h1
    | some G =>
     simp only [hG] at h1
     refine ⟨G,hG,?_⟩
     cases hi : G.iso with
     | rd =>
      simp only [hi] at h1
      split at h1 <;> try cases h1
      rename_i hv
      cases hr : run T n G [.code G.body] (Gby G vs) (frz h) with
      | none=>rw [hr] at h1; cases h1
      | some vh =>
       obtain ⟨v1,h0⟩:=vh
       rw [hr] at h1
       simp only at h1
       split at h1 <;> try cases h1
       rename_i hna
       exact .inr (.inl ⟨rfl,hv,n,v1,h0,hr,hna,n,v,h',h1,h2⟩)
     | iso =>
      simp only [hi] at h1
      split at h1 <;> try cases h1
      rename_i hv
      cases hr : run T n G [.code G.body] (Gby G vs) [] with
      | none=>rw [hr] at h1; cases h1
      | some vh =>
       obtain ⟨v1,h0⟩:=vh
       rw [hr] at h1
       simp only at h1
       split at h1 <;> try cases h1
       rename_i hna
       exact .inl ⟨rfl,hv,n,v1,h0,hr,hna,n,v,h',h1,h2⟩
     | run =>
      simp only [hi] at h1
      cases hr : run T n G [.code G.body] (Gby G vs) h with
      | none=>rw [hr] at h1; cases h1
      | some vh =>
       obtain ⟨v1,h1'⟩:=vh
       rw [hr] at h1
       exact .inr (.inr ⟨rfl,n,v1,h1',hr,n,v,h',h1,h2⟩)
  ·intro hc
   exact Gh2 rfl rfl hce hc
def Gc0 (tb : Array Value) (vs : List Value) (T : Tab) (h : Gag) (R : RP) : Prop :=
 match vs with
 | .iface t v :: rest=>match Gfu t tb.toList with | some g=>Ret T g (v :: rest) h R | none=>False
 | _=>False
theorem Gqo {tb : Array Value} {args : List Operand} : Gtm (callee e (.const (.tuple tb)) args) T h R = Gc0 tb (args.map (ev e)) T h R:=by
 unfold callee Gc0
 simp only
 cases hl : args.map (ev e) with
 | nil=>rfl
 | cons x rest =>
  cases x <;> try rfl
  rename_i t v
  simp only
  cases hm : Gfu t tb.toList <;> rfl
@[simp] theorem callIK_iface {tb : Array Value} {t : TypeId} {v : Value} {rest : List Value} : Gc0 tb (.iface t v :: rest) T h R = (match Gfu t tb.toList with | some g=>Ret T g (v :: rest) h R | none=>False):=rfl
@[simp] theorem q_callI {d : Option Tmp} {tb : Array Value} {args : List Operand} {os : List Ga6} {i : Nat} :
  Ok T F (.ops (⟨d,.call (.const (.tuple tb)) args,none⟩ :: os) i [] [] :: k) e h R = Gc0 tb (args.map (ev e)) T h fun v h'=>Ok T F (.ops os 0 [] [] :: k) (put e d v) h' R:=by
 rw [G9d,Gqo]
@[simp] theorem q_callIP {p : Nat × Nat} {ps : List (Nat × Nat)} {log : Log} {d : Option Tmp} {tb : Array Value} {args : List Operand} {os : List Ga6} {i : Nat} :
  Ok T F (.ops (⟨d,.call (.const (.tuple tb)) args,none⟩ :: os) i (p :: ps) log :: k) e h R =
   Gc0 tb (args.map (ev e)) T h fun v h'=>Ok T F (.ops os (i + 1) (p :: ps) (book (p :: ps) i (.call (.const (.tuple tb)) args) e h h' v log) :: k) (put e d v) h' R:=by
 rw [G2k,Gqo]
end
inductive CS where
 | int (k : IntKind)
 | bool
 | str
 | sl (k : IntKind)
 deriving DecidableEq
def CS.fits (w : World) (s : CS) (v : Value) : Prop :=
 match s with
 | .int k=>∃ n,v = .int k n∧(Lit.int k n).wf = true
 | .bool=>∃ b,v = .bool b
 | .str=>∃ s,v = .string s
 | .sl k=>∃ a len cap zs,v = .slice a len cap∧Gi1 k w a len cap zs
def Fits (w : World) : List CS→List Value→Prop
 | [],[]=>True
 | s :: l,v :: vs=>s.fits w v∧Fits w l vs
 | _,_=>False
theorem Fits.app {w : World} : ∀ {l l' : List CS} {vs vs' : List Value},Fits w l vs→Fits w l' vs'→Fits w (l++l') (vs++vs')
 | [],_,[],_,_,h=>h
 | _ :: _,_,_ :: _,_,h,k=>⟨h.1,Fits.app h.2 k⟩
def Gr9 (l : List CS) : Nat→List CS
 | 0=>[]
 | n + 1=>l++Gr9 l n
def Gqu (P : Program) (g : TypeId→Option (List CS)) : List Field→Nat→Option (List CS)
 | [],_=>some []
 | f :: r,off =>
  match g f.type with
  | some l =>
   if f.offset = off∧P.cellsOf f.type = l.length then
    match Gqu P g r (off + l.length) with
    | some l'=>some (l++l')
    | none=>none
   else none
  | none=>none
def Gj2 (P : Program) : Nat→TypeId→Option (List CS)
 | 0,_=>none
 | n + 1,t =>
  match P.underlying t with
  | some (.int k)=>some [.int k]
  | some .bool=>some [.bool]
  | some .string=>some [.str]
  | some (.slice e) =>
   match P.underlying e with
   | some (.int k)=>if P.cellsOf e = 1 then some [.sl k] else none
   | _=>none
  | some (.struct fs) =>
   match Gqu P (Gj2 P n) fs.toList 0 with
   | some l=>if P.cellsOf t = l.length then some l else none
   | none=>none
  | some (.array m e) =>
   match Gj2 P n e with
   | some l=>if P.cellsOf e = l.length∧P.cellsOf t = (Gr9 l m).length then some (Gr9 l m) else none
   | none=>none
  | _=>none
section
variable {H : Type} {enc : TypeId × Value→H} {P : Program} {w : World} {base : Nat}
theorem Glm {g : TypeId→Option (List CS)} {n : Nat} {cs : List Value}
  (hg : ∀ t l c y,g t = some l→DataW.trod enc P w base (fun _=>true) true n t c = some y→Fits w l c) :
  ∀ (fs : List Field) (off : Nat) (l : List CS),Gqu P g fs off = some l→(∀ f ∈ fs,∃ y,DataW.trod enc P w base (fun _=>true) true n f.type ((cs.drop f.offset).take (P.cellsOf f.type)) = some y) →
   Fits w l ((cs.drop off).take l.length)
 | [],off,l,h,_=>by
  simp only [Gqu,Option.some.injEq] at h; subst h
  simp [Fits]
 | f :: r,off,l,h,hf=>by
  simp only [Gqu] at h
  split at h <;> try cases h
  rename_i l1 h1
  split at h <;> try cases h
  rename_i hc
  split at h <;> try cases h
  rename_i l2 h2
  obtain ⟨y,hy⟩:=hf f (by simp)
  have a:=hg _ _ _ _ h1 hy
  rw [hc.1,hc.2] at a
  have b:=Glm hg r _ l2 h2 (fun f' hf'=>hf f' (by simp [hf']))
  have e : (cs.drop off).take (l1++l2).length = (cs.drop off).take l1.length++(cs.drop (off + l1.length)).take l2.length:=by
   rw [List.length_append,List.take_add,List.drop_drop]
  rw [e]
  exact a.app b
theorem Gto : ∀ (n : Nat) (t : TypeId) (l : List CS) (fuel : Nat) (cs : List Value) (x : DataW H × List MemPlace),Gj2 P n t = some l→DataW.trod enc P w base (fun _=>true) true fuel t cs = some x→Fits w l cs
 | 0,_,_,_,_,_,h,_=>by simp [Gj2] at h
 | n + 1,t,l,fuel,cs,x,h,hx=>by
  simp only [Gj2] at h
  split at h
  ·rename_i k hu
   injection h with h; subst h
   obtain ⟨a,rfl,_,hw⟩:=DataW.trod_int hu hx
   exact ⟨⟨a,rfl,hw⟩,trivial⟩
  ·rename_i hu
   injection h with h; subst h
   obtain ⟨a,rfl,_⟩:=DataW.trod_bool hu hx
   exact ⟨⟨a,rfl⟩,trivial⟩
  ·rename_i hu
   injection h with h; subst h
   obtain ⟨a,rfl,_⟩:=DataW.trod_string hu hx
   exact ⟨⟨a,rfl⟩,trivial⟩
  ·rename_i e hu
   split at h <;> try cases h
   rename_i k he
   split at h <;> try cases h
   rename_i hc
   rcases open_ints hu he hc hx with ⟨hcs,_⟩ | ⟨x,l,c',zs,hcs,_,hl,hm,hz,_,hcell,hwz⟩
   ·subst hcs
    exact ⟨⟨none,0,0,[],rfl,.inl ⟨rfl,rfl,rfl,rfl⟩⟩,trivial⟩
   ·subst hcs
    exact ⟨⟨_,l,c',zs,rfl,.inr ⟨_,rfl,hl,hm,by simpa using hz,hcell,hwz⟩⟩,trivial⟩
  ·rename_i fs hu
   split at h <;> try cases h
   rename_i l' hl'
   split at h <;> try cases h
   rename_i hc
   obtain ⟨xs,m,_,_,hlen,hxl,hf⟩:=DataW.trod_struct hu hx
   have:=Glm (cs:=cs) (g:=Gj2 P n) (n:=m) (fun t l c y h1 h2=>Gto n t l m c y h1 h2) fs.toList 0 l hl' (fun f hf'=>by
    obtain ⟨i,hi,rfl⟩:=List.getElem_of_mem hf'
    have hi' : i < fs.size:=by simpa using hi
    have:=hf i fs[i] (by simp [hi'])
    rw [List.getElem?_eq_getElem (by omega)] at this
    exact ⟨_,by simpa using this⟩)
   rw [List.drop_zero,List.take_of_length_le (by omega)] at this
   exact this
  ·rename_i m e hu
   split at h <;> try cases h
   rename_i l' hl'
   split at h <;> try cases h
   rename_i hc
   obtain ⟨xs,m',_,_,hlen,hxl,hf⟩:=DataW.trod_array hu hx
   have key : ∀ k i,i + k = m→Fits w (Gr9 l' k) ((cs.drop (i * P.cellsOf e)).take (Gr9 l' k).length):=by
    intro k
    induction k with
    | zero=>intro i _; simp [Gr9,Fits]
    | succ k ih =>
     intro i hi
     have h1:=hf i (by omega)
     rw [List.getElem?_eq_getElem (by omega)] at h1
     have a:=Gto n e l' m' _ _ hl' h1
     have b:=ih (i + 1) (by omega)
     rw [Gr9,List.length_append,List.take_add,List.drop_drop]
     rw [hc.1] at a b
     rw [hc.1,show i * l'.length + l'.length = (i + 1) * l'.length by rw [Nat.add_mul,Nat.one_mul]]
     exact a.app b
   have:=key m 0 (by omega)
   rw [Nat.zero_mul,List.drop_zero,List.take_of_length_le (by omega)] at this
   exact this
  ·cases h
theorem open_flat {t : TypeId} {l : List CS} {v : Value} {d : DataW H} {p : List MemPlace} {b : Nat} (n : Nat) (hfl : Gj2 P n t = some l) (hv : Value.okWide P w .any b t v) (h : DataW.Trod enc P w 0 (fun _=>true) true t v d p) :
  Fits w l v.cells.toList∧(Gx3 P t = some true→∃ cs,v = .agg cs):=by
 obtain ⟨fuel,hf⟩:=h
 refine ⟨Gto n t l fuel _ _ hfl hf,fun ha=>?_⟩
 unfold Gx3 at ha
 split at ha <;> try (cases ha; done)
 ·rename_i fs hu
  obtain ⟨cs,h1,_⟩:=okWide_struct hu hv
  exact ⟨cs,h1⟩
 ·rename_i n e hu
  simp only [Value.okWide,hu] at hv
  obtain ⟨cs,h1,_⟩:=hv
  exact ⟨cs,h1⟩
end
theorem Fits.cons {w : World} {s : CS} {l : List CS} {vs : List Value} (h : Fits w (s :: l) vs) : ∃ v vs',vs = v :: vs'∧s.fits w v∧Fits w l vs':=by
 cases vs with
 | nil=>exact h.elim
 | cons v vs'=>exact ⟨v,vs',rfl,h.1,h.2⟩
theorem Fits.nil {w : World} {vs : List Value} (h : Fits w [] vs) : vs = []:=by
 cases vs with
 | nil=>rfl
 | cons v vs'=>exact h.elim
theorem all_cons {α : Type} {p : α→Prop} {a : α} {l : List α} (h : p a) (k : ∀ x ∈ l,p x) : ∀ x ∈ a :: l,p x:=by
 intro x hx
 rcases List.mem_cons.1 hx with rfl | hx
 ·exact h
 ·exact k x hx
theorem all_nil {α : Type} {p : α→Prop} : ∀ x ∈ ([] : List α),p x:=fun x hx=>by cases hx
def kis (k : IntKind) (xs : List Int) : List Value:=xs.map fun v=>.int k v
theorem Gy8 (k : IntKind) (xs : List Int) : (kis k xs).length = xs.length:=by simp [kis]
theorem Gz7 (n : Nat) (k : IntKind) (xs : List Int) : Gat n (kis k xs) = true:=by
 rw [Gh3]
 intro v hv
 simp only [kis,List.mem_map] at hv
 obtain ⟨x,_,rfl⟩:=hv
 simp
structure Rk (k : IntKind) (h : Gag) (s : Value) (xs : List Int) : Prop where
 sl : Sl h 1 s xs.length (kis k xs)
 sb : below h.length s = true
 bl : ∀ id b,sid s = some id→blk? h id = some b→∀ n,Gat n b.cells = true
 rng : ∀ v ∈ xs,(Lit.int k v).wf = true
section
variable {k : IntKind} {h h' : Gag} {s : Value} {xs : List Int}
theorem Rk.row {w : World} {a : Option Addr} {len cap : Nat} {zs : List Int} (hr : Gi1 k w a len cap zs) {rs : List Row} {id : Nat} (hid : rs[id]? = some (rowOf k a len cap zs)) :
  Rk k (heapOf rs) ((rowOf k a len cap zs).val id) (zs.take len):=by
 have hl : (zs.take len).length = len:=by have:=hr.le; simp; omega
 have hlt:=(List.getElem?_eq_some_iff.1 hid).1
 refine ⟨by rw [hl]; exact hr.sl hid,?_,fun j b hj hb n=>?_,fun v hv=>hr.wf v (List.mem_of_mem_take hv)⟩
 ·unfold Row.val
  split
  ·simp
  ·simp [heapOf]; exact hlt
 ·obtain ⟨r,h1,_,rfl⟩:=Gia hb
  have : j = id:=by
   unfold Row.val at hj
   split at hj
   ·simp [sid] at hj
   ·simp [sid] at hj; exact hj.symm
  subst this
  rw [hid] at h1; injection h1 with h1; subst h1
  rw [Gh3]
  intro v hv
  simp only [rowOf,List.mem_map] at hv
  obtain ⟨x,_,rfl⟩:=hv
  simp
theorem Rk.lt (hi : Rk k h s xs) {id : Nat} (hid : sid s = some id) : id < h.length:=by
 obtain ⟨a,c,hs⟩:=hi.sl.shape
 have:=hi.sb
 rw [hs] at this hid
 cases a with
 | none=>simp [sid] at hid
 | some a=>simp [sid] at hid this; omega
theorem Rk.keep (hi : Rk k h s xs) (hl : h.length≤h'.length) (hk : ∀ id,id < h.length→sid s = some id→blk? h' id = blk? h id) : Rk k h' s xs:=by
 refine ⟨hi.sl.of_sid fun id b hid hb=>by rw [hk id (blk?_lt hb) hid]; exact hb,Gih hl _ hi.sb,fun id b hid hb=>?_,hi.rng⟩
 rw [hk id (hi.lt hid) hid] at hb
 exact hi.bl id b hid hb
theorem Rk.push (hi : Rk k h s xs) (l : Gag) : Rk k (h++l) s xs:=hi.keep (by simp) fun id hid _=>Gbf hid
theorem Rk.get (hi : Rk k h s xs) {i : Nat} (hil : i < xs.length) :
  ∃ id off b,s = .slice (some ⟨id,off,none⟩) xs.length 1∧blk? h id = some b∧b.cells[off + i]? = some (.int k xs[i]):=by
 obtain ⟨id,off,b,e,hb,hc⟩:=hi.sl.get hil
 have:=hc 0 (by omega)
 refine ⟨id,off,b,e,hb,?_⟩
 rw [Nat.mul_one,Nat.add_zero,Nat.add_zero] at this
 rw [this]; simp [kis,hil]
theorem Rk.own (ho : Ga7 h 1 s xs.length (kis k xs)) (hb : below h.length s = true) (hr : ∀ v ∈ xs,(Lit.int k v).wf = true) : Rk k h s xs:=by
 refine ⟨ho.sl,hb,fun id b hid hb' n=>?_,hr⟩
 rcases ho.2 with ⟨rfl,_⟩ | ⟨id',rfl,hb2⟩
 ·simp [sid] at hid
 ·simp [sid] at hid; subst hid
  rw [hb2] at hb'; injection hb' with hb'; subst hb'
  exact Gz7 n k xs
theorem Rk.sub (hi : Rk k h s xs) {l t : Nat} (hlt : l≤t) (ht : t≤xs.length) {lo hi' : Option Value} (h1 : Gl5 hi' xs.length xs.length = some t) (h2 : Gl5 lo t 0 = some l) :
  ∃ s',Gc8 1 s lo hi' = some s'∧Rk k h s' ((xs.take t).drop l):=by
 obtain ⟨hl,hs⟩:=hi.sl
 have e : ((xs.take t).drop l).length = t - l:=by simp; omega
 have hrng : ∀ v ∈ (xs.take t).drop l,(Lit.int k v).wf = true:=fun v hv=>hi.rng v (List.mem_of_mem_take (List.mem_of_mem_drop hv))
 rcases hs with ⟨rfl,h0⟩ | ⟨id,off,rfl,hx⟩
 ·refine ⟨.slice none 0 0,?_,⟨⟨?_,.inl ⟨rfl,by omega⟩⟩,by simp,fun id b hid=>by simp [sid] at hid,hrng⟩⟩
  ·unfold Gc8
   rw [h0] at h1
   simp only [h1,h2]
   simp
  ·rw [Gy8,Nat.mul_one]
 ·refine ⟨.slice (some ⟨id,off + l * 1,none⟩) (t - l) 1,?_,⟨⟨by rw [Gy8,Nat.mul_one],.inr ⟨id,off + l * 1,by rw [e],?_⟩⟩,by simpa using hi.sb,fun j b hid hb=>hi.bl j b (by simpa [sid] using hid) hb,hrng⟩⟩
  ·unfold Gc8
   simp only [h1,h2]
   simp
  ·by_cases hz : t - l = 0
   ·exact .inl (by rw [e]; exact hz)
   ·right
    rcases hx with h0 | ⟨b,hb,hle,hc⟩
    ·omega
    ·refine ⟨b,hb,by rw [e]; omega,?_⟩
     rw [e,Nat.mul_one,Nat.mul_one]
     rw [Nat.mul_one] at hc
     simp only [kis] at hc ⊢
     rw [List.map_drop,List.map_take,← hc]
     rw [List.take_take,List.drop_take,List.drop_drop,Nat.min_eq_left ht]
end
end Go.Sim
