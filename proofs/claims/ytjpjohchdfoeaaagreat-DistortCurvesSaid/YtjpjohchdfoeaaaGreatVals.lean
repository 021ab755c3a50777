/-
  The decoder's passes, plain: what they ask for, as trees.
  A source of bits, and a pass of the decoder in progress.
  The source that the block decoder reads a pass from: an arithmetic decoder or a reader of raw bits behind an interface, and the symbols that were read.
  The decoder's passes: questions, signs, what they read.
  The decoder's passes: the significance and the refinement pass.
  The decoder's passes: the cleanup pass.
  The passes of a block, decoded: the plain law.
  Run of the decoder's passes.
  The block encoder, followed: the segments.
  The shape of the passes, how many symbols there are, and what Encode answers: plain.
  The block encoder, followed: Encode.
  Coded blocks: Valid, and whether two are the same.
  The block decoder's reading, followed: the passes of a segment.
  The block decoder's reading, followed: the segments.
  The block decoder's reading: the contract of blockdec.read.
  Coded blocks: whether two are the same, and Truncate.
  The block decoder's check of its arguments.
  The source that gives out symbols.
  Values: the passes.
-/
import Derived.Test.YtjpjohchdfoeaaaGreatRr
namespace Go.Proofs.YtjpjohchdfoeaaaGreat
open Go Go.Sim
set_option maxHeartbeats 4000000
set_option maxRecDepth 10000
inductive Tr (α : Type) where
 | ret (a : α)
 | ask (c : Int) (k : Bool → Tr α)
def Tr.bind {α β : Type} : Tr α → (α → Tr β) → Tr β
 | .ret a,f => f a
 | .ask c k,f => .ask c fun b => (k b).bind f
def Tr.run {α S : Type} (A : S → Int → Bool × S) : Tr α → S → α × S
 | .ret a,s => (a,s)
 | .ask c k,s => (k (A s c).1).run A (A s c).2
theorem Tr.run_ret {α S : Type} (A : S → Int → Bool × S) (a : α) (s : S) : (Tr.ret a).run A s = (a,s) := rfl
theorem Tr.run_ask {α S : Type} (A : S → Int → Bool × S) (c : Int) (k : Bool → Tr α) (s : S) : (Tr.ask c k).run A s = (k (A s c).1).run A (A s c).2 := rfl
theorem Tr.run_bind {α β S : Type} (A : S → Int → Bool × S) (f : α → Tr β) : ∀ (t : Tr α) (s : S),(t.bind f).run A s = (f (t.run A s).1).run A (t.run A s).2
 | .ret a,s => rfl
 | .ask c k,s => by rw [Tr.bind,Tr.run_ask,Tr.run_ask]; exact Tr.run_bind A f (k (A s c).1) (A s c).2
def Tr.Lv {α : Type} (Q : α → Prop) : Tr α → Nat → Prop
 | .ret a,_ => Q a
 | .ask _ _,0 => False
 | .ask _ k,n + 1 => ∀ b,(k b).Lv Q n
theorem Tr.Lv.mono {α : Type} {Q Q' : α → Prop} (hq : ∀ a,Q a → Q' a) : ∀ {t : Tr α} {n m : Nat},t.Lv Q n → n ≤ m → t.Lv Q' m
 | .ret a,n,m,h,_ => by unfold Tr.Lv at h ⊢; exact hq a h
 | .ask c k,0,m,h,_ => by simp [Tr.Lv] at h
 | .ask c k,n + 1,0,h,hm => by omega
 | .ask c k,n + 1,m + 1,h,hm => by
  unfold Tr.Lv at h ⊢
  exact fun b => Tr.Lv.mono hq (h b) (by omega)
theorem Tr.Lv.bind {α β : Type} {Q : α → Prop} {Q' : β → Prop} {f : α → Tr β} {m : Nat} (hf : ∀ a,Q a → (f a).Lv Q' m) : ∀ {t : Tr α} {n : Nat},t.Lv Q n → (t.bind f).Lv Q' (n + m)
 | .ret a,n,h => by
  unfold Tr.Lv at h
  exact (hf a h).mono (fun _ h => h) (by omega)
 | .ask c k,0,h => by simp [Tr.Lv] at h
 | .ask c k,n + 1,h => by
  unfold Tr.Lv at h
  rw [Tr.bind,show n + 1 + m = (n + m) + 1 by omega,Tr.Lv]
  exact fun b => Tr.Lv.bind hf (h b)
theorem Tr.Lv.out {α S : Type} {Q : α → Prop} {A : S → Int → Bool × S} {size : S → Nat} (ha : ∀ s c,size (A s c).2 ≤ size s + 1) : ∀ {t : Tr α} {n : Nat} (s : S),t.Lv Q n → Q (t.run A s).1 ∧ size (t.run A s).2 ≤ size s + n
 | .ret a,n,s,h => by
  unfold Tr.Lv at h
  exact ⟨h,by simp [Tr.run_ret]⟩
 | .ask c k,0,s,h => by simp [Tr.Lv] at h
 | .ask c k,n + 1,s,h => by
  unfold Tr.Lv at h
  have := Tr.Lv.out ha (A s c).2 (h (A s c).1)
  have h2 := ha s c
  rw [Tr.run_ask]
  exact ⟨this.1,by omega⟩
def PP.cx (P : PP) (c : Int) : Int := if P.rw = true then -1 else c
def putV (v : Int) (c : Cell) : Cell := { c with v := v }
def pw (s : Nat) : Int := ((2 ^ s : Nat) : Int)
def dflip (P : PP) (b : BS) (x y : Int) : Bool := !P.rw && signFlip (sgH b x y) (sgV b x y P.cz) == 1
def dval (P : PP) (b : BS) (x y : Int) (bit : Bool) : Int := if (bit != dflip P b x y) = true then -pw P.s else pw P.s
def dset (P : PP) (b : BS) (x y : Int) (bit : Bool) : BS := (b.upd x y (putV (dval P b x y bit))).upd x y mark
def dsign (P : PP) (b : BS) (x y : Int) : Tr BS := .ask (P.cx (signCtx (sgH b x y) (sgV b x y P.cz))) fun bit => .ret (dset P b x y bit)
def dcode (P : PP) (b : BS) (x y : Int) : Tr BS := .ask (P.cx (ctxOf P b x y)) fun bit => if bit = true then dsign P b x y else .ret b
def dsig1 (P : PP) (b : BS) (x y : Int) : Tr BS :=
 if (b.get x y).s = false ∧ near b x y P.cz = true then (dcode P b x y).bind fun b => .ret (b.upd x y (touch true)) else .ret b
def growV (s : Nat) (v : Int) : Int := v + if v < 0 then -pw s else pw s
def grow (s : Nat) (b : BS) (x y : Int) : BS :=
 if -1152921504606846976 < growV s (b.get x y).v ∧ growV s (b.get x y).v < 1152921504606846976 then b.upd x y (putV (growV s (b.get x y).v)) else b
def growB (s : Nat) (b : BS) (x y : Int) (bit : Bool) : BS := if bit = true then grow s b x y else b
def dref1 (P : PP) (b : BS) (x y : Int) : Tr BS :=
 if (b.get x y).s = false ∨ (b.get x y).t = true then .ret b
 else .ask (P.cx (refCtx (!(b.get x y).r) (near b x y P.cz))) fun bit => .ret (((growB P.s b x y bit).upd x y refine').upd x y (touch true))
def dcln1 (P : PP) (b : BS) (x y : Int) : Tr BS := if (b.get x y).s = false ∧ (b.get x y).t = false then dcode P b x y else .ret b
def drows (P : PP) (b : BS) (x y : Int) : Nat → Tr BS
 | 0 => .ret b
 | n + 1 => (dcln1 P b x y).bind fun b => drows P b x (y + 1) n
def two2 (a b : Bool) : Nat := 2 * a.toNat + b.toNat
def drun (P : PP) (b : BS) (x top : Int) : Tr (BS × Int) :=
 .ask (P.cx 17) fun r => if r = true then .ask (P.cx 18) fun k1 => .ask (P.cx 18) fun k0 => (dsign P b x (top + two2 k1 k0)).bind fun b => .ret (b,top + two2 k1 k0 + 1) else .ret (b,top + 4)
def dcol (P : PP) (b : BS) (x top : Int) : Tr BS :=
 if quiet b x top P.cz = true then (drun P b x top).bind fun r => drows P r.1 x r.2 (min (top + 4) r.1.h - r.2).toNat
 else drows P b x top (min (top + 4) b.h - top).toNat
def dcols (P : PP) (b : BS) (x top : Int) : Nat → Tr BS
 | 0 => .ret b
 | n + 1 => (dcol P b x top).bind fun b => dcols P b (x + 1) top n
def dstripes (P : PP) (b : BS) (top : Int) : Nat → Tr BS
 | 0 => .ret b
 | n + 1 => (dcols P b 0 top b.w).bind fun b => dstripes P b (top + 4) n
def dsigs (P : PP) (b : BS) : List (Int × Int) → Tr BS
 | [] => .ret b
 | p :: l => (dsig1 P b p.1 p.2).bind fun b => dsigs P b l
def drefs (P : PP) (b : BS) : List (Int × Int) → Tr BS
 | [] => .ret b
 | p :: l => (dref1 P b p.1 p.2).bind fun b => drefs P b l
def BS.clr (b : BS) (l : List (Int × Int)) : BS := l.foldl (fun b p => b.upd p.1 p.2 (touch false)) b
def dchk (P : PP) (r : Bool) : List Bool → Tr Bool
 | [] => .ret r
 | x :: l => .ask (P.cx 18) fun bit => dchk P (r && bit == x) l
def dcheck (P : PP) (on : Bool) : Tr Bool := if on = true then dchk P true [true,false,true,false] else .ret true
def dclean (P : PP) (b : BS) (on : Bool) : Tr (BS × Bool) :=
 (dstripes P b 0 (stripesOf b.h)).bind fun b => (dcheck P on).bind fun r => .ret (b.clr (scan b.w b.h),r)
structure BS.Le (b b' : BS) : Prop where
 w : b'.w = b.w
 h : b'.h = b.h
 good : b'.Good
theorem BS.Le.refl {b : BS} (hg : b.Good) : b.Le b := ⟨rfl,rfl,hg⟩
theorem BS.Le.trans {a b c : BS} (h : a.Le b) (k : b.Le c) : a.Le c := ⟨k.w.trans h.w,k.h.trans h.h,k.good⟩
theorem BS.Le.inb {b b' : BS} (h : b.Le b') {x y : Int} (hi : b.inb x y) : b'.inb x y := by
 obtain ⟨a,b,c,d⟩ := hi
 exact ⟨a,by rw [h.w]; exact b,c,by rw [h.h]; exact d⟩
theorem BS.Le.all {b b' : BS} {l : List (Int × Int)} (h : b.Le b') (k : AllIn b l) : AllIn b' l := fun p hp => h.inb (k p hp)
theorem pw_pos (s : Nat) : 0 < pw s := by unfold pw; have := Nat.two_pow_pos s; omega
theorem pw_le {s : Nat} (h : s ≤ 59) : pw s ≤ 576460752303423488 := by
 unfold pw
 have := Nat.pow_le_pow_right (n := 2) (by omega) h
 omega
theorem good_putV {b : BS} (hg : b.Good) {x y : Int} (hi : b.inb x y) {v : Int} (hv : -1152921504606846976 < v ∧ v < 1152921504606846976) : b.Le (b.upd x y (putV v)) := by
 refine ⟨rfl,rfl,hg.ok.upd x y _,fun x' y' => ?_⟩
 rw [BS.get_upd hg.ok hi]
 split
 ·exact hv
 ·exact hg.rng x' y'
theorem good_map {b : BS} (hg : b.Good) {x y : Int} (hi : b.inb x y) {f : Cell → Cell} (hf : keepsV f) : b.Le (b.upd x y f) := ⟨rfl,rfl,hg.upd hi hf⟩
theorem dval_rng {P : PP} (hp : P.Ok) (b : BS) (x y : Int) (bit : Bool) : -1152921504606846976 < dval P b x y bit ∧ dval P b x y bit < 1152921504606846976 := by
 have h1 := pw_pos P.s
 have h2 := pw_le hp.s1
 unfold dval; split <;> omega
theorem le_dset {P : PP} (hp : P.Ok) {b : BS} (hg : b.Good) {x y : Int} (hi : b.inb x y) (bit : Bool) : b.Le (dset P b x y bit) := by
 have h1 := good_putV hg hi (dval_rng hp b x y bit)
 exact h1.trans (good_map h1.good (h1.inb hi) kv_mark)
theorem le_growB {s : Nat} {b : BS} (hg : b.Good) {x y : Int} (hi : b.inb x y) (bit : Bool) : b.Le (growB s b x y bit) := by
 unfold growB grow
 split
 ·split
  ·rename_i h; exact good_putV hg hi h
  ·exact BS.Le.refl hg
 ·exact BS.Le.refl hg
section
variable {P : PP} (hp : P.Ok)
include hp
theorem lv_dsign {b : BS} (hg : b.Good) {x y : Int} (hi : b.inb x y) : (dsign P b x y).Lv b.Le 1 := fun bit => le_dset hp hg hi bit
theorem lv_dcode {b : BS} (hg : b.Good) {x y : Int} (hi : b.inb x y) : (dcode P b x y).Lv b.Le 2 := fun bit => by
 show Tr.Lv b.Le (if bit = true then dsign P b x y else .ret b) 1
 split
 ·exact lv_dsign hp hg hi
 ·exact BS.Le.refl hg
theorem lv_dsig1 {b : BS} (hg : b.Good) {x y : Int} (hi : b.inb x y) : (dsig1 P b x y).Lv b.Le 2 := by
 unfold dsig1
 split
 ·exact Tr.Lv.bind (m := 0) (fun a ha => ha.trans (good_map ha.good (ha.inb hi) (kv_touch true))) (lv_dcode hp hg hi)
 ·exact BS.Le.refl hg
omit hp in
theorem lv_dref1 {b : BS} (hg : b.Good) {x y : Int} (hi : b.inb x y) : (dref1 P b x y).Lv b.Le 2 := by
 unfold dref1
 split
 ·exact BS.Le.refl hg
 ·intro bit
  have h1 := le_growB (s := P.s) hg hi bit
  have h2 := h1.trans (good_map h1.good (h1.inb hi) kv_refine)
  exact h2.trans (good_map h2.good (h2.inb hi) (kv_touch true))
theorem lv_dcln1 {b : BS} (hg : b.Good) {x y : Int} (hi : b.inb x y) : (dcln1 P b x y).Lv b.Le 2 := by
 unfold dcln1
 split
 ·exact lv_dcode hp hg hi
 ·exact BS.Le.refl hg
theorem lv_drows {x : Int} : ∀ {n : Nat} {b : BS} {y : Int},b.Good → 0 ≤ x → x < b.w → 0 ≤ y → y + n ≤ b.h → (drows P b x y n).Lv b.Le (2 * n)
 | 0,b,y,hg,_,_,_,_ => BS.Le.refl hg
 | n + 1,b,y,hg,h1,h2,h3,h4 => by
  rw [drows,show 2 * (n + 1) = 2 + 2 * n by omega]
  refine Tr.Lv.bind (fun a ha => ?_) (lv_dcln1 hp hg (x := x) (y := y) ⟨h1,h2,h3,by omega⟩)
  exact (lv_drows (n := n) (y := y + 1) ha.good h1 (by rw [ha.w]; exact h2) (by omega) (by rw [ha.h]; omega)).mono (fun _ h => ha.trans h) (by omega)
omit hp in
theorem two2_le (a b : Bool) : two2 a b ≤ 3 := by cases a <;> cases b <;> decide
def RunLe (b : BS) (top : Int) (r : BS × Int) : Prop := b.Le r.1 ∧ top < r.2 ∧ r.2 ≤ top + 4
theorem lv_drun {b : BS} (hg : b.Good) {x top : Int} (hi : b.inb x top) (h4 : top + 4 ≤ b.h) : (drun P b x top).Lv (RunLe b top) 4 := by
 obtain ⟨a1,a2,a3,a4⟩ := hi
 intro r
 show Tr.Lv _ (if r = true then _ else _) 3
 split
 ·intro k1 k0
  have := two2_le k1 k0
  have hi : b.inb x (top + two2 k1 k0) := ⟨a1,a2,by omega,by omega⟩
  refine Tr.Lv.bind (n := 1) (m := 0) (fun a ha => ?_) (lv_dsign hp hg hi)
  exact (⟨ha,by simp only; omega,by simp only; omega⟩ : RunLe b top (a,top + two2 k1 k0 + 1))
 ·exact (⟨BS.Le.refl hg,by simp only; omega,by simp only; omega⟩ : RunLe b top (b,top + 4))
theorem lv_dcol {b : BS} (hg : b.Good) {x top : Int} (hi : b.inb x top) : (dcol P b x top).Lv b.Le 12 := by
 have hi' := hi
 obtain ⟨h1,h2,h3,h4⟩ := hi
 unfold dcol
 split
 ·rename_i hq
  simp only [quiet,Bool.and_eq_true,decide_eq_true_eq] at hq
  refine Tr.Lv.bind (n := 4) (m := 8) (fun r hr => ?_) (lv_drun hp hg hi' hq.1)
  obtain ⟨r1,r2,r3⟩ := hr
  exact (lv_drows hp r1.good h1 (by rw [r1.w]; exact h2) (by omega) (by rw [r1.h]; omega)).mono (fun _ h => r1.trans h) (by omega)
 ·exact (lv_drows hp hg h1 h2 h3 (by omega)).mono (fun _ h => h) (by omega)
theorem lv_dcols {top : Int} : ∀ {n : Nat} {b : BS} {x : Int},b.Good → 0 ≤ x → x + n ≤ b.w → 0 ≤ top → top < b.h → (dcols P b x top n).Lv b.Le (12 * n)
 | 0,b,x,hg,_,_,_,_ => BS.Le.refl hg
 | n + 1,b,x,hg,h1,h2,h3,h4 => by
  rw [dcols,show 12 * (n + 1) = 12 + 12 * n by omega]
  refine Tr.Lv.bind (fun a ha => ?_) (lv_dcol hp hg (x := x) (top := top) ⟨h1,by omega,h3,h4⟩)
  exact (lv_dcols (n := n) (x := x + 1) ha.good (by omega) (by rw [ha.w]; omega) h3 (by rw [ha.h]; exact h4)).mono (fun _ h => ha.trans h) (by omega)
theorem lv_dstripes : ∀ {n : Nat} {b : BS} {top : Int},b.Good → 0 ≤ top → top + 4 * n ≤ b.h + 3 → (dstripes P b top n).Lv b.Le (12 * b.w * n)
 | 0,b,top,hg,_,_ => BS.Le.refl hg
 | n + 1,b,top,hg,h1,h2 => by
  rw [dstripes,show 12 * b.w * (n + 1) = 12 * b.w + 12 * b.w * n by rw [Nat.mul_add]; omega]
  refine Tr.Lv.bind (fun a ha => ?_) (lv_dcols hp (n := b.w) hg (x := 0) (top := top) (by omega) (by omega) h1 (by omega))
  have := lv_dstripes (n := n) (top := top + 4) ha.good (by omega) (by rw [ha.h]; omega)
  rw [ha.w] at this
  exact this.mono (fun _ h => ha.trans h) (by omega)
theorem lv_dsigs : ∀ {l : List (Int × Int)} {b : BS},b.Good → AllIn b l → (dsigs P b l).Lv b.Le (2 * l.length)
 | [],b,hg,_ => BS.Le.refl hg
 | p :: l,b,hg,ha => by
  rw [dsigs,List.length_cons,show 2 * (l.length + 1) = 2 + 2 * l.length by omega]
  refine Tr.Lv.bind (fun a hl => ?_) (lv_dsig1 hp hg (ha p (by simp)))
  exact (lv_dsigs hl.good (hl.all fun q hq => ha q (by simp [hq]))).mono (fun _ h => hl.trans h) (by omega)
omit hp in
theorem lv_drefs : ∀ {l : List (Int × Int)} {b : BS},b.Good → AllIn b l → (drefs P b l).Lv b.Le (2 * l.length)
 | [],b,hg,_ => BS.Le.refl hg
 | p :: l,b,hg,ha => by
  rw [drefs,List.length_cons,show 2 * (l.length + 1) = 2 + 2 * l.length by omega]
  refine Tr.Lv.bind (fun a hl => ?_) (lv_dref1 hg (ha p (by simp)))
  exact (lv_drefs hl.good (hl.all fun q hq => ha q (by simp [hq]))).mono (fun _ h => hl.trans h) (by omega)
omit hp in
theorem lv_dchk : ∀ {l : List Bool} {r : Bool},(dchk P r l).Lv (fun _ => True) l.length
 | [],r => trivial
 | x :: l,r => fun bit => lv_dchk
omit hp in
theorem lv_dcheck (on : Bool) : (dcheck P on).Lv (fun _ => True) 4 := by
 unfold dcheck
 split
 ·exact lv_dchk
 ·exact trivial
end
theorem le_clr : ∀ {l : List (Int × Int)} {b : BS},b.Good → AllIn b l → b.Le (b.clr l)
 | [],b,hg,_ => BS.Le.refl hg
 | p :: l,b,hg,ha => by
  have h1 := good_map hg (ha p (by simp)) (kv_touch false)
  exact h1.trans (le_clr (l := l) h1.good (h1.all fun q hq => ha q (by simp [hq])))
theorem lv_dclean {P : PP} (hp : P.Ok) {b : BS} (hg : b.Good) (on : Bool) : (dclean P b on).Lv (fun r => b.Le r.1) 20000 := by
 unfold dclean
 have hw2 := hg.ok.w2
 have hh2 := hg.ok.h2
 have hm : 12 * b.w * stripesOf b.h ≤ 12 * 64 * 16 := Nat.mul_le_mul (by omega) (by unfold stripesOf; omega)
 refine (Tr.Lv.bind (m := 4) (fun a ha => ?_) (lv_dstripes hp hg (top := 0) (by omega) (by unfold stripesOf; omega))).mono (fun _ h => h) (by omega)
 refine Tr.Lv.bind (m := 0) (fun r _ => ?_) (lv_dcheck on)
 exact ha.trans (le_clr ha.good (scanIn a))
def Tr.play {α : Type} : Tr α → List (Int × Int) → Option (α × List (Int × Int))
 | .ret a,l => some (a,l)
 | .ask _ _,[] => none
 | .ask c k,p :: l => if p.1 = c ∧ (p.2 = 0 ∨ p.2 = 1) then (k (p.2 == 1)).play l else none
set_option linter.unusedSimpArgs false
set_option linter.unusedVariables false
structure Stq (h h' : Heap) (c : Nat) (O O' : Nat → Prop) : Prop where
 len : h.length ≤ h'.length
 same : ∀ id,id < h.length → id ≠ c → ¬ O id → blk? h' id = blk? h id
 fresh : ∀ id,O' id → O id ∨ h.length ≤ id
theorem Stq.refl (h : Heap) (c : Nat) (O : Nat → Prop) : Stq h h c O O := ⟨Nat.le_refl _,fun _ _ _ _ => rfl,fun _ h => .inl h⟩
theorem Stq.trans {h h1 h2 : Heap} {c : Nat} {O O1 O2 : Nat → Prop} (a : Stq h h1 c O O1) (b : Stq h1 h2 c O1 O2) : Stq h h2 c O O2 := by
 refine ⟨Nat.le_trans a.len b.len,fun id h1 h2 h3 => ?_,fun id hid => ?_⟩
 ·rw [b.same id (Nat.lt_of_lt_of_le h1 a.len) h2 (fun e => ?_),a.same id h1 h2 h3]
  rcases a.fresh id e with h | h
  ·exact h3 h
  ·omega
 ·rcases b.fresh id hid with h | h
  ·exact a.fresh id h
  ·exact .inr (Nat.le_trans a.len h)
theorem Stq.push (h : Heap) (x : Option Blk) (c : Nat) (O : Nat → Prop) : Stq h (h ++ [x]) c O O := ⟨by simp,fun id h1 _ _ => blk?_push_lt h1,fun _ h => .inl h⟩
theorem Stq.low {h h' : Heap} (hk : ∀ id,id < h.length → blk? h' id = blk? h id) (hl : h.length ≤ h'.length) (c : Nat) (O : Nat → Prop) : Stq h h' c O O := ⟨hl,fun id h1 _ _ => hk id h1,fun _ h => .inl h⟩
theorem Stq.setc (h : Heap) (c : Nat) (O : Nat → Prop) (x : Option Blk) : Stq h (h.set c x) c O O := ⟨by simp,fun id _ hc _ => blk?_set_ne (Ne.symm hc),fun _ h => .inl h⟩
structure Stu (h h' : Heap) (O O' : Nat → Prop) : Prop where
 len : h.length ≤ h'.length
 same : ∀ id,id < h.length → ¬ O id → blk? h' id = blk? h id
 fresh : ∀ id,O' id → O id ∨ h.length ≤ id
theorem Stu.q {h h' : Heap} {O O' : Nat → Prop} (s : Stu h h' O O') (c : Nat) : Stq h h' c O O' := ⟨s.len,fun id h1 _ h3 => s.same id h1 h3,s.fresh⟩
structure Src (c : Nat) (call : Heap → Int → (RP) → Prop) where
 S : Type
 T : Type
 ask : S → Int → Bool × S
 rel : Heap → T → S → Prop
 own : T → Nat → Prop
 size : S → Nat
 lt : ∀ {h t s},rel h t s → ∀ id,own t id → id < h.length
 stable : ∀ {h h' t s},rel h t s → h.length ≤ h'.length → (∀ id,id < h.length → id ≠ c → blk? h' id = blk? h id) → rel h' t s
 size_ask : ∀ s x,size (ask s x).2 ≤ size s + 1
 step : ∀ {h t s},rel h t s → size s < 1000000 → ∀ x,∃ t' h' v,(∀ R,call h x R = R (.int .i64 v) h') ∧ (v != 0) = (ask s x).1 ∧ rel h' t' (ask s x).2 ∧ Stu h h' (own t) (own t')
 c_own : ∀ {h t s},rel h t s → ¬ own t c
def callF (fv : Value) : Heap → Int → (RP) → Prop := fun h x R => callK fv [.int .i64 x] tab h R
structure DR (h : Heap) (f : Bool) (q p c : Nat) (P : PP) (fv : Value) (b : BS) : Prop where
 blk : blk? h q = some ⟨f,[ptr p,.int .i64 b.w,.int .i64 b.h,.int .i64 P.s,.int .i64 P.o,.bool P.cz,.bool P.rw,fv]⟩
 cb : CB h f p c b
 fv : below h.length fv = true
 pok : P.Ok
 rng : b.Rng
theorem DR.frz {h : Heap} {f : Bool} {q p c : Nat} {P : PP} {fv : Value} {b : BS} (hr : DR h f q p c P fv b) : DR (frz h) true q p c P fv b :=
 ⟨blk_frz hr.blk (by simp [hr.fv,blk?_lt hr.cb.blkp]),hr.cb.frz,by rw [len_frz]; exact hr.fv,hr.pok,hr.rng⟩
theorem DR.keep {h h' : Heap} {q p c : Nat} {P : PP} {fv : Value} {b : BS} (hr : DR h false q p c P fv b) (hk : ∀ id,id = q ∨ id = p ∨ id = c → blk? h' id = blk? h id) (hf : below h'.length fv = true) : DR h' false q p c P fv b :=
 ⟨by rw [hk q (.inl rfl)]; exact hr.blk,⟨by rw [hk p (.inr (.inl rfl))]; exact hr.cb.blkp,by rw [hk c (.inr (.inr rfl))]; exact hr.cb.blkc,hr.cb.ok⟩,hf,hr.pok,hr.rng⟩
abbrev ifC (d : Nat) : Value := .iface 107 (.agg #[ptr d])
abbrev ifW (q : Nat) : Value := .iface 113 (.agg #[ptr q])
abbrev tbN : Array Value := #[.int .i64 107,.func (.func 245) #[] #[],.int .i64 113,.func (.func 248) #[] #[]]
inductive Sq (h : Heap) (d pb : Nat) : Value → (Nat → Prop) → AD → Option (List Nat × Nat) → Prop
 | cod {dv : Value} {D : List Nat} {n : Nat} {a : AD} (I : DA h d pb dv D n a) (h19 : a.p.length = 19) (hD : Dig D) (hl : D.length < 100000000) : Sq h d pb (ifC d) (ownE d pb dv) a none
 | raw {dv sv : Value} {D xs : List Nat} {n v sz q m : Nat} {st : Bool} {a : AD} (I : DP h d pb dv D n a.p v sz st) (h19 : a.p.length = 19) (hp : PsOk a.p) (J : RB h q sv xs m) (hd : ∀ id,ownE d pb dv id → ¬ ownR q sv id) :
   Sq h d pb (ifW q) (fun id => ownE d pb dv id ∨ ownR q sv id) a (some (xs,m))
def askA (a : AD) (raw : Option (List Nat × Nat)) (x : Int) : Nat × AD × Option (List Nat × Nat) :=
 match raw with
 | none => if 0 ≤ x ∧ x < 19 then (a.bit x.toNat,a.next x.toNat,none) else (0,a,none)
 | some (xs,m) => (bitAt xs m,a,some (xs,m + 1))
theorem askA_lt (a : AD) (raw : Option (List Nat × Nat)) (x : Int) : (askA a raw x).1 < 2 := by
 unfold askA
 cases raw with
 | none => simp only; split <;> simp only <;> (try unfold AD.bit) <;> (try split) <;> omega
 | some r => simp only [bitAt]; omega
section
variable {h h' : Heap} {d pb : Nat} {v : Value} {own : Nat → Prop} {a : AD} {raw : Option (List Nat × Nat)}
theorem Sq.own_lt (K : Sq h d pb v own a raw) {id : Nat} (hid : own id) : id < h.length := by
 cases K with
 | cod I _ _ _ => exact I.dp.own_lt hid
 | raw I _ _ J _ =>
  rcases hid with hid | hid
  ·exact I.own_lt hid
  ·exact J.own_lt hid
theorem Sq.keep (K : Sq h d pb v own a raw) (hk : ∀ id,own id → blk? h' id = blk? h id) : Sq h' d pb v own a raw := by
 cases K with
 | cod I h1 h2 h3 => exact .cod ⟨I.dp.keep hk,I.rest,I.ok,I.pos⟩ h1 h2 h3
 | raw I h1 hp J h2 => exact .raw (I.keep fun id hid => hk id (.inl hid)) h1 hp (J.keep fun id hid => hk id (.inr hid)) h2
theorem sq_next (K : Sq h d pb v own a raw) (hm : ∀ xs m,raw = some (xs,m) → m < 100000000) (x : Int) :
  ∃ h',(∀ R : RP,callIK tbN [v,.int .i64 x] tab h R = R (.int .i64 ((askA a raw x).1 : Nat)) h') ∧ Sq h' d pb v own (askA a raw x).2.1 (askA a raw x).2.2 ∧ (∀ id,id < h.length → ¬ own id → blk? h' id = blk? h id) ∧ h.length ≤ h'.length := by
 cases K with
 | @cod dv D n _ I h19 hD hl =>
  have lt : ∀ id,ownE d pb dv id → id < h.length := fun id hid => I.dp.own_lt hid
  have I1 : DA (h ++ [some ⟨false,[ptr d]⟩]) d pb dv D n a := ⟨I.dp.keep fun id hid => app_lt (lt id hid),I.rest,I.ok,I.pos⟩
  by_cases hx : 0 ≤ x ∧ x < 19
  ·obtain ⟨x,rfl⟩ := Int.eq_ofNat_of_zero_le hx.1
   obtain ⟨h',n',e,I2,k2,l2⟩ := ddecode_c I1 (c := x) (by omega) hD (by omega)
   have ea : askA a none (x : Int) = (a.bit x,a.next x,none) := by unfold askA; simp only [hx,and_self,if_true,Int.toNat_natCast]
   rw [ea]
   refine ⟨h',fun R => ?_,.cod I2 (by simp [AD.next,h19]) hD hl,fun id hid hno => ?_,by simp at l2; omega⟩
   ·simp [callIK,lookM]
    rw [enter245,B245]
    generalize a.bit x = bt at *
    simp [blk?_push_eq,e,fin245]
   ·rw [k2 id (fun y => hno (.inl y)) (fun y => hno (.inr (.inl y))),app_lt hid]
  ·have e := fun R => ddecode_no (R := R) I1 (x := x) (by omega)
   have ea : askA a none x = (0,a,none) := by unfold askA; simp only [hx,if_false]
   rw [ea]
   refine ⟨h ++ [some ⟨false,[ptr d]⟩],fun R => ?_,.cod I1 h19 hD hl,fun id hid _ => app_lt hid,by simp⟩
   simp [callIK,lookM]
   rw [enter245,B245]
   simp [blk?_push_eq,e,fin245]
 | @raw dv sv D xs n v sz q m st _ I h19 hp J hd =>
  have hm := hm xs m rfl
  generalize hG : h ++ [some (⟨false,[ptr q]⟩ : Blk)] = G
  have lG : G.length = h.length + 1 := by rw [← hG]; simp
  have kG : ∀ id,id < h.length → blk? G id = blk? h id := fun id hid => by rw [← hG]; exact blk?_push_lt hid
  have bG : blk? G h.length = some ⟨false,[ptr q]⟩ := by rw [← hG]; exact blk?_push_eq
  have I1 : DP G d pb dv D n a.p v sz st := I.keep fun id hid => kG id (I.own_lt hid)
  have J1 : RB G q sv xs m := J.keep fun id hid => kG id (J.own_lt hid)
  have e := fun R => rget_c (R := R) J1 hm
  have J2 := J1.next
  have ea : askA a (some (xs,m)) x = (bitAt xs m,a,some (xs,m + 1)) := rfl
  rw [ea]
  have hq := J.own_lt (.inl rfl)
  refine ⟨_,fun R => ?_,.raw (I1.keep fun id hid => ?_) h19 hp J2 hd,fun id hid hno => ?_,by simp; omega⟩
  ·simp [-Int.natCast_add,callIK,lookM]
   rw [enter248,B248]
   generalize bitAt xs m = bt at *
   simp [-Int.natCast_add,hG,bG,e,fin248]
  ·rw [blk?_set_ne (fun y => hd id hid (.inl y.symm))]
  ·rw [blk?_set_ne (fun y => hno (.inr (.inl y.symm))),kG id hid]
end
structure RS where
 a : AD
 raw : Option (List Nat × Nat)
 l : List (Int × Nat)
def RS.ask (s : RS) (x : Int) : Bool × RS := ((askA s.a s.raw x).1 == 1,⟨(askA s.a s.raw x).2.1,(askA s.a s.raw x).2.2,s.l ++ [(x,(askA s.a s.raw x).1)]⟩)
structure RT where
 v : Value
 own : Nat → Prop
 lv : Value
structure RRel (d pb k1 k2 c n0 : Nat) (h : Heap) (t : RT) (s : RS) : Prop where
 sq : Sq h d pb t.v t.own s.a s.raw
 b1 : blk? h k1 = some ⟨false,[t.v]⟩
 b2 : blk? h k2 = some ⟨false,[t.lv]⟩
 ol : OwnS h 2 t.lv s.l.length (encS s.l)
 k12 : k1 ≠ k2
 no : ∀ id,t.own id → id ≠ k1 ∧ id ≠ k2 ∧ sid t.lv ≠ some id ∧ id ≠ c
 nl : ∀ id,sid t.lv = some id → id ≠ k1 ∧ id ≠ k2 ∧ id ≠ c
 nc : k1 ≠ c ∧ k2 ≠ c
 nb : n0 ≤ 50000000
 cnt : ∀ xs m,s.raw = some (xs,m) → m ≤ n0 + s.l.length
def RT.all (k1 k2 : Nat) (t : RT) (id : Nat) : Prop := t.own id ∨ id = k1 ∨ id = k2 ∨ sid t.lv = some id
theorem RRel.keep {d pb k1 k2 c n0 : Nat} {h h' : Heap} {t : RT} {s : RS} (r : RRel d pb k1 k2 c n0 h t s) (hk : ∀ id,t.all k1 k2 id → blk? h' id = blk? h id) : RRel d pb k1 k2 c n0 h' t s :=
 ⟨r.sq.keep fun id hid => hk id (.inl hid),by rw [hk k1 (.inr (.inl rfl))]; exact r.b1,by rw [hk k2 (.inr (.inr (.inl rfl)))]; exact r.b2,r.ol.of_blk fun id hid hb => by rw [hk id (.inr (.inr (.inr hid)))]; exact hb,r.k12,r.no,r.nl,r.nc,r.nb,r.cnt⟩
theorem RRel.all_lt {d pb k1 k2 c n0 : Nat} {h : Heap} {t : RT} {s : RS} (r : RRel d pb k1 k2 c n0 h t s) {id : Nat} (hid : t.all k1 k2 id) : id < h.length := by
 rcases hid with hid | rfl | rfl | hid
 ·exact r.sq.own_lt hid
 ·exact blk?_lt r.b1
 ·exact blk?_lt r.b2
 ·exact r.ol.lt hid
theorem RRel.all_c {d pb k1 k2 c n0 : Nat} {h : Heap} {t : RT} {s : RS} (r : RRel d pb k1 k2 c n0 h t s) : ¬ t.all k1 k2 c := by
 rintro (hid | rfl | rfl | hid)
 ·exact (r.no c hid).2.2.2 rfl
 ·exact r.nc.1 rfl
 ·exact r.nc.2 rfl
 ·exact (r.nl c hid).2.2 rfl
theorem isV_of {h : Heap} {d pb : Nat} {v : Value} {own : Nat → Prop} {a : AD} {raw : Option (List Nat × Nat)} (K : Sq h d pb v own a raw) : ∃ t w,v = .iface t w := by
 cases K <;> exact ⟨_,_,rfl⟩
theorem read_step {d pb k1 k2 c n0 : Nat} {h : Heap} {t : RT} {s : RS} (r : RRel d pb k1 k2 c n0 h t s) (hs : s.l.length < 1000000) (hcl : c < h.length) (x : Int) :
  ∃ t' h',(∀ R : RP,Ret tab 61 [.int .i64 x,ptr k1,ptr k2] h R = R (.int .i64 ((askA s.a s.raw x).1 : Nat)) h') ∧ RRel d pb k1 k2 c n0 h' t' (s.ask x).2 ∧ Stu h h' (t.all k1 k2) (t'.all k1 k2) := by
 obtain ⟨H,e,K,kH,lH⟩ := sq_next r.sq (fun xs m hr => by have := r.cnt xs m hr; have := r.nb; omega) x
 have l1 := r.all_lt (.inr (.inl rfl))
 have l2 := r.all_lt (.inr (.inr (.inl rfl)))
 have b1 := r.b1
 have b2 : blk? H k2 = some ⟨false,[t.lv]⟩ := by rw [kH k2 l2 (fun y => (r.no k2 y).2.1 rfl)]; exact r.b2
 have ol : OwnS H 2 t.lv s.l.length (encS s.l) := r.ol.of_blk fun id hid hb => by rw [kH id (blk?_lt hb) (fun y => (r.no id y).2.2.1 hid)]; exact hb
 generalize hbt : (askA s.a s.raw x).1 = bt at *
 have ho' : OwnS (H ++ [some ⟨false,[.int .i64 x,.int .i64 (bt : Nat)]⟩]) 2 t.lv s.l.length (encS s.l) := ol.of_blk fun id hid hb => by rw [blk?_push_lt (blk?_lt hb)]; exact hb
 have hts : Sl (H ++ [some ⟨false,[.int .i64 x,.int .i64 (bt : Nat)]⟩]) 2 (.slice (some ⟨H.length,0,none⟩) 1 2) 1 [.int .i64 x,.int .i64 (bt : Nat)] := ⟨rfl,.inr ⟨H.length,0,rfl,.inr ⟨_,blk?_push_eq,by simp,by simp⟩⟩⟩
 obtain ⟨H1,ha,hb,hHl,hHk⟩ := own_append (bytes := 16) ho' hts (by unfold roomCells; omega) (by omega) (by omega)
 have hlen : (H ++ [some (⟨false,[.int .i64 x,.int .i64 (bt : Nat)]⟩ : Blk)]).length = H.length + 1 := by simp
 rw [hlen] at ha hb hHl hHk
 have b21 : blk? H1 k2 = some ⟨false,[t.lv]⟩ := by rw [hHk k2 (by omega) (fun y => (r.nl k2 y).2.1 rfl),blk?_push_lt (by omega)]; exact b2
 have hk2 := blk?_lt b21
 generalize hH2 : H1.set k2 (some ⟨false,[.slice (some ⟨H.length + 1,0,none⟩) (s.l.length + 1) 2]⟩) = H2
 have lH2 : H2.length = H1.length := by rw [← hH2]; simp
 have k2' : ∀ id,id < H.length → id ≠ k2 → sid t.lv ≠ some id → blk? H2 id = blk? H id := fun id h1 h2 h3 => by rw [← hH2,blk?_set_ne (Ne.symm h2),hHk id (by omega) h3,blk?_push_lt h1]
 refine ⟨⟨t.v,t.own,.slice (some ⟨H.length + 1,0,none⟩) (s.l.length + 1) 2⟩,H2,fun R => ?_,?_,⟨by omega,fun id hid hno => ?_,fun id hid => ?_⟩⟩
 ·obtain ⟨ty,w,hv⟩ := isV_of r.sq
  rw [hv] at b1 e
  rw [enter61,B61]
  simp [b1,e,b2,repL,writeAt,ha,b21,hH2,fin61]
 ·have e1 : (s.ask x).2 = ⟨(askA s.a s.raw x).2.1,(askA s.a s.raw x).2.2,s.l ++ [(x,bt)]⟩ := by unfold RS.ask; rw [hbt]
  rw [e1]
  refine ⟨K.keep fun id hid => k2' id (by have := r.sq.own_lt hid; omega) (r.no id hid).2.1 (r.no id hid).2.2.1,?_,by rw [← hH2]; exact blk?_set_eq hk2,⟨by rw [encS_len],.inr ⟨H.length + 1,by simp,?_⟩⟩,r.k12,fun id hid => ?_,fun id hid => ?_,r.nc,r.nb,fun xs m hm => ?_⟩
  ·rw [k2' k1 (by omega) r.k12 (fun y => (r.nl k1 y).1 rfl),kH k1 l1 (fun y => (r.no k1 y).1 rfl)]; exact r.b1
  ·rw [← hH2,blk?_set_ne (by omega),hb]
   simp [encS_append,encS]
  ·obtain ⟨q1,q2,q3,q4⟩ := r.no id hid
   have := r.sq.own_lt hid
   exact ⟨q1,q2,by simp [sid]; omega,q4⟩
  ·simp [sid] at hid
   subst hid
   exact ⟨by omega,by omega,by omega⟩
  ·simp only at hm
   have hcnt := r.cnt
   unfold askA at hm
   cases hr : s.raw with
   | none => rw [hr] at hm; simp only at hm; split at hm <;> cases hm
   | some xm =>
    rw [hr] at hm
    obtain ⟨xs',m'⟩ := xm
    simp only [Option.some.injEq,Prod.mk.injEq] at hm
    obtain ⟨rfl,rfl⟩ := hm
    have := hcnt _ _ hr
    simp only [List.length_append,List.length_singleton]; omega
 ·rw [k2' id (by omega) (fun y => hno (.inr (.inr (.inl y)))) (fun y => hno (.inr (.inr (.inr y)))),kH id hid (fun y => hno (.inl y))]
 ·rcases hid with hid | hid | hid | hid
  ·exact .inl (.inl hid)
  ·exact .inl (.inr (.inl hid))
  ·exact .inl (.inr (.inr (.inl hid)))
  ·simp [sid] at hid; right; omega
def rsSrc (d pb k1 k2 c n0 : Nat) : Src c (callF (.func (.func 61) #[] #[ptr k1,ptr k2])) where
 S := RS
 T := RT
 ask := RS.ask
 rel := fun h t s => RRel d pb k1 k2 c n0 h t s ∧ c < h.length
 own := RT.all k1 k2
 size := fun s => s.l.length
 lt := fun r id hid => r.1.all_lt hid
 stable := fun r hl hk => ⟨r.1.keep fun id hid => hk id (r.1.all_lt hid) (fun e => r.1.all_c (by rw [← e]; exact hid)),Nat.lt_of_lt_of_le r.2 hl⟩
 size_ask := fun s x => by simp [RS.ask]
 step := fun {h t s} r hs x => by
  obtain ⟨t',h',e,r',S⟩ := read_step r.1 hs r.2 x
  refine ⟨t',h',(((askA s.a s.raw x).1 : Nat) : Int),fun R => ?_,?_,⟨r',Nat.lt_of_lt_of_le r.2 S.len⟩,S⟩
  ·exact e R
  ·have := askA_lt s.a s.raw x
   generalize hb : (askA s.a s.raw x).1 = bt at *
   unfold RS.ask
   rw [hb]
   have : bt = 0 ∨ bt = 1 := by omega
   rcases this with rfl | rfl <;> rfl
 c_own := fun r => r.1.all_c
structure PD {c : Nat} {nv : Value} (A : Src c (callF nv)) (h : Heap) (q p pb nb : Nat) (P : PP) (t : A.T) (b : BS) (s : A.S) : Prop where
 dr : DR h false q p c P (.func (.func 109) #[] #[ptr pb,ptr nb]) b
 pbk : blk? h pb = some ⟨false,[ptr q]⟩
 nbk : blk? h nb = some ⟨false,[nv]⟩
 rel : A.rel h t s
 n1 : c ≠ q ∧ c ≠ pb ∧ c ≠ nb ∧ c ≠ p
 n3 : ¬ A.own t q ∧ ¬ A.own t p ∧ ¬ A.own t pb ∧ ¬ A.own t nb
section
variable {c : Nat} {nv : Value} {A : Src c (callF nv)} {h : Heap} {q p pb nb : Nat} {P : PP} {t : A.T} {b : BS} {s : A.S}
theorem PD.lts (he : PD A h q p pb nb P t b s) : q < h.length ∧ p < h.length ∧ c < h.length ∧ pb < h.length ∧ nb < h.length :=
 ⟨blk?_lt he.dr.blk,blk?_lt he.dr.cb.blkp,blk?_lt he.dr.cb.blkc,blk?_lt he.pbk,blk?_lt he.nbk⟩
theorem PD.good (he : PD A h q p pb nb P t b s) : b.Good := ⟨he.dr.cb.ok,he.dr.rng⟩
theorem PD.low (he : PD A h q p pb nb P t b s) {h' : Heap} (hk : ∀ id,id < h.length → blk? h' id = blk? h id) (hl : h.length ≤ h'.length) : PD A h' q p pb nb P t b s := by
 obtain ⟨l1,l2,l3,l4,l5⟩ := he.lts
 refine ⟨he.dr.keep (fun id hid => hk id ?_) (by simp; omega),by rw [hk _ l4]; exact he.pbk,by rw [hk _ l5]; exact he.nbk,A.stable he.rel hl (fun id h1 _ => hk id h1),he.n1,he.n3⟩
 rcases hid with rfl | rfl | rfl <;> assumption
theorem PD.push (he : PD A h q p pb nb P t b s) (x : Option Blk) : PD A (h ++ [x]) q p pb nb P t b s := he.low (fun id hid => blk?_push_lt hid) (by simp)
theorem PD.to (he : PD A h q p pb nb P t b s) {b' : BS} (hb : b.Le b') : PD A (h.set c (some ⟨false,encC b'.cs⟩)) q p pb nb P t b' s ∧ Stq h (h.set c (some ⟨false,encC b'.cs⟩)) c (A.own t) (A.own t) := by
 obtain ⟨l1,l2,l3,l4,l5⟩ := he.lts
 obtain ⟨m1,m2,m3,m4⟩ := he.n1
 refine ⟨⟨⟨?_,?_,by have := he.dr.fv; simpa using this,he.dr.pok,hb.good.rng⟩,?_,?_,A.stable he.rel (by simp) (fun id _ hc => blk?_set_ne (Ne.symm hc)),he.n1,he.n3⟩,Stq.setc _ _ _ _⟩
 ·rw [blk?_set_ne m1,hb.w,hb.h]; exact he.dr.blk
 ·exact he.dr.cb.set hb.w hb.h hb.good.ok
 ·rw [blk?_set_ne m2]; exact he.pbk
 ·rw [blk?_set_ne m3]; exact he.nbk
theorem ask_d (he : PD A h q p pb nb P t b s) (hn : A.size s < 1000000) (ctx : Int) :
  ∃ t' h',(∀ R,Ret tab 109 [.int .i64 ctx,ptr pb,ptr nb] h R = R (.int .i64 ((A.ask s (P.cx ctx)).1.toNat : Nat)) h') ∧ PD A h' q p pb nb P t' b (A.ask s (P.cx ctx)).2 ∧ Stq h h' c (A.own t) (A.own t') := by
 obtain ⟨l1,l2,l3,l4,l5⟩ := he.lts
 obtain ⟨n1,n2,n3,n4⟩ := he.n3
 obtain ⟨t',h',v,e,hv,hr,st⟩ := A.step he.rel hn (P.cx ctx)
 have hfr : ∀ id,id < h.length → ¬ A.own t id → ¬ A.own t' id := fun id hid hno ho => by
  rcases st.fresh id ho with k | k
  ·exact hno k
  ·omega
 refine ⟨t',h',fun R => ?_,⟨he.dr.keep (fun id hid => ?_) (by have := st.len; simp; omega),by rw [st.same _ l4 n3]; exact he.pbk,by rw [st.same _ l5 n4]; exact he.nbk,hr,he.n1,hfr _ l1 n1,hfr _ l2 n2,hfr _ l4 n3,hfr _ l5 n4⟩,st.q c⟩
 ·have hpb := he.pbk
  have hpq := he.dr.blk
  have hnb := he.nbk
  unfold callF at e
  rw [enter109,B109]
  generalize (A.ask s (P.cx ctx)).1 = bit at hv
  unfold PP.cx at e
  cases hrw : P.rw
  ·rw [hrw] at e hpq
   simp only [Bool.false_eq_true,if_false] at e
   cases bit <;> simp [hpb,hpq,hnb,e,hv,fin109]
  ·rw [hrw] at e hpq
   simp only [if_true] at e
   cases bit <;> simp [hpb,hpq,hnb,e,hv,fin109]
 ·rcases hid with rfl | rfl | rfl
  ·exact st.same _ l1 n1
  ·exact st.same _ l2 n2
  ·exact st.same _ l3 (A.c_own he.rel)
theorem shl1 {s : Nat} (hs : s ≤ 59) : shlI .i64 1 (s : Int) = pw s := by
 have h1 := pw_le hs
 have h2 := pw_pos s
 unfold shlI
 rw [Int.toNat_natCast,Nat.min_eq_left (by have : IntKind.i64.bits = 64 := rfl; omega),Int.one_mul]
 have e : ((2 : Int) ^ s) = pw s := by unfold pw; simp
 rw [e]
 exact wrapI (by omega) (by omega)
theorem xor00 : xorI .i64 0 0 = 0 := by decide
theorem xor01' : xorI .i64 0 1 = 1 := by decide
theorem xor10 : xorI .i64 1 0 = 1 := by decide
theorem xor11 : xorI .i64 1 1 = 0 := by decide
theorem sign_d (he : PD A h q p pb nb P t b s) (hn : A.size s < 1000000) {x y : Int} (hi : b.inb x y) :
  ∃ t' h',(∀ R,Ret tab 149 [ptr q,.int .i64 x,.int .i64 y] h R = R (.tuple #[]) h') ∧ PD A h' q p pb nb P t' ((dsign P b x y).run A.ask s).1 ((dsign P b x y).run A.ask s).2 ∧ Stq h h' c (A.own t) (A.own t') := by
 obtain ⟨t1,h1,e1,p1,s1⟩ := ask_d he hn (signCtx (sgH b x y) (sgV b x y P.cz))
 rw [dsign,Tr.run_ask,Tr.run_ret]
 generalize hbit : (A.ask s (P.cx (signCtx (sgH b x y) (sgV b x y P.cz)))).1 = bit at *
 generalize (A.ask s (P.cx (signCtx (sgH b x y) (sgV b x y P.cz)))).2 = s' at *
 have hg := he.good
 have hdv := dval_rng he.dr.pok b x y bit
 have g1 := good_putV hg hi hdv
 obtain ⟨p2,s2⟩ := p1.to g1
 have g2 := good_map g1.good (g1.inb hi) kv_mark
 obtain ⟨p3,s3⟩ := p2.to g2
 refine ⟨t1,_,fun R => ?_,p3,(s1.trans s2).trans s3⟩
 have hq := he.dr.blk
 have hq1 := p1.dr.blk
 have hq2 := p2.dr.blk
 have hsc := fun R => set_c (R := R) p1.dr.cb (x := x) (y := y) hi hdv
 have hm := fun R => mark_c (R := R) p2.dr.cb (x := x) (y := y) (g1.inb hi)
 have hc := fun R => ctxSign_c (h := h) (R := R) (joint_range (sgn b (x - 1) y) (sgn b (x + 1) y)) (joint_range (sgn b x (y - 1)) (if (!P.cz || y % 4 != 3) = true then sgn b x (y + 1) else 0))
 change ∀ R,Ret tab _ [.int .i64 (sgH b x y),.int .i64 (sgV b x y P.cz)] h R = R (.tuple #[.int .i64 (signCtx (sgH b x y) (sgV b x y P.cz)),.int .i64 (signFlip (sgH b x y) (sgV b x y P.cz))]) h at hc
 have hs := fun R => signs_c (R := R) he.dr.cb hi P.cz
 have hmm : (fun z : Cell => ({ z with s := true } : Cell)) = mark := rfl
 have hvv : (fun z : Cell => ({ z with v := dval P b x y bit } : Cell)) = putV (dval P b x y bit) := rfl
 rw [hmm] at hm
 rw [hvv] at hsc
 have hsh := shl1 he.dr.pok.s1
 have hwu : IntKind.u64.wrap (P.s : Int) = (P.s : Int) := wrapU (by have := he.dr.pok.s1; omega)
 have hs0 : ¬ (P.s : Int) < 0 := by omega
 have hpw := pw_le he.dr.pok.s1
 have hpp := pw_pos P.s
 have hneg : IntKind.i64.wrap (0 - pw P.s) = -pw P.s := by rw [wrapI (by omega) (by omega)]; omega
 have hneg2 : IntKind.i64.wrap (-pw P.s) = -pw P.s := wrapI (by omega) (by omega)
 have hfl := signFlip_le (sgH b x y) (sgV b x y P.cz)
 have hdd : dval P b x y bit = if (bit != (!P.rw && signFlip (sgH b x y) (sgV b x y P.cz) == 1)) = true then -pw P.s else pw P.s := rfl
 rw [enter149,B149]
 generalize dval P b x y bit = dv at *
 generalize sgH b x y = H at *
 generalize sgV b x y P.cz = V at *
 generalize pw P.s = pp at *
 have hf' : signFlip H V = 0 ∨ signFlip H V = 1 := by omega
 cases hrw : P.rw
 ·rw [hrw] at hq hdd
  rcases hf' with hf | hf
  ·rw [hf] at hc hdd
   cases bit
   ·simp at hdd e1 hc
    subst hdd
    simp [hq,hq1,hq2,hs,hc,hwu,hs0,hsh,e1,xor00,xor01',xor10,xor11,hsc,hm,fin149]
   ·simp at hdd e1 hc
    subst hdd
    simp [hq,hq1,hq2,hs,hc,hwu,hs0,hsh,e1,xor00,xor01',xor10,xor11,hneg,hneg2,hsc,hm,fin149]
  ·rw [hf] at hc hdd
   cases bit
   ·simp at hdd e1 hc
    subst hdd
    simp [hq,hq1,hq2,hs,hc,hwu,hs0,hsh,e1,xor00,xor01',xor10,xor11,hneg,hneg2,hsc,hm,fin149]
   ·simp at hdd e1 hc
    subst hdd
    simp [hq,hq1,hq2,hs,hc,hwu,hs0,hsh,e1,xor00,xor01',xor10,xor11,hneg,hneg2,hsc,hm,fin149]
 ·rw [hrw] at hq hdd
  cases bit
  ·simp at hdd e1 hc
   subst hdd
   simp [hq,hq1,hq2,hs,hc,hwu,hs0,hsh,e1,xor00,xor01',xor10,xor11,hneg,hneg2,hsc,hm,fin149]
  ·simp at hdd e1 hc
   subst hdd
   simp [hq,hq1,hq2,hs,hc,hwu,hs0,hsh,e1,xor00,xor01',xor10,xor11,hneg,hneg2,hsc,hm,fin149]
theorem code_d (he : PD A h q p pb nb P t b s) (hn : A.size s + 2 < 1000000) {x y : Int} (hi : b.inb x y) :
  ∃ t' h',(∀ R,Ret tab 142 [ptr q,.int .i64 x,.int .i64 y] h R = R (.tuple #[]) h') ∧ PD A h' q p pb nb P t' ((dcode P b x y).run A.ask s).1 ((dcode P b x y).run A.ask s).2 ∧ Stq h h' c (A.own t) (A.own t') := by
 obtain ⟨t1,h1,e1,p1,s1⟩ := ask_d he (by omega) (ctxOf P b x y)
 have hsz := A.size_ask s (P.cx (ctxOf P b x y))
 rw [dcode,Tr.run_ask]
 generalize (A.ask s (P.cx (ctxOf P b x y))).1 = bit at *
 generalize (A.ask s (P.cx (ctxOf P b x y))).2 = s' at *
 have hq := he.dr.blk
 have hq1 := p1.dr.blk
 obtain ⟨n1,n2,n3⟩ := nb_le b x y P.cz
 have hnb := fun R => neighbors_c (R := R) he.dr.cb hi P.cz
 have hsg := fun R => significance_c (h := h) (R := R) he.dr.pok.o1 n1 n2 n3
 change ∀ R,Ret tab _ _ h R = R (.int .i64 (ctxOf P b x y)) h at hsg
 cases bit
 ·refine ⟨t1,h1,fun R => ?_,p1,s1⟩
  simp at e1
  rw [enter142,B142]
  simp [hq,hq1,hnb,hsg,e1,fin142,book,logOf,addLog,chk1,lookL,reload]
 ·obtain ⟨t2,h2,e2,p2,s2⟩ := sign_d p1 (by omega) hi
  refine ⟨t2,h2,fun R => ?_,p2,s1.trans s2⟩
  simp at e1
  rw [enter142,B142]
  simp [hq,hq1,hnb,hsg,e1,e2,fin142,book,logOf,addLog,chk1,lookL,reload]
end
section
variable {h : Heap} {f : Bool} {q p c : Nat} {P : PP} {fv : Value} {b : BS} {x y : Int} {R : RP}
theorem neighbors_d (hr : DR h f q p c P fv b) (hi : b.inb x y) : Ret tab 141 [ptr q,.int .i64 x,.int .i64 y] h R = R (.bool (near b x y P.cz)) h := by
 have hq := hr.frz.blk
 have hlq := blk?_lt hr.blk
 obtain ⟨n1,n2,n3⟩ := nb_le b x y P.cz
 have s1 : IntKind.i64.wrap ((nbH b x y : Int) + (nbV b x y P.cz : Int)) = ((nbH b x y + nbV b x y P.cz : Nat) : Int) := wrapNN (by omega)
 have s2 : IntKind.i64.wrap (((nbH b x y + nbV b x y P.cz : Nat) : Int) + (nbD b x y P.cz : Int)) = ((nbH b x y + nbV b x y P.cz + nbD b x y P.cz : Nat) : Int) := wrapNN (by omega)
 have s3 : decide ((0 : Int) < ((nbH b x y + nbV b x y P.cz + nbD b x y P.cz : Nat) : Int)) = near b x y P.cz := by
  rw [near_eq]; congr 1; exact propext Int.natCast_pos
 rw [enter141,B141]
 generalize hn : near b x y P.cz = nn at *
 simp [-Int.natCast_add,-Int.natCast_pos,hq,hlq,neighbors_c hr.frz.cb hi,s1,s2,s3,fin141]
theorem dquiet_loop (hr : DR h true q p c P fv b) {x : Int} (hx : 0 ≤ x ∧ x < b.w) {top : Int} (ht : 0 ≤ top ∧ top + 4 ≤ b.h) {k : List RItem} {R : RP} {v6 : Value}
  (hk : ∀ K3 K4 K5 K7 K8 K9 Ka Kb Kc Kd Ke Kf Kg Kh Ki Kj Kk Kl Km Kn Ko Kp Kq Kr Ks Kt Ku Kv Kw Kx Ky Kz J0 J1 J2 J3 J4 J5 J6 J7 : Value,Ok tab R148 k #[ptr q,.int .i64 x,.int .i64 top,K3,K4,K5,v6,K7,K8,K9,Ka,Kb,Kc,Kd,Ke,Kf,Kg,Kh,Ki,Kj,Kk,Kl,Km,Kn,Ko,Kp,Kq,Kr,Ks,Kt,Ku,Kv,Kw,Kx,Ky,Kz,J0,J1,J2,J3,J4,J5,J6,J7] h R = R (.bool true) h) :
  ∀ (n : Nat) (y : Int) (K3 K4 K5 K8 K9 Ka Kb Kc Kd Ke Kf Kg Kh Ki Kj Kk Kl Km Kn Ko Kp Kq Kr Ks Kt Ku Kv Kw Kx Ky Kz J0 J1 J2 J3 J4 J5 J6 J7 : Value),y + n = top + 4 → top ≤ y →
   Ok tab R148 (.inLoop L148_0 :: .inBlock 0 :: k) #[ptr q,.int .i64 x,.int .i64 top,K3,K4,K5,v6,.int .i64 y,K8,K9,Ka,Kb,Kc,Kd,Ke,Kf,Kg,Kh,Ki,Kj,Kk,Kl,Km,Kn,Ko,Kp,Kq,Kr,Ks,Kt,Ku,Kv,Kw,Kx,Ky,Kz,J0,J1,J2,J3,J4,J5,J6,J7] h R = R (.bool (quietFrom b x y P.cz n)) h := by
 intro n
 induction n with
 | zero =>
  intro y;intros;rename_i hy hty
  have hw : IntKind.i64.wrap (top + 4) = top + 4 := wrapI (by have := hr.cb.ok.h2; omega) (by have := hr.cb.ok.h2; omega)
  have hlt : ¬ y < top + 4 := by omega
  rw [ok_round,l148_0,L148_0a,L148_0b]
  simp [hw,hlt,hk,quietFrom]
 | succ n ih =>
  intro y;intros;rename_i hy hty
  have hb2 := hr.cb.ok.h2
  have hw : IntKind.i64.wrap (top + 4) = top + 4 := wrapI (by omega) (by omega)
  have hw1 : IntKind.i64.wrap (y + 1) = y + 1 := wrapI (by omega) (by omega)
  have hlt : y < top + 4 := by omega
  have hi : b.inb x y := ⟨hx.1,hx.2,by omega,by omega⟩
  have hq := hr.blk
  have ih' := fun K3 K4 K5 K8 K9 Ka Kb Kc Kd Ke Kf Kg Kh Ki Kj Kk Kl Km Kn Ko Kp Kq Kr Ks Kt Ku Kv Kw Kx Ky Kz J0 J1 J2 J3 J4 J5 J6 J7 => ih (y + 1) K3 K4 K5 K8 K9 Ka Kb Kc Kd Ke Kf Kg Kh Ki Kj Kk Kl Km Kn Ko Kp Kq Kr Ks Kt Ku Kv Kw Kx Ky Kz J0 J1 J2 J3 J4 J5 J6 J7 (by omega) (by omega)
  rw [ok_round,l148_0,L148_0a,L148_0b]
  cases hs : (b.get x y).s
  ·cases ht : (b.get x y).t
   ·cases hn : near b x y P.cz
    ·simp [k_guard,hw,hw1,hlt,hq,significant_c hr.cb,touched_c hr.cb,neighbors_d hr hi,hs,ht,hn,ih',quietFrom,still]
    ·simp [k_guard,hw,hw1,hlt,hq,significant_c hr.cb,touched_c hr.cb,neighbors_d hr hi,hs,ht,hn,quietFrom,still,fin148]
   ·simp [k_guard,k_guardU,hw,hw1,hlt,hq,significant_c hr.cb,touched_c hr.cb,hs,ht,quietFrom,still,fin148]
  ·simp [k_guard,k_guardU,hw,hw1,hlt,hq,significant_c hr.cb,hs,quietFrom,still,fin148]
theorem quiet_d (hr : DR h f q p c P fv b) {x top : Int} (hx : 0 ≤ x ∧ x < b.w) (ht : 0 ≤ top ∧ top < b.h) : Ret tab 148 [ptr q,.int .i64 x,.int .i64 top] h R = R (.bool (quiet b x top P.cz)) h := by
 have hq := hr.frz.blk
 have hlq := blk?_lt hr.blk
 have hb2 := hr.cb.ok.h2
 have hw : IntKind.i64.wrap (top + 4) = top + 4 := wrapI (by omega) (by omega)
 rw [enter148,B148]
 by_cases h4 : top + 4 ≤ b.h
 ·have h4' : ¬ (b.h : Int) < top + 4 := by omega
  have := fun K3 K4 K5 K8 K9 Ka Kb Kc Kd Ke Kf Kg Kh Ki Kj Kk Kl Km Kn Ko Kp Kq Kr Ks Kt Ku Kv Kw Kx Ky Kz J0 J1 J2 J3 J4 J5 J6 J7 v6 R hk => dquiet_loop (R := R) (v6 := v6) hr.frz hx ⟨ht.1,h4⟩ (k := [.code ((RCode.region [⟨some 6,.mov (.const (.bool true)),none⟩] []).seq .ret)]) hk 4 top K3 K4 K5 K8 K9 Ka Kb Kc Kd Ke Kf Kg Kh Ki Kj Kk Kl Km Kn Ko Kp Kq Kr Ks Kt Ku Kv Kw Kx Ky Kz J0 J1 J2 J3 J4 J5 J6 J7 (by omega) (by omega)
  simp [hq,hlq,hw,h4']
  rw [this]
  ·simp [quiet,h4]
  ·intros
   simp [fin148]
 ·have h4' : (b.h : Int) < top + 4 := by omega
  simp [hq,hlq,hw,h4',quiet,h4,fin148]
end
section
variable {c : Nat} {nv : Value} {A : Src c (callF nv)} {h : Heap} {q p pb nb : Nat} {P : PP} {t : A.T} {b : BS} {s : A.S}
theorem grow_d (he : PD A h q p pb nb P t b s) {x y : Int} (hi : b.inb x y) :
  ∃ h',(∀ R,Ret tab 146 [ptr q,.int .i64 x,.int .i64 y] h R = R (.tuple #[]) h') ∧ PD A h' q p pb nb P t (grow P.s b x y) s ∧ Stq h h' c (A.own t) (A.own t) ∧ ∀ id,id < h.length → id ≠ c → blk? h' id = blk? h id := by
 have hg := he.good
 obtain ⟨r1,r2⟩ := he.dr.rng x y
 have hq := he.dr.blk
 have hsh := shl1 he.dr.pok.s1
 have hwu : IntKind.u64.wrap (P.s : Int) = (P.s : Int) := wrapU (by have := he.dr.pok.s1; omega)
 have hs0 : ¬ (P.s : Int) < 0 := by omega
 have hpw := pw_le he.dr.pok.s1
 have hpp := pw_pos P.s
 have hneg : IntKind.i64.wrap (0 - pw P.s) = -pw P.s := by rw [wrapI (by omega) (by omega)]; omega
 have hneg2 : IntKind.i64.wrap (-pw P.s) = -pw P.s := wrapI (by omega) (by omega)
 have hv := fun R => value_c (R := R) (x := x) (y := y) he.dr.cb
 have hgv : growV P.s (b.get x y).v = (b.get x y).v + if (b.get x y).v < 0 then -pw P.s else pw P.s := rfl
 have hvv : ∀ v,(fun z : Cell => ({ z with v := v } : Cell)) = putV v := fun v => rfl
 unfold grow
 by_cases hin : -1152921504606846976 < growV P.s (b.get x y).v ∧ growV P.s (b.get x y).v < 1152921504606846976
 ·rw [if_pos hin]
  have g1 := good_putV hg hi hin
  obtain ⟨p2,s2⟩ := he.to g1
  refine ⟨_,fun R => ?_,p2,s2,fun id _ hc => blk?_set_ne (Ne.symm hc)⟩
  have hsc := fun R => set_c (R := R) he.dr.cb (x := x) (y := y) hi hin
  rw [hvv] at hsc
  generalize hG : growV P.s (b.get x y).v = G at *
  rw [enter146,B146]
  by_cases hlt : (b.get x y).v < 0
  ·rw [if_pos hlt] at hgv
   have hw : IntKind.i64.wrap ((b.get x y).v + -pw P.s) = G := by rw [wrapI (by omega) (by omega)]; omega
   generalize (b.get x y).v = v at *
   generalize pw P.s = pp at *
   simp [k_guard,hq,hv,hwu,hs0,hsh,hlt,hneg,hneg2,hw,hin.1,hin.2,hsc,fin146,book,logOf,addLog,chk1,lookL,reload]
  ·rw [if_neg hlt] at hgv
   have hw : IntKind.i64.wrap ((b.get x y).v + pw P.s) = G := by rw [wrapI (by omega) (by omega)]; omega
   generalize (b.get x y).v = v at *
   generalize pw P.s = pp at *
   simp [k_guard,hq,hv,hwu,hs0,hsh,hlt,hneg,hneg2,hw,hin.1,hin.2,hsc,fin146,book,logOf,addLog,chk1,lookL,reload]
 ·rw [if_neg hin]
  refine ⟨h,fun R => ?_,he,Stq.refl _ _ _,fun _ _ _ => rfl⟩
  generalize hG : growV P.s (b.get x y).v = G at *
  rw [enter146,B146]
  by_cases hlt : (b.get x y).v < 0
  ·rw [if_pos hlt] at hgv
   have hw : IntKind.i64.wrap ((b.get x y).v + -pw P.s) = G := by rw [wrapI (by omega) (by omega)]; omega
   generalize (b.get x y).v = v at *
   generalize pw P.s = pp at *
   by_cases h1 : -1152921504606846976 < G
   ·have h2 : ¬ G < 1152921504606846976 := fun e => hin ⟨h1,e⟩
    simp [k_guard,hq,hv,hwu,hs0,hsh,hlt,hneg,hneg2,hw,h1,h2,fin146,book,logOf,addLog,chk1,lookL,reload]
   ·simp [k_guard,k_guardU,hq,hv,hwu,hs0,hsh,hlt,hneg,hneg2,hw,h1,fin146,book,logOf,addLog,chk1,lookL,reload]
  ·rw [if_neg hlt] at hgv
   have hw : IntKind.i64.wrap ((b.get x y).v + pw P.s) = G := by rw [wrapI (by omega) (by omega)]; omega
   generalize (b.get x y).v = v at *
   generalize pw P.s = pp at *
   by_cases h1 : -1152921504606846976 < G
   ·have h2 : ¬ G < 1152921504606846976 := fun e => hin ⟨h1,e⟩
    simp [k_guard,hq,hv,hwu,hs0,hsh,hlt,hneg,hneg2,hw,h1,h2,fin146,book,logOf,addLog,chk1,lookL,reload]
   ·simp [k_guard,k_guardU,hq,hv,hwu,hs0,hsh,hlt,hneg,hneg2,hw,h1,fin146,book,logOf,addLog,chk1,lookL,reload]
end
structure Fad (h : Heap) (s : Value) (l : List (Int × Int)) (c : Nat) (O : Nat → Prop) : Prop where
 sl : Sl h 2 s l.length (encP l)
 far : ∀ id,sid s = some id → id < h.length ∧ id ≠ c ∧ ¬ O id
theorem Fad.stq {h h' : Heap} {s : Value} {l : List (Int × Int)} {c : Nat} {O O' : Nat → Prop} (hf : Fad h s l c O) (hs : Stq h h' c O O') : Fad h' s l c O' := by
 refine ⟨hf.sl.of_sid fun id b hid hb => ?_,fun id hid => ?_⟩
 ·obtain ⟨a1,a2,a3⟩ := hf.far id hid
  rw [hs.same id a1 a2 a3]; exact hb
 ·obtain ⟨a1,a2,a3⟩ := hf.far id hid
  refine ⟨Nat.lt_of_lt_of_le a1 hs.len,a2,fun e => ?_⟩
  rcases hs.fresh id e with h | h
  ·exact a3 h
  ·omega
theorem Fad.get {h : Heap} {s : Value} {l : List (Int × Int)} {c : Nat} {O : Nat → Prop} (hf : Fad h s l c O) {i : Nat} (hi : i < l.length) :
  ∃ id off b,s = .slice (some ⟨id,off,none⟩) l.length 2 ∧ blk? h id = some b ∧ (b.cells.drop (off + i * 2)).take 2 = [.int .i64 l[i].1,.int .i64 l[i].2] ∧ off + i * 2 + 2 ≤ b.cells.length := by
 obtain ⟨id,off,b,rfl,hb,hc⟩ := hf.sl.get hi
 obtain ⟨g0,g1⟩ := encP_get l i hi
 have c0 := hc 0 (by omega)
 have c1 := hc 1 (by omega)
 rw [Nat.add_zero,Nat.add_zero,g0] at c0
 rw [g1] at c1
 obtain ⟨ht,hle⟩ := two c0 c1
 exact ⟨id,off,b,rfl,hb,ht,hle⟩
section
variable {c : Nat} {nv : Value} {A : Src c (callF nv)} {h : Heap} {q p pb nb : Nat} {P : PP} {t : A.T} {b : BS} {s : A.S}
theorem PD.scan (he : PD A h q p pb nb P t b s) : ∃ sl h',(∀ R,Ret tab 139 [.int .i64 b.w,.int .i64 b.h] h R = R sl h') ∧ PD A h' q p pb nb P t b s ∧ Stq h h' c (A.own t) (A.own t) ∧ Fad h' sl (scan b.w b.h) c (A.own t) := by
 have ho := he.dr.cb.ok
 obtain ⟨l1,l2,l3,l4,l5⟩ := he.lts
 obtain ⟨s1,h',e,m⟩ := scan_c ho.w1 ho.w2 ho.h1 ho.h2 h
 refine ⟨s1,h',e,he.low m.low m.len,Stq.low m.low m.len c _,⟨m.own.sl,fun id hid => ?_⟩⟩
 have h1 := m.far id hid
 refine ⟨?_,by omega,fun e => by have := A.lt he.rel id e; omega⟩
 rcases m.own.2 with ⟨rfl,_⟩ | ⟨id',rfl,hb⟩
 ·simp [sid] at hid
 ·simp [sid] at hid; subst hid; exact blk?_lt hb
theorem dsig_loop {sl : Value} {pts : List (Int × Int)} {k : List RItem} {R : RP} :
  ∀ (m i : Nat) (h : Heap) (t : A.T) (b : BS) (s : A.S) (K1 K2 K3 K4 K5 K6 K7 K8 K9 Ka Kb Kf Kg Kh Ki Kj Kk Kl Km Kn Ko Kp Kq Kr Ks Kt Ku Kv Kw Kx Ky Kz J0 J1 J2 J3 J4 J5 J6 J7 J8 J9 Ja Jb Jc Jd Je Jf : Value),m = pts.length - i → i ≤ pts.length → PD A h q p pb nb P t b s → Fad h sl pts c (A.own t) → AllIn b pts → A.size s + 2 * m + 3 < 1000000 → pts.length < 1000000 →
   (∀ (h' : Heap) (t' : A.T) (K1 K2 K3 K4 K5 K6 K7 K8 K9 Ka Kb Kc Kd Ke Kf Kg Kh Ki Kj Kk Kl Km Kn Ko Kp Kq Kr Ks Kt Ku Kv Kw Kx Ky Kz J0 J1 J2 J3 J4 J5 J6 J7 J8 J9 Ja Jb Jc Jd Je Jf : Value),PD A h' q p pb nb P t' ((dsigs P b (pts.drop i)).run A.ask s).1 ((dsigs P b (pts.drop i)).run A.ask s).2 → Stq h h' c (A.own t) (A.own t') → Ok tab R110 k #[ptr q,K1,K2,K3,K4,K5,K6,K7,K8,K9,Ka,Kb,Kc,Kd,Ke,Kf,Kg,Kh,Ki,Kj,Kk,Kl,Km,Kn,Ko,Kp,Kq,Kr,Ks,Kt,Ku,Kv,Kw,Kx,Ky,Kz,J0,J1,J2,J3,J4,J5,J6,J7,J8,J9,Ja,Jb,Jc,Jd,Je,Jf] h' R) →
   Ok tab R110 (.inLoop L110_0 :: .inBlock 0 :: k) #[ptr q,K1,K2,K3,K4,K5,K6,K7,K8,K9,Ka,Kb,sl,.int .i64 pts.length,.int .i64 i,Kf,Kg,Kh,Ki,Kj,Kk,Kl,Km,Kn,Ko,Kp,Kq,Kr,Ks,Kt,Ku,Kv,Kw,Kx,Ky,Kz,J0,J1,J2,J3,J4,J5,J6,J7,J8,J9,Ja,Jb,Jc,Jd,Je,Jf] h R := by
 intro m
 induction m with
 | zero =>
  intro i h t b s;intros;rename_i hm hi he hf ha hl hpl hk
  have hlt : ¬ ((i : Int) < pts.length) := by omega
  rw [ok_round,l110_0,L110_0a,L110_0b]
  simp [hlt]
  refine hk h t _ _ _ _ _ _ _ _ _ _ _ _ _ _ _ _ _ _ _ _ _ _ _ _ _ _ _ _ _ _ _ _ _ _ _ _ _ _ _ _ _ _ _ _ _ _ _ _ _ _ _ ?_ (Stq.refl _ _ _)
  rw [List.drop_of_length_le (by omega)]; exact he
 | succ m ih =>
  intro i h t b s;intros;rename_i hm hi he hf ha hl hpl hk
  have hlt : ((i : Int) < pts.length) := by omega
  have hw : IntKind.i64.wrap ((i : Int) + 1) = (i : Int) + 1 := wrapN (n := i + 1) (by omega)
  have hil : i < pts.length := by omega
  obtain ⟨id,off,blk,hs,hb,ht,hle⟩ := hf.get hil
  have hin := ha _ (List.getElem_mem hil)
  have hsp : dsigs P b (pts.drop i) = (dsig1 P b pts[i].1 pts[i].2).bind fun b => dsigs P b (pts.drop (i + 1)) := by
   rw [List.drop_eq_getElem_cons hil]; rfl
  have hlv := lv_dsig1 he.dr.pok he.good hin
  obtain ⟨hle1,hsz1⟩ := Tr.Lv.out (A := A.ask) (size := A.size) A.size_ask s hlv
  generalize hx : pts[i].1 = x at *
  generalize hy : pts[i].2 = y at *
  rw [hsp] at hk
  simp only [Tr.run_bind] at hk
  have he2 := he.push (some ⟨false,[.int .i64 x,.int .i64 y]⟩)
  have hs2 := Stq.push h (some ⟨false,[.int .i64 x,.int .i64 y]⟩) c (A.own t)
  have hf2 := hf.stq hs2
  have hK : ∀ y : Blk,blk? (h ++ [some y]) h.length = some y := fun y => blk?_push_eq
  obtain ⟨l1,l2,l3,l4,l5⟩ := he.lts
  have hq2 := he2.dr.blk
  have hcb2 := he2.dr.cb
  have hsig := fun R => significant_c (R := R) (x := x) (y := y) hcb2
  have hnb := fun R => neighbors_d (R := R) (x := x) (y := y) he2.dr hin
  have hskip : dsig1 P b x y = .ret b → ∀ K1 K2 K3 K4 K5 K6 K7 K8 K9 Ka Kb Kf Kg Kh Ki Kj Kk Kl Km Kn Ko Kp Kq Kr Ks Kt Ku Kv Kw Kx Ky Kz J0 J1 J2 J3 J4 J5 J6 J7 J8 J9 Ja Jb Jc Jd Je Jf : Value,Ok tab R110 (.inLoop L110_0 :: .inBlock 0 :: k) #[ptr q,K1,K2,K3,K4,K5,K6,K7,K8,K9,Ka,Kb,sl,.int .i64 pts.length,.int .i64 ((i : Int) + 1),Kf,Kg,Kh,Ki,Kj,Kk,Kl,Km,Kn,Ko,Kp,Kq,Kr,Ks,Kt,Ku,Kv,Kw,Kx,Ky,Kz,J0,J1,J2,J3,J4,J5,J6,J7,J8,J9,Ja,Jb,Jc,Jd,Je,Jf] (h ++ [some ⟨false,[.int .i64 x,.int .i64 y]⟩]) R := by
   intro h1;intros
   rw [h1] at hk
   refine ih (i + 1) _ t b s _ _ _ _ _ _ _ _ _ _ _ _ _ _ _ _ _ _ _ _ _ _ _ _ _ _ _ _ _ _ _ _ _ _ _ _ _ _ _ _ _ _ _ _ _ _ _ _ (by omega) (by omega) he2 hf2 ha (by omega) hpl ?_
   intro h' t';intros;rename_i pe st
   exact hk h' t' _ _ _ _ _ _ _ _ _ _ _ _ _ _ _ _ _ _ _ _ _ _ _ _ _ _ _ _ _ _ _ _ _ _ _ _ _ _ _ _ _ _ _ _ _ _ _ _ _ _ _ pe (hs2.trans st)
  rw [ok_round,l110_0,L110_0a,L110_0b]
  cases hsg : (b.get x y).s
  ·cases hnr : near b x y P.cz
   ·have h1 : dsig1 P b x y = .ret b := by unfold dsig1; rw [if_neg (by simp [hnr])]
    rw [hsg] at hsig; rw [hnr] at hnb
    simp [-List.cons_append,-List.append_assoc,k_guard,hlt,hw,hs,hb,ht,hle,hK,hq2,hsig,hnb]
    rw [← hs]
    exact hskip h1 ..
   ·obtain ⟨t3,h3,e3,p3,s3⟩ := code_d he2 (by omega) hin
    obtain ⟨hc1,hc2⟩ := Tr.Lv.out (A := A.ask) (size := A.size) A.size_ask s (lv_dcode he.dr.pok he.good hin)
    have h1 : dsig1 P b x y = (dcode P b x y).bind fun b => .ret (b.upd x y (touch true)) := by unfold dsig1; rw [if_pos ⟨hsg,hnr⟩]
    rw [h1] at hk hle1 hsz1
    simp only [Tr.run_bind,Tr.run_ret] at hk hle1 hsz1
    generalize ((dcode P b x y).run A.ask s).1 = b3 at *
    generalize ((dcode P b x y).run A.ask s).2 = s3' at *
    have hq3 := p3.dr.blk
    have hv3 : blk? h3 h.length = some ⟨false,[.int .i64 x,.int .i64 y]⟩ := by
     rw [s3.same h.length (by simp) (by omega) (fun e => by have := A.lt he.rel _ e; omega)]; exact blk?_push_eq
    have htc := fun R => touch_c (R := R) (v := true) p3.dr.cb (x := x) (y := y) (hc1.inb hin)
    obtain ⟨p4,s4⟩ := p3.to (good_map hc1.good (hc1.inb hin) (kv_touch true))
    have hmm : (fun z : Cell => ({ z with t := true } : Cell)) = touch true := rfl
    rw [hmm] at htc
    rw [hsg] at hsig; rw [hnr] at hnb
    simp [-List.cons_append,-List.append_assoc,k_guard,hlt,hw,hs,hb,ht,hle,hK,hq2,hsig,hnb,e3,hq3,hv3,htc]
    rw [← hs]
    have st4 := (hs2.trans s3).trans s4
    refine ih (i + 1) _ t3 _ _ _ _ _ _ _ _ _ _ _ _ _ _ _ _ _ _ _ _ _ _ _ _ _ _ _ _ _ _ _ _ _ _ _ _ _ _ _ _ _ _ _ _ _ _ _ _ _ _ (by omega) (by omega) p4 (hf.stq st4) (hle1.all ha) (by omega) hpl ?_
    intro h' t';intros;rename_i pe st
    exact hk h' t' _ _ _ _ _ _ _ _ _ _ _ _ _ _ _ _ _ _ _ _ _ _ _ _ _ _ _ _ _ _ _ _ _ _ _ _ _ _ _ _ _ _ _ _ _ _ _ _ _ _ _ pe (st4.trans st)
  ·have h1 : dsig1 P b x y = .ret b := by unfold dsig1; rw [if_neg (by simp [hsg])]
   rw [hsg] at hsig
   simp [-List.cons_append,-List.append_assoc,k_guard,hlt,hw,hs,hb,ht,hle,hK,hq2,hsig]
   rw [← hs]
   exact hskip h1 ..
theorem significance_d (he : PD A h q p pb nb P t b s) (hl : A.size s + 100000 < 1000000) :
  ∃ t' h',(∀ R,Ret tab 110 [ptr q] h R = R (.tuple #[]) h') ∧ PD A h' q p pb nb P t' ((dsigs P b (scan b.w b.h)).run A.ask s).1 ((dsigs P b (scan b.w b.h)).run A.ask s).2 ∧ Stq h h' c (A.own t) (A.own t') := by
 have key : Ret tab 110 [ptr q] h fun v h' => v = .tuple #[] ∧ ∃ t',PD A h' q p pb nb P t' ((dsigs P b (scan b.w b.h)).run A.ask s).1 ((dsigs P b (scan b.w b.h)).run A.ask s).2 ∧ Stq h h' c (A.own t) (A.own t') := by
  obtain ⟨sl,h1,e1,p1,s1,f1⟩ := he.scan
  obtain ⟨a,cc,hs⟩ := f1.sl.shape
  have hsl := scan_len he.dr.cb.ok.w2 he.dr.cb.ok.h2
  have hq := he.dr.blk
  rw [enter110,B110]
  simp [hq,e1,hs]
  rw [← hs]
  refine dsig_loop _ 0 h1 t b s _ _ _ _ _ _ _ _ _ _ _ _ _ _ _ _ _ _ _ _ _ _ _ _ _ _ _ _ _ _ _ _ _ _ _ _ _ _ _ _ _ _ _ _ _ _ _ _ rfl (by omega) p1 f1 (scanIn b) (by omega) (by omega) ?_
  intro h' t';intros;rename_i pe st
  simp [fin110]
  exact ⟨t',by simpa using pe,s1.trans st⟩
 obtain ⟨v,h',e,rfl,t',pe,st⟩ := ret_ex key
 exact ⟨t',h',e,pe,st⟩
theorem dref_loop {sl : Value} {pts : List (Int × Int)} {k : List RItem} {R : RP} :
  ∀ (m i : Nat) (h : Heap) (t : A.T) (b : BS) (s : A.S) (K1 K2 K3 K4 K5 K6 K7 K8 K9 Ka Kb Kf Kg Kh Ki Kj Kk Kl Km Kn Ko Kp Kq Kr Ks Kt Ku Kv Kw Kx Ky Kz J0 J1 J2 J3 J4 J5 J6 J7 J8 J9 Ja Jb Jc Jd Je Jf Jg Jh Ji Jj Jk Jl Jm Jn Jo Jp Jq Jr Js Jt Ju Jv Jw Jx Jy Jz Y0 Y1 Y2 Y3 Y4 Y5 Y6 Y7 Y8 Y9 Ya Yb Yc Yd Ye : Value),m = pts.length - i → i ≤ pts.length → PD A h q p pb nb P t b s → Fad h sl pts c (A.own t) → AllIn b pts → A.size s + 2 * m + 3 < 1000000 → pts.length < 1000000 →
   (∀ (h' : Heap) (t' : A.T) (K1 K2 K3 K4 K5 K6 K7 K8 K9 Ka Kb Kc Kd Ke Kf Kg Kh Ki Kj Kk Kl Km Kn Ko Kp Kq Kr Ks Kt Ku Kv Kw Kx Ky Kz J0 J1 J2 J3 J4 J5 J6 J7 J8 J9 Ja Jb Jc Jd Je Jf Jg Jh Ji Jj Jk Jl Jm Jn Jo Jp Jq Jr Js Jt Ju Jv Jw Jx Jy Jz Y0 Y1 Y2 Y3 Y4 Y5 Y6 Y7 Y8 Y9 Ya Yb Yc Yd Ye : Value),PD A h' q p pb nb P t' ((drefs P b (pts.drop i)).run A.ask s).1 ((drefs P b (pts.drop i)).run A.ask s).2 → Stq h h' c (A.own t) (A.own t') → Ok tab R111 k #[ptr q,K1,K2,K3,K4,K5,K6,K7,K8,K9,Ka,Kb,Kc,Kd,Ke,Kf,Kg,Kh,Ki,Kj,Kk,Kl,Km,Kn,Ko,Kp,Kq,Kr,Ks,Kt,Ku,Kv,Kw,Kx,Ky,Kz,J0,J1,J2,J3,J4,J5,J6,J7,J8,J9,Ja,Jb,Jc,Jd,Je,Jf,Jg,Jh,Ji,Jj,Jk,Jl,Jm,Jn,Jo,Jp,Jq,Jr,Js,Jt,Ju,Jv,Jw,Jx,Jy,Jz,Y0,Y1,Y2,Y3,Y4,Y5,Y6,Y7,Y8,Y9,Ya,Yb,Yc,Yd,Ye] h' R) →
   Ok tab R111 (.inLoop L111_0 :: .inBlock 0 :: k) #[ptr q,K1,K2,K3,K4,K5,K6,K7,K8,K9,Ka,Kb,sl,.int .i64 pts.length,.int .i64 i,Kf,Kg,Kh,Ki,Kj,Kk,Kl,Km,Kn,Ko,Kp,Kq,Kr,Ks,Kt,Ku,Kv,Kw,Kx,Ky,Kz,J0,J1,J2,J3,J4,J5,J6,J7,J8,J9,Ja,Jb,Jc,Jd,Je,Jf,Jg,Jh,Ji,Jj,Jk,Jl,Jm,Jn,Jo,Jp,Jq,Jr,Js,Jt,Ju,Jv,Jw,Jx,Jy,Jz,Y0,Y1,Y2,Y3,Y4,Y5,Y6,Y7,Y8,Y9,Ya,Yb,Yc,Yd,Ye] h R := by
 intro m
 induction m with
 | zero =>
  intro i h t b s;intros;rename_i hm hi he hf ha hl hpl hk
  have hlt : ¬ ((i : Int) < pts.length) := by omega
  rw [ok_round,l111_0,L111_0a,L111_0b]
  simp [hlt]
  refine hk h t _ _ _ _ _ _ _ _ _ _ _ _ _ _ _ _ _ _ _ _ _ _ _ _ _ _ _ _ _ _ _ _ _ _ _ _ _ _ _ _ _ _ _ _ _ _ _ _ _ _ _ _ _ _ _ _ _ _ _ _ _ _ _ _ _ _ _ _ _ _ _ _ _ _ _ _ _ _ _ _ _ _ _ _ _ _ ?_ (Stq.refl _ _ _)
  rw [List.drop_of_length_le (by omega)]; exact he
 | succ m ih =>
  intro i h t b s;intros;rename_i hm hi he hf ha hl hpl hk
  have hlt : ((i : Int) < pts.length) := by omega
  have hw : IntKind.i64.wrap ((i : Int) + 1) = (i : Int) + 1 := wrapN (n := i + 1) (by omega)
  have hil : i < pts.length := by omega
  obtain ⟨id,off,blk,hs,hb,ht,hle⟩ := hf.get hil
  have hin := ha _ (List.getElem_mem hil)
  have hsp : drefs P b (pts.drop i) = (dref1 P b pts[i].1 pts[i].2).bind fun b => drefs P b (pts.drop (i + 1)) := by
   rw [List.drop_eq_getElem_cons hil]; rfl
  obtain ⟨hle1,hsz1⟩ := Tr.Lv.out (A := A.ask) (size := A.size) A.size_ask s (lv_dref1 (P := P) he.good hin)
  generalize hx : pts[i].1 = x at *
  generalize hy : pts[i].2 = y at *
  rw [hsp] at hk
  simp only [Tr.run_bind] at hk
  have he2 := he.push (some ⟨false,[.int .i64 x,.int .i64 y]⟩)
  have hs2 := Stq.push h (some ⟨false,[.int .i64 x,.int .i64 y]⟩) c (A.own t)
  have hf2 := hf.stq hs2
  have hK : ∀ y : Blk,blk? (h ++ [some y]) h.length = some y := fun y => blk?_push_eq
  obtain ⟨l1,l2,l3,l4,l5⟩ := he.lts
  have hq2 := he2.dr.blk
  have hcb2 := he2.dr.cb
  have hsig := fun R => significant_c (R := R) (x := x) (y := y) hcb2
  have htch := fun R => touched_c (R := R) (x := x) (y := y) hcb2
  have hrfd := fun R => refined_c (R := R) (x := x) (y := y) hcb2
  have hnb := fun R => neighbors_d (R := R) (x := x) (y := y) he2.dr hin
  have hcx := fun a b R => ctxRefine_c (h := h ++ [some (⟨false,[.int .i64 x,.int .i64 y]⟩ : Blk)]) (R := R) (a := a) (b := b)
  have hskip : dref1 P b x y = .ret b → ∀ K1 K2 K3 K4 K5 K6 K7 K8 K9 Ka Kb Kf Kg Kh Ki Kj Kk Kl Km Kn Ko Kp Kq Kr Ks Kt Ku Kv Kw Kx Ky Kz J0 J1 J2 J3 J4 J5 J6 J7 J8 J9 Ja Jb Jc Jd Je Jf Jg Jh Ji Jj Jk Jl Jm Jn Jo Jp Jq Jr Js Jt Ju Jv Jw Jx Jy Jz Y0 Y1 Y2 Y3 Y4 Y5 Y6 Y7 Y8 Y9 Ya Yb Yc Yd Ye : Value,Ok tab R111 (.inLoop L111_0 :: .inBlock 0 :: k) #[ptr q,K1,K2,K3,K4,K5,K6,K7,K8,K9,Ka,Kb,sl,.int .i64 pts.length,.int .i64 ((i : Int) + 1),Kf,Kg,Kh,Ki,Kj,Kk,Kl,Km,Kn,Ko,Kp,Kq,Kr,Ks,Kt,Ku,Kv,Kw,Kx,Ky,Kz,J0,J1,J2,J3,J4,J5,J6,J7,J8,J9,Ja,Jb,Jc,Jd,Je,Jf,Jg,Jh,Ji,Jj,Jk,Jl,Jm,Jn,Jo,Jp,Jq,Jr,Js,Jt,Ju,Jv,Jw,Jx,Jy,Jz,Y0,Y1,Y2,Y3,Y4,Y5,Y6,Y7,Y8,Y9,Ya,Yb,Yc,Yd,Ye] (h ++ [some ⟨false,[.int .i64 x,.int .i64 y]⟩]) R := by
   intro h1;intros
   rw [h1] at hk
   refine ih (i + 1) _ t b s _ _ _ _ _ _ _ _ _ _ _ _ _ _ _ _ _ _ _ _ _ _ _ _ _ _ _ _ _ _ _ _ _ _ _ _ _ _ _ _ _ _ _ _ _ _ _ _ _ _ _ _ _ _ _ _ _ _ _ _ _ _ _ _ _ _ _ _ _ _ _ _ _ _ _ _ _ _ _ _ _ _ _ (by omega) (by omega) he2 hf2 ha (by omega) hpl ?_
   intro h' t';intros;rename_i pe st
   exact hk h' t' _ _ _ _ _ _ _ _ _ _ _ _ _ _ _ _ _ _ _ _ _ _ _ _ _ _ _ _ _ _ _ _ _ _ _ _ _ _ _ _ _ _ _ _ _ _ _ _ _ _ _ _ _ _ _ _ _ _ _ _ _ _ _ _ _ _ _ _ _ _ _ _ _ _ _ _ _ _ _ _ _ _ _ _ _ _ pe (hs2.trans st)
  rw [ok_round,l111_0,L111_0a,L111_0b]
  cases hsg : (b.get x y).s
  ·have h1 : dref1 P b x y = .ret b := by unfold dref1; rw [if_pos (.inl hsg)]
   rw [hsg] at hsig
   simp [-List.cons_append,-List.append_assoc,k_guard,hlt,hw,hs,hb,ht,hle,hK,hq2,hsig]
   rw [← hs]
   exact hskip h1 ..
  ·cases htc0 : (b.get x y).t
   ·-- refined
    have h1 : dref1 P b x y = .ask (P.cx (refCtx (!(b.get x y).r) (near b x y P.cz))) fun bit => .ret (((growB P.s b x y bit).upd x y refine').upd x y (touch true)) := by unfold dref1; rw [if_neg (by simp [hsg,htc0])]
    obtain ⟨u3,h3,e3,p3,s3⟩ := ask_d he2 (by omega) (refCtx (!(b.get x y).r) (near b x y P.cz))
    rw [h1] at hk hle1 hsz1
    simp only [Tr.run_ask,Tr.run_ret] at hk hle1 hsz1
    generalize (A.ask s (P.cx (refCtx (!(b.get x y).r) (near b x y P.cz)))).1 = bit at *
    generalize (A.ask s (P.cx (refCtx (!(b.get x y).r) (near b x y P.cz)))).2 = s3' at *
    have hq3 := p3.dr.blk
    have hv3 : blk? h3 h.length = some ⟨false,[.int .i64 x,.int .i64 y]⟩ := by
     rw [s3.same h.length (by simp) (by omega) (fun e => by have := A.lt he.rel _ e; omega)]; exact blk?_push_eq
    have hnown : ¬ A.own u3 h.length := fun e => by
     rcases s3.fresh _ e with k | k
     ·have := A.lt he.rel _ k; omega
     ·simp at k; omega
    have hlen3 := s3.len
    simp only [List.length_append,List.length_singleton] at hlen3
    have hgr : ∃ h4,(∀ R,(if bit = true then Ret tab 146 [ptr q,.int .i64 x,.int .i64 y] h3 R else R (.tuple #[]) h3) = R (.tuple #[]) h4) ∧ PD A h4 q p pb nb P u3 (growB P.s b x y bit) s3' ∧ Stq h3 h4 c (A.own u3) (A.own u3) ∧ ∀ id,id < h3.length → id ≠ c → blk? h4 id = blk? h3 id := by
     cases bit
     ·exact ⟨h3,fun R => by simp,p3,Stq.refl _ _ _,fun _ _ _ => rfl⟩
     ·obtain ⟨h4,e4,p4,s4,k4⟩ := grow_d p3 hin
      exact ⟨h4,fun R => by simp [e4],p4,s4,k4⟩
    obtain ⟨h4,e4,p4,s4,k4⟩ := hgr
    have hl4 := le_growB (s := P.s) he.good hin bit
    have hq4 := p4.dr.blk
    have hv4 : blk? h4 h.length = some ⟨false,[.int .i64 x,.int .i64 y]⟩ := by rw [k4 _ (by omega) (by omega)]; exact hv3
    generalize growB P.s b x y bit = b4 at *
    have hrf := fun R => refine_c (R := R) p4.dr.cb (x := x) (y := y) (hl4.inb hin)
    have hl5 := good_map hl4.good (hl4.inb hin) kv_refine
    obtain ⟨p5,s5⟩ := p4.to hl5
    have hq5 := p5.dr.blk
    have hv5 : blk? (h4.set c (some ⟨false,encC (b4.upd x y refine').cs⟩)) h.length = some ⟨false,[.int .i64 x,.int .i64 y]⟩ := by
     rw [blk?_set_ne (by omega)]; exact hv4
    have htc := fun R => touch_c (R := R) (v := true) p5.dr.cb (x := x) (y := y) (hl5.inb (hl4.inb hin))
    obtain ⟨p6,s6⟩ := p5.to (good_map hl5.good (hl5.inb (hl4.inb hin)) (kv_touch true))
    have hmm : (fun z : Cell => ({ z with t := true } : Cell)) = touch true := rfl
    have hmr : (fun z : Cell => ({ z with r := true } : Cell)) = refine' := rfl
    rw [hmm] at htc
    rw [hmr] at hrf
    have st6 := (((hs2.trans s3).trans s4).trans s5).trans s6
    have hgo : ∀ K1 K2 K3 K4 K5 K6 K7 K8 K9 Ka Kb Kf Kg Kh Ki Kj Kk Kl Km Kn Ko Kp Kq Kr Ks Kt Ku Kv Kw Kx Ky Kz J0 J1 J2 J3 J4 J5 J6 J7 J8 J9 Ja Jb Jc Jd Je Jf Jg Jh Ji Jj Jk Jl Jm Jn Jo Jp Jq Jr Js Jt Ju Jv Jw Jx Jy Jz Y0 Y1 Y2 Y3 Y4 Y5 Y6 Y7 Y8 Y9 Ya Yb Yc Yd Ye : Value,Ok tab R111 (.inLoop L111_0 :: .inBlock 0 :: k) #[ptr q,K1,K2,K3,K4,K5,K6,K7,K8,K9,Ka,Kb,sl,.int .i64 pts.length,.int .i64 ((i : Int) + 1),Kf,Kg,Kh,Ki,Kj,Kk,Kl,Km,Kn,Ko,Kp,Kq,Kr,Ks,Kt,Ku,Kv,Kw,Kx,Ky,Kz,J0,J1,J2,J3,J4,J5,J6,J7,J8,J9,Ja,Jb,Jc,Jd,Je,Jf,Jg,Jh,Ji,Jj,Jk,Jl,Jm,Jn,Jo,Jp,Jq,Jr,Js,Jt,Ju,Jv,Jw,Jx,Jy,Jz,Y0,Y1,Y2,Y3,Y4,Y5,Y6,Y7,Y8,Y9,Ya,Yb,Yc,Yd,Ye] ((h4.set c (some ⟨false,encC (b4.upd x y refine').cs⟩)).set c (some ⟨false,encC ((b4.upd x y refine').upd x y (touch true)).cs⟩)) R := by
     intros
     refine ih (i + 1) _ u3 _ _ _ _ _ _ _ _ _ _ _ _ _ _ _ _ _ _ _ _ _ _ _ _ _ _ _ _ _ _ _ _ _ _ _ _ _ _ _ _ _ _ _ _ _ _ _ _ _ _ _ _ _ _ _ _ _ _ _ _ _ _ _ _ _ _ _ _ _ _ _ _ _ _ _ _ _ _ _ _ _ _ _ _ _ (by omega) (by omega) p6 (hf.stq st6) (hle1.all ha) (by omega) hpl ?_
     intro h' t';intros;rename_i pe st
     exact hk h' t' _ _ _ _ _ _ _ _ _ _ _ _ _ _ _ _ _ _ _ _ _ _ _ _ _ _ _ _ _ _ _ _ _ _ _ _ _ _ _ _ _ _ _ _ _ _ _ _ _ _ _ _ _ _ _ _ _ _ _ _ _ _ _ _ _ _ _ _ _ _ _ _ _ _ _ _ _ _ _ _ _ _ _ _ _ _ pe (st6.trans st)
    rw [List.set_set] at hgo
    rw [hsg] at hsig; rw [htc0] at htch
    cases bit
    ·simp only [Bool.false_eq_true,if_false] at e4
     obtain rfl : h3 = h4 := by
      have := e4 fun _ h' => h3 = h'
      exact this.mp rfl
     simp at e3
     simp [-List.cons_append,-List.append_assoc,k_guard,hlt,hw,hs,hb,ht,hle,hK,hq2,hsig,htch,hrfd,hnb,hcx,e3,hq3,hv3,hrf,hq5,hv5,htc,book,logOf,addLog,chk1,lookL,reload]
     rw [← hs]
     exact hgo ..
    ·simp only [if_true] at e4
     simp at e3
     simp [-List.cons_append,-List.append_assoc,k_guard,hlt,hw,hs,hb,ht,hle,hK,hq2,hsig,htch,hrfd,hnb,hcx,e3,hq3,hv3,e4,hq4,hv4,hrf,hq5,hv5,htc,book,logOf,addLog,chk1,lookL,reload]
     rw [← hs]
     exact hgo ..
   ·have h1 : dref1 P b x y = .ret b := by unfold dref1; rw [if_pos (.inr htc0)]
    rw [hsg] at hsig; rw [htc0] at htch
    simp [-List.cons_append,-List.append_assoc,k_guard,hlt,hw,hs,hb,ht,hle,hK,hq2,hsig,htch]
    rw [← hs]
    exact hskip h1 ..
theorem refinement_d (he : PD A h q p pb nb P t b s) (hl : A.size s + 100000 < 1000000) :
  ∃ t' h',(∀ R,Ret tab 111 [ptr q] h R = R (.tuple #[]) h') ∧ PD A h' q p pb nb P t' ((drefs P b (scan b.w b.h)).run A.ask s).1 ((drefs P b (scan b.w b.h)).run A.ask s).2 ∧ Stq h h' c (A.own t) (A.own t') := by
 have key : Ret tab 111 [ptr q] h fun v h' => v = .tuple #[] ∧ ∃ t',PD A h' q p pb nb P t' ((drefs P b (scan b.w b.h)).run A.ask s).1 ((drefs P b (scan b.w b.h)).run A.ask s).2 ∧ Stq h h' c (A.own t) (A.own t') := by
  obtain ⟨sl,h1,e1,p1,s1,f1⟩ := he.scan
  obtain ⟨a,cc,hs⟩ := f1.sl.shape
  have hsl := scan_len he.dr.cb.ok.w2 he.dr.cb.ok.h2
  have hq := he.dr.blk
  rw [enter111,B111]
  simp [hq,e1,hs]
  rw [← hs]
  refine dref_loop _ 0 h1 t b s _ _ _ _ _ _ _ _ _ _ _ _ _ _ _ _ _ _ _ _ _ _ _ _ _ _ _ _ _ _ _ _ _ _ _ _ _ _ _ _ _ _ _ _ _ _ _ _ _ _ _ _ _ _ _ _ _ _ _ _ _ _ _ _ _ _ _ _ _ _ _ _ _ _ _ _ _ _ _ _ _ _ _ rfl (by omega) p1 f1 (scanIn b) (by omega) (by omega) ?_
  intro h' t';intros;rename_i pe st
  simp [fin111]
  exact ⟨t',by simpa using pe,s1.trans st⟩
 obtain ⟨v,h',e,rfl,t',pe,st⟩ := ret_ex key
 exact ⟨t',h',e,pe,st⟩
end
section
variable {c : Nat} {nv : Value} {A : Src c (callF nv)} {h : Heap} {q p pb nb : Nat} {P : PP} {t : A.T} {b : BS} {s : A.S} {k : List RItem} {R : RP} {v1 : Value}
theorem drows_loop {w hh : Nat} (hw2 : w ≤ 64) (hh2 : hh ≤ 64) {x top : Int} {v25 v26 : Value} (hx : 0 ≤ x ∧ x < w) (ht : 0 ≤ top ∧ top < hh) :
  ∀ (n : Nat) (y : Int) (h : Heap) (t : A.T) (b : BS) (s : A.S) (K2 K3 K4 K8 K9 Ka Kb Kc Kd Ke Kf Kg Kh Ki Kj Kk Kl Km Kn Ko Kr Ks Kt Ku Kv Kw Kx Ky Kz J0 J1 J2 J3 J4 J5 J6 J7 J8 J9 Ja Jb Jc Jd Je Jf Jg Jh Ji Jj Jk Jl Jm Jn Jo Jp Jq Jr Js Jt Ju Jv Jw Jx Jy Jz Y0 Y1 Y2 Y3 Y4 Y5 Y6 Y7 Y8 Y9 Ya Yb Yc Yd Ye Yf Yg Yh Yi Yj Yk Yl Ym Yn Yo Yp Yq Yr Ys Yt Yu Yv Yw Yx Yy Yz Z0 Z1 Z2 Z3 Z4 Z5 Z6 Z7 Z8 Z9 Za Zb Zc Zd Ze Zf Zg Zh Zi Zj Zk Zl Zm Zn Zo Zp Zq Zr Zs Zt Zu : Value),y + n = min (top + 4) hh → 0 ≤ y → b.w = w → b.h = hh → PD A h q p pb nb P t b s → A.size s + 2 * n + 3 < 1000000 →
   (∀ (h' : Heap) (t' : A.T) (y' : Int) (K2 K3 K4 K8 K9 Ka Kb Kc Kd Ke Kf Kg Kh Ki Kj Kk Kl Km Kn Ko Kr Ks Kt Ku Kv Kw Kx Ky Kz J0 J1 J2 J3 J4 J5 J6 J7 J8 J9 Ja Jb Jc Jd Je Jf Jg Jh Ji Jj Jk Jl Jm Jn Jo Jp Jq Jr Js Jt Ju Jv Jw Jx Jy Jz Y0 Y1 Y2 Y3 Y4 Y5 Y6 Y7 Y8 Y9 Ya Yb Yc Yd Ye Yf Yg Yh Yi Yj Yk Yl Ym Yn Yo Yp Yq Yr Ys Yt Yu Yv Yw Yx Yy Yz Z0 Z1 Z2 Z3 Z4 Z5 Z6 Z7 Z8 Z9 Za Zb Zc Zd Ze Zf Zg Zh Zi Zj Zk Zl Zm Zn Zo Zp Zq Zr Zs Zt Zu : Value),PD A h' q p pb nb P t' ((drows P b x y n).run A.ask s).1 ((drows P b x y n).run A.ask s).2 → Stq h h' c (A.own t) (A.own t') →
    Ok tab R112 k #[ptr q,v1,K2,K3,K4,.int .i64 top,.int .i64 x,.int .i64 y',K8,K9,Ka,Kb,Kc,Kd,Ke,Kf,Kg,Kh,Ki,Kj,Kk,Kl,Km,Kn,Ko,v25,v26,Kr,Ks,Kt,Ku,Kv,Kw,Kx,Ky,Kz,J0,J1,J2,J3,J4,J5,J6,J7,J8,J9,Ja,Jb,Jc,Jd,Je,Jf,Jg,Jh,Ji,Jj,Jk,Jl,Jm,Jn,Jo,Jp,Jq,Jr,Js,Jt,Ju,Jv,Jw,Jx,Jy,Jz,Y0,Y1,Y2,Y3,Y4,Y5,Y6,Y7,Y8,Y9,Ya,Yb,Yc,Yd,Ye,Yf,Yg,Yh,Yi,Yj,Yk,Yl,Ym,Yn,Yo,Yp,Yq,Yr,Ys,Yt,Yu,Yv,Yw,Yx,Yy,Yz,Z0,Z1,Z2,Z3,Z4,Z5,Z6,Z7,Z8,Z9,Za,Zb,Zc,Zd,Ze,Zf,Zg,Zh,Zi,Zj,Zk,Zl,Zm,Zn,Zo,Zp,Zq,Zr,Zs,Zt,Zu] h' R) →
   Ok tab R112 (.inLoop L112_0 :: .inBlock 4 :: k) #[ptr q,v1,K2,K3,K4,.int .i64 top,.int .i64 x,.int .i64 y,K8,K9,Ka,Kb,Kc,Kd,Ke,Kf,Kg,Kh,Ki,Kj,Kk,Kl,Km,Kn,Ko,v25,v26,Kr,Ks,Kt,Ku,Kv,Kw,Kx,Ky,Kz,J0,J1,J2,J3,J4,J5,J6,J7,J8,J9,Ja,Jb,Jc,Jd,Je,Jf,Jg,Jh,Ji,Jj,Jk,Jl,Jm,Jn,Jo,Jp,Jq,Jr,Js,Jt,Ju,Jv,Jw,Jx,Jy,Jz,Y0,Y1,Y2,Y3,Y4,Y5,Y6,Y7,Y8,Y9,Ya,Yb,Yc,Yd,Ye,Yf,Yg,Yh,Yi,Yj,Yk,Yl,Ym,Yn,Yo,Yp,Yq,Yr,Ys,Yt,Yu,Yv,Yw,Yx,Yy,Yz,Z0,Z1,Z2,Z3,Z4,Z5,Z6,Z7,Z8,Z9,Za,Zb,Zc,Zd,Ze,Zf,Zg,Zh,Zi,Zj,Zk,Zl,Zm,Zn,Zo,Zp,Zq,Zr,Zs,Zt,Zu] h R := by
 intro n
 induction n with
 | zero =>
  intro y h t b s;intros;rename_i hy h0 hw hh' he hl hk
  have hq := he.dr.blk
  rw [hw,hh'] at hq
  have hw4 : IntKind.i64.wrap (top + 4) = top + 4 := wrapI (by omega) (by omega)
  have hlt : ¬ y < min (top + 4) (hh : Int) := by omega
  rw [ok_round,l112_0,L112_0a,L112_0b]
  simp [hq,hw4,fold1,foldO,min2V,min4 (hh := hh) ht.1]
  simp [hlt]
  exact hk h t y _ _ _ _ _ _ _ _ _ _ _ _ _ _ _ _ _ _ _ _ _ _ _ _ _ _ _ _ _ _ _ _ _ _ _ _ _ _ _ _ _ _ _ _ _ _ _ _ _ _ _ _ _ _ _ _ _ _ _ _ _ _ _ _ _ _ _ _ _ _ _ _ _ _ _ _ _ _ _ _ _ _ _ _ _ _ _ _ _ _ _ _ _ _ _ _ _ _ _ _ _ _ _ _ _ _ _ _ _ _ _ _ _ _ _ _ _ _ _ _ _ _ _ _ _ _ _ _ _ _ _ _ he (Stq.refl _ _ _)
 | succ n ih =>
  intro y h t b s;intros;rename_i hy h0 hw hh' he hl hk
  have hq := he.dr.blk
  rw [hw,hh'] at hq
  have hw4 : IntKind.i64.wrap (top + 4) = top + 4 := wrapI (by omega) (by omega)
  have hw1 : IntKind.i64.wrap (y + 1) = y + 1 := wrapI (by omega) (by omega)
  have hlt : y < min (top + 4) (hh : Int) := by omega
  have hin : b.inb x y := ⟨hx.1,by rw [hw]; exact hx.2,h0,by rw [hh']; omega⟩
  have hsig := fun R => significant_c (R := R) (x := x) (y := y) he.dr.cb
  have htch := fun R => touched_c (R := R) (x := x) (y := y) he.dr.cb
  obtain ⟨hle,hsz⟩ := Tr.Lv.out (A := A.ask) (size := A.size) A.size_ask s (lv_dcln1 he.dr.pok he.good hin)
  rw [drows] at hk
  simp only [Tr.run_bind] at hk
  have hskip : dcln1 P b x y = .ret b → ∀ K2 K3 K4 K8 K9 Ka Kb Kc Kd Ke Kf Kg Kh Ki Kj Kk Kl Km Kn Ko Kr Ks Kt Ku Kv Kw Kx Ky Kz J0 J1 J2 J3 J4 J5 J6 J7 J8 J9 Ja Jb Jc Jd Je Jf Jg Jh Ji Jj Jk Jl Jm Jn Jo Jp Jq Jr Js Jt Ju Jv Jw Jx Jy Jz Y0 Y1 Y2 Y3 Y4 Y5 Y6 Y7 Y8 Y9 Ya Yb Yc Yd Ye Yf Yg Yh Yi Yj Yk Yl Ym Yn Yo Yp Yq Yr Ys Yt Yu Yv Yw Yx Yy Yz Z0 Z1 Z2 Z3 Z4 Z5 Z6 Z7 Z8 Z9 Za Zb Zc Zd Ze Zf Zg Zh Zi Zj Zk Zl Zm Zn Zo Zp Zq Zr Zs Zt Zu : Value,Ok tab R112 (.inLoop L112_0 :: .inBlock 4 :: k) #[ptr q,v1,K2,K3,K4,.int .i64 top,.int .i64 x,.int .i64 (y + 1),K8,K9,Ka,Kb,Kc,Kd,Ke,Kf,Kg,Kh,Ki,Kj,Kk,Kl,Km,Kn,Ko,v25,v26,Kr,Ks,Kt,Ku,Kv,Kw,Kx,Ky,Kz,J0,J1,J2,J3,J4,J5,J6,J7,J8,J9,Ja,Jb,Jc,Jd,Je,Jf,Jg,Jh,Ji,Jj,Jk,Jl,Jm,Jn,Jo,Jp,Jq,Jr,Js,Jt,Ju,Jv,Jw,Jx,Jy,Jz,Y0,Y1,Y2,Y3,Y4,Y5,Y6,Y7,Y8,Y9,Ya,Yb,Yc,Yd,Ye,Yf,Yg,Yh,Yi,Yj,Yk,Yl,Ym,Yn,Yo,Yp,Yq,Yr,Ys,Yt,Yu,Yv,Yw,Yx,Yy,Yz,Z0,Z1,Z2,Z3,Z4,Z5,Z6,Z7,Z8,Z9,Za,Zb,Zc,Zd,Ze,Zf,Zg,Zh,Zi,Zj,Zk,Zl,Zm,Zn,Zo,Zp,Zq,Zr,Zs,Zt,Zu] h R := by
   intro h1;intros
   rw [h1] at hk
   refine ih (y + 1) h t b s _ _ _ _ _ _ _ _ _ _ _ _ _ _ _ _ _ _ _ _ _ _ _ _ _ _ _ _ _ _ _ _ _ _ _ _ _ _ _ _ _ _ _ _ _ _ _ _ _ _ _ _ _ _ _ _ _ _ _ _ _ _ _ _ _ _ _ _ _ _ _ _ _ _ _ _ _ _ _ _ _ _ _ _ _ _ _ _ _ _ _ _ _ _ _ _ _ _ _ _ _ _ _ _ _ _ _ _ _ _ _ _ _ _ _ _ _ _ _ _ _ _ _ _ _ _ _ _ _ _ _ _ (by omega) (by omega) hw hh' he (by omega) ?_
   intro h' t' y';intros;rename_i pe st
   exact hk h' t' y' _ _ _ _ _ _ _ _ _ _ _ _ _ _ _ _ _ _ _ _ _ _ _ _ _ _ _ _ _ _ _ _ _ _ _ _ _ _ _ _ _ _ _ _ _ _ _ _ _ _ _ _ _ _ _ _ _ _ _ _ _ _ _ _ _ _ _ _ _ _ _ _ _ _ _ _ _ _ _ _ _ _ _ _ _ _ _ _ _ _ _ _ _ _ _ _ _ _ _ _ _ _ _ _ _ _ _ _ _ _ _ _ _ _ _ _ _ _ _ _ _ _ _ _ _ _ _ _ _ _ _ _ pe st
  rw [ok_round,l112_0,L112_0a,L112_0b]
  simp [hq,hw4,fold1,foldO,min2V,min4 (hh := hh) ht.1]
  cases hsg : (b.get x y).s
  ·cases htc : (b.get x y).t
   ·have h1 : dcln1 P b x y = dcode P b x y := by unfold dcln1; rw [if_pos ⟨hsg,htc⟩]
    obtain ⟨u1,h2,e1,p1,s1⟩ := code_d he (by omega) hin
    rw [h1] at hk hle hsz
    rw [hsg] at hsig; rw [htc] at htch
    simp [k_guard,hlt,hw1,hq,hsig,htch,e1]
    refine ih (y + 1) h2 u1 _ _ _ _ _ _ _ _ _ _ _ _ _ _ _ _ _ _ _ _ _ _ _ _ _ _ _ _ _ _ _ _ _ _ _ _ _ _ _ _ _ _ _ _ _ _ _ _ _ _ _ _ _ _ _ _ _ _ _ _ _ _ _ _ _ _ _ _ _ _ _ _ _ _ _ _ _ _ _ _ _ _ _ _ _ _ _ _ _ _ _ _ _ _ _ _ _ _ _ _ _ _ _ _ _ _ _ _ _ _ _ _ _ _ _ _ _ _ _ _ _ _ _ _ _ _ _ _ _ _ _ _ _ _ (by omega) (by omega) (by rw [hle.w]; exact hw) (by rw [hle.h]; exact hh') p1 (by omega) ?_
    intro h' t' y';intros;rename_i pe st
    exact hk h' t' y' _ _ _ _ _ _ _ _ _ _ _ _ _ _ _ _ _ _ _ _ _ _ _ _ _ _ _ _ _ _ _ _ _ _ _ _ _ _ _ _ _ _ _ _ _ _ _ _ _ _ _ _ _ _ _ _ _ _ _ _ _ _ _ _ _ _ _ _ _ _ _ _ _ _ _ _ _ _ _ _ _ _ _ _ _ _ _ _ _ _ _ _ _ _ _ _ _ _ _ _ _ _ _ _ _ _ _ _ _ _ _ _ _ _ _ _ _ _ _ _ _ _ _ _ _ _ _ _ _ _ _ _ pe (s1.trans st)
   ·have h1 : dcln1 P b x y = .ret b := by unfold dcln1; rw [if_neg (by simp [htc])]
    rw [hsg] at hsig; rw [htc] at htch
    simp [k_guard,hlt,hw1,hq,hsig,htch]
    exact hskip h1 ..
  ·have h1 : dcln1 P b x y = .ret b := by unfold dcln1; rw [if_neg (by simp [hsg])]
   rw [hsg] at hsig
   simp [k_guard,k_guardU,hlt,hw1,hq,hsig]
   exact hskip h1 ..
theorem dcols_loop {w hh : Nat} (hw2 : w ≤ 64) (hh2 : hh ≤ 64) {top : Int} (ht : 0 ≤ top ∧ top < hh) :
  ∀ (n : Nat) (x : Int) (h : Heap) (t : A.T) (b : BS) (s : A.S) (K2 K3 K4 K6 K7 K8 K9 Ka Kb Kc Kd Ke Kf Kg Kh Ki Kj Kk Kl Km Kn Ko Kr Ks Kt Ku Kv Kw Kx Ky Kz J0 J1 J2 J3 J4 J5 J6 J7 J8 J9 Ja Jb Jc Jd Je Jf Jg Jh Ji Jj Jk Jl Jm Jn Jo Jp Jq Jr Js Jt Ju Jv Jw Jx Jy Jz Y0 Y1 Y2 Y3 Y4 Y5 Y6 Y7 Y8 Y9 Ya Yb Yc Yd Ye Yf Yg Yh Yi Yj Yk Yl Ym Yn Yo Yp Yq Yr Ys Yt Yu Yv Yw Yx Yy Yz Z0 Z1 Z2 Z3 Z4 Z5 Z6 Z7 Z8 Z9 Za Zb Zc Zd Ze Zf Zg Zh Zi Zj Zk Zl Zm Zn Zo Zp Zq Zr Zs Zt Zu : Value),x + n = w → 0 ≤ x → b.w = w → b.h = hh → PD A h q p pb nb P t b s → A.size s + 12 * n + 20 < 1000000 →
   (∀ (h' : Heap) (t' : A.T) (K2 K3 K4 K6 K7 K8 K9 Ka Kb Kc Kd Ke Kf Kg Kh Ki Kj Kk Kl Km Kn Ko Kp Kq Kr Ks Kt Ku Kv Kw Kx Ky Kz J0 J1 J2 J3 J4 J5 J6 J7 J8 J9 Ja Jb Jc Jd Je Jf Jg Jh Ji Jj Jk Jl Jm Jn Jo Jp Jq Jr Js Jt Ju Jv Jw Jx Jy Jz Y0 Y1 Y2 Y3 Y4 Y5 Y6 Y7 Y8 Y9 Ya Yb Yc Yd Ye Yf Yg Yh Yi Yj Yk Yl Ym Yn Yo Yp Yq Yr Ys Yt Yu Yv Yw Yx Yy Yz Z0 Z1 Z2 Z3 Z4 Z5 Z6 Z7 Z8 Z9 Za Zb Zc Zd Ze Zf Zg Zh Zi Zj Zk Zl Zm Zn Zo Zp Zq Zr Zs Zt Zu : Value),PD A h' q p pb nb P t' ((dcols P b x top n).run A.ask s).1 ((dcols P b x top n).run A.ask s).2 → Stq h h' c (A.own t) (A.own t') →
    Ok tab R112 k #[ptr q,v1,K2,K3,K4,.int .i64 top,K6,K7,K8,K9,Ka,Kb,Kc,Kd,Ke,Kf,Kg,Kh,Ki,Kj,Kk,Kl,Km,Kn,Ko,Kp,Kq,Kr,Ks,Kt,Ku,Kv,Kw,Kx,Ky,Kz,J0,J1,J2,J3,J4,J5,J6,J7,J8,J9,Ja,Jb,Jc,Jd,Je,Jf,Jg,Jh,Ji,Jj,Jk,Jl,Jm,Jn,Jo,Jp,Jq,Jr,Js,Jt,Ju,Jv,Jw,Jx,Jy,Jz,Y0,Y1,Y2,Y3,Y4,Y5,Y6,Y7,Y8,Y9,Ya,Yb,Yc,Yd,Ye,Yf,Yg,Yh,Yi,Yj,Yk,Yl,Ym,Yn,Yo,Yp,Yq,Yr,Ys,Yt,Yu,Yv,Yw,Yx,Yy,Yz,Z0,Z1,Z2,Z3,Z4,Z5,Z6,Z7,Z8,Z9,Za,Zb,Zc,Zd,Ze,Zf,Zg,Zh,Zi,Zj,Zk,Zl,Zm,Zn,Zo,Zp,Zq,Zr,Zs,Zt,Zu] h' R) →
   Ok tab R112 (.inLoop L112_1 :: .inBlock 2 :: k) #[ptr q,v1,K2,K3,K4,.int .i64 top,K6,K7,K8,K9,Ka,Kb,Kc,Kd,Ke,Kf,Kg,Kh,Ki,Kj,Kk,Kl,Km,Kn,Ko,.int .i64 w,.int .i64 x,Kr,Ks,Kt,Ku,Kv,Kw,Kx,Ky,Kz,J0,J1,J2,J3,J4,J5,J6,J7,J8,J9,Ja,Jb,Jc,Jd,Je,Jf,Jg,Jh,Ji,Jj,Jk,Jl,Jm,Jn,Jo,Jp,Jq,Jr,Js,Jt,Ju,Jv,Jw,Jx,Jy,Jz,Y0,Y1,Y2,Y3,Y4,Y5,Y6,Y7,Y8,Y9,Ya,Yb,Yc,Yd,Ye,Yf,Yg,Yh,Yi,Yj,Yk,Yl,Ym,Yn,Yo,Yp,Yq,Yr,Ys,Yt,Yu,Yv,Yw,Yx,Yy,Yz,Z0,Z1,Z2,Z3,Z4,Z5,Z6,Z7,Z8,Z9,Za,Zb,Zc,Zd,Ze,Zf,Zg,Zh,Zi,Zj,Zk,Zl,Zm,Zn,Zo,Zp,Zq,Zr,Zs,Zt,Zu] h R := by
 intro n
 induction n with
 | zero =>
  intro x h t b s;intros;rename_i hx h0 hw hh' he hl hk
  have hlt : ¬ x < (w : Int) := by omega
  rw [ok_round,l112_1,L112_1a,L112_1b]
  simp [hlt]
  exact hk h t _ _ _ _ _ _ _ _ _ _ _ _ _ _ _ _ _ _ _ _ _ _ _ _ _ _ _ _ _ _ _ _ _ _ _ _ _ _ _ _ _ _ _ _ _ _ _ _ _ _ _ _ _ _ _ _ _ _ _ _ _ _ _ _ _ _ _ _ _ _ _ _ _ _ _ _ _ _ _ _ _ _ _ _ _ _ _ _ _ _ _ _ _ _ _ _ _ _ _ _ _ _ _ _ _ _ _ _ _ _ _ _ _ _ _ _ _ _ _ _ _ _ _ _ _ _ _ _ _ _ _ _ _ _ _ _ he (Stq.refl _ _ _)
 | succ n ih =>
  intro x h t b s;intros;rename_i hx h0 hw hh' he hl hk
  have hlt : x < (w : Int) := by omega
  have hw1 : IntKind.i64.wrap (x + 1) = x + 1 := wrapI (by omega) (by omega)
  have hw4 : IntKind.i64.wrap (top + 4) = top + 4 := wrapI (by omega) (by omega)
  have hq := he.dr.blk
  have hin : b.inb x top := ⟨h0,by rw [hw]; exact hlt,ht.1,by rw [hh']; exact ht.2⟩
  have hqt := fun R => quiet_d (R := R) (x := x) (top := top) he.dr ⟨h0,by rw [hw]; exact hlt⟩ ⟨ht.1,by rw [hh']; exact ht.2⟩
  obtain ⟨hle,hsz⟩ := Tr.Lv.out (A := A.ask) (size := A.size) A.size_ask s (lv_dcol he.dr.pok he.good hin)
  rw [dcols] at hk
  simp only [Tr.run_bind] at hk
  have hnext : ∀ (h' : Heap) (t' : A.T) (K2 K3 K4 K6 K7 K8 K9 Ka Kb Kc Kd Ke Kf Kg Kh Ki Kj Kk Kl Km Kn Ko Kr Ks Kt Ku Kv Kw Kx Ky Kz J0 J1 J2 J3 J4 J5 J6 J7 J8 J9 Ja Jb Jc Jd Je Jf Jg Jh Ji Jj Jk Jl Jm Jn Jo Jp Jq Jr Js Jt Ju Jv Jw Jx Jy Jz Y0 Y1 Y2 Y3 Y4 Y5 Y6 Y7 Y8 Y9 Ya Yb Yc Yd Ye Yf Yg Yh Yi Yj Yk Yl Ym Yn Yo Yp Yq Yr Ys Yt Yu Yv Yw Yx Yy Yz Z0 Z1 Z2 Z3 Z4 Z5 Z6 Z7 Z8 Z9 Za Zb Zc Zd Ze Zf Zg Zh Zi Zj Zk Zl Zm Zn Zo Zp Zq Zr Zs Zt Zu : Value),PD A h' q p pb nb P t' ((dcol P b x top).run A.ask s).1 ((dcol P b x top).run A.ask s).2 → Stq h h' c (A.own t) (A.own t') →
    Ok tab R112 (.inLoop L112_1 :: .inBlock 2 :: k) #[ptr q,v1,K2,K3,K4,.int .i64 top,K6,K7,K8,K9,Ka,Kb,Kc,Kd,Ke,Kf,Kg,Kh,Ki,Kj,Kk,Kl,Km,Kn,Ko,.int .i64 w,.int .i64 (x + 1),Kr,Ks,Kt,Ku,Kv,Kw,Kx,Ky,Kz,J0,J1,J2,J3,J4,J5,J6,J7,J8,J9,Ja,Jb,Jc,Jd,Je,Jf,Jg,Jh,Ji,Jj,Jk,Jl,Jm,Jn,Jo,Jp,Jq,Jr,Js,Jt,Ju,Jv,Jw,Jx,Jy,Jz,Y0,Y1,Y2,Y3,Y4,Y5,Y6,Y7,Y8,Y9,Ya,Yb,Yc,Yd,Ye,Yf,Yg,Yh,Yi,Yj,Yk,Yl,Ym,Yn,Yo,Yp,Yq,Yr,Ys,Yt,Yu,Yv,Yw,Yx,Yy,Yz,Z0,Z1,Z2,Z3,Z4,Z5,Z6,Z7,Z8,Z9,Za,Zb,Zc,Zd,Ze,Zf,Zg,Zh,Zi,Zj,Zk,Zl,Zm,Zn,Zo,Zp,Zq,Zr,Zs,Zt,Zu] h' R := by
   intro h' t';intros;rename_i pe st
   refine ih (x + 1) h' t' _ _ _ _ _ _ _ _ _ _ _ _ _ _ _ _ _ _ _ _ _ _ _ _ _ _ _ _ _ _ _ _ _ _ _ _ _ _ _ _ _ _ _ _ _ _ _ _ _ _ _ _ _ _ _ _ _ _ _ _ _ _ _ _ _ _ _ _ _ _ _ _ _ _ _ _ _ _ _ _ _ _ _ _ _ _ _ _ _ _ _ _ _ _ _ _ _ _ _ _ _ _ _ _ _ _ _ _ _ _ _ _ _ _ _ _ _ _ _ _ _ _ _ _ _ _ _ _ _ _ _ _ _ _ _ _ (by omega) (by omega) (by rw [hle.w]; exact hw) (by rw [hle.h]; exact hh') pe (by omega) ?_
   intro h'' t'';intros;rename_i pe2 st2
   exact hk h'' t'' _ _ _ _ _ _ _ _ _ _ _ _ _ _ _ _ _ _ _ _ _ _ _ _ _ _ _ _ _ _ _ _ _ _ _ _ _ _ _ _ _ _ _ _ _ _ _ _ _ _ _ _ _ _ _ _ _ _ _ _ _ _ _ _ _ _ _ _ _ _ _ _ _ _ _ _ _ _ _ _ _ _ _ _ _ _ _ _ _ _ _ _ _ _ _ _ _ _ _ _ _ _ _ _ _ _ _ _ _ _ _ _ _ _ _ _ _ _ _ _ _ _ _ _ _ _ _ _ _ _ _ _ _ _ _ _ pe2 (st.trans st2)
  rw [ok_round,l112_1,L112_1a,L112_1b]
  cases hqq : quiet b x top P.cz
  ·-- no run length
   have hcol : dcol P b x top = drows P b x top (min (top + 4) b.h - top).toNat := by unfold dcol; rw [if_neg (by simp [hqq])]
   rw [hqq] at hqt
   rw [hcol,hh'] at hnext
   simp [hlt,hqt]
   refine drows_loop hw2 hh2 ⟨h0,hlt⟩ ht (min (top + 4) (hh : Int) - top).toNat top h t b s _ _ _ _ _ _ _ _ _ _ _ _ _ _ _ _ _ _ _ _ _ _ _ _ _ _ _ _ _ _ _ _ _ _ _ _ _ _ _ _ _ _ _ _ _ _ _ _ _ _ _ _ _ _ _ _ _ _ _ _ _ _ _ _ _ _ _ _ _ _ _ _ _ _ _ _ _ _ _ _ _ _ _ _ _ _ _ _ _ _ _ _ _ _ _ _ _ _ _ _ _ _ _ _ _ _ _ _ _ _ _ _ _ _ _ _ _ _ _ _ _ _ _ _ _ _ _ _ _ _ _ _ (by omega) ht.1 hw hh' he (by omega) ?_
   intro h' t' y';intros;rename_i pe st
   simp [hw1]
   exact hnext h' t' _ _ _ _ _ _ _ _ _ _ _ _ _ _ _ _ _ _ _ _ _ _ _ _ _ _ _ _ _ _ _ _ _ _ _ _ _ _ _ _ _ _ _ _ _ _ _ _ _ _ _ _ _ _ _ _ _ _ _ _ _ _ _ _ _ _ _ _ _ _ _ _ _ _ _ _ _ _ _ _ _ _ _ _ _ _ _ _ _ _ _ _ _ _ _ _ _ _ _ _ _ _ _ _ _ _ _ _ _ _ _ _ _ _ _ _ _ _ _ _ _ _ _ _ _ _ _ _ _ _ _ _ _ _ pe st
  ·-- a run length
   have htop : top + 4 ≤ b.h := by
    simp only [quiet,Bool.and_eq_true,decide_eq_true_eq] at hqq; exact hqq.1
   have hcol : dcol P b x top = (drun P b x top).bind fun r => drows P r.1 x r.2 (min (top + 4) r.1.h - r.2).toNat := by unfold dcol; rw [if_pos hqq]
   obtain ⟨⟨r1,r2,r3⟩,rsz⟩ := Tr.Lv.out (A := A.ask) (size := A.size) A.size_ask s (lv_drun he.dr.pok he.good hin htop)
   rw [hqq] at hqt
   rw [hcol] at hnext
   simp only [Tr.run_bind] at hnext
   obtain ⟨u1,h1,e1,p1,s1⟩ := ask_d he (by omega) 17
   have z1 := A.size_ask s (P.cx 17)
   have hrun : (drun P b x top).run A.ask s = (if (A.ask s (P.cx 17)).1 = true then Tr.ask (P.cx 18) fun k1 => .ask (P.cx 18) fun k0 => (dsign P b x (top + two2 k1 k0)).bind fun b => .ret (b,top + two2 k1 k0 + 1) else .ret (b,top + 4)).run A.ask (A.ask s (P.cx 17)).2 := rfl
   rw [hrun] at hnext r1 r2 r3 rsz
   generalize (A.ask s (P.cx 17)).1 = bit at *
   generalize (A.ask s (P.cx 17)).2 = sa at *
   cases bit
   ·simp only [Bool.false_eq_true,if_false,Tr.run_ret] at hnext
    rw [show (min (top + 4) (b.h : Int) - (top + 4)).toNat = 0 by omega,drows,Tr.run_ret] at hnext
    simp at e1
    simp [hlt,hqt,hq,e1,hw1]
    exact hnext h1 u1 _ _ _ _ _ _ _ _ _ _ _ _ _ _ _ _ _ _ _ _ _ _ _ _ _ _ _ _ _ _ _ _ _ _ _ _ _ _ _ _ _ _ _ _ _ _ _ _ _ _ _ _ _ _ _ _ _ _ _ _ _ _ _ _ _ _ _ _ _ _ _ _ _ _ _ _ _ _ _ _ _ _ _ _ _ _ _ _ _ _ _ _ _ _ _ _ _ _ _ _ _ _ _ _ _ _ _ _ _ _ _ _ _ _ _ _ _ _ _ _ _ _ _ _ _ _ _ _ _ _ _ _ _ _ p1 s1
   ·simp only [if_true,Tr.run_ask,Tr.run_bind,Tr.run_ret] at hnext r1 r2 r3 rsz
    obtain ⟨u2,h2,e2,p2,s2⟩ := ask_d p1 (by omega) 18
    have z2 := A.size_ask sa (P.cx 18)
    generalize (A.ask sa (P.cx 18)).1 = k1 at *
    generalize (A.ask sa (P.cx 18)).2 = sb at *
    obtain ⟨u3,h3,e3,p3,s3⟩ := ask_d p2 (by omega) 18
    have z3 := A.size_ask sb (P.cx 18)
    generalize (A.ask sb (P.cx 18)).1 = k0 at *
    generalize (A.ask sb (P.cx 18)).2 = sc at *
    have h22 := two2_le k1 k0
    have hi4 : b.inb x (top + two2 k1 k0) := ⟨h0,by rw [hw]; exact hlt,by omega,by omega⟩
    obtain ⟨u4,h4,e4,p4,s4⟩ := sign_d p3 (by omega) hi4
    have hq1 := p1.dr.blk
    have hq2 := p2.dr.blk
    have hq3 := p3.dr.blk
    simp at e1
    have hwa : IntKind.i64.wrap (2 * ((k1.toNat : Nat) : Int)) = 2 * ((k1.toNat : Nat) : Int) := by cases k1 <;> simp [wrapI]
    have hwb : IntKind.i64.wrap (top + 2 * ((k1.toNat : Nat) : Int)) = top + 2 * ((k1.toNat : Nat) : Int) := by cases k1 <;> exact wrapI (by simp; omega) (by simp; omega)
    have hwc : IntKind.i64.wrap (top + 2 * ((k1.toNat : Nat) : Int) + ((k0.toNat : Nat) : Int)) = top + (two2 k1 k0 : Nat) := by
     have : top + 2 * ((k1.toNat : Nat) : Int) + ((k0.toNat : Nat) : Int) = top + (two2 k1 k0 : Nat) := by unfold two2; simp; omega
     rw [this]; exact wrapI (by omega) (by omega)
    have hwd : IntKind.i64.wrap (top + ((two2 k1 k0 : Nat) : Int) + 1) = top + (two2 k1 k0 : Nat) + 1 := wrapI (by omega) (by omega)
    generalize two2 k1 k0 = kk at *
    generalize ((k1.toNat : Nat) : Int) = k1i at *
    generalize ((k0.toNat : Nat) : Int) = k0i at *
    simp [hlt,hqt,hq,e1,hq1,e2,hwa,hwb,hq2,e3,hwc,hq3,e4,hwd]
    generalize ((dsign P b x (top + (kk : Int))).run A.ask sc).1 = bd at *
    generalize ((dsign P b x (top + (kk : Int))).run A.ask sc).2 = sd at *
    have hbh : (bd.h : Int) = hh := by rw [r1.h,hh']
    rw [hbh] at hnext
    refine drows_loop hw2 hh2 ⟨h0,hlt⟩ ht (min (top + 4) (hh : Int) - (top + kk + 1)).toNat (top + kk + 1) h4 u4 bd sd _ _ _ _ _ _ _ _ _ _ _ _ _ _ _ _ _ _ _ _ _ _ _ _ _ _ _ _ _ _ _ _ _ _ _ _ _ _ _ _ _ _ _ _ _ _ _ _ _ _ _ _ _ _ _ _ _ _ _ _ _ _ _ _ _ _ _ _ _ _ _ _ _ _ _ _ _ _ _ _ _ _ _ _ _ _ _ _ _ _ _ _ _ _ _ _ _ _ _ _ _ _ _ _ _ _ _ _ _ _ _ _ _ _ _ _ _ _ _ _ _ _ _ _ _ _ _ _ _ _ _ _ (by omega) (by omega) (by rw [r1.w]; exact hw) (by rw [r1.h]; exact hh') p4 (by omega) ?_
    intro h' t' y';intros;rename_i pe st
    simp [hw1]
    exact hnext h' t' _ _ _ _ _ _ _ _ _ _ _ _ _ _ _ _ _ _ _ _ _ _ _ _ _ _ _ _ _ _ _ _ _ _ _ _ _ _ _ _ _ _ _ _ _ _ _ _ _ _ _ _ _ _ _ _ _ _ _ _ _ _ _ _ _ _ _ _ _ _ _ _ _ _ _ _ _ _ _ _ _ _ _ _ _ _ _ _ _ _ _ _ _ _ _ _ _ _ _ _ _ _ _ _ _ _ _ _ _ _ _ _ _ _ _ _ _ _ _ _ _ _ _ _ _ _ _ _ _ _ _ _ _ _ pe ((((s1.trans s2).trans s3).trans s4).trans st)
theorem dstripes_loop {w hh : Nat} (hw2 : w ≤ 64) (hh2 : hh ≤ 64) :
  ∀ (n : Nat) (top : Int) (h : Heap) (t : A.T) (b : BS) (s : A.S) (K2 K3 K4 K6 K7 K8 K9 Ka Kb Kc Kd Ke Kf Kg Kh Ki Kj Kk Kl Km Kn Ko Kp Kq Kr Ks Kt Ku Kv Kw Kx Ky Kz J0 J1 J2 J3 J4 J5 J6 J7 J8 J9 Ja Jb Jc Jd Je Jf Jg Jh Ji Jj Jk Jl Jm Jn Jo Jp Jq Jr Js Jt Ju Jv Jw Jx Jy Jz Y0 Y1 Y2 Y3 Y4 Y5 Y6 Y7 Y8 Y9 Ya Yb Yc Yd Ye Yf Yg Yh Yi Yj Yk Yl Ym Yn Yo Yp Yq Yr Ys Yt Yu Yv Yw Yx Yy Yz Z0 Z1 Z2 Z3 Z4 Z5 Z6 Z7 Z8 Z9 Za Zb Zc Zd Ze Zf Zg Zh Zi Zj Zk Zl Zm Zn Zo Zp Zq Zr Zs Zt Zu : Value),(hh : Int) ≤ top + 4 * n → top + 4 * n ≤ hh + 3 → 0 ≤ top → b.w = w → b.h = hh → PD A h q p pb nb P t b s → A.size s + 12 * w * n + 20 < 1000000 →
   (∀ (h' : Heap) (t' : A.T) (K2 K3 K4 K5 K6 K7 K8 K9 Ka Kb Kc Kd Ke Kf Kg Kh Ki Kj Kk Kl Km Kn Ko Kp Kq Kr Ks Kt Ku Kv Kw Kx Ky Kz J0 J1 J2 J3 J4 J5 J6 J7 J8 J9 Ja Jb Jc Jd Je Jf Jg Jh Ji Jj Jk Jl Jm Jn Jo Jp Jq Jr Js Jt Ju Jv Jw Jx Jy Jz Y0 Y1 Y2 Y3 Y4 Y5 Y6 Y7 Y8 Y9 Ya Yb Yc Yd Ye Yf Yg Yh Yi Yj Yk Yl Ym Yn Yo Yp Yq Yr Ys Yt Yu Yv Yw Yx Yy Yz Z0 Z1 Z2 Z3 Z4 Z5 Z6 Z7 Z8 Z9 Za Zb Zc Zd Ze Zf Zg Zh Zi Zj Zk Zl Zm Zn Zo Zp Zq Zr Zs Zt Zu : Value),PD A h' q p pb nb P t' ((dstripes P b top n).run A.ask s).1 ((dstripes P b top n).run A.ask s).2 → Stq h h' c (A.own t) (A.own t') →
    Ok tab R112 k #[ptr q,v1,K2,K3,K4,K5,K6,K7,K8,K9,Ka,Kb,Kc,Kd,Ke,Kf,Kg,Kh,Ki,Kj,Kk,Kl,Km,Kn,Ko,Kp,Kq,Kr,Ks,Kt,Ku,Kv,Kw,Kx,Ky,Kz,J0,J1,J2,J3,J4,J5,J6,J7,J8,J9,Ja,Jb,Jc,Jd,Je,Jf,Jg,Jh,Ji,Jj,Jk,Jl,Jm,Jn,Jo,Jp,Jq,Jr,Js,Jt,Ju,Jv,Jw,Jx,Jy,Jz,Y0,Y1,Y2,Y3,Y4,Y5,Y6,Y7,Y8,Y9,Ya,Yb,Yc,Yd,Ye,Yf,Yg,Yh,Yi,Yj,Yk,Yl,Ym,Yn,Yo,Yp,Yq,Yr,Ys,Yt,Yu,Yv,Yw,Yx,Yy,Yz,Z0,Z1,Z2,Z3,Z4,Z5,Z6,Z7,Z8,Z9,Za,Zb,Zc,Zd,Ze,Zf,Zg,Zh,Zi,Zj,Zk,Zl,Zm,Zn,Zo,Zp,Zq,Zr,Zs,Zt,Zu] h' R) →
   Ok tab R112 (.inLoop L112_2 :: .inBlock 0 :: k) #[ptr q,v1,K2,K3,K4,.int .i64 top,K6,K7,K8,K9,Ka,Kb,Kc,Kd,Ke,Kf,Kg,Kh,Ki,Kj,Kk,Kl,Km,Kn,Ko,Kp,Kq,Kr,Ks,Kt,Ku,Kv,Kw,Kx,Ky,Kz,J0,J1,J2,J3,J4,J5,J6,J7,J8,J9,Ja,Jb,Jc,Jd,Je,Jf,Jg,Jh,Ji,Jj,Jk,Jl,Jm,Jn,Jo,Jp,Jq,Jr,Js,Jt,Ju,Jv,Jw,Jx,Jy,Jz,Y0,Y1,Y2,Y3,Y4,Y5,Y6,Y7,Y8,Y9,Ya,Yb,Yc,Yd,Ye,Yf,Yg,Yh,Yi,Yj,Yk,Yl,Ym,Yn,Yo,Yp,Yq,Yr,Ys,Yt,Yu,Yv,Yw,Yx,Yy,Yz,Z0,Z1,Z2,Z3,Z4,Z5,Z6,Z7,Z8,Z9,Za,Zb,Zc,Zd,Ze,Zf,Zg,Zh,Zi,Zj,Zk,Zl,Zm,Zn,Zo,Zp,Zq,Zr,Zs,Zt,Zu] h R := by
 intro n
 induction n with
 | zero =>
  intro top h t b s;intros;rename_i ha hb h0 hw hh' he hl hk
  have hq := he.dr.blk
  rw [hw,hh'] at hq
  have hlt : ¬ top < (hh : Int) := by omega
  rw [ok_round,l112_2,L112_2a,L112_2b]
  simp [hq,hlt]
  exact hk h t _ _ _ _ _ _ _ _ _ _ _ _ _ _ _ _ _ _ _ _ _ _ _ _ _ _ _ _ _ _ _ _ _ _ _ _ _ _ _ _ _ _ _ _ _ _ _ _ _ _ _ _ _ _ _ _ _ _ _ _ _ _ _ _ _ _ _ _ _ _ _ _ _ _ _ _ _ _ _ _ _ _ _ _ _ _ _ _ _ _ _ _ _ _ _ _ _ _ _ _ _ _ _ _ _ _ _ _ _ _ _ _ _ _ _ _ _ _ _ _ _ _ _ _ _ _ _ _ _ _ _ _ _ _ _ _ _ he (Stq.refl _ _ _)
 | succ n ih =>
  intro top h t b s;intros;rename_i ha hb h0 hw hh' he hl hk
  have hq := he.dr.blk
  rw [hw,hh'] at hq
  have hlt : top < (hh : Int) := by omega
  have hw4 : IntKind.i64.wrap (top + 4) = top + 4 := wrapI (by omega) (by omega)
  obtain ⟨hle,hsz⟩ := Tr.Lv.out (A := A.ask) (size := A.size) A.size_ask s (lv_dcols he.dr.pok (n := w) he.good (x := 0) (top := top) (by omega) (by rw [hw]; omega) h0 (by rw [hh']; exact hlt))
  have hmul : 12 * w * (n + 1) = 12 * w * n + 12 * w := by rw [Nat.mul_add]; omega
  rw [dstripes,hw] at hk
  simp only [Tr.run_bind] at hk
  rw [ok_round,l112_2,L112_2a,L112_2b]
  simp [hq,hlt]
  refine dcols_loop hw2 hh2 ⟨h0,hlt⟩ w 0 h t b s _ _ _ _ _ _ _ _ _ _ _ _ _ _ _ _ _ _ _ _ _ _ _ _ _ _ _ _ _ _ _ _ _ _ _ _ _ _ _ _ _ _ _ _ _ _ _ _ _ _ _ _ _ _ _ _ _ _ _ _ _ _ _ _ _ _ _ _ _ _ _ _ _ _ _ _ _ _ _ _ _ _ _ _ _ _ _ _ _ _ _ _ _ _ _ _ _ _ _ _ _ _ _ _ _ _ _ _ _ _ _ _ _ _ _ _ _ _ _ _ _ _ _ _ _ _ _ _ _ _ _ _ _ _ (by omega) (by omega) hw hh' he (by omega) ?_
  intro h' t';intros;rename_i pe st
  simp [hw4]
  refine ih (top + 4) h' t' _ _ _ _ _ _ _ _ _ _ _ _ _ _ _ _ _ _ _ _ _ _ _ _ _ _ _ _ _ _ _ _ _ _ _ _ _ _ _ _ _ _ _ _ _ _ _ _ _ _ _ _ _ _ _ _ _ _ _ _ _ _ _ _ _ _ _ _ _ _ _ _ _ _ _ _ _ _ _ _ _ _ _ _ _ _ _ _ _ _ _ _ _ _ _ _ _ _ _ _ _ _ _ _ _ _ _ _ _ _ _ _ _ _ _ _ _ _ _ _ _ _ _ _ _ _ _ _ _ _ _ _ _ _ _ _ _ _ (by omega) (by omega) (by omega) (by rw [hle.w]; exact hw) (by rw [hle.h]; exact hh') pe (by omega) ?_
  intro h'' t'';intros;rename_i pe2 st2
  exact hk h'' t'' _ _ _ _ _ _ _ _ _ _ _ _ _ _ _ _ _ _ _ _ _ _ _ _ _ _ _ _ _ _ _ _ _ _ _ _ _ _ _ _ _ _ _ _ _ _ _ _ _ _ _ _ _ _ _ _ _ _ _ _ _ _ _ _ _ _ _ _ _ _ _ _ _ _ _ _ _ _ _ _ _ _ _ _ _ _ _ _ _ _ _ _ _ _ _ _ _ _ _ _ _ _ _ _ _ _ _ _ _ _ _ _ _ _ _ _ _ _ _ _ _ _ _ _ _ _ _ _ _ _ _ _ _ _ _ _ _ pe2 (st.trans st2)
theorem dclear_loop {sl : Value} {pts : List (Int × Int)} :
  ∀ (m i : Nat) (h : Heap) (t : A.T) (b : BS) (s : A.S) (K2 K3 K4 K5 K6 K7 K8 K9 Ka Kb Kc Kd Ke Kf Kg Kh Ki Kj Kk Kl Km Kn Ko Kp Kq Kr Ks Kt Ku Kv Kw Kx Ky Kz J0 J1 J2 J3 J4 J5 J6 J7 J8 J9 Ja Jb Jc Jd Je Jf Jg Jh Ji Jj Jk Jl Jm Jn Jo Jp Jq Jr Js Jt Ju Jv Jw Jx Jy Jz Y0 Y1 Y2 Y3 Y4 Y5 Y6 Y7 Y8 Y9 Ya Yb Yc Yd Ye Yf Yg Yh Yi Yj Yk Yl Ym Yn Yo Yp Yq Yr Ys Yt Yu Yy Yz Z0 Z1 Z2 Z3 Z4 Z5 Z6 Z7 Z8 Z9 Za Zb Zc Zd Ze Zf Zg Zh Zi Zj Zk Zl Zm Zn Zo Zp Zq Zr Zs Zt Zu : Value),m = pts.length - i → i ≤ pts.length → PD A h q p pb nb P t b s → Fad h sl pts c (A.own t) → AllIn b pts → pts.length < 1000000 →
   (∀ (h' : Heap) (K2 K3 K4 K5 K6 K7 K8 K9 Ka Kb Kc Kd Ke Kf Kg Kh Ki Kj Kk Kl Km Kn Ko Kp Kq Kr Ks Kt Ku Kv Kw Kx Ky Kz J0 J1 J2 J3 J4 J5 J6 J7 J8 J9 Ja Jb Jc Jd Je Jf Jg Jh Ji Jj Jk Jl Jm Jn Jo Jp Jq Jr Js Jt Ju Jv Jw Jx Jy Jz Y0 Y1 Y2 Y3 Y4 Y5 Y6 Y7 Y8 Y9 Ya Yb Yc Yd Ye Yf Yg Yh Yi Yj Yk Yl Ym Yn Yo Yp Yq Yr Ys Yt Yu Yv Yw Yx Yy Yz Z0 Z1 Z2 Z3 Z4 Z5 Z6 Z7 Z8 Z9 Za Zb Zc Zd Ze Zf Zg Zh Zi Zj Zk Zl Zm Zn Zo Zp Zq Zr Zs Zt Zu : Value),PD A h' q p pb nb P t (b.clr (pts.drop i)) s → Stq h h' c (A.own t) (A.own t) → Ok tab R112 k #[ptr q,v1,K2,K3,K4,K5,K6,K7,K8,K9,Ka,Kb,Kc,Kd,Ke,Kf,Kg,Kh,Ki,Kj,Kk,Kl,Km,Kn,Ko,Kp,Kq,Kr,Ks,Kt,Ku,Kv,Kw,Kx,Ky,Kz,J0,J1,J2,J3,J4,J5,J6,J7,J8,J9,Ja,Jb,Jc,Jd,Je,Jf,Jg,Jh,Ji,Jj,Jk,Jl,Jm,Jn,Jo,Jp,Jq,Jr,Js,Jt,Ju,Jv,Jw,Jx,Jy,Jz,Y0,Y1,Y2,Y3,Y4,Y5,Y6,Y7,Y8,Y9,Ya,Yb,Yc,Yd,Ye,Yf,Yg,Yh,Yi,Yj,Yk,Yl,Ym,Yn,Yo,Yp,Yq,Yr,Ys,Yt,Yu,Yv,Yw,Yx,Yy,Yz,Z0,Z1,Z2,Z3,Z4,Z5,Z6,Z7,Z8,Z9,Za,Zb,Zc,Zd,Ze,Zf,Zg,Zh,Zi,Zj,Zk,Zl,Zm,Zn,Zo,Zp,Zq,Zr,Zs,Zt,Zu] h' R) →
   Ok tab R112 (.inLoop L112_3 :: .inBlock 6 :: k) #[ptr q,v1,K2,K3,K4,K5,K6,K7,K8,K9,Ka,Kb,Kc,Kd,Ke,Kf,Kg,Kh,Ki,Kj,Kk,Kl,Km,Kn,Ko,Kp,Kq,Kr,Ks,Kt,Ku,Kv,Kw,Kx,Ky,Kz,J0,J1,J2,J3,J4,J5,J6,J7,J8,J9,Ja,Jb,Jc,Jd,Je,Jf,Jg,Jh,Ji,Jj,Jk,Jl,Jm,Jn,Jo,Jp,Jq,Jr,Js,Jt,Ju,Jv,Jw,Jx,Jy,Jz,Y0,Y1,Y2,Y3,Y4,Y5,Y6,Y7,Y8,Y9,Ya,Yb,Yc,Yd,Ye,Yf,Yg,Yh,Yi,Yj,Yk,Yl,Ym,Yn,Yo,Yp,Yq,Yr,Ys,Yt,Yu,sl,.int .i64 pts.length,.int .i64 i,Yy,Yz,Z0,Z1,Z2,Z3,Z4,Z5,Z6,Z7,Z8,Z9,Za,Zb,Zc,Zd,Ze,Zf,Zg,Zh,Zi,Zj,Zk,Zl,Zm,Zn,Zo,Zp,Zq,Zr,Zs,Zt,Zu] h R := by
 intro m
 induction m with
 | zero =>
  intro i h t b s;intros;rename_i hm hi he hf ha hpl hk
  have hlt : ¬ ((i : Int) < pts.length) := by omega
  rw [ok_round,l112_3,L112_3a,L112_3b]
  simp [hlt]
  refine hk h _ _ _ _ _ _ _ _ _ _ _ _ _ _ _ _ _ _ _ _ _ _ _ _ _ _ _ _ _ _ _ _ _ _ _ _ _ _ _ _ _ _ _ _ _ _ _ _ _ _ _ _ _ _ _ _ _ _ _ _ _ _ _ _ _ _ _ _ _ _ _ _ _ _ _ _ _ _ _ _ _ _ _ _ _ _ _ _ _ _ _ _ _ _ _ _ _ _ _ _ _ _ _ _ _ _ _ _ _ _ _ _ _ _ _ _ _ _ _ _ _ _ _ _ _ _ _ _ _ _ _ _ _ _ _ _ _ ?_ (Stq.refl _ _ _)
  rw [List.drop_of_length_le (by omega)]; exact he
 | succ m ih =>
  intro i h t b s;intros;rename_i hm hi he hf ha hpl hk
  have hlt : ((i : Int) < pts.length) := by omega
  have hw : IntKind.i64.wrap ((i : Int) + 1) = (i : Int) + 1 := wrapN (n := i + 1) (by omega)
  have hil : i < pts.length := by omega
  obtain ⟨id,off,blk,hs,hb,ht,hle⟩ := hf.get hil
  have hin := ha _ (List.getElem_mem hil)
  have hsp : b.clr (pts.drop i) = (b.upd pts[i].1 pts[i].2 (touch false)).clr (pts.drop (i + 1)) := by
   rw [List.drop_eq_getElem_cons hil]; rfl
  generalize hx : pts[i].1 = x at *
  generalize hy : pts[i].2 = y at *
  rw [hsp] at hk
  have he2 := he.push (some ⟨false,[.int .i64 x,.int .i64 y]⟩)
  have hs2 := Stq.push h (some ⟨false,[.int .i64 x,.int .i64 y]⟩) c (A.own t)
  have hf2 := hf.stq hs2
  have hK : ∀ y : Blk,blk? (h ++ [some y]) h.length = some y := fun y => blk?_push_eq
  have hq2 := he2.dr.blk
  have htc := fun R => touch_c (R := R) (v := false) he2.dr.cb (x := x) (y := y) hin
  have hl1 := good_map he.good hin (kv_touch false)
  obtain ⟨p4,s4⟩ := he2.to hl1
  have hmm : (fun z : Cell => ({ z with t := false } : Cell)) = touch false := rfl
  rw [hmm] at htc
  have hls : (h ++ [some (⟨false,[.int .i64 x,.int .i64 y]⟩ : Blk)]).set c (some ⟨false,encC (b.upd x y (touch false)).cs⟩) = h.set c (some ⟨false,encC (b.upd x y (touch false)).cs⟩) ++ [some ⟨false,[.int .i64 x,.int .i64 y]⟩] :=
   List.set_append_left _ _ he.lts.2.2.1
  rw [ok_round,l112_3,L112_3a,L112_3b]
  rw [hls] at htc p4 s4
  simp [-List.cons_append,-List.append_assoc,hlt,hw,hs,hb,ht,hle,hK,hq2,htc]
  rw [← hs]
  have st4 := hs2.trans s4
  refine ih (i + 1) _ t _ s _ _ _ _ _ _ _ _ _ _ _ _ _ _ _ _ _ _ _ _ _ _ _ _ _ _ _ _ _ _ _ _ _ _ _ _ _ _ _ _ _ _ _ _ _ _ _ _ _ _ _ _ _ _ _ _ _ _ _ _ _ _ _ _ _ _ _ _ _ _ _ _ _ _ _ _ _ _ _ _ _ _ _ _ _ _ _ _ _ _ _ _ _ _ _ _ _ _ _ _ _ _ _ _ _ _ _ _ _ _ _ _ _ _ _ _ _ _ _ _ _ _ _ _ _ _ _ _ _ _ _ _ _ _ (by omega) (by omega) p4 (hf.stq st4) (hl1.all ha) hpl ?_
  intro h';intros;rename_i pe st
  exact hk h' _ _ _ _ _ _ _ _ _ _ _ _ _ _ _ _ _ _ _ _ _ _ _ _ _ _ _ _ _ _ _ _ _ _ _ _ _ _ _ _ _ _ _ _ _ _ _ _ _ _ _ _ _ _ _ _ _ _ _ _ _ _ _ _ _ _ _ _ _ _ _ _ _ _ _ _ _ _ _ _ _ _ _ _ _ _ _ _ _ _ _ _ _ _ _ _ _ _ _ _ _ _ _ _ _ _ _ _ _ _ _ _ _ _ _ _ _ _ _ _ _ _ _ _ _ _ _ _ _ _ _ _ _ _ _ _ _ pe (st4.trans st)
theorem dchk_run (r : Bool) (x : Bool) (l : List Bool) (s : A.S) : (dchk P r (x :: l)).run A.ask s = (dchk P (r && (A.ask s (P.cx 18)).1 == x) l).run A.ask (A.ask s (P.cx 18)).2 := rfl
def b2i (x : Bool) : Value := .int .i64 (x.toNat : Nat)
theorem dcheck_loop {z : Nat} {bits : List Bool} (hbl : bits.length ≤ 4) :
  ∀ (m i : Nat) (h : Heap) (t : A.T) (s : A.S) (r : Bool) (K1 K2 K3 K4 K5 K6 K7 K8 K9 Kb Kc Kd Ke Kf Kg Kh Ki Kj Kk Kl Km Kn Ko Kp Kq Kr Ks Kt Ku Kv Kw Kx Ky Kz J0 J1 J2 J3 J4 J5 J6 J7 J8 J9 Ja Jb Jc Jd Je Jf Jg Jh Ji Jj Jk Jl Jm Jn Jo Jp Jq Jr Js Jt Ju Jv Jw Jx Jy Jz Y0 Y1 Y2 Y3 Y4 Y5 Y6 Y7 Y8 Y9 Ya Yb Yc Yd Ye Yf Yg Yh Yi Yj Yk Yl Ym Yn Yo Yp Yq Yr Ys Yt Yu Yv Yw Yx Yy Yz Z0 Z1 Z2 Z3 Z4 Z5 Z6 Z7 Z8 Z9 Za Zb Zf Zg Zh Zi Zj Zk Zl Zm Zn Zo Zp Zq Zr Zs Zt Zu : Value),m = bits.length - i → i ≤ bits.length → PD A h q p pb nb P t b s →
   blk? h z = some ⟨false,bits.map b2i⟩ → (z ≠ c ∧ ¬ A.own t z) → A.size s + 10 < 1000000 + i →
   (∀ (h' : Heap) (t' : A.T) (K1 K2 K3 K4 K5 K6 K7 K8 K9 Kb Kc Kd Ke Kf Kg Kh Ki Kj Kk Kl Km Kn Ko Kp Kq Kr Ks Kt Ku Kv Kw Kx Ky Kz J0 J1 J2 J3 J4 J5 J6 J7 J8 J9 Ja Jb Jc Jd Je Jf Jg Jh Ji Jj Jk Jl Jm Jn Jo Jp Jq Jr Js Jt Ju Jv Jw Jx Jy Jz Y0 Y1 Y2 Y3 Y4 Y5 Y6 Y7 Y8 Y9 Ya Yb Yc Yd Ye Yf Yg Yh Yi Yj Yk Yl Ym Yn Yo Yp Yq Yr Ys Yt Yu Yv Yw Yx Yy Yz Z0 Z1 Z2 Z3 Z4 Z5 Z6 Z7 Z8 Z9 Za Zb Zc Zd Ze Zf Zg Zh Zi Zj Zk Zl Zm Zn Zo Zp Zq Zr Zs Zt Zu : Value),PD A h' q p pb nb P t' b ((dchk P r (bits.drop i)).run A.ask s).2 → Stq h h' c (A.own t) (A.own t') → Ok tab R112 k #[ptr q,K1,K2,K3,K4,K5,K6,K7,K8,K9,.bool ((dchk P r (bits.drop i)).run A.ask s).1,Kb,Kc,Kd,Ke,Kf,Kg,Kh,Ki,Kj,Kk,Kl,Km,Kn,Ko,Kp,Kq,Kr,Ks,Kt,Ku,Kv,Kw,Kx,Ky,Kz,J0,J1,J2,J3,J4,J5,J6,J7,J8,J9,Ja,Jb,Jc,Jd,Je,Jf,Jg,Jh,Ji,Jj,Jk,Jl,Jm,Jn,Jo,Jp,Jq,Jr,Js,Jt,Ju,Jv,Jw,Jx,Jy,Jz,Y0,Y1,Y2,Y3,Y4,Y5,Y6,Y7,Y8,Y9,Ya,Yb,Yc,Yd,Ye,Yf,Yg,Yh,Yi,Yj,Yk,Yl,Ym,Yn,Yo,Yp,Yq,Yr,Ys,Yt,Yu,Yv,Yw,Yx,Yy,Yz,Z0,Z1,Z2,Z3,Z4,Z5,Z6,Z7,Z8,Z9,Za,Zb,Zc,Zd,Ze,Zf,Zg,Zh,Zi,Zj,Zk,Zl,Zm,Zn,Zo,Zp,Zq,Zr,Zs,Zt,Zu] h' R) →
   Ok tab R112 (.inLoop L112_4 :: .inBlock 8 :: k) #[ptr q,K1,K2,K3,K4,K5,K6,K7,K8,K9,.bool r,Kb,Kc,Kd,Ke,Kf,Kg,Kh,Ki,Kj,Kk,Kl,Km,Kn,Ko,Kp,Kq,Kr,Ks,Kt,Ku,Kv,Kw,Kx,Ky,Kz,J0,J1,J2,J3,J4,J5,J6,J7,J8,J9,Ja,Jb,Jc,Jd,Je,Jf,Jg,Jh,Ji,Jj,Jk,Jl,Jm,Jn,Jo,Jp,Jq,Jr,Js,Jt,Ju,Jv,Jw,Jx,Jy,Jz,Y0,Y1,Y2,Y3,Y4,Y5,Y6,Y7,Y8,Y9,Ya,Yb,Yc,Yd,Ye,Yf,Yg,Yh,Yi,Yj,Yk,Yl,Ym,Yn,Yo,Yp,Yq,Yr,Ys,Yt,Yu,Yv,Yw,Yx,Yy,Yz,Z0,Z1,Z2,Z3,Z4,Z5,Z6,Z7,Z8,Z9,Za,Zb,.slice (some ⟨z,0,none⟩) bits.length 1,.int .i64 bits.length,.int .i64 i,Zf,Zg,Zh,Zi,Zj,Zk,Zl,Zm,Zn,Zo,Zp,Zq,Zr,Zs,Zt,Zu] h R := by
 intro m
 induction m with
 | zero =>
  intro i h t s r;intros;rename_i hm hi he hz hn hl hk
  have hlt : ¬ ((i : Int) < bits.length) := by omega
  rw [List.drop_of_length_le (by omega)] at hk
  rw [ok_round,l112_4,L112_4a,L112_4b]
  simp [hlt]
  exact hk h t _ _ _ _ _ _ _ _ _ _ _ _ _ _ _ _ _ _ _ _ _ _ _ _ _ _ _ _ _ _ _ _ _ _ _ _ _ _ _ _ _ _ _ _ _ _ _ _ _ _ _ _ _ _ _ _ _ _ _ _ _ _ _ _ _ _ _ _ _ _ _ _ _ _ _ _ _ _ _ _ _ _ _ _ _ _ _ _ _ _ _ _ _ _ _ _ _ _ _ _ _ _ _ _ _ _ _ _ _ _ _ _ _ _ _ _ _ _ _ _ _ _ _ _ _ _ _ _ _ _ _ _ _ _ _ _ _ he (Stq.refl _ _ _)
 | succ m ih =>
  intro i h t s r;intros;rename_i hm hi he hz hn hl hk
  have hlt : ((i : Int) < bits.length) := by omega
  have hw : IntKind.i64.wrap ((i : Int) + 1) = (i : Int) + 1 := wrapN (n := i + 1) (by omega)
  have hil : i < bits.length := by omega
  have hq := he.dr.blk
  rw [List.drop_eq_getElem_cons hil,dchk_run] at hk
  obtain ⟨u1,h1,e1,p1,s1⟩ := ask_d he (by omega) 18
  have z1 := A.size_ask s (P.cx 18)
  generalize (A.ask s (P.cx 18)).1 = bit at *
  generalize (A.ask s (P.cx 18)).2 = sa at *
  have hz1 : blk? h1 z = some ⟨false,bits.map b2i⟩ := by rw [s1.same z (blk?_lt hz) hn.1 hn.2]; exact hz
  have hn1 : z ≠ c ∧ ¬ A.own u1 z := ⟨hn.1,fun e => by
   rcases s1.fresh z e with h | h
   ·exact hn.2 h
   ·have := blk?_lt hz; omega⟩
  have hget : bits[i]? = some bits[i] := List.getElem?_eq_getElem hil
  have hcmp : (((bit.toNat : Nat) : Int) == ((bits[i].toNat : Nat) : Int)) = (bit == bits[i]) := by cases bit <;> cases bits[i] <;> rfl
  rw [ok_round,l112_4,L112_4a,L112_4b]
  have hgo : ∀ K1 K2 K3 K4 K5 K6 K7 K8 K9 Kb Kc Kd Ke Kf Kg Kh Ki Kj Kk Kl Km Kn Ko Kp Kq Kr Ks Kt Ku Kv Kw Kx Ky Kz J0 J1 J2 J3 J4 J5 J6 J7 J8 J9 Ja Jb Jc Jd Je Jf Jg Jh Ji Jj Jk Jl Jm Jn Jo Jp Jq Jr Js Jt Ju Jv Jw Jx Jy Jz Y0 Y1 Y2 Y3 Y4 Y5 Y6 Y7 Y8 Y9 Ya Yb Yc Yd Ye Yf Yg Yh Yi Yj Yk Yl Ym Yn Yo Yp Yq Yr Ys Yt Yu Yv Yw Yx Yy Yz Z0 Z1 Z2 Z3 Z4 Z5 Z6 Z7 Z8 Z9 Za Zb Zf Zg Zh Zi Zj Zk Zl Zm Zn Zo Zp Zq Zr Zs Zt Zu : Value,Ok tab R112 (.inLoop L112_4 :: .inBlock 8 :: k) #[ptr q,K1,K2,K3,K4,K5,K6,K7,K8,K9,.bool (r && bit == bits[i]),Kb,Kc,Kd,Ke,Kf,Kg,Kh,Ki,Kj,Kk,Kl,Km,Kn,Ko,Kp,Kq,Kr,Ks,Kt,Ku,Kv,Kw,Kx,Ky,Kz,J0,J1,J2,J3,J4,J5,J6,J7,J8,J9,Ja,Jb,Jc,Jd,Je,Jf,Jg,Jh,Ji,Jj,Jk,Jl,Jm,Jn,Jo,Jp,Jq,Jr,Js,Jt,Ju,Jv,Jw,Jx,Jy,Jz,Y0,Y1,Y2,Y3,Y4,Y5,Y6,Y7,Y8,Y9,Ya,Yb,Yc,Yd,Ye,Yf,Yg,Yh,Yi,Yj,Yk,Yl,Ym,Yn,Yo,Yp,Yq,Yr,Ys,Yt,Yu,Yv,Yw,Yx,Yy,Yz,Z0,Z1,Z2,Z3,Z4,Z5,Z6,Z7,Z8,Z9,Za,Zb,.slice (some ⟨z,0,none⟩) bits.length 1,.int .i64 bits.length,.int .i64 ((i : Int) + 1),Zf,Zg,Zh,Zi,Zj,Zk,Zl,Zm,Zn,Zo,Zp,Zq,Zr,Zs,Zt,Zu] h1 R := by
   intros
   refine ih (i + 1) h1 u1 sa _ _ _ _ _ _ _ _ _ _ _ _ _ _ _ _ _ _ _ _ _ _ _ _ _ _ _ _ _ _ _ _ _ _ _ _ _ _ _ _ _ _ _ _ _ _ _ _ _ _ _ _ _ _ _ _ _ _ _ _ _ _ _ _ _ _ _ _ _ _ _ _ _ _ _ _ _ _ _ _ _ _ _ _ _ _ _ _ _ _ _ _ _ _ _ _ _ _ _ _ _ _ _ _ _ _ _ _ _ _ _ _ _ _ _ _ _ _ _ _ _ _ _ _ _ _ _ _ _ _ _ _ _ _ _ (by omega) (by omega) p1 hz1 hn1 (by omega) ?_
   intro h' t';intros;rename_i pe st
   exact hk h' t' _ _ _ _ _ _ _ _ _ _ _ _ _ _ _ _ _ _ _ _ _ _ _ _ _ _ _ _ _ _ _ _ _ _ _ _ _ _ _ _ _ _ _ _ _ _ _ _ _ _ _ _ _ _ _ _ _ _ _ _ _ _ _ _ _ _ _ _ _ _ _ _ _ _ _ _ _ _ _ _ _ _ _ _ _ _ _ _ _ _ _ _ _ _ _ _ _ _ _ _ _ _ _ _ _ _ _ _ _ _ _ _ _ _ _ _ _ _ _ _ _ _ _ _ _ _ _ _ _ _ _ _ _ _ _ _ _ pe (s1.trans st)
  have hbi : b2i bits[i] = .int .i64 ((bits[i].toNat : Nat) : Int) := rfl
  generalize bits[i] = bi at *
  generalize ((bit.toNat : Nat) : Int) = bn at *
  generalize ((bi.toNat : Nat) : Int) = bm at *
  cases r
  ·simp at hgo
   simp [k_guard,hlt,hw,hz,hget,hbi,hq,e1]
   exact hgo ..
  ·rw [Bool.true_and] at hgo
   simp [k_guard,hlt,hw,hz,hget,hbi,hq,e1,hcmp]
   exact hgo ..
theorem cleanup_d (he : PD A h q p pb nb P t b s) (hl : A.size s + 100000 < 1000000) (on : Bool) :
  ∃ t' h',(∀ R,Ret tab 112 [ptr q,.bool on] h R = R (.bool ((dclean P b on).run A.ask s).1.2) h') ∧ PD A h' q p pb nb P t' ((dclean P b on).run A.ask s).1.1 ((dclean P b on).run A.ask s).2 ∧ Stq h h' c (A.own t) (A.own t') := by
 have key : Ret tab 112 [ptr q,.bool on] h fun v h' => v = .bool ((dclean P b on).run A.ask s).1.2 ∧ ∃ t',PD A h' q p pb nb P t' ((dclean P b on).run A.ask s).1.1 ((dclean P b on).run A.ask s).2 ∧ Stq h h' c (A.own t) (A.own t') := by
  have hw2 := he.dr.cb.ok.w2
  have hh2 := he.dr.cb.ok.h2
  have hsl := scan_len he.dr.cb.ok.w2 he.dr.cb.ok.h2
  have hst : 12 * b.w * stripesOf b.h ≤ 12 * 64 * 16 := Nat.mul_le_mul (by omega) (by unfold stripesOf; omega)
  have g1 : (b.h : Int) ≤ 0 + 4 * ((stripesOf b.h : Nat) : Int) := by unfold stripesOf; omega
  have g2 : 0 + 4 * ((stripesOf b.h : Nat) : Int) ≤ b.h + 3 := by unfold stripesOf; omega
  obtain ⟨hls,hsz⟩ := Tr.Lv.out (A := A.ask) (size := A.size) A.size_ask s (lv_dstripes he.dr.pok (n := stripesOf b.h) he.good (top := 0) (by omega) g2)
  have hcl : (dclean P b on).run A.ask s = ((((dstripes P b 0 (stripesOf b.h)).run A.ask s).1.clr (scan b.w b.h),((dcheck P on).run A.ask ((dstripes P b 0 (stripesOf b.h)).run A.ask s).2).1),((dcheck P on).run A.ask ((dstripes P b 0 (stripesOf b.h)).run A.ask s).2).2) := by
   unfold dclean
   simp only [Tr.run_bind,Tr.run_ret]
   rw [hls.w,hls.h]
  rw [hcl]
  rw [enter112,show B112 = .seq (nthC 0 B112) (.seq (nthC 1 B112) (.seq (nthC 2 B112) (tlC 3 B112))) from rfl]
  generalize hT : tlC 3 B112 = tl
  simp only [nthC,tlC,fstC,B112]
  simp
  refine dstripes_loop hw2 hh2 (stripesOf b.h) 0 h t b s _ _ _ _ _ _ _ _ _ _ _ _ _ _ _ _ _ _ _ _ _ _ _ _ _ _ _ _ _ _ _ _ _ _ _ _ _ _ _ _ _ _ _ _ _ _ _ _ _ _ _ _ _ _ _ _ _ _ _ _ _ _ _ _ _ _ _ _ _ _ _ _ _ _ _ _ _ _ _ _ _ _ _ _ _ _ _ _ _ _ _ _ _ _ _ _ _ _ _ _ _ _ _ _ _ _ _ _ _ _ _ _ _ _ _ _ _ _ _ _ _ _ _ _ _ _ _ _ _ _ _ _ _ _ _ _ g1 g2 (by omega) rfl rfl he (by omega) ?_
  intro h1 u1;intros;rename_i p1 s1
  generalize ((dstripes P b 0 (stripesOf b.h)).run A.ask s).1 = b1 at *
  generalize ((dstripes P b 0 (stripesOf b.h)).run A.ask s).2 = sa at *
  obtain ⟨sl,h2,e2,p2,s2,f2⟩ := p1.scan
  obtain ⟨a,cc,hs⟩ := f2.sl.shape
  have hq1 := p1.dr.blk
  rw [hls.w,hls.h] at e2 f2 hs hq1
  simp [hq1,e2,hs]
  rw [← hs]
  have hall : AllIn b1 (scan b.w b.h) := by have := scanIn b1; rwa [hls.w,hls.h] at this
  refine dclear_loop _ 0 h2 u1 b1 sa _ _ _ _ _ _ _ _ _ _ _ _ _ _ _ _ _ _ _ _ _ _ _ _ _ _ _ _ _ _ _ _ _ _ _ _ _ _ _ _ _ _ _ _ _ _ _ _ _ _ _ _ _ _ _ _ _ _ _ _ _ _ _ _ _ _ _ _ _ _ _ _ _ _ _ _ _ _ _ _ _ _ _ _ _ _ _ _ _ _ _ _ _ _ _ _ _ _ _ _ _ _ _ _ _ _ _ _ _ _ _ _ _ _ _ _ _ _ _ _ _ _ _ _ _ _ _ _ _ _ _ _ _ _ rfl (by omega) p2 f2 hall (by omega) ?_
  intro h3;intros;rename_i p3 s3
  rw [List.drop_zero] at p3
  rw [← hT]
  simp only [tlC,B112]
  cases on
  ·simp [fin112]
   exact ⟨by simp [dcheck,Tr.run_ret],u1,p3,(s1.trans s2).trans s3⟩
  ·have p4 := p3.push (some ⟨false,[.int .i64 1,.int .i64 0,.int .i64 1,.int .i64 0]⟩)
   have s4 := Stq.push h3 (some ⟨false,[.int .i64 1,.int .i64 0,.int .i64 1,.int .i64 0]⟩) c (A.own u1)
   obtain ⟨l1,l2,l3,l4,l5⟩ := p3.lts
   have hdc : dcheck P true = dchk P true [true,false,true,false] := rfl
   rw [hdc]
   simp [repL]
   refine dcheck_loop (z := h3.length) (bits := [true,false,true,false]) (by simp) 4 0 _ u1 sa true _ _ _ _ _ _ _ _ _ _ _ _ _ _ _ _ _ _ _ _ _ _ _ _ _ _ _ _ _ _ _ _ _ _ _ _ _ _ _ _ _ _ _ _ _ _ _ _ _ _ _ _ _ _ _ _ _ _ _ _ _ _ _ _ _ _ _ _ _ _ _ _ _ _ _ _ _ _ _ _ _ _ _ _ _ _ _ _ _ _ _ _ _ _ _ _ _ _ _ _ _ _ _ _ _ _ _ _ _ _ _ _ _ _ _ _ _ _ _ _ _ _ _ _ _ _ _ _ _ _ _ _ _ _ (by simp) (by simp) p4 ?_ ⟨by omega,fun e => by have := A.lt p3.rel _ e; omega⟩ (by omega) ?_
   ·simpa [b2i] using blk?_push_eq (h := h3) (x := some (⟨false,[.int .i64 1,.int .i64 0,.int .i64 1,.int .i64 0]⟩ : Blk))
   ·intro h5 u5;intros;rename_i p5 s5
    simp [fin112]
    exact ⟨u5,by simpa using p5,(((s1.trans s2).trans s3).trans s4).trans s5⟩
 obtain ⟨v,h',e,rfl,t',pe,st⟩ := ret_ex key
 exact ⟨t',h',e,pe,st⟩
end
open Go.Sim
open Go.RowKit
def dRun (m : MD) (b : BS) (n planes o : Nat) : Tr (BS × Bool) :=
 if kindOf n = 0 then (dsigs (runPP m n planes o) b (scan b.w b.h)).bind fun b => .ret (b,true)
 else if kindOf n = 1 then (drefs (runPP m n planes o) b (scan b.w b.h)).bind fun b => .ret (b,true)
 else dclean (runPP m n planes o) b m.sy
theorem runPP_ok {m : MD} {n planes o : Nat} (hpl : planes ≤ 60) (h1 : 1 ≤ planes) (ho : o ≤ 3) : (runPP m n planes o).Ok := ⟨by simp only [runPP]; omega,ho⟩
theorem lv_dRun {m : MD} {b : BS} (hg : b.Good) {n planes o : Nat} (hp : (runPP m n planes o).Ok) : (dRun m b n planes o).Lv (fun r => b.Le r.1) 20000 := by
 have hl : (scan b.w b.h).length ≤ 4096 := by
  have hw := hg.ok.w2
  have hh := hg.ok.h2
  have := scanPts_len b.w b.h (stripesOf b.h) 0
  have h2 : 4 * b.w * stripesOf b.h ≤ 4 * 64 * 16 := Nat.mul_le_mul (by omega) (by unfold stripesOf; omega)
  unfold scan; omega
 unfold dRun
 split
 ·exact (Tr.Lv.bind (m := 0) (Q' := fun r : BS × Bool => b.Le r.1) (fun a ha => ha) (lv_dsigs hp hg (scanIn b))).mono (fun _ h => h) (by omega)
 ·split
  ·exact (Tr.Lv.bind (m := 0) (Q' := fun r : BS × Bool => b.Le r.1) (fun a ha => ha) (lv_drefs hg (scanIn b))).mono (fun _ h => h) (by omega)
  ·exact lv_dclean hp hg m.sy
def askV (s : List (Int × Int) × Bool) (c : Int) : Bool × (List (Int × Int) × Bool) :=
 match s with
 | (l,true) => (false,(l,true))
 | ([],false) => (false,([],true))
 | (p :: l,false) => if p.1 = c ∧ (p.2 = 0 ∨ p.2 = 1) then (p.2 == 1,(l,false)) else (false,(p :: l,true))
theorem askV_bad {α : Type} : ∀ (t : Tr α) (l : List (Int × Int)),(t.run askV (l,true)).2 = (l,true)
 | .ret a,l => rfl
 | .ask c k,l => askV_bad (k false) l
theorem askV_play {α : Type} : ∀ (t : Tr α) (l : List (Int × Int)),(∀ a l',t.play l = some (a,l') → t.run askV (l,false) = (a,(l',false))) ∧ (t.play l = none → (t.run askV (l,false)).2.2 = true)
 | .ret a,l => ⟨fun a' l' h => by simp only [Tr.play] at h; injection h with h; injection h with h1 h2; subst h1 h2; rfl,fun h => by simp [Tr.play] at h⟩
 | .ask c k,[] => ⟨fun a l' h => by simp [Tr.play] at h,fun _ => by
  show ((k false).run askV ([],true)).2.2 = true
  rw [askV_bad]⟩
 | .ask c k,p :: l => by
  rw [Tr.play,Tr.run_ask]
  by_cases hp : p.1 = c ∧ (p.2 = 0 ∨ p.2 = 1)
  ·have e : askV (p :: l,false) c = (p.2 == 1,(l,false)) := by simp only [askV]; rw [if_pos hp]
   rw [if_pos hp,e]
   exact askV_play (k (p.2 == 1)) l
  ·have e : askV (p :: l,false) c = (false,(p :: l,true)) := by simp only [askV]; rw [if_neg hp]
   rw [if_neg hp,e]
   refine ⟨fun a l' h => (by cases h),fun _ => ?_⟩
   show ((k false).run askV (p :: l,true)).2.2 = true
   rw [askV_bad]
def askB (bits : List Int) (s : List (Int × Int)) (c : Int) : Bool × List (Int × Int) := (bits.getD s.length 0 != 0,s ++ [(c,bits.getD s.length 0)])
def fits (ss : List (Int × Int)) (qs : List (Int × Int)) : Prop := ∀ i (h : i < qs.length),∃ p,ss[i]? = some p ∧ p.1 = qs[i].1 ∧ (p.2 = 0 ∨ p.2 = 1)
instance (ss qs : List (Int × Int)) : Decidable (fits ss qs) := by
 unfold fits
 refine decidable_of_iff (∀ i : Fin qs.length,(match ss[i.1]? with | some p => decide (p.1 = qs[i.1].1 ∧ (p.2 = 0 ∨ p.2 = 1)) | none => false) = true) ⟨fun h i hi => ?_,fun h i => ?_⟩
 ·have := h ⟨i,hi⟩
  simp only at this
  cases hs : ss[i]? with
  | none => rw [hs] at this; simp at this
  | some p => rw [hs] at this; exact ⟨p,rfl,by simpa using this⟩
 ·obtain ⟨p,h1,h2⟩ := h i.1 i.2
  rw [h1]; simpa using h2
theorem askB_out {α : Type} (bits : List Int) : ∀ (t : Tr α) (s : List (Int × Int)),∃ l,(t.run (askB bits) s).2 = s ++ l
 | .ret a,s => ⟨[],by simp [Tr.run_ret]⟩
 | .ask c k,s => by
  rw [Tr.run_ask]
  obtain ⟨l,h⟩ := askB_out bits (k (askB bits s c).1) (askB bits s c).2
  rw [h]
  exact ⟨(c,bits.getD s.length 0) :: l,by simp [askB]⟩
theorem askB_play {α : Type} (ss : List (Int × Int)) : ∀ (t : Tr α) (s : List (Int × Int)),s.length ≤ ss.length → fits ss s →
  (∀ a l',t.play (ss.drop s.length) = some (a,l') → ∃ s',t.run (askB (ss.map (·.2))) s = (a,s') ∧ fits ss s' ∧ s'.length ≤ ss.length ∧ l' = ss.drop s'.length) ∧
  (t.play (ss.drop s.length) = none → ¬ fits ss (t.run (askB (ss.map (·.2))) s).2)
 | .ret a,s,hl,hf => ⟨fun a' l' h => by simp only [Tr.play] at h; injection h with h; injection h with h1 h2; subst h1 h2; exact ⟨s,rfl,hf,hl,rfl⟩,fun h => by simp [Tr.play] at h⟩
 | .ask c k,s,hl,hf => by
  have key : ∀ b,(askB (ss.map (·.2)) s c) = (b != 0,s ++ [(c,b)]) → ¬ fits ss (s ++ [(c,b)]) → ¬ fits ss ((Tr.ask c k).run (askB (ss.map (·.2))) s).2 := by
   intro b e hn hf2
   rw [Tr.run_ask,e] at hf2
   obtain ⟨l,h⟩ := askB_out (ss.map (·.2)) (k (b != 0)) (s ++ [(c,b)])
   rw [h] at hf2
   refine hn fun i hi => ?_
   have := hf2 i (by simp only [List.length_append] at hi ⊢; omega)
   rwa [List.getElem_append_left hi] at this
  by_cases hlt : s.length < ss.length
  ·rw [List.drop_eq_getElem_cons hlt,Tr.play]
   have e : askB (ss.map (·.2)) s c = (ss[s.length].2 != 0,s ++ [(c,ss[s.length].2)]) := by
    simp [askB,List.getD_eq_getElem?_getD,List.getElem?_map,List.getElem?_eq_getElem hlt]
   by_cases hp : ss[s.length].1 = c ∧ (ss[s.length].2 = 0 ∨ ss[s.length].2 = 1)
   ·rw [if_pos hp,Tr.run_ask,e]
    have hb : (ss[s.length].2 != 0) = (ss[s.length].2 == 1) := by rcases hp.2 with h | h <;> rw [h] <;> rfl
    rw [hb]
    have hf2 : fits ss (s ++ [(c,ss[s.length].2)]) := by
     intro i hi
     by_cases h : i < s.length
     ·rw [List.getElem_append_left h]; exact hf i h
     ·simp at hi
      obtain rfl : i = s.length := by omega
      rw [List.getElem_append_right (Nat.le_refl _)]
      simp only [Nat.sub_self,List.getElem_cons_zero]
      exact ⟨_,List.getElem?_eq_getElem hlt,hp.1,hp.2⟩
    have := askB_play ss (k (ss[s.length].2 == 1)) (s ++ [(c,ss[s.length].2)]) (by simp; omega) hf2
    rw [List.length_append,List.length_singleton] at this
    exact this
   ·rw [if_neg hp]
    refine ⟨fun a l' h => (by cases h),fun _ => key _ e ?_⟩
    intro hf2
    obtain ⟨p,h1,h2⟩ := hf2 s.length (by simp)
    rw [List.getElem?_eq_getElem hlt] at h1
    injection h1 with h1
    subst h1
    rw [List.getElem_append_right (Nat.le_refl _)] at h2
    simp only [Nat.sub_self,List.getElem_cons_zero] at h2
    exact hp h2
  ·rw [List.drop_of_length_le (by omega),Tr.play]
   refine ⟨fun a l' h => (by cases h),fun _ => key 0 ?_ ?_⟩
   ·simp [askB,List.getD_eq_getElem?_getD,List.getElem?_map,List.getElem?_eq_none (show ss.length ≤ s.length by omega)]
   ·intro hf2
    obtain ⟨p,h1,_⟩ := hf2 s.length (by simp)
    rw [List.getElem?_eq_none (by omega)] at h1; cases h1
def vLoop (m : MD) (planes o : Nat) : Nat → BS → List (List (Int × Int)) → BS × Int
 | _,b,[] => (b,0)
 | n,b,l :: ls =>
  match (dRun m b n planes o).play l with
  | none => (b,8)
  | some (r,l') => if r.2 = false then (r.1,16) else match l' with | [] => vLoop m planes o (n + 1) r.1 ls | _ :: _ => (r.1,8)
def leftOf (planes : Int) (n : Nat) (t : Bool) : Int := if n = 0 then planes else planes - 1 - (planeOf (n - 1) : Int) + if (kindOf (n - 1) != 2 && !t) = true then 1 else 0
theorem leftOf_pos {planes : Int} {n : Nat} (hn : n ≠ 0) (t : Bool) : leftOf planes n t = planes - 1 - (planeOf (n - 1) : Int) + if (kindOf (n - 1) != 2 && !t) = true then 1 else 0 := by unfold leftOf; rw [if_neg hn]
def valErr (n : Nat) (planes w h o : Int) : Int := if ¬ sized w h ∨ planes < 0 ∨ 60 < planes then 2 else if max 0 (3 * planes - 2) < (n : Int) then 4 else if o < 0 ∨ 3 < o then 3 else 0
def valRes (ss : List (List (Int × Int))) (planes w h o : Int) (m : MD) : Int × List Int × List Int :=
 if valErr ss.length planes w h o ≠ 0 then (valErr ss.length planes w h o,[],[])
 else
  let r := vLoop m planes.toNat o.toNat 0 (newBS w.toNat h.toNat) ss
  if r.2 ≠ 0 then (r.2,[],[]) else (0,r.1.cs.map (·.v),r.1.cs.map fun c => leftOf planes ss.length c.t)
def dOut {S : Type} (A : S → Int → Bool × S) (m : MD) (b : BS) (n planes o : Int) (s : S) : (BS × Bool) × S := if runErr n planes o = 0 then (dRun m b n.toNat planes.toNat o.toNat).run A s else ((b,true),s)
def dErr (n planes o : Int) (ok : Bool) : Int := if runErr n planes o ≠ 0 then runErr n planes o else cond ok 0 16
structure DRes {c : Nat} {call : Heap → Int → (RP) → Prop} (A : Src c call) (h h' : Heap) (p : Nat) (t t' : A.T) (b : BS) (s : A.S) : Prop where
 cb : CB h' false p c b
 good : b.Good
 rel : A.rel h' t' s
 st : Stq h h' c (A.own t) (A.own t')
theorem eq_func {f : Fn} {a b : Array Value} : eqV .func (.func f a b) .nilFunc = some false := by simp [eqV]
section
variable {c : Nat} {g : FuncId} {fa fb : Array Value} {A : Src c (callF (.func (.func g) fa fb))} {h : Heap} {p : Nat} {t : A.T} {b : BS} {s : A.S}
theorem DRes.nothing {h h' : Heap} (hb : CB h false p c b) (hr : b.Rng) (hrel : A.rel h t s) (hk : ∀ id,id < h.length → blk? h' id = blk? h id) (hl : h.length ≤ h'.length) : DRes A h h' p t t b s :=
 ⟨⟨by rw [hk _ (blk?_lt hb.blkp)]; exact hb.blkp,by rw [hk _ (blk?_lt hb.blkc)]; exact hb.blkc,hb.ok⟩,⟨hb.ok,hr⟩,A.stable hrel hl (fun id h1 _ => hk id h1),Stq.low hk hl _ _⟩
theorem run_d (hb : CB h false p c b) (hr : b.Rng) (hrel : A.rel h t s) (hp : ¬ A.own t p) (hnv : below h.length (.func (.func g) fa fb) = true) (hl : A.size s + 100000 < 1000000) (n planes o : Int) (m : MD) :
  ∃ t' h',(∀ R,Ret tab 60 [ptr p,.int .i64 n,.int .i64 planes,.int .i64 o,m.val,.func (.func g) fa fb] h R = R (.int .i64 (dErr n planes o (dOut A.ask m b n planes o s).1.2)) h') ∧
   DRes A h h' p t t' (dOut A.ask m b n planes o s).1.1 (dOut A.ask m b n planes o s).2 := by
 have key : Ret tab 60 [ptr p,.int .i64 n,.int .i64 planes,.int .i64 o,m.val,.func (.func g) fa fb] h fun v h' => v = .int .i64 (dErr n planes o (dOut A.ask m b n planes o s).1.2) ∧ ∃ t',DRes A h h' p t t' (dOut A.ask m b n planes o s).1.1 (dOut A.ask m b n planes o s).2 := by
  have hb1 : CB (h ++ [some ⟨false,[.bool m.byp,.bool m.res,.bool m.rst,.bool m.cz,.bool m.sy]⟩,some ⟨false,[.func (.func g) fa fb]⟩]) false p c b := ⟨by rw [app_lt (blk?_lt hb.blkp)]; exact hb.blkp,by rw [app_lt (blk?_lt hb.blkc)]; exact hb.blkc,hb.ok⟩
  have hsz := fun R => size_c (R := R) hb1
  have hw0 := hb.ok.w1
  have hw0' : ((b.w : Int) == 0) = false := by simp; omega
  have hnone : runErr n planes o ≠ 0 → ∀ h',(∀ id,id < h.length → blk? h' id = blk? h id) → h.length ≤ h'.length → ∃ t',DRes A h h' p t t' (dOut A.ask m b n planes o s).1.1 (dOut A.ask m b n planes o s).2 := by
   intro he h' hk hl
   unfold dOut
   rw [if_neg he]
   exact ⟨t,DRes.nothing hb hr hrel hk hl⟩
  have hkp : ∀ l : Heap,∀ id,id < h.length → blk? (h ++ l) id = blk? h id := fun l id hid => app_lt hid
  rw [enter60,show B60 = .seq (nthC 0 B60) (.seq (nthC 1 B60) (.seq (nthC 2 B60) (.seq (nthC 3 B60) (.seq (nthC 4 B60) (.seq (nthC 5 B60) (tlC 6 B60)))))) from rfl]
  generalize hT : tlC 6 B60 = tl
  simp only [nthC,tlC,fstC,B60]
  obtain ⟨byp,res,rst,cz,sy⟩ := m
  simp only [MD.val] at *
  have herr : ∀ e,runErr n planes o = e → e ≠ 0 → dErr n planes o (dOut A.ask ⟨byp,res,rst,cz,sy⟩ b n planes o s).1.2 = e := by
   intro e he h0
   unfold dErr; rw [he,if_pos h0]
  by_cases h1 : planes < 1
  ·have he := runErr_lo (n := n) (o := o) (.inl h1 : planes < 1 ∨ 60 < planes ∨ n < 0 ∨ 3 * planes - 3 < n)
   simp [k_guard,k_guardU,hsz,hw0',app_len,app_add,app_zero,app_succ,eq_func,h1,fin60]
   exact ⟨(herr 2 he (by decide)).symm,hnone (by rw [he]; decide) _ (hkp _) (by simp)⟩
  by_cases h2 : 60 < planes
  ·have he := runErr_lo (n := n) (o := o) (.inr (.inl h2) : planes < 1 ∨ 60 < planes ∨ n < 0 ∨ 3 * planes - 3 < n)
   simp [k_guard,k_guardU,hsz,hw0',app_len,app_add,app_zero,app_succ,eq_func,h1,h2,fin60]
   exact ⟨(herr 2 he (by decide)).symm,hnone (by rw [he]; decide) _ (hkp _) (by simp)⟩
  by_cases h3 : n < 0
  ·have he := runErr_lo (n := n) (o := o) (.inr (.inr (.inl h3)) : planes < 1 ∨ 60 < planes ∨ n < 0 ∨ 3 * planes - 3 < n)
   simp [k_guard,k_guardU,hsz,hw0',app_len,app_add,app_zero,app_succ,eq_func,h1,h2,h3,fin60]
   exact ⟨(herr 2 he (by decide)).symm,hnone (by rw [he]; decide) _ (hkp _) (by simp)⟩
  have hm1 : IntKind.i64.wrap (3 * planes) = 3 * planes := wrapI (by omega) (by omega)
  have hm2 : IntKind.i64.wrap (3 * planes - 3) = 3 * planes - 3 := wrapI (by omega) (by omega)
  by_cases h4 : 3 * planes - 3 < n
  ·have he := runErr_lo (n := n) (o := o) (.inr (.inr (.inr h4)) : planes < 1 ∨ 60 < planes ∨ n < 0 ∨ 3 * planes - 3 < n)
   simp [k_guard,k_guardU,hsz,hw0',app_len,app_add,app_zero,app_succ,eq_func,h1,h2,h3,hm1,hm2,h4,fin60]
   exact ⟨(herr 2 he (by decide)).symm,hnone (by rw [he]; decide) _ (hkp _) (by simp)⟩
  by_cases h5 : o < 0
  ·have he : runErr n planes o = 3 := by unfold runErr; rw [if_neg (by omega),if_pos (.inl h5)]
   simp [k_guard,k_guardU,hsz,hw0',app_len,app_add,app_zero,app_succ,eq_func,h1,h2,h3,hm1,hm2,h4,h5,fin60]
   exact ⟨(herr 3 he (by decide)).symm,hnone (by rw [he]; decide) _ (hkp _) (by simp)⟩
  by_cases h6 : 3 < o
  ·have he : runErr n planes o = 3 := by unfold runErr; rw [if_neg (by omega),if_pos (.inr h6)]
   simp [k_guard,k_guardU,hsz,hw0',app_len,app_add,app_zero,app_succ,eq_func,h1,h2,h3,hm1,hm2,h4,h5,h6,fin60]
   exact ⟨(herr 3 he (by decide)).symm,hnone (by rw [he]; decide) _ (hkp _) (by simp)⟩
  simp [k_guard,k_guardU,hsz,hw0',app_len,app_add,app_zero,app_succ,eq_func,h1,h2,h3,hm1,hm2,h4,h5,h6,fin60]
  have he : runErr n planes o = 0 := by unfold runErr; rw [if_neg (by omega),if_neg (by omega)]
  unfold dErr dOut
  rw [he]
  simp only [ne_eq,not_true_eq_false,if_false,if_true]
  obtain ⟨n,rfl⟩ := Int.eq_ofNat_of_zero_le (show 0 ≤ n by omega)
  obtain ⟨planes,rfl⟩ := Int.eq_ofNat_of_zero_le (show 0 ≤ planes by omega)
  obtain ⟨o,rfl⟩ := Int.eq_ofNat_of_zero_le (show 0 ≤ o by omega)
  simp only [Int.toNat_natCast]
  generalize hres : (dRun ⟨byp,res,rst,cz,sy⟩ b n planes o).run A.ask s = dr
  have hp' := fun h R => pass_c (h := h) (R := R) (n := n) (by omega)
  have hrw := fun h R => raw_c (h := h) (R := R) (n := n) (by omega) ⟨byp,res,rst,cz,sy⟩
  have hpl := planeOf_le (n := n) (planes := planes) (by omega) (by omega)
  have e1 : IntKind.i64.wrap ((planes : Int) - 1) = ((planes - 1 : Nat) : Int) := by rw [wrapI (by omega) (by omega)]; omega
  have e2 : IntKind.i64.wrap (((planes - 1 : Nat) : Int) - (planeOf n : Int)) = ((planes - 1 - planeOf n : Nat) : Int) := by rw [wrapI (by omega) (by omega)]; omega
  rw [← hT,show tlC 6 B60 = .seq (nthC 6 B60) (.seq (nthC 7 B60) (.seq (nthC 8 B60) (tlC 9 B60))) from rfl]
  generalize hT2 : tlC 9 B60 = tl2
  simp only [nthC,tlC,fstC,B60]
  simp only [MD.val] at hrw
  have hlp := blk?_lt hb.blkp
  have hlc := blk?_lt hb.blkc
  have hblk := hb.blkp
  simp [hp',hrw,e1,e2,app_len,app_add,app_zero,app_succ,app_set,app_setk,book,logOf,addLog,chk1,lookL,reload]
  generalize hP : runPP ⟨byp,res,rst,cz,sy⟩ n planes o = P
  have hPs : P.s = planes - 1 - planeOf n := by rw [← hP]; rfl
  have hPo : P.o = o := by rw [← hP]; rfl
  have hPc : P.cz = cz := by rw [← hP]; rfl
  have hPr : P.rw = rawOf ⟨byp,res,rst,cz,sy⟩ n := by rw [← hP]; rfl
  have hrs : dRun ⟨byp,res,rst,cz,sy⟩ b n planes o = if kindOf n = 0 then (dsigs P b (scan b.w b.h)).bind fun b => .ret (b,true) else if kindOf n = 1 then (drefs P b (scan b.w b.h)).bind fun b => .ret (b,true) else dclean P b sy := by
   unfold dRun; rw [hP]
  rw [hrs] at hres
  rw [← hPr,← hPs,← hPo,← hPc]
  generalize hH : h ++ [some (⟨false,[.bool byp,.bool res,.bool rst,.bool P.cz,.bool sy]⟩ : Blk),some ⟨false,[.func (.func g) fa fb]⟩,
   some ⟨false,[ptr p,.int .i64 b.w,.int .i64 b.h,.int .i64 P.s,.int .i64 P.o,.bool P.cz,.bool P.rw,.func (.func 109) #[] #[ptr (h.length + 3),ptr (h.length + 1)]]⟩,some ⟨false,[ptr (h.length + 2)]⟩] = H
  have hlow : ∀ id,id < h.length → blk? H id = blk? h id := fun id hid => by rw [← hH]; exact app_lt hid
  have hHl : H.length = h.length + 4 := by rw [← hH]; simp
  have hm0 : blk? H h.length = some ⟨false,[.bool byp,.bool res,.bool rst,.bool P.cz,.bool sy]⟩ := by rw [← hH,app_len]; rfl
  have hlt := fun id (ho : A.own t id) => A.lt hrel id ho
  have he : PD A H (h.length + 2) p (h.length + 3) (h.length + 1) P t b s := by
   refine ⟨⟨by rw [← hH,app_add]; rfl,⟨by rw [hlow _ hlp]; exact hb.blkp,by rw [hlow _ hlc]; exact hb.blkc,hb.ok⟩,by simp; omega,⟨by rw [hPs]; omega,by rw [hPo]; omega⟩,hr⟩,by rw [← hH,app_add]; rfl,by rw [← hH,app_add]; rfl,A.stable hrel (by omega) (fun id h1 _ => hlow id h1),?_,?_⟩
   ·have := hb.ne; omega
   ·exact ⟨fun e => by have := hlt _ e; omega,hp,fun e => by have := hlt _ e; omega,fun e => by have := hlt _ e; omega⟩
  have hpb := he.pbk
  have fin : ∀ (b' : BS) (s' : A.S) (t' : A.T) (H' : Heap),PD A H' (h.length + 2) p (h.length + 3) (h.length + 1) P t' b' s' → Stq H H' c (A.own t) (A.own t') → ∃ t',DRes A h H' p t t' b' s' := by
   intro b' s' t' H' pe st
   exact ⟨t',pe.dr.cb,pe.good,pe.rel,(Stq.low hlow (by omega) _ _).trans st⟩
  rw [← hT2]
  simp only [tlC,B60]
  have hk : kindOf n = 0 ∨ kindOf n = 1 ∨ kindOf n = 2 := by unfold kindOf; split <;> omega
  rcases hk with hk | hk | hk
  ·obtain ⟨t',H',e,pe,st⟩ := significance_d he hl
   rw [if_pos hk] at hres
   simp only [Tr.run_bind,Tr.run_ret] at hres
   subst hres
   simp [hk,hpb,e,fin60]
   exact fin _ _ _ _ pe st
  ·obtain ⟨t',H',e,pe,st⟩ := refinement_d he hl
   rw [if_neg (by omega),if_pos hk] at hres
   simp only [Tr.run_bind,Tr.run_ret] at hres
   subst hres
   simp [hk,hpb,e,fin60]
   exact fin _ _ _ _ pe st
  ·obtain ⟨t',H',e,pe,st⟩ := cleanup_d he hl sy
   rw [if_neg (by omega),if_neg (by omega)] at hres
   subst hres
   cases hok : ((dclean P b sy).run A.ask s).1.2
   ·rw [hok] at e
    simp [hk,hpb,hm0,e,fin60]
    exact fin _ _ _ _ pe st
   ·rw [hok] at e
    simp [hk,hpb,hm0,e,fin60]
    exact fin _ _ _ _ pe st
 obtain ⟨v,h',e,rfl,t',rs⟩ := ret_ex key
 exact ⟨t',h',e,rs⟩
end
def inB : RCode → RCode
 | .block _ c => c
 | c => c
section
variable {R : RP} {k : List RItem} {e M X0 X : Nat} {sv gv pl : Value} {m : MD} {gs : List Nat}
end
theorem strt_le (p s d : Nat) (hs : s ≤ 2) : strt p s d ≤ 8 := by unfold strt; (repeat' split) <;> omega
theorem diag_le (n d : Nat) : diag n d ≤ 8 := by unfold diag; (repeat' split) <;> omega
theorem sigCtx_le {o h v d : Nat} (hh : h ≤ 2) (hv : v ≤ 2) : sigCtx o h v d ≤ 8 := by
 unfold sigCtx
 split
 ·exact diag_le _ _
 ·split
  ·exact strt_le _ _ _ hh
  ·exact strt_le _ _ _ hv
theorem ctxOf_le (P : PP) (b : BS) (x y : Int) : ctxOf P b x y ≤ 8 := by
 obtain ⟨h1,h2,_⟩ := nb_le b x y P.cz
 exact sigCtx_le h1 h2
theorem joint_rng (s t : Int) : joint s t = -1 ∨ joint s t = 0 ∨ joint s t = 1 := by unfold joint; omega
theorem signCtx_rng {h v : Int} (hh : h = -1 ∨ h = 0 ∨ h = 1) (hv : v = -1 ∨ v = 0 ∨ v = 1) : 9 ≤ signCtx h v ∧ signCtx h v ≤ 13 := by
 rcases hh with rfl | rfl | rfl <;> rcases hv with rfl | rfl | rfl <;> decide
theorem refCtx_rng (a b : Bool) : 14 ≤ refCtx a b ∧ refCtx a b ≤ 16 := by cases a <;> cases b <;> decide
theorem sgGo_ones {m : MD} (hr : m.res = true) : ∀ (f left : Nat),∀ c ∈ sgGo m f 1 left,c ≤ 1
 | 0,_,c,hc => by simp [sgGo] at hc
 | f + 1,left,c,hc => by
  unfold sgGo at hc
  split at hc
  ·simp at hc
  ·rcases List.mem_cons.1 hc with rfl | hc
   ·omega
   ·have : sgNext m 1 = 1 := by unfold sgNext; rw [if_neg (by simp [hr])]
    rw [this] at hc
    exact sgGo_ones hr f _ c hc
section
variable {h : Heap} {R : RP} {k : List RItem}
end
def Gives (f : Nat) (args : List Value) (h : Heap) (v : Value) : Prop :=
 ∃ h',(∀ R : RP,Ret tab f args h R = R v h') ∧ (∀ id,id < h.length → blk? h' id = blk? h id) ∧ h.length ≤ h'.length
theorem Gives.mk {f : Nat} {args : List Value} {h : Heap} {v : Value} (k : ∀ R0 : RP,(∀ h',(∀ id,id < h.length → blk? h' id = blk? h id) → h.length ≤ h'.length → R0 v h') → Ret tab f args h R0) : Gives f args h v := by
 obtain ⟨w,h',e,rfl,a,b⟩ := ret_ex (k (fun w h' => w = v ∧ (∀ id,id < h.length → blk? h' id = blk? h id) ∧ h.length ≤ h'.length) fun h' a b => ⟨rfl,a,b⟩)
 exact ⟨h',e,a,b⟩
def vgo : List Int → Int → Option Int
 | [],l => some l
 | x :: xs,l => if x < l then none else vgo xs x
def validP (pl : Int) (ps ds : List Int) : Int :=
 if pl < 0 ∨ 60 < pl then 2
 else if max 0 (3 * pl - 2) < (ps.length : Int) then 4
 else match vgo ps 0 with
  | none => 4
  | some l => if l ≠ (ds.length : Int) then 4 else if 65535 < ds.length then 5 else 0
theorem mx2 {k k' : IntKind} {x y : Int} : max2V (.int k x) (.int k' y) = some (.int k (max x y)) := by
 have e : (if x < y then y else x) = max x y := by split <;> omega
 rw [max2V,e]
section
variable {h : Heap} {R : RP} {k : List RItem} {pv dv pv' dv' : Value} {pl pl' : Int} {ps ps' ds ds' : List Int} {m : MD}
theorem vloop_p {B : Nat} (hp : Rk .i64 h pv ps) (hl : ps.length < 1000000) {X : Nat} (hk : ∀ (l : Int) (K0 K1 K3 K6 K7 K8 K9 Ka Kb Kc Kd Ke Kf Kg Kh Ki Kj Kk Kl Km Kn Ko Kp Kq Kr Ks Kt Ku Kv Kw Kx Ky Kz J0 J1 J2 J3 J4 J5 J6 J7 J8 J9 : Value),vgo ps 0 = some l → Ok tab R34 k #[K0,K1,ptr X,K3,.int .i64 0,.int .i64 l,K6,K7,K8,K9,Ka,Kb,Kc,Kd,Ke,Kf,Kg,Kh,Ki,Kj,Kk,Kl,Km,Kn,Ko,Kp,Kq,Kr,Ks,Kt,Ku,Kv,Kw,Kx,Ky,Kz,J0,J1,J2,J3,J4,J5,J6,J7,J8,J9] h R) (hb : vgo ps 0 = none → R (.int .i64 4) h) :
  ∀ (d i : Nat) (l : Int) (K0 K1 K3 K6 K7 K8 K9 Ka Kb Kc Kd Ke Kf Kg Kh Ki Kj Kk Kl Km Kn Ko Kp Kt Ku Kv Kw Kx Ky Kz J0 J1 J2 J3 J4 J5 J6 J7 J8 J9 : Value),i + d = ps.length → vgo (ps.drop i) l = vgo ps 0 → Ok tab R34 (.inLoop L34_0 :: .inBlock 0 :: k) #[K0,K1,ptr X,K3,.int .i64 0,.int .i64 l,K6,K7,K8,K9,Ka,Kb,Kc,Kd,Ke,Kf,Kg,Kh,Ki,Kj,Kk,Kl,Km,Kn,Ko,Kp,pv,.int .i64 (ps.length : Nat),.int .i64 (i : Nat),Kt,Ku,Kv,Kw,Kx,Ky,Kz,J0,J1,J2,J3,J4,J5,J6,J7,J8,J9] h R := by
 intro d
 induction d with
 | zero =>
  intro i l;intros;rename_i hd hv
  obtain rfl : i = ps.length := by omega
  rw [List.drop_length] at hv
  rw [ok_round,l34_0,L34_0a,L34_0b]
  simp
  exact hk l _ _ _ _ _ _ _ _ _ _ _ _ _ _ _ _ _ _ _ _ _ _ _ _ _ _ _ _ _ _ _ _ _ _ _ _ _ _ _ _ _ _ _ hv.symm
 | succ d ih =>
  intro i l;intros;rename_i hd hv
  have hi : i < ps.length := by omega
  have hlt : (i : Int) < (ps.length : Int) := by omega
  obtain ⟨id,off,b,hpv,hbk,hc⟩ := hp.get hi
  rw [List.drop_eq_getElem_cons hi] at hv
  simp only [vgo] at hv
  have hw : IntKind.i64.wrap ((i : Int) + 1) = ((i + 1 : Nat) : Int) := wrapN (n := i + 1) (by omega)
  have ih' := fun K0 K1 K3 K6 K7 K8 K9 Ka Kb Kc Kd Ke Kf Kg Kh Ki Kj Kk Kl Km Kn Ko Kp Kt Ku Kv Kw Kx Ky Kz J0 J1 J2 J3 J4 J5 J6 J7 J8 J9 => ih (i + 1) ps[i] K0 K1 K3 K6 K7 K8 K9 Ka Kb Kc Kd Ke Kf Kg Kh Ki Kj Kk Kl Km Kn Ko Kp Kt Ku Kv Kw Kx Ky Kz J0 J1 J2 J3 J4 J5 J6 J7 J8 J9 (by omega)
  generalize ((i + 1 : Nat) : Int) = i1 at *
  rw [ok_round,l34_0,L34_0a,L34_0b]
  by_cases hx : ps[i] < l
  ·rw [if_pos hx] at hv
   rw [hpv]
   simp [k_guard,hlt,hbk,hc,hx,fin34]
   exact hb hv.symm
  ·rw [if_neg hx] at hv
   rw [hpv] at ih' ⊢
   simp [k_guard,hlt,hbk,hc,hx,hw]
   exact ih' _ _ _ _ _ _ _ _ _ _ _ _ _ _ _ _ _ _ _ _ _ _ _ _ _ _ _ _ _ _ _ _ _ _ _ _ _ _ _ _ hv
theorem valid_c (hp : Rk .i64 h pv ps) (hd : Rk .u8 h dv ds) (hl : ps.length < 1000000) (hdl : ds.length < 1000000000) : Gives 34 [.agg #[.int .i64 pl,pv,dv],m.val] h (.int .i64 (validP pl ps ds)) := by
 refine Gives.mk fun R0 hR => ?_
 generalize hH : h ++ [some (⟨false,[.int .i64 pl,pv,dv]⟩ : Blk),some ⟨false,[.bool m.byp,.bool m.res,.bool m.rst,.bool m.cz,.bool m.sy]⟩] = H
 have hb0 : blk? H h.length = some ⟨false,[.int .i64 pl,pv,dv]⟩ := by rw [← hH,app_len]; rfl
 have hpH : Rk .i64 H pv ps := by rw [← hH]; exact hp.push _
 have hR' := hR H (fun id hid => by rw [← hH]; exact app_lt hid) (by rw [← hH]; simp)
 clear hR
 rw [enter34,show B34 = .seq (nthC 0 B34) (.seq (nthC 1 B34) (.seq (nthC 2 B34) (.seq (nthC 3 B34) (.seq (nthC 4 B34) (tlC 5 B34))))) from rfl]
 generalize hT : tlC 5 B34 = tl
 simp only [nthC,tlC,fstC,B34]
 obtain ⟨pa,pc,hpv⟩ := hp.sl.shape
 obtain ⟨da,dc,hdv⟩ := hd.sl.shape
 unfold validP at hR'
 by_cases h1 : pl < 0
 ·rw [if_pos (.inl h1)] at hR'
  simp [k_guard,k_guardU,MD.val,hH,hb0,h1,fin34]
  exact hR'
 by_cases h2 : 60 < pl
 ·rw [if_pos (.inr h2)] at hR'
  simp [k_guard,k_guardU,MD.val,hH,hb0,h1,h2,fin34]
  exact hR'
 rw [if_neg (by omega)] at hR'
 have w1 : IntKind.i64.wrap (3 * pl) = 3 * pl := by rw [wrapI (by omega) (by omega)]
 have w2 : IntKind.i64.wrap (3 * pl - 2) = 3 * pl - 2 := by rw [wrapI (by omega) (by omega)]
 by_cases h3 : max 0 (3 * pl - 2) < (ps.length : Int)
 ·rw [if_pos h3] at hR'
  rw [hpv] at hH hb0
  simp [k_guard,k_guardU,MD.val,hH,hb0,h1,h2,h3,w1,w2,fold1,foldO,mx2,hpv,fin34]
  exact hR'
 rw [if_neg h3] at hR'
 have hL := fun K0 K1 K3 K6 K7 K8 K9 Ka Kb Kc Kd Ke Kf Kg Kh Ki Kj Kk Kl Km Kn Ko Kp Kt Ku Kv Kw Kx Ky Kz J0 J1 J2 J3 J4 J5 J6 J7 J8 J9 => vloop_p (R := R0) (B := 0) (k := [.code tl]) hpH hl (X := h.length)
  (fun l K0 K1 K3 K6 K7 K8 K9 Ka Kb Kc Kd Ke Kf Kg Kh Ki Kj Kk Kl Km Kn Ko Kp Kq Kr Ks Kt Ku Kv Kw Kx Ky Kz J0 J1 J2 J3 J4 J5 J6 J7 J8 J9 hv => by
   rw [hv] at hR'
   simp only at hR'
   rw [← hT]
   simp only [nthC,tlC,fstC,B34]
   by_cases h4 : l = (ds.length : Int)
   ·rw [if_neg (by simp [h4])] at hR'
    by_cases h5 : 65535 < ds.length
    ·rw [if_pos h5] at hR'
     have h5' : (65535 : Int) < (ds.length : Int) := by omega
     rw [hdv] at hb0
     simp [hb0,h4,h5',fin34]
     exact hR'
    ·rw [if_neg h5] at hR'
     have h5' : ¬ (65535 : Int) < (ds.length : Int) := by omega
     rw [hdv] at hb0
     simp [hb0,h4,h5',fin34]
     exact hR'
   ·rw [if_pos h4] at hR'
    have h4' : (l != (ds.length : Int)) = true := by simpa using h4
    rw [hdv] at hb0
    simp [hb0,h4',fin34]
    exact hR')
  (fun hv => by rw [hv] at hR'; exact hR') ps.length 0 0 K0 K1 K3 K6 K7 K8 K9 Ka Kb Kc Kd Ke Kf Kg Kh Ki Kj Kk Kl Km Kn Ko Kp Kt Ku Kv Kw Kx Ky Kz J0 J1 J2 J3 J4 J5 J6 J7 J8 J9 (by omega) (by rw [List.drop_zero])
 rw [hpv] at hH hb0 hL
 simp [k_guard,k_guardU,MD.val,hH,hb0,h1,h2,h3,w1,w2,fold1,foldO,mx2,hpv]
 exact hL ..
theorem vloop_r (hp : Rk .i64 h pv ps) (hl : ps.length < 1000000) {X : Nat} (hX : blk? h X = some ⟨false,[.int .i64 pl,pv,dv]⟩) (hk : ∀ (l : Int) (K0 K1 K3 K6 K7 K8 K9 Ka Kb Kc Kd Ke Kf Kg Kh Ki Kj Kk Kl Km Kn Ko Kp Kq Kr Ks Kt Ku Kv Kw Kx Ky Kz J0 J1 J2 J3 J4 J5 J6 J7 J8 J9 Ja Jb Jc Jd Je Jf : Value),vgo ps 0 = some l → Ok tab R66 k #[K0,K1,ptr X,K3,.int .i64 0,.int .i64 l,K6,K7,K8,K9,Ka,Kb,Kc,Kd,Ke,Kf,Kg,Kh,Ki,Kj,Kk,Kl,Km,Kn,Ko,Kp,Kq,Kr,Ks,Kt,Ku,Kv,Kw,Kx,Ky,Kz,J0,J1,J2,J3,J4,J5,J6,J7,J8,J9,Ja,Jb,Jc,Jd,Je,Jf] h R) (hb : vgo ps 0 = none → R (.int .i64 4) h) :
  ∀ (d i : Nat) (l : Int) (K0 K1 K3 K7 K8 K9 Ka Kb Kc Kd Ke Kf Kg Kh Ki Kj Kk Kl Km Kn Ko Kp Kq Kr Ks Kt Ku Kv Kw Kx Ky Kz J0 J1 J2 J3 J4 J5 J6 J7 J8 J9 Ja Jb Jc Jd Je Jf : Value),i + d = ps.length → vgo (ps.drop i) l = vgo ps 0 → Ok tab R66 (.inLoop L66_0 :: .inBlock 0 :: k) #[K0,K1,ptr X,K3,.int .i64 0,.int .i64 l,.int .i64 (i : Nat),K7,K8,K9,Ka,Kb,Kc,Kd,Ke,Kf,Kg,Kh,Ki,Kj,Kk,Kl,Km,Kn,Ko,Kp,Kq,Kr,Ks,Kt,Ku,Kv,Kw,Kx,Ky,Kz,J0,J1,J2,J3,J4,J5,J6,J7,J8,J9,Ja,Jb,Jc,Jd,Je,Jf] h R := by
 intro d
 obtain ⟨pa,pc,hps⟩ := hp.sl.shape
 induction d with
 | zero =>
  intro i l;intros;rename_i hd hv
  obtain rfl : i = ps.length := by omega
  rw [List.drop_length] at hv
  rw [hps] at hX
  rw [ok_round,l66_0,L66_0a,L66_0b]
  simp [hX]
  exact hk l _ _ _ _ _ _ _ _ _ _ _ _ _ _ _ _ _ _ _ _ _ _ _ _ _ _ _ _ _ _ _ _ _ _ _ _ _ _ _ _ _ _ _ _ _ _ _ _ _ hv.symm
 | succ d ih =>
  intro i l;intros;rename_i hd hv
  have hi : i < ps.length := by omega
  have hlt : (i : Int) < (ps.length : Int) := by omega
  obtain ⟨id,off,b,hpv,hbk,hc⟩ := hp.get hi
  rw [List.drop_eq_getElem_cons hi] at hv
  simp only [vgo] at hv
  have hw : IntKind.i64.wrap ((i : Int) + 1) = ((i + 1 : Nat) : Int) := wrapN (n := i + 1) (by omega)
  have ih' := fun K0 K1 K3 K7 K8 K9 Ka Kb Kc Kd Ke Kf Kg Kh Ki Kj Kk Kl Km Kn Ko Kp Kq Kr Ks Kt Ku Kv Kw Kx Ky Kz J0 J1 J2 J3 J4 J5 J6 J7 J8 J9 Ja Jb Jc Jd Je Jf => ih (i + 1) ps[i] K0 K1 K3 K7 K8 K9 Ka Kb Kc Kd Ke Kf Kg Kh Ki Kj Kk Kl Km Kn Ko Kp Kq Kr Ks Kt Ku Kv Kw Kx Ky Kz J0 J1 J2 J3 J4 J5 J6 J7 J8 J9 Ja Jb Jc Jd Je Jf (by omega)
  generalize ((i + 1 : Nat) : Int) = i1 at *
  rw [hpv] at hX
  rw [ok_round,l66_0,L66_0a,L66_0b]
  by_cases hx : ps[i] < l
  ·rw [if_pos hx] at hv
   simp [k_guard,hX,hlt,hbk,hc,hx,fin66]
   exact hb hv.symm
  ·rw [if_neg hx] at hv
   simp [k_guard,hX,hlt,hbk,hc,hx,hw]
   exact ih' _ _ _ _ _ _ _ _ _ _ _ _ _ _ _ _ _ _ _ _ _ _ _ _ _ _ _ _ _ _ _ _ _ _ _ _ _ _ _ _ _ _ _ _ _ _ _ _ hv
theorem valid_r (hp : Rk .i64 h pv ps) (hd : Rk .u8 h dv ds) (hl : ps.length < 1000000) (hdl : ds.length < 1000000000) : Gives 66 [.agg #[.int .i64 pl,pv,dv],m.val] h (.int .i64 (validP pl ps ds)) := by
 refine Gives.mk fun R0 hR => ?_
 generalize hH : h ++ [some (⟨false,[.int .i64 pl,pv,dv]⟩ : Blk),some ⟨false,[.bool m.byp,.bool m.res,.bool m.rst,.bool m.cz,.bool m.sy]⟩] = H
 have hb0 : blk? H h.length = some ⟨false,[.int .i64 pl,pv,dv]⟩ := by rw [← hH,app_len]; rfl
 have hpH : Rk .i64 H pv ps := by rw [← hH]; exact hp.push _
 have hR' := hR H (fun id hid => by rw [← hH]; exact app_lt hid) (by rw [← hH]; simp)
 clear hR
 rw [enter66,show B66 = .seq (nthC 0 B66) (.seq (nthC 1 B66) (.seq (nthC 2 B66) (.seq (nthC 3 B66) (.seq (nthC 4 B66) (tlC 5 B66))))) from rfl]
 generalize hT : tlC 5 B66 = tl
 simp only [nthC,tlC,fstC,B66]
 obtain ⟨pa,pc,hpv⟩ := hp.sl.shape
 obtain ⟨da,dc,hdv⟩ := hd.sl.shape
 unfold validP at hR'
 by_cases h1 : pl < 0
 ·rw [if_pos (.inl h1)] at hR'
  simp [k_guard,k_guardU,MD.val,hH,hb0,h1,fin66]
  exact hR'
 by_cases h2 : 60 < pl
 ·rw [if_pos (.inr h2)] at hR'
  simp [k_guard,k_guardU,MD.val,hH,hb0,h1,h2,fin66]
  exact hR'
 rw [if_neg (by omega)] at hR'
 have w1 : IntKind.i64.wrap (3 * pl) = 3 * pl := by rw [wrapI (by omega) (by omega)]
 have w2 : IntKind.i64.wrap (3 * pl - 2) = 3 * pl - 2 := by rw [wrapI (by omega) (by omega)]
 by_cases h3 : max 0 (3 * pl - 2) < (ps.length : Int)
 ·rw [if_pos h3] at hR'
  rw [hpv] at hH hb0
  simp [k_guard,k_guardU,MD.val,hH,hb0,h1,h2,h3,w1,w2,fold1,foldO,mx2,hpv,fin66]
  exact hR'
 rw [if_neg h3] at hR'
 have hL := fun K0 K1 K3 K7 K8 K9 Ka Kb Kc Kd Ke Kf Kg Kh Ki Kj Kk Kl Km Kn Ko Kp Kq Kr Ks Kt Ku Kv Kw Kx Ky Kz J0 J1 J2 J3 J4 J5 J6 J7 J8 J9 Ja Jb Jc Jd Je Jf => vloop_r (R := R0) (k := [.code tl]) hpH hl (X := h.length) hb0
  (fun l K0 K1 K3 K6 K7 K8 K9 Ka Kb Kc Kd Ke Kf Kg Kh Ki Kj Kk Kl Km Kn Ko Kp Kq Kr Ks Kt Ku Kv Kw Kx Ky Kz J0 J1 J2 J3 J4 J5 J6 J7 J8 J9 Ja Jb Jc Jd Je Jf hv => by
   rw [hv] at hR'
   simp only at hR'
   rw [← hT]
   simp only [nthC,tlC,fstC,B66]
   by_cases h4 : l = (ds.length : Int)
   ·rw [if_neg (by simp [h4])] at hR'
    by_cases h5 : 65535 < ds.length
    ·rw [if_pos h5] at hR'
     have h5' : (65535 : Int) < (ds.length : Int) := by omega
     rw [hdv] at hb0
     simp [hb0,h4,h5',fin66]
     exact hR'
    ·rw [if_neg h5] at hR'
     have h5' : ¬ (65535 : Int) < (ds.length : Int) := by omega
     rw [hdv] at hb0
     simp [hb0,h4,h5',fin66]
     exact hR'
   ·rw [if_pos h4] at hR'
    have h4' : (l != (ds.length : Int)) = true := by simpa using h4
    rw [hdv] at hb0
    simp [hb0,h4',fin66]
    exact hR')
  (fun hv => by rw [hv] at hR'; exact hR') ps.length 0 0 K0 K1 K3 K7 K8 K9 Ka Kb Kc Kd Ke Kf Kg Kh Ki Kj Kk Kl Km Kn Ko Kp Kq Kr Ks Kt Ku Kv Kw Kx Ky Kz J0 J1 J2 J3 J4 J5 J6 J7 J8 J9 Ja Jb Jc Jd Je Jf (by omega) (by rw [List.drop_zero])
 rw [hpv] at hH hb0
 simp [k_guard,k_guardU,MD.val,hH,hb0,h1,h2,h3,w1,w2,fold1,foldO,mx2,hpv]
 exact hL ..
end
def AD.back (a : AD) : AD := { a with p := AE.base a.p.length }
def passR (m : MD) (planes o : Int) (i : Nat) (a : AD) (raw : Option (List Nat × Nat)) (b : BS) : (BS × Bool) × RS :=
 dOut RS.ask m b i planes o ⟨if m.rst = true ∧ rawOf m i = false then a.back else a,raw,[]⟩
def sndR (planes o : Int) (i : Nat) (ok : Bool) (snd : Int) : Int := if dErr i planes o ok = 16 then min snd (max 0 (3 * (planeOf i : Int) - 2)) else snd
structure Rdg where
 a : AD
 raw : Option (List Nat × Nat)
 b : BS
 snd : Int
 ls : List (List (Int × Nat))
def passesR (m : MD) (planes o : Int) : Nat → Nat → Rdg → Rdg
 | 0,_,s => s
 | k + 1,i,s =>
  let r := passR m planes o i s.a s.raw s.b
  passesR m planes o k (i + 1) ⟨r.2.a,r.2.raw,r.1.1,sndR planes o i r.1.2 s.snd,s.ls ++ [r.2.l]⟩
def KpR (Q : Nat → Prop) (X6 X11 p k1 : Nat) (vs : List Value) (id : Nat) : Prop := Q id ∨ id = X6 ∨ id = X11 ∨ id = p ∨ id = k1 ∨ ∃ w ∈ vs,sid w = some id
structure RI (Q : Nat → Prop) (hB h : Heap) (X6 X11 p c d pb k1 : Nat) (pl : Int) (pv dv0 : Value) (m : MD) (v : Value) (own : Nat → Prop) (lv : Value) (vs : List Value) (s : Rdg) (N : Nat) : Prop where
 b6 : blk? h X6 = some ⟨false,[.int .i64 pl,pv,dv0]⟩
 b11 : blk? h X11 = some ⟨false,[.bool m.byp,.bool m.res,.bool m.rst,.bool m.cz,.bool m.sy]⟩
 cb : CB h false p c s.b
 good : s.b.Good
 sq : Sq h d pb v own s.a s.raw
 b1 : blk? h k1 = some ⟨false,[v]⟩
 ol : OwnS h 1 lv vs.length vs
 vl : vs.length = s.ls.length
 each : ∀ i (h1 : i < vs.length) (h2 : i < s.ls.length),OwnS h 2 vs[i] s.ls[i].length (encS s.ls[i])
 kp : ∀ id,KpR Q X6 X11 p k1 vs id → ¬ own id ∧ id ≠ c ∧ sid lv ≠ some id ∧ id < h.length
 no : ∀ id,own id → id ≠ c ∧ sid lv ≠ some id
 nl : sid lv ≠ some c
 cnt : ∀ xs q,s.raw = some (xs,q) → q ≤ N
 low : ∀ id,Q id → blk? h id = blk? hB id
 len : hB.length ≤ h.length
 small : ∀ l ∈ s.ls,l.length ≤ 20000
 k1s : ¬ Q k1 ∧ k1 ≠ X6 ∧ k1 ≠ X11 ∧ k1 ≠ p ∧ ∀ w ∈ vs,sid w ≠ some k1
 cB : ¬ Q c ∧ c ≠ X6 ∧ c ≠ X11
theorem own_lv {h h' : Heap} {e n : Nat} {v : Value} {cs : List Value} (o : OwnS h e v n cs) (hk : ∀ id,sid v = some id → blk? h' id = blk? h id) : OwnS h' e v n cs :=
 o.of_blk fun id hid hb => by rw [hk id hid]; exact hb
section
variable {R : RP} {h : Heap}
theorem sq_back {d pb : Nat} {v : Value} {own : Nat → Prop} {a : AD} {raw : Option (List Nat × Nat)} (K : Sq h d pb v own a raw) :
  ∃ h',(∀ R : RP,Ret tab 59 [ptr d] h R = R (.tuple #[]) h') ∧ Sq h' d pb v own a.back raw ∧ (∀ id,¬ own id → blk? h' id = blk? h id) ∧ h'.length = h.length := by
 cases K with
 | @cod dv D n _ I h19 hD hl =>
  obtain ⟨h',e,I2,k2,l2⟩ := dreset_c I.dp I.pos (by omega)
  refine ⟨h',e,.cod (a := a.back) ⟨?_,I.rest,⟨base_ok _,I.ok.dig,I.ok.v,I.ok.s1,I.ok.s2⟩,by simpa [AD.back,AE.base] using I.pos⟩ (by simpa [AD.back,AE.base] using h19) hD hl,fun id hno => k2 id (fun x => hno (.inr (.inl x))),l2⟩
  exact I2
 | @raw dv sv D xs n v sz q mm st _ I h19 hp J hd =>
  obtain ⟨h',e,I2,k2,l2⟩ := dreset_c I (by omega) (by omega)
  exact ⟨h',e,.raw (a := a.back) I2 (by simpa [AD.back,AE.base] using h19) (base_ok _) (J.keep fun id hid => k2 id (fun x => hd pb (.inr (.inl rfl)) (by rw [← x]; exact hid))) hd,fun id hno => k2 id (fun x => hno (.inl (.inr (.inl x)))),l2⟩
theorem dOut_len {m : MD} {b : BS} (hg : b.Good) (planes o : Int) (i : Nat) (st : RS) : (dOut RS.ask m b i planes o st).2.l.length ≤ st.l.length + 20000 := by
 unfold dOut
 split
 ·rename_i he
  have hr : planes ≤ 60 ∧ 1 ≤ planes ∧ o ≤ 3 := by unfold runErr at he; split at he; cases he; split at he; cases he; omega
  exact (Tr.Lv.out (A := RS.ask) (size := fun s => s.l.length) (fun s c => by simp [RS.ask]) st (lv_dRun hg (runPP_ok (by omega) (by omega) (by omega)))).2
 ·exact Nat.le_add_right _ _
theorem sndR_eq (planes o : Int) (i : Nat) (ok : Bool) (snd : Int) : sndR planes o i ok snd = if (dErr i planes o ok == 16) = true then min snd (max 0 (3 * (planeOf i : Int) - 2)) else snd := by
 unfold sndR; simp only [beq_iff_eq]
theorem pass_loop_d {Q : Nat → Prop} {hB : Heap} {X6 X11 p c d pb k1 : Nat} {pl o : Int} {pv dv0 v20 v49 v50 v51 : Value} {m : MD} {k : List RItem} {sF : Rdg}
  (hk : ∀ (h : Heap) (v : Value) (own : Nat → Prop) (lv : Value) (vs : List Value) (N : Nat) (K0 K1 K2 K3 K5 K7 K8 K9 Ka Kc Kd Ke Kg Kl Km Kn Ko Kp Kq Kr Ks Kt Ku Kv Kw Kx Ky Kz J0 J1 J2 J3 J4 J5 J6 J7 J8 J9 Ja Jb Jc Jg Jh Ji Jj Jk Jl Jm Jn Jo Jp Jq Jr Js Jt Ju Jv Jw Jx Jy Jz Y0 Y1 Y2 Y3 Y4 Y5 Y6 Y7 Y8 Y9 Ya Yb Yc Yd Ye Yf Yg Yh Yi Yj Yk Yl Ym Yn Yo Yp Yq Yr Ys Yt Yu Yv Yw Yx Yy Yz Z0 Z1 Z2 Z3 Z4 Z5 Z6 Z7 Z8 Z9 Za Zb Zc Zd Ze Zf Zg Zh Zi Zj Zk Zl Zm : Value),RI Q hB h X6 X11 p c d pb k1 pl pv dv0 m v own lv vs sF N →
   Ok tab R27 k #[K0,K1,K2,K3,.int .i64 o,K5,ptr X6,K7,K8,K9,Ka,ptr X11,Kc,Kd,Ke,ptr p,Kg,ptr d,lv,.int .i64 sF.snd,v20,Kl,Km,Kn,Ko,Kp,Kq,Kr,Ks,Kt,Ku,Kv,Kw,Kx,Ky,Kz,J0,J1,J2,J3,J4,J5,J6,J7,J8,J9,Ja,Jb,Jc,v49,v50,v51,Jg,Jh,Ji,Jj,Jk,Jl,Jm,Jn,Jo,Jp,Jq,Jr,Js,Jt,Ju,Jv,Jw,Jx,Jy,Jz,Y0,Y1,Y2,Y3,Y4,Y5,Y6,Y7,Y8,Y9,Ya,Yb,Yc,Yd,Ye,Yf,Yg,Yh,Yi,Yj,Yk,Yl,Ym,Yn,Yo,Yp,Yq,Yr,Ys,Yt,Yu,Yv,Yw,Yx,Yy,Yz,Z0,Z1,Z2,Z3,Z4,Z5,Z6,Z7,Z8,Z9,Za,Zb,Zc,Zd,Ze,Zf,Zg,Zh,Zi,Zj,Zk,Zl,Zm] h R) :
  ∀ (q : Nat) (h : Heap) (v : Value) (own : Nat → Prop) (lv : Value) (vs : List Value) (s : Rdg) (N : Nat) (K0 K1 K2 K3 K5 K7 K8 K9 Ka Kc Kd Ke Kg Kl Kn Ko Kq Kr Ks Kt Ku Kv Kw Kx Ky Kz J0 J1 J2 J3 J4 J5 J6 J7 J8 J9 Ja Jb Jc Jg Jh Ji Jj Jk Jl Jm Jn Jo Jp Jq Jr Js Jt Ju Jv Jw Jx Jy Jz Y0 Y1 Y2 Y3 Y4 Y5 Y6 Y7 Y8 Y9 Ya Yb Yc Yd Ye Yf Yg Yh Yi Yj Yk Yl Ym Yn Yo Yp Yq Yr Ys Yt Yu Yv Yw Yx Yy Yz Z0 Z1 Z2 Z3 Z4 Z5 Z6 Z7 Z8 Z9 Za Zb Zc Zd Ze Zf Zg Zh Zi Zj Zk Zl Zm : Value),RI Q hB h X6 X11 p c d pb k1 pl pv dv0 m v own lv vs s N → s.ls.length + q ≤ 178 → N + q * 20000 ≤ 50000000 →
   passesR m pl o q s.ls.length s = sF →
   Ok tab R27 (.inLoop L27_0 :: .inBlock 2 :: k) #[K0,K1,K2,K3,.int .i64 o,K5,ptr X6,K7,K8,K9,Ka,ptr X11,Kc,Kd,Ke,ptr p,Kg,ptr d,lv,.int .i64 s.snd,v20,Kl,.int .i64 (q : Nat),Kn,Ko,ptr k1,Kq,Kr,Ks,Kt,Ku,Kv,Kw,Kx,Ky,Kz,J0,J1,J2,J3,J4,J5,J6,J7,J8,J9,Ja,Jb,Jc,v49,v50,v51,Jg,Jh,Ji,Jj,Jk,Jl,Jm,Jn,Jo,Jp,Jq,Jr,Js,Jt,Ju,Jv,Jw,Jx,Jy,Jz,Y0,Y1,Y2,Y3,Y4,Y5,Y6,Y7,Y8,Y9,Ya,Yb,Yc,Yd,Ye,Yf,Yg,Yh,Yi,Yj,Yk,Yl,Ym,Yn,Yo,Yp,Yq,Yr,Ys,Yt,Yu,Yv,Yw,Yx,Yy,Yz,Z0,Z1,Z2,Z3,Z4,Z5,Z6,Z7,Z8,Z9,Za,Zb,Zc,Zd,Ze,Zf,Zg,Zh,Zi,Zj,Zk,Zl,Zm] h R := by
 intro q
 induction q with
 | zero =>
  intro h v own lv vs s N;intros;rename_i I hq hN hF
  simp only [passesR] at hF
  subst hF
  rw [ok_round,l27_0,L27_0a,L27_0b]
  simp
  exact hk h v own lv vs N _ _ _ _ _ _ _ _ _ _ _ _ _ _ _ _ _ _ _ _ _ _ _ _ _ _ _ _ _ _ _ _ _ _ _ _ _ _ _ _ _ _ _ _ _ _ _ _ _ _ _ _ _ _ _ _ _ _ _ _ _ _ _ _ _ _ _ _ _ _ _ _ _ _ _ _ _ _ _ _ _ _ _ _ _ _ _ _ _ _ _ _ _ _ _ _ _ _ _ _ _ _ _ _ _ _ _ _ _ _ _ _ _ _ _ _ _ _ _ _ I
 | succ q ih =>
  intro h v own lv vs s N;intros;rename_i I hq hN hF
  have hpos : (0 : Int) < ((q + 1 : Nat) : Int) := by omega
  have hn : s.ls.length < 100000 := by omega
  obtain ⟨la,lc,hlv⟩ := I.ol.sl.shape
  have hvl := I.vl
  have hraw := fun H R => raw_c (h := H) (R := R) (n := s.ls.length) hn m
  have hpass := fun H R => pass_c (h := H) (R := R) (n := s.ls.length) (by omega)
  simp only [MD.val] at hraw
  have kk := fun id hid => I.kp id hid
  have kk6 := kk X6 (.inr (.inl rfl))
  have kk11 := kk X11 (.inr (.inr (.inl rfl)))
  have kkp := kk p (.inr (.inr (.inr (.inl rfl))))
  have kk1 := kk k1 (.inr (.inr (.inr (.inr (.inl rfl)))))
  obtain ⟨s1,s2,s3,s4,s5⟩ := I.k1s
  have stepA : ∃ hA,(m.rst = true → rawOf m s.ls.length = false → ∀ R : RP,Ret tab 59 [ptr d] h R = R (.tuple #[]) hA) ∧ (¬ (m.rst = true ∧ rawOf m s.ls.length = false) → hA = h) ∧ Sq hA d pb v own (if m.rst = true ∧ rawOf m s.ls.length = false then s.a.back else s.a) s.raw ∧ (∀ id,¬ own id → blk? hA id = blk? h id) ∧ hA.length = h.length := by
   by_cases hr : m.rst = true ∧ rawOf m s.ls.length = false
   ·obtain ⟨hA,e,K,kA,lA⟩ := sq_back I.sq
    exact ⟨hA,fun _ _ => e,fun x => absurd hr x,by rw [if_pos hr]; exact K,kA,lA⟩
   ·exact ⟨h,fun x y => absurd ⟨x,y⟩ hr,fun _ => rfl,by rw [if_neg hr]; exact I.sq,fun _ _ => rfl,rfl⟩
  obtain ⟨hA,eA,nA,KA,kA,lA⟩ := stepA
  generalize ha1 : (if m.rst = true ∧ rawOf m s.ls.length = false then s.a.back else s.a) = a1 at *
  generalize hB2 : hA ++ [some (⟨false,[.slice none 0 0]⟩ : Blk)] = h2
  have l2 : h2.length = h.length + 1 := by rw [← hB2]; simp [lA]
  have k2 : ∀ id,id < h.length → blk? h2 id = blk? hA id := fun id hid => by rw [← hB2]; exact blk?_push_lt (by omega)
  have b2k : blk? h2 h.length = some ⟨false,[.slice none 0 0]⟩ := by rw [← hB2,← lA]; exact blk?_push_eq
  have keep2 : ∀ id,id < h.length → ¬ own id → blk? h2 id = blk? h id := fun id h1 h3 => by rw [k2 id h1,kA id h3]
  have hcl := blk?_lt I.cb.blkc
  have hno : ¬ own c := fun x => (I.no c x).1 rfl
  have cb2 : CB h2 false p c s.b := ⟨by rw [keep2 p kkp.2.2.2 kkp.1]; exact I.cb.blkp,by rw [keep2 c hcl hno]; exact I.cb.blkc,I.cb.ok⟩
  have own_lt : ∀ id,own id → id < h.length := fun id hid => I.sq.own_lt hid
  have r2 : RRel d pb k1 h.length c N h2 ⟨v,own,.slice none 0 0⟩ ⟨a1,s.raw,[]⟩ := by
   refine ⟨KA.keep fun id hid => k2 id (own_lt id hid),by rw [keep2 k1 kk1.2.2.2 kk1.1]; exact I.b1,b2k,OwnS.nil _ _,by have := kk1.2.2.2; omega,fun id hid => ⟨fun x => kk1.1 (by rw [← x]; exact hid),by have := own_lt id hid; omega,by simp [sid],(I.no id hid).1⟩,fun id hid => by simp [sid] at hid,⟨kk1.2.1,by omega⟩,by omega,fun xs qq hx => by have := I.cnt xs qq hx; simp; omega⟩
  obtain ⟨t',h3,e3,D3⟩ := run_d (A := rsSrc d pb k1 h.length c N) (t := ⟨v,own,.slice none 0 0⟩) (s := ⟨a1,s.raw,[]⟩) cb2 I.good.rng ⟨r2,by omega⟩
   (by rintro (x | x | x | x); exact kkp.1 x; exact s4 x.symm; (have := kkp.2.2.2; omega); simp [sid] at x) (by have := kk1.2.2.2; simp; omega) (by show 0 + 100000 < 1000000; omega) (s.ls.length : Int) pl o m
  have hR3 : passR m pl o s.ls.length s.a s.raw s.b = dOut RS.ask m s.b s.ls.length pl o ⟨a1,s.raw,[]⟩ := by unfold passR; rw [ha1]
  have hlen3 := dOut_len (m := m) I.good pl o s.ls.length ⟨a1,s.raw,[]⟩
  have e3' : ∀ R : RP,Ret tab 60 [ptr p,.int .i64 (s.ls.length : Nat),.int .i64 pl,.int .i64 o,m.val,.func (.func 61) #[] #[ptr k1,ptr h.length]] h2 R = R (.int .i64 (dErr s.ls.length pl o (dOut RS.ask m s.b s.ls.length pl o ⟨a1,s.raw,[]⟩).1.2)) h3 := e3
  have cb3 : CB h3 false p c (dOut RS.ask m s.b s.ls.length pl o ⟨a1,s.raw,[]⟩).1.1 := D3.cb
  have good3 : (dOut RS.ask m s.b s.ls.length pl o ⟨a1,s.raw,[]⟩).1.1.Good := D3.good
  have r3 : RRel d pb k1 h.length c N h3 t' (dOut RS.ask m s.b s.ls.length pl o ⟨a1,s.raw,[]⟩).2 := D3.rel.1
  have S3 : Stq h2 h3 c (RT.all k1 h.length ⟨v,own,.slice none 0 0⟩) (t'.all k1 h.length) := D3.st
  clear e3 D3
  simp only [passesR,hR3] at hF
  generalize dOut RS.ask m s.b s.ls.length pl o ⟨a1,s.raw,[]⟩ = r at *
  obtain ⟨⟨b3,ok3⟩,st3⟩ := r
  simp only at e3' cb3 good3 r3 hF hlen3
  have len3 := S3.len
  have lvlt : ∀ id,sid lv = some id → id < h.length := fun id hid => I.ol.lt hid
  have fresh3 : ∀ id,t'.all k1 h.length id → own id ∨ id = k1 ∨ id = h.length ∨ h2.length ≤ id := fun id hid => by
   rcases S3.fresh id hid with (x | x | x | x) | x
   ·exact .inl x
   ·exact .inr (.inl x)
   ·exact .inr (.inr (.inl x))
   ·simp [sid] at x
   ·exact .inr (.inr (.inr x))
  have lvfresh : ∀ id,t'.all k1 h.length id → sid lv ≠ some id := fun id hid hx => by
   have := lvlt id hx
   rcases fresh3 id hid with x | rfl | rfl | x
   ·exact (I.no id x).2 hx
   ·exact kk1.2.2.1 hx
   ·omega
   ·omega
  have keep3 : ∀ id,id < h.length → id ≠ c → ¬ own id → id ≠ k1 → blk? h3 id = blk? h id := fun id h1 hc ho hk => by
   rw [S3.same id (by omega) hc (by rintro (x | x | x | x); exact ho x; exact hk x; omega; simp [sid] at x),keep2 id h1 ho]
  generalize hH4 : h3 ++ [some (⟨false,[t'.lv]⟩ : Blk)] = h4
  have l4 : h4.length = h3.length + 1 := by rw [← hH4]; simp
  have k4 : ∀ id,id < h3.length → blk? h4 id = blk? h3 id := fun id hid => by rw [← hH4]; exact blk?_push_lt hid
  have b4 : blk? h4 h3.length = some ⟨false,[t'.lv]⟩ := by rw [← hH4]; exact blk?_push_eq
  have ol4 : OwnS h4 1 lv vs.length vs := own_lv I.ol fun id hid => by
   have := lvlt id hid
   rw [k4 id (by omega),keep3 id this (fun x => I.nl (by rw [← x]; exact hid)) (fun x => (I.no id x).2 hid) (fun x => kk1.2.2.1 (by rw [← x]; exact hid))]
  have ht4 : Sl h4 1 (.slice (some ⟨h3.length,0,none⟩) 1 1) 1 [t'.lv] := ⟨rfl,.inr ⟨h3.length,0,rfl,.inr ⟨_,b4,by simp,by simp⟩⟩⟩
  obtain ⟨h5,a5,b5,l5,k5⟩ := own_append (bytes := 24) ol4 ht4 (by unfold roomCells; omega) (by omega) (by omega)
  rw [l4] at a5 b5 l5 k5
  have keep5 : ∀ id,id < h3.length → sid lv ≠ some id → blk? h5 id = blk? h3 id := fun id h1 h2 => by rw [k5 id (by omega) h2,k4 id h1]
  have keep : ∀ id,KpR Q X6 X11 p k1 vs id → id ≠ k1 → blk? h5 id = blk? h id := fun id hid hk => by
   obtain ⟨q1,q2,q3,q4⟩ := I.kp id hid
   rw [keep5 id (by omega) q3,keep3 id q4 q2 q1 hk]
  obtain ⟨c1,c2,c3⟩ := I.cB
  have I5 : RI Q hB h5 X6 X11 p c d pb k1 pl pv dv0 m t'.v t'.own (.slice (some ⟨h3.length + 1,0,none⟩) (vs.length + 1) 1) (vs ++ [t'.lv]) ⟨st3.a,st3.raw,b3,sndR pl o s.ls.length ok3 s.snd,s.ls ++ [st3.l]⟩ (N + st3.l.length) := by
   have lenB := I.len
   have kk1l := kk1.2.2.2
   have hcl3 := blk?_lt cb3.blkc
   have hpl3 := blk?_lt cb3.blkp
   refine ⟨by rw [keep X6 (.inr (.inl rfl)) (Ne.symm s2)]; exact I.b6,by rw [keep X11 (.inr (.inr (.inl rfl))) (Ne.symm s3)]; exact I.b11,⟨by rw [keep5 p hpl3 kkp.2.2.1]; exact cb3.blkp,by rw [keep5 c hcl3 I.nl]; exact cb3.blkc,cb3.ok⟩,good3,
    r3.sq.keep fun id hid => keep5 id (r3.sq.own_lt hid) (lvfresh id (.inl hid)),by rw [keep5 k1 (by omega) kk1.2.2.1]; exact r3.b1,⟨by simp,.inr ⟨h3.length + 1,by simp,b5⟩⟩,by simp [hvl],fun i h1 h2 => ?_,fun id hid => ?_,fun id hid => ?_,?_,fun xs qq hx => ?_,fun id hid => ?_,by omega,fun l hl => ?_,⟨s1,s2,s3,s4,fun w hw => ?_⟩,⟨c1,c2,c3⟩⟩
   ·by_cases hi : i < vs.length
    ·have hi2 : i < s.ls.length := by omega
     have e1 : (vs ++ [t'.lv])[i] = vs[i] := by rw [List.getElem_append_left hi]
     have e2 : (s.ls ++ [st3.l])[i] = s.ls[i] := by rw [List.getElem_append_left hi2]
     simp only [e1,e2]
     exact own_lv (I.each i hi hi2) fun id hid => keep id (.inr (.inr (.inr (.inr (.inr ⟨_,List.getElem_mem hi,hid⟩))))) (fun x => s5 _ (List.getElem_mem hi) (by rw [← x]; exact hid))
    ·simp only [List.length_append,List.length_singleton] at h1
     have hie : i = vs.length := by omega
     subst hie
     have e1 : (vs ++ [t'.lv])[vs.length] = t'.lv := by simp
     have e2 : (s.ls ++ [st3.l])[vs.length] = st3.l := by rw [List.getElem_append_right (by omega)]; simp [hvl]
     simp only [e1,e2]
     exact own_lv r3.ol fun id hid => keep5 id (r3.ol.lt hid) (lvfresh id (.inr (.inr (.inr hid))))
   ·have old : KpR Q X6 X11 p k1 vs id → ¬ t'.own id ∧ id ≠ c ∧ sid (.slice (some ⟨h3.length + 1,0,none⟩) (vs.length + 1) 1) ≠ some id ∧ id < h5.length := fun hid => by
     obtain ⟨q1,q2,q3,q4⟩ := I.kp id hid
     refine ⟨fun x => ?_,q2,by simp [sid]; omega,by omega⟩
     rcases fresh3 id (.inl x) with y | y | y | y
     ·exact q1 y
     ·exact (r3.no id x).1 y
     ·omega
     ·omega
    rcases hid with hid | hid | hid | hid | hid | ⟨w,hw,hid⟩
    ·exact old (.inl hid)
    ·exact old (.inr (.inl hid))
    ·exact old (.inr (.inr (.inl hid)))
    ·exact old (.inr (.inr (.inr (.inl hid))))
    ·exact old (.inr (.inr (.inr (.inr (.inl hid)))))
    ·rcases List.mem_append.1 hw with hw | hw
     ·exact old (.inr (.inr (.inr (.inr (.inr ⟨w,hw,hid⟩)))))
     ·simp at hw; subst hw
      have := r3.ol.lt hid
      exact ⟨fun x => (r3.no id x).2.2.1 hid,(r3.nl id hid).2.2,by simp [sid]; omega,by omega⟩
   ·have := r3.sq.own_lt hid
    exact ⟨(r3.no id hid).2.2.2,by simp [sid]; omega⟩
   ·simp [sid]; omega
   ·exact r3.cnt xs qq hx
   ·rw [keep id (.inl hid) (fun x => s1 (by rw [← x]; exact hid))]; exact I.low id hid
   ·rcases List.mem_append.1 hl with hl | hl
    ·exact I.small l hl
    ·simp at hl; subst hl; simpa using hlen3
   ·rcases List.mem_append.1 hw with hw | hw
    ·exact s5 w hw
    ·simp at hw; subst hw; exact fun x => (r3.nl k1 x).1 rfl
  have hlen3' : st3.l.length ≤ 20000 := by simpa using hlen3
  have ih' := fun K0 K1 K2 K3 K5 K7 K8 K9 Ka Kc Kd Ke Kg Kl Kn Ko Kq Kr Ks Kt Ku Kv Kw Kx Ky Kz J0 J1 J2 J3 J4 J5 J6 J7 J8 J9 Ja Jb Jc Jg Jh Ji Jj Jk Jl Jm Jn Jo Jp Jq Jr Js Jt Ju Jv Jw Jx Jy Jz Y0 Y1 Y2 Y3 Y4 Y5 Y6 Y7 Y8 Y9 Ya Yb Yc Yd Ye Yf Yg Yh Yi Yj Yk Yl Ym Yn Yo Yp Yq Yr Ys Yt Yu Yv Yw Yx Yy Yz Z0 Z1 Z2 Z3 Z4 Z5 Z6 Z7 Z8 Z9 Za Zb Zc Zd Ze Zf Zg Zh Zi Zj Zk Zl Zm => ih h5 t'.v t'.own _ _ _ (N + st3.l.length) K0 K1 K2 K3 K5 K7 K8 K9 Ka Kc Kd Ke Kg Kl Kn Ko Kq Kr Ks Kt Ku Kv Kw Kx Ky Kz J0 J1 J2 J3 J4 J5 J6 J7 J8 J9 Ja Jb Jc Jg Jh Ji Jj Jk Jl Jm Jn Jo Jp Jq Jr Js Jt Ju Jv Jw Jx Jy Jz Y0 Y1 Y2 Y3 Y4 Y5 Y6 Y7 Y8 Y9 Ya Yb Yc Yd Ye Yf Yg Yh Yi Yj Yk Yl Ym Yn Yo Yp Yq Yr Ys Yt Yu Yv Yw Yx Yy Yz Z0 Z1 Z2 Z3 Z4 Z5 Z6 Z7 Z8 Z9 Za Zb Zc Zd Ze Zf Zg Zh Zi Zj Zk Zl Zm I5 (by simp; omega) (by omega) (by rw [← hF]; simp)
  have b62 : blk? h2 X6 = some ⟨false,[.int .i64 pl,pv,dv0]⟩ := by rw [keep2 X6 kk6.2.2.2 kk6.1]; exact I.b6
  have b112 : blk? h2 X11 = some ⟨false,[.bool m.byp,.bool m.res,.bool m.rst,.bool m.cz,.bool m.sy]⟩ := by rw [keep2 X11 kk11.2.2.2 kk11.1]; exact I.b11
  have b3k := r3.b2
  have b11 := I.b11
  obtain ⟨ta,tc,htl⟩ := r3.ol.sl.shape
  have hpl := planeOf_le (n := s.ls.length) (planes := s.ls.length + 1) (by omega) (by omega)
  have w1 : IntKind.i64.wrap (3 * (planeOf s.ls.length : Int)) = 3 * (planeOf s.ls.length : Int) := by rw [wrapI (by omega) (by omega)]
  have w2 : IntKind.i64.wrap (3 * (planeOf s.ls.length : Int) - 2) = 3 * (planeOf s.ls.length : Int) - 2 := by rw [wrapI (by omega) (by omega)]
  have w3 : IntKind.i64.wrap (((q + 1 : Nat) : Int) - 1) = (q : Int) := by rw [wrapI (by omega) (by omega)]; omega
  simp only [MD.val] at e3'
  simp only [sndR_eq] at ih'
  rw [hvl] at hlv ih' a5
  rw [htl] at b3k hH4
  rw [hlv] at a5
  generalize ((q + 1 : Nat) : Int) = q1 at *
  generalize hde : dErr (s.ls.length : Nat) pl o ok3 = de at *
  have done : ∀ K0 K1 K2 K3 K5 K7 K8 K9 Ka Kc Kd Ke Kg Kl Ko Kq Kr Ks Kt Ku Kv Kw Kx Ky Kz J0 J1 J2 J3 J4 J5 J6 J7 J8 J9 Ja Jb Jc Jg Jh Ji Jj Jk Jl Jm Jn Jo Jp Jq Jr Js Jt Ju Jv Jw Jx Jy Jz Y0 Y1 Y2 Y3 Y4 Y5 Y6 Y7 Y8 Y9 Ya Yb Yc Yd Ye Yf Yg Yh Yi Yj Yk Yl Ym Yn Yo Yp Yq Yr Ys Yt Yu Yv Yw Yx Yy Yz Z0 Z1 Z2 Z3 Z4 Z5 Z6 Z7 Z8 Z9 Za Zb Zc Zd Ze Zf Zg Zh Zi Zj Zk Zl Zm : Value,Ok tab R27 (.code (tlC 2 (inB (nthC 0 L27_0b))) :: .inBlock 3 :: .code (tlC 1 L27_0b) :: .inLoop L27_0 :: .inBlock 2 :: k) #[K0,K1,K2,K3,.int .i64 o,K5,ptr X6,K7,K8,K9,Ka,ptr X11,Kc,Kd,Ke,ptr p,Kg,ptr d,lv,.int .i64 s.snd,v20,Kl,.int .i64 q1,.int .i64 (s.ls.length : Nat),Ko,ptr k1,Kq,Kr,Ks,Kt,Ku,Kv,Kw,Kx,Ky,Kz,J0,J1,J2,J3,J4,J5,J6,J7,J8,J9,Ja,Jb,Jc,v49,v50,v51,Jg,Jh,Ji,Jj,Jk,Jl,Jm,Jn,Jo,Jp,Jq,Jr,Js,Jt,Ju,Jv,Jw,Jx,Jy,Jz,Y0,Y1,Y2,Y3,Y4,Y5,Y6,Y7,Y8,Y9,Ya,Yb,Yc,Yd,Ye,Yf,Yg,Yh,Yi,Yj,Yk,Yl,Ym,Yn,Yo,Yp,Yq,Yr,Ys,Yt,Yu,Yv,Yw,Yx,Yy,Yz,Z0,Z1,Z2,Z3,Z4,Z5,Z6,Z7,Z8,Z9,Za,Zb,Zc,Zd,Ze,Zf,Zg,Zh,Zi,Zj,Zk,Zl,Zm] hA R := by
   intros
   rw [hlv]
   simp only [nthC,tlC,fstC,inB,L27_0b]
   by_cases hd16 : de = 16
   ·have hd' : (de == 16) = true := by simpa using hd16
    simp only [hd',if_true] at ih'
    simp [hB2,lA,e3',b62,b112,hpass,hd',w1,w2,fold1,foldO,mx2,mn2,b3k,repL,hH4,a5,w3]
    exact ih' ..
   ·have hd' : (de == 16) = false := by simpa using hd16
    simp only [hd',Bool.false_eq_true,if_false] at ih'
    simp [hB2,lA,e3',b62,b112,hpass,hd',b3k,repL,hH4,a5,w3]
    exact ih' ..
  clear ih' ih
  rw [ok_round,l27_0,L27_0a,show L27_0b = .seq (.block 3 (.seq (nthC 0 (inB (nthC 0 L27_0b))) (.seq (nthC 1 (inB (nthC 0 L27_0b))) (tlC 2 (inB (nthC 0 L27_0b)))))) (tlC 1 L27_0b) from rfl]
  generalize tlC 2 (inB (nthC 0 L27_0b)) = tl2 at *
  simp only [nthC,tlC,fstC,inB,L27_0b] at done ⊢
  rw [hlv] at done ⊢
  cases hrst : m.rst with
  | false =>
   have hAh := nA (by rw [hrst]; simp)
   subst hAh
   rw [hrst] at b11 hraw
   simp [k_guard,hpos,b11]
   exact done ..
  | true =>
   cases hrw : rawOf m s.ls.length with
   | true =>
    have hAh := nA (by rw [hrw]; simp)
    subst hAh
    rw [hrst] at b11 hraw
    rw [hrw] at hraw
    simp [k_guard,hpos,b11,hraw]
    exact done ..
   | false =>
    have eR := eA hrst hrw
    rw [hrst] at b11 hraw
    rw [hrw] at hraw
    simp [k_guard,hpos,b11,hraw,eR]
    exact done ..
end
def segD (ds : List Nat) (beg e : Nat) : List Nat := (ds.take e).drop beg
def segsR (m : MD) (planes o : Int) (ps : List Int) (ds : List Nat) : List Nat → Nat → Rdg → Rdg
 | [],_,s => s
 | c :: cs,beg,s =>
  let e := (ps.getD (s.ls.length + c - 1) 0).toNat
  segsR m planes o ps ds cs e (passesR m planes o c s.ls.length (if rawOf m s.ls.length = true then { s with raw := some (segD ds beg e,0) } else { s with a := AD.start s.a.p (segD ds beg e),raw := none }))
def KpO (Q : Nat → Prop) (X6 X11 p : Nat) (vs : List Value) (id : Nat) : Prop := Q id ∨ id = X6 ∨ id = X11 ∨ id = p ∨ ∃ w ∈ vs,sid w = some id
structure RO (Q : Nat → Prop) (hB h : Heap) (X6 X11 p c d pb : Nat) (pl : Int) (pv dv0 : Value) (m : MD) (lv : Value) (vs : List Value) (s : Rdg) : Prop where
 b6 : blk? h X6 = some ⟨false,[.int .i64 pl,pv,dv0]⟩
 b11 : blk? h X11 = some ⟨false,[.bool m.byp,.bool m.res,.bool m.rst,.bool m.cz,.bool m.sy]⟩
 cb : CB h false p c s.b
 good : s.b.Good
 dp : ∃ dv D n v sz st,DP h d pb dv D n s.a.p v sz st ∧ s.a.p.length = 19 ∧ PsOk s.a.p ∧ ∀ id,ownE d pb dv id → ¬ KpO Q X6 X11 p vs id ∧ id ≠ c ∧ sid lv ≠ some id
 ol : OwnS h 1 lv vs.length vs
 vl : vs.length = s.ls.length
 each : ∀ i (h1 : i < vs.length) (h2 : i < s.ls.length),OwnS h 2 vs[i] s.ls[i].length (encS s.ls[i])
 kp : ∀ id,KpO Q X6 X11 p vs id → id ≠ c ∧ sid lv ≠ some id ∧ id < h.length
 nl : sid lv ≠ some c
 low : ∀ id,Q id → blk? h id = blk? hB id
 len : hB.length ≤ h.length
 small : ∀ l ∈ s.ls,l.length ≤ 20000
 cB : ¬ Q c ∧ c ≠ X6 ∧ c ≠ X11
theorem Sq.dp {h : Heap} {d pb : Nat} {v : Value} {own : Nat → Prop} {a : AD} {raw : Option (List Nat × Nat)} (K : Sq h d pb v own a raw) : ∃ dv D n v' sz st,DP h d pb dv D n a.p v' sz st ∧ a.p.length = 19 ∧ PsOk a.p ∧ ∀ id,ownE d pb dv id → own id := by
 cases K with
 | @cod dv D n _ I h19 hD hl => exact ⟨dv,D,n,_,_,_,I.dp,h19,I.ok.ps,fun id hid => hid⟩
 | @raw dv sv D xs n v sz q mm st _ I h19 hp J hd => exact ⟨dv,D,n,v,sz,st,I,h19,hp,fun id hid => .inl hid⟩
theorem KpO.r {Q : Nat → Prop} {X6 X11 p k1 : Nat} {vs : List Value} {id : Nat} (k : KpO Q X6 X11 p vs id) : KpR Q X6 X11 p k1 vs id := by
 rcases k with x | x | x | x | x
 ·exact .inl x
 ·exact .inr (.inl x)
 ·exact .inr (.inr (.inl x))
 ·exact .inr (.inr (.inr (.inl x)))
 ·exact .inr (.inr (.inr (.inr (.inr x))))
theorem RI.ro {Q : Nat → Prop} {hB h : Heap} {X6 X11 p c d pb k1 : Nat} {pl : Int} {pv dv0 : Value} {m : MD} {v : Value} {own : Nat → Prop} {lv : Value} {vs : List Value} {s : Rdg} {N : Nat} (I : RI Q hB h X6 X11 p c d pb k1 pl pv dv0 m v own lv vs s N) :
  RO Q hB h X6 X11 p c d pb pl pv dv0 m lv vs s := by
 obtain ⟨dv,D,n,v',sz,st,a1,a2,a3,a4⟩ := I.sq.dp
 exact ⟨I.b6,I.b11,I.cb,I.good,⟨dv,D,n,v',sz,st,a1,a2,a3,fun id hid => ⟨fun x => (I.kp id x.r).1 (a4 id hid),(I.no id (a4 id hid)).1,(I.no id (a4 id hid)).2⟩⟩,I.ol,I.vl,I.each,fun id hid => (I.kp id hid.r).2,I.nl,I.low,I.len,I.small,I.cB⟩
def zE (ps : List Int) (n : Nat) : Nat := if n = 0 then 0 else (ps.getD (n - 1) 0).toNat
theorem nU_kis (D : List Nat) : kis .u8 (D.map Int.ofNat) = nU D := by simp [kis,nU]
theorem seg_sl {h : Heap} {dv : Value} {ds : List Nat} (hd : Rk .u8 h dv (ds.map Int.ofNat)) {beg e : Nat} (h1 : beg ≤ e) (h2 : e ≤ ds.length) :
  ∃ s',sliceV 1 dv (some (.int .i64 (beg : Nat))) (some (.int .i64 (e : Nat))) = some s' ∧ Sl h 1 s' (segD ds beg e).length (nU (segD ds beg e)) := by
 have hl : (ds.map Int.ofNat).length = ds.length := by simp
 obtain ⟨s',e1,r⟩ := hd.sub (l := beg) (t := e) (lo := some (.int .i64 (beg : Nat))) (hi' := some (.int .i64 (e : Nat))) h1 (by omega) (by simp [bndO,bnd]; omega) (by simp [bndO,bnd]; omega)
 have em : ((ds.map Int.ofNat).take e).drop beg = (segD ds beg e).map Int.ofNat := by unfold segD; rw [List.map_drop,List.map_take]
 refine ⟨s',e1,?_⟩
 have := r.sl
 rw [em,nU_kis,List.length_map] at this
 exact this
section
variable {R : RP} {h : Heap}
theorem seg_loop_d {Q : Nat → Prop} {hB : Heap} {X6 X11 p c d pb : Nat} {pl o : Int} {pv dv0 gv : Value} {m : MD} {k : List RItem} {sF : Rdg} {gs : List Nat} {ps : List Int} {ds : List Nat}
  (hg : Sl hB 1 gv gs.length (nI gs)) (hgq : ∀ id,sid gv = some id → Q id) (hp : Rk .i64 hB pv ps) (hpq : ∀ id,sid pv = some id → Q id) (hd : Rk .u8 hB dv0 (ds.map Int.ofNat)) (hdq : ∀ id,sid dv0 = some id → Q id)
  (hc1 : ∀ x ∈ gs,1 ≤ x) (hps : ∀ x ∈ ps,0 ≤ x) (hz : ∀ i j,i ≤ j → j ≤ ps.length → zE ps i ≤ zE ps j ∧ zE ps j ≤ ds.length) (hdl : ds.length < 100000000) (hds : ∀ x ∈ ds,x < 256) (hpl : ps.length ≤ 178) (hgn : gs.length ≤ 178)
  (hk : ∀ (h : Heap) (lv : Value) (vs : List Value) (K0 K1 K2 K3 K4 K5 K6 K7 K8 K9 Ka Kb Kc Kd Ke Kf Kg Kh Kk Kl Km Kn Ko Kp Kq Kr Ks Kt Ku Kv Kw Kx Ky Kz J0 J1 J2 J3 J4 J5 J6 J7 J8 J9 Ja Jb Jc Jd Je Jf Jg Jh Ji Jj Jk Jl Jm Jn Jo Jp Jq Jr Js Jt Ju Jv Jw Jx Jy Jz Y0 Y1 Y2 Y3 Y4 Y5 Y6 Y7 Y8 Y9 Ya Yb Yc Yd Ye Yf Yg Yh Yi Yj Yk Yl Ym Yn Yo Yp Yq Yr Ys Yt Yu Yv Yw Yx Yy Yz Z0 Z1 Z2 Z3 Z4 Z5 Z6 Z7 Z8 Z9 Za Zb Zc Zd Ze Zf Zg Zh Zi Zj Zk Zl Zm : Value),RO Q hB h X6 X11 p c d pb pl pv dv0 m lv vs sF → Ok tab R27 k #[K0,K1,K2,K3,K4,K5,K6,K7,K8,K9,Ka,Kb,Kc,Kd,Ke,Kf,Kg,Kh,lv,.int .i64 sF.snd,Kk,Kl,Km,Kn,Ko,Kp,Kq,Kr,Ks,Kt,Ku,Kv,Kw,Kx,Ky,Kz,J0,J1,J2,J3,J4,J5,J6,J7,J8,J9,Ja,Jb,Jc,Jd,Je,Jf,Jg,Jh,Ji,Jj,Jk,Jl,Jm,Jn,Jo,Jp,Jq,Jr,Js,Jt,Ju,Jv,Jw,Jx,Jy,Jz,Y0,Y1,Y2,Y3,Y4,Y5,Y6,Y7,Y8,Y9,Ya,Yb,Yc,Yd,Ye,Yf,Yg,Yh,Yi,Yj,Yk,Yl,Ym,Yn,Yo,Yp,Yq,Yr,Ys,Yt,Yu,Yv,Yw,Yx,Yy,Yz,Z0,Z1,Z2,Z3,Z4,Z5,Z6,Z7,Z8,Z9,Za,Zb,Zc,Zd,Ze,Zf,Zg,Zh,Zi,Zj,Zk,Zl,Zm] h R) :
  ∀ (q gi : Nat) (h : Heap) (lv : Value) (vs : List Value) (s : Rdg) (beg : Nat) (K0 K1 K2 K3 K5 K7 K8 K9 Ka Kc Kd Ke Kg Kl Km Kn Ko Kp Kq Kr Ks Kt Ku Kv Kw Kx Ky Kz J0 J1 J2 J3 J4 J5 J6 J7 J8 J9 Ja Jb Jc Jg Jh Ji Jj Jk Jl Jm Jn Jo Jp Jq Jr Js Jt Ju Jv Jw Jx Jy Jz Y0 Y1 Y2 Y3 Y4 Y5 Y6 Y7 Y8 Y9 Ya Yb Yc Yd Ye Yf Yg Yh Yi Yj Yk Yl Ym Yn Yo Yp Yq Yr Ys Yt Yu Yv Yw Yx Yy Yz Z0 Z1 Z2 Z3 Z4 Z5 Z6 Z7 Z8 Z9 Za Zb Zc Zd Ze Zf Zg Zh Zi Zj Zk Zl Zm : Value),gi + q = gs.length → RO Q hB h X6 X11 p c d pb pl pv dv0 m lv vs s → s.ls.length + sumL (gs.drop gi) ≤ ps.length → beg = zE ps s.ls.length →
   segsR m pl o ps ds (gs.drop gi) beg s = sF →
   Ok tab R27 (.inLoop L27_1 :: .inBlock 0 :: k) #[K0,K1,K2,K3,.int .i64 o,K5,ptr X6,K7,K8,K9,Ka,ptr X11,Kc,Kd,Ke,ptr p,Kg,ptr d,lv,.int .i64 s.snd,.int .i64 (beg : Nat),Kl,Km,Kn,Ko,Kp,Kq,Kr,Ks,Kt,Ku,Kv,Kw,Kx,Ky,Kz,J0,J1,J2,J3,J4,J5,J6,J7,J8,J9,Ja,Jb,Jc,gv,.int .i64 (gs.length : Nat),.int .i64 (gi : Nat),Jg,Jh,Ji,Jj,Jk,Jl,Jm,Jn,Jo,Jp,Jq,Jr,Js,Jt,Ju,Jv,Jw,Jx,Jy,Jz,Y0,Y1,Y2,Y3,Y4,Y5,Y6,Y7,Y8,Y9,Ya,Yb,Yc,Yd,Ye,Yf,Yg,Yh,Yi,Yj,Yk,Yl,Ym,Yn,Yo,Yp,Yq,Yr,Ys,Yt,Yu,Yv,Yw,Yx,Yy,Yz,Z0,Z1,Z2,Z3,Z4,Z5,Z6,Z7,Z8,Z9,Za,Zb,Zc,Zd,Ze,Zf,Zg,Zh,Zi,Zj,Zk,Zl,Zm] h R := by
 intro q
 induction q with
 | zero =>
  intro gi h lv vs s beg K0 K1 K2 K3 K5 K7 K8 K9 Ka Kc Kd Ke Kg Kl Km Kn Ko Kp Kq Kr Ks Kt Ku Kv Kw Kx Ky Kz J0 J1 J2 J3 J4 J5 J6 J7 J8 J9 Ja Jb Jc Jg Jh Ji Jj Jk Jl Jm Jn Jo Jp Jq Jr Js Jt Ju Jv Jw Jx Jy Jz Y0 Y1 Y2 Y3 Y4 Y5 Y6 Y7 Y8 Y9 Ya Yb Yc Yd Ye Yf Yg Yh Yi Yj Yk Yl Ym Yn Yo Yp Yq Yr Ys Yt Yu Yv Yw Yx Yy Yz Z0 Z1 Z2 Z3 Z4 Z5 Z6 Z7 Z8 Z9 Za Zb Zc Zd Ze Zf Zg Zh Zi Zj Zk Zl Zm hgi I hn hbeg hF
  obtain rfl : gi = gs.length := by omega
  rw [List.drop_length] at hF
  simp only [segsR] at hF
  subst hF
  rw [ok_round,l27_1,L27_1a,L27_1b]
  simp
  exact hk h lv vs _ _ _ _ _ _ _ _ _ _ _ _ _ _ _ _ _ _ _ _ _ _ _ _ _ _ _ _ _ _ _ _ _ _ _ _ _ _ _ _ _ _ _ _ _ _ _ _ _ _ _ _ _ _ _ _ _ _ _ _ _ _ _ _ _ _ _ _ _ _ _ _ _ _ _ _ _ _ _ _ _ _ _ _ _ _ _ _ _ _ _ _ _ _ _ _ _ _ _ _ _ _ _ _ _ _ _ _ _ _ _ _ _ _ _ _ _ _ _ _ _ _ _ _ _ _ _ _ _ I
 | succ q ih =>
  intro gi h lv vs s beg K0 K1 K2 K3 K5 K7 K8 K9 Ka Kc Kd Ke Kg Kl Km Kn Ko Kp Kq Kr Ks Kt Ku Kv Kw Kx Ky Kz J0 J1 J2 J3 J4 J5 J6 J7 J8 J9 Ja Jb Jc Jg Jh Ji Jj Jk Jl Jm Jn Jo Jp Jq Jr Js Jt Ju Jv Jw Jx Jy Jz Y0 Y1 Y2 Y3 Y4 Y5 Y6 Y7 Y8 Y9 Ya Yb Yc Yd Ye Yf Yg Yh Yi Yj Yk Yl Ym Yn Yo Yp Yq Yr Ys Yt Yu Yv Yw Yx Yy Yz Z0 Z1 Z2 Z3 Z4 Z5 Z6 Z7 Z8 Z9 Za Zb Zc Zd Ze Zf Zg Zh Zi Zj Zk Zl Zm hgi I hn hbeg hF
  have hgl : gi < gs.length := by omega
  have hlt : (gi : Int) < (gs.length : Int) := by omega
  have hdrop : gs.drop gi = gs[gi] :: gs.drop (gi + 1) := List.drop_eq_getElem_cons hgl
  have hcp := hc1 gs[gi] (List.getElem_mem hgl)
  rw [hdrop] at hF hn
  simp only [sumL] at hn
  simp only [segsR] at hF
  have hg2 : Sl h 1 gv gs.length (nI gs) := hg.of_sid fun id b hid hb => by rw [I.low id (hgq id hid)]; exact hb
  have rk : ∀ {G : Heap} {kd : IntKind} {w : Value} {xs : List Int},Rk kd hB w xs → (∀ id,sid w = some id → Q id) → (∀ id,Q id → blk? G id = blk? hB id) → hB.length ≤ G.length → Rk kd G w xs := fun r hq hl hle => r.keep hle fun id _ hs => hl id (hq id hs)
  have hp2 := rk hp hpq I.low I.len
  obtain ⟨gid,goff,gb,egv,hgb,hgc⟩ := hg2.get hgl
  have hgd0 : gs.getD gi 0 = gs[gi] := by rw [List.getD_eq_getElem?_getD,List.getElem?_eq_getElem hgl]; rfl
  have hgc0 := hgc 0 (by omega)
  rw [Nat.mul_one,Nat.add_zero,Nat.add_zero,nI_get hgl,hgd0] at hgc0
  generalize hcc : gs[gi] = cnt at *
  have hni : s.ls.length + cnt - 1 < ps.length := by omega
  obtain ⟨pid,poff,pbk,epv,hpb,hpc⟩ := hp2.get hni
  have hpe : ps.getD (s.ls.length + cnt - 1) 0 = ps[s.ls.length + cnt - 1] := by rw [List.getD_eq_getElem?_getD,List.getElem?_eq_getElem hni]; rfl
  have hp0 := hps ps[s.ls.length + cnt - 1] (List.getElem_mem hni)
  obtain ⟨e,he⟩ := Int.eq_ofNat_of_zero_le hp0
  have hze : zE ps (s.ls.length + cnt) = e := by unfold zE; rw [if_neg (by omega),hpe,he]; rfl
  obtain ⟨z1,z2⟩ := hz s.ls.length (s.ls.length + cnt) (by omega) (by omega)
  rw [hze,← hbeg] at z1
  rw [hze] at z2
  rw [hpe,he,Int.toNat_natCast] at hF
  rw [he] at hpc
  have hvl := I.vl
  obtain ⟨la,lc,hlv⟩ := I.ol.sl.shape
  obtain ⟨dv,D0,n0,v0,sz0,st0,iD,i19,iP,iS⟩ := I.dp
  have kk6 := I.kp X6 (.inr (.inl rfl))
  have kk11 := I.kp X11 (.inr (.inr (.inl rfl)))
  have kkp := I.kp p (.inr (.inr (.inr (.inl rfl))))
  have hcl := blk?_lt I.cb.blkc
  have lvlt : ∀ id,sid lv = some id → id < h.length := fun id hid => I.ol.lt hid
  generalize hH1 : h ++ [some (⟨false,[ifC d]⟩ : Blk)] = h1
  have l1 : h1.length = h.length + 1 := by rw [← hH1]; simp
  have k1 : ∀ id,id < h.length → blk? h1 id = blk? h id := fun id hid => by rw [← hH1]; exact blk?_push_lt hid
  have bk1 : blk? h1 h.length = some ⟨false,[ifC d]⟩ := by rw [← hH1]; exact blk?_push_eq
  have iD1 : DP h1 d pb dv D0 n0 s.a.p v0 sz0 st0 := iD.keep fun id hid => k1 id (iD.own_lt hid)
  have low1 : ∀ id,Q id → blk? h1 id = blk? hB id := fun id hid => by rw [k1 id (I.kp id (.inl hid)).2.2,I.low id hid]
  have hd1 := rk hd hdq low1 (by have := I.len; omega)
  obtain ⟨sv,es,hsl⟩ := seg_sl hd1 z1 z2
  have hDd : Dig (segD ds beg e) := fun x hx => hds x (List.mem_of_mem_take (List.mem_of_mem_drop hx))
  have hDl : (segD ds beg e).length < 100000000 := by unfold segD; rw [List.length_drop,List.length_take]; omega
  have own_lt : ∀ id,ownE d pb dv id → id < h.length := fun id hid => iD.own_lt hid
  have mkRI : ∀ (h2 : Heap) (v : Value) (own : Nat → Prop) (s1 : Rdg),s1.b = s.b → s1.ls = s.ls → (∀ id,id < h.length → ¬ ownE d pb dv id → blk? h2 id = blk? h id) → Sq h2 d pb v own s1.a s1.raw → blk? h2 h.length = some ⟨false,[v]⟩ →
    (∀ id,own id → ownE d pb dv id ∨ h1.length ≤ id) → (∀ xs q,s1.raw = some (xs,q) → q ≤ 0) → h1.length ≤ h2.length → RI Q hB h2 X6 X11 p c d pb h.length pl pv dv0 m v own lv vs s1 0 := by
   intro h2 v own s1 eb el kK K b1 hf hcn l2
   have kO : ∀ id,KpO Q X6 X11 p vs id → blk? h2 id = blk? h id := fun id hid => kK id (I.kp id hid).2.2 (fun x => (iS id x).1 hid)
   refine ⟨by rw [kO X6 (.inr (.inl rfl))]; exact I.b6,by rw [kO X11 (.inr (.inr (.inl rfl)))]; exact I.b11,⟨by rw [eb,kO p (.inr (.inr (.inr (.inl rfl))))]; exact I.cb.blkp,by rw [eb,kK c hcl (fun x => (iS c x).2.1 rfl)]; exact I.cb.blkc,by rw [eb]; exact I.cb.ok⟩,by rw [eb]; exact I.good,K,b1,
    own_lv I.ol fun id hid => kK id (lvlt id hid) (fun x => (iS id x).2.2 hid),by rw [el]; exact I.vl,fun i h1 h2 => ?_,fun id hid => ?_,fun id hid => ?_,I.nl,hcn,fun id hid => by rw [kO id (.inl hid)]; exact I.low id hid,by have := I.len; omega,by rw [el]; exact I.small,⟨fun x => by have := (I.kp _ (.inl x)).2.2; omega,by have := kk6.2.2; omega,by have := kk11.2.2; omega,by have := kkp.2.2; omega,fun w hw x => by have := (I.kp h.length (.inr (.inr (.inr (.inr ⟨w,hw,x⟩))))).2.2; omega⟩,I.cB⟩
   ·have e2 : s1.ls[i] = s.ls[i]'(by rw [← el]; exact h2) := by simp only [el]
    rw [e2]
    exact own_lv (I.each i h1 (by rw [← el]; exact h2)) fun id hid => kO id (.inr (.inr (.inr (.inr ⟨_,List.getElem_mem h1,hid⟩))))
   ·have old : KpO Q X6 X11 p vs id → ¬ own id ∧ id ≠ c ∧ sid lv ≠ some id ∧ id < h2.length := fun hid => by
     obtain ⟨q1,q2,q3⟩ := I.kp id hid
     exact ⟨fun x => (hf id x).elim (fun y => (iS id y).1 hid) (fun y => by omega),q1,q2,by omega⟩
    rcases hid with x | x | x | x | x | x
    ·exact old (.inl x)
    ·exact old (.inr (.inl x))
    ·exact old (.inr (.inr (.inl x)))
    ·exact old (.inr (.inr (.inr (.inl x))))
    ·subst x
     exact ⟨fun x => (hf _ x).elim (fun y => by have := own_lt _ y; omega) (fun y => by omega),by omega,fun x => by have := lvlt _ x; omega,by omega⟩
    ·exact old (.inr (.inr (.inr (.inr x))))
   ·rcases hf id hid with y | y
    ·exact (iS id y).2
    ·exact ⟨by omega,fun x => by have := lvlt _ x; omega⟩
  have hb62 := I.b6
  have hb112 := I.b11
  have e6 : blk? h1 X6 = some ⟨false,[.int .i64 pl,pv,dv0]⟩ := by rw [k1 X6 kk6.2.2]; exact I.b6
  have e11 : blk? h1 X11 = some ⟨false,[.bool m.byp,.bool m.res,.bool m.rst,.bool m.cz,.bool m.sy]⟩ := by rw [k1 X11 kk11.2.2]; exact I.b11
  have hraw := fun H R => raw_c (h := H) (R := R) (n := s.ls.length) (by omega) m
  simp only [MD.val] at hraw
  have w1 : IntKind.i64.wrap ((s.ls.length : Int) + (cnt : Int)) = ((s.ls.length + cnt : Nat) : Int) := by rw [wrapI (by omega) (by omega)]; omega
  have w2 : IntKind.i64.wrap (((s.ls.length + cnt : Nat) : Int) - 1) = ((s.ls.length + cnt - 1 : Nat) : Int) := by rw [wrapI (by omega) (by omega)]; omega
  have w3 : IntKind.i64.wrap ((gi : Int) + 1) = ((gi + 1 : Nat) : Int) := wrapN (n := gi + 1) (by omega)
  have hi1 : ((s.ls.length + cnt - 1 : Nat) : Int) < (ps.length : Int) := by omega
  have hi0 : (0 : Int) ≤ ((s.ls.length + cnt - 1 : Nat) : Int) := by omega
  have hit : (((s.ls.length + cnt - 1 : Nat) : Int)).toNat = s.ls.length + cnt - 1 := Int.toNat_natCast _
  have behind : ∀ (h9 : Heap) (lv9 : Value) (vs9 : List Value) (s9 : Rdg) (K0 K1 K2 K3 K5 K7 K8 K9 Ka Kc Kd Ke Kg Kl Km Kn Ko Kp Kq Kr Ks Kt Ku Kv Kw Kx Ky Kz J0 J1 J2 J3 J4 J5 J6 J7 J8 J9 Ja Jb Jc Jg Jh Ji Jj Jk Jl Jm Jn Jo Jp Jq Jr Js Jt Ju Jv Jw Jx Jy Jz Y0 Y1 Y2 Y3 Y4 Y5 Y6 Y7 Y8 Y9 Ya Yb Yc Yd Ye Yf Yg Yh Yi Yj Yk Yl Ym Yn Yo Yp Yq Yr Ys Yt Yu Yv Yw Yx Yy Yz Z0 Z1 Z2 Z3 Z4 Z5 Z6 Z7 Z8 Z9 Za Zb Zc Zd Ze Zf Zg Zh Zi Zj Zk Zl Zm : Value),RO Q hB h9 X6 X11 p c d pb pl pv dv0 m lv9 vs9 s9 → s9.ls.length = s.ls.length + cnt → segsR m pl o ps ds (gs.drop (gi + 1)) e s9 = sF →
    Ok tab R27 (.inBlock 1 :: .code (tlC 2 L27_1b) :: .inLoop L27_1 :: .inBlock 0 :: k) #[K0,K1,K2,K3,.int .i64 o,K5,ptr X6,K7,K8,K9,Ka,ptr X11,Kc,Kd,Ke,ptr p,Kg,ptr d,lv9,.int .i64 s9.snd,.int .i64 (e : Nat),Kl,Km,Kn,Ko,Kp,Kq,Kr,Ks,Kt,Ku,Kv,Kw,Kx,Ky,Kz,J0,J1,J2,J3,J4,J5,J6,J7,J8,J9,Ja,Jb,Jc,gv,.int .i64 (gs.length : Nat),.int .i64 (gi : Nat),Jg,Jh,Ji,Jj,Jk,Jl,Jm,Jn,Jo,Jp,Jq,Jr,Js,Jt,Ju,Jv,Jw,Jx,Jy,Jz,Y0,Y1,Y2,Y3,Y4,Y5,Y6,Y7,Y8,Y9,Ya,Yb,Yc,Yd,Ye,Yf,Yg,Yh,Yi,Yj,Yk,Yl,Ym,Yn,Yo,Yp,Yq,Yr,Ys,Yt,Yu,Yv,Yw,Yx,Yy,Yz,Z0,Z1,Z2,Z3,Z4,Z5,Z6,Z7,Z8,Z9,Za,Zb,Zc,Zd,Ze,Zf,Zg,Zh,Zi,Zj,Zk,Zl,Zm] h9 R := by
   intro h9 lv9 vs9 s9 K0 K1 K2 K3 K5 K7 K8 K9 Ka Kc Kd Ke Kg Kl Km Kn Ko Kp Kq Kr Ks Kt Ku Kv Kw Kx Ky Kz J0 J1 J2 J3 J4 J5 J6 J7 J8 J9 Ja Jb Jc Jg Jh Ji Jj Jk Jl Jm Jn Jo Jp Jq Jr Js Jt Ju Jv Jw Jx Jy Jz Y0 Y1 Y2 Y3 Y4 Y5 Y6 Y7 Y8 Y9 Ya Yb Yc Yd Ye Yf Yg Yh Yi Yj Yk Yl Ym Yn Yo Yp Yq Yr Ys Yt Yu Yv Yw Yx Yy Yz Z0 Z1 Z2 Z3 Z4 Z5 Z6 Z7 Z8 Z9 Za Zb Zc Zd Ze Zf Zg Zh Zi Zj Zk Zl Zm I9 hl9 hF9
   have ih' := fun K0 K1 K2 K3 K5 K7 K8 K9 Ka Kc Kd Ke Kg Kl Km Kn Ko Kp Kq Kr Ks Kt Ku Kv Kw Kx Ky Kz J0 J1 J2 J3 J4 J5 J6 J7 J8 J9 Ja Jb Jc Jg Jh Ji Jj Jk Jl Jm Jn Jo Jp Jq Jr Js Jt Ju Jv Jw Jx Jy Jz Y0 Y1 Y2 Y3 Y4 Y5 Y6 Y7 Y8 Y9 Ya Yb Yc Yd Ye Yf Yg Yh Yi Yj Yk Yl Ym Yn Yo Yp Yq Yr Ys Yt Yu Yv Yw Yx Yy Yz Z0 Z1 Z2 Z3 Z4 Z5 Z6 Z7 Z8 Z9 Za Zb Zc Zd Ze Zf Zg Zh Zi Zj Zk Zl Zm => ih (gi + 1) h9 lv9 vs9 s9 e K0 K1 K2 K3 K5 K7 K8 K9 Ka Kc Kd Ke Kg Kl Km Kn Ko Kp Kq Kr Ks Kt Ku Kv Kw Kx Ky Kz J0 J1 J2 J3 J4 J5 J6 J7 J8 J9 Ja Jb Jc Jg Jh Ji Jj Jk Jl Jm Jn Jo Jp Jq Jr Js Jt Ju Jv Jw Jx Jy Jz Y0 Y1 Y2 Y3 Y4 Y5 Y6 Y7 Y8 Y9 Ya Yb Yc Yd Ye Yf Yg Yh Yi Yj Yk Yl Ym Yn Yo Yp Yq Yr Ys Yt Yu Yv Yw Yx Yy Yz Z0 Z1 Z2 Z3 Z4 Z5 Z6 Z7 Z8 Z9 Za Zb Zc Zd Ze Zf Zg Zh Zi Zj Zk Zl Zm (by omega) I9 (by omega) (by rw [hl9,hze]) hF9
   generalize ((gi + 1 : Nat) : Int) = gi1 at *
   simp only [nthC,tlC,fstC,inB,L27_1b]
   simp [w3]
   exact ih' ..
  have go : ∀ (h2 : Heap) (v : Value) (own : Nat → Prop) (s1 : Rdg) (K0 K1 K2 K3 K5 K7 K8 K9 Ka Kc Kd Ke Kg Kl Kn Ko Kq Kr Ks Kt Ku Kv Kw Kx Ky Kz J0 J1 J2 J3 J4 J5 J6 J7 J8 J9 Ja Jb Jc Jg Jh Ji Jj Jk Jl Jm Jn Jo Jp Jq Jr Js Jt Ju Jv Jw Jx Jy Jz Y0 Y1 Y2 Y3 Y4 Y5 Y6 Y7 Y8 Y9 Ya Yb Yc Yd Ye Yf Yg Yh Yi Yj Yk Yl Ym Yn Yo Yp Yq Yr Ys Yt Yu Yv Yw Yx Yy Yz Z0 Z1 Z2 Z3 Z4 Z5 Z6 Z7 Z8 Z9 Za Zb Zc Zd Ze Zf Zg Zh Zi Zj Zk Zl Zm : Value),RI Q hB h2 X6 X11 p c d pb h.length pl pv dv0 m v own lv vs s1 0 → s1.ls = s.ls → s1.snd = s.snd → segsR m pl o ps ds (gs.drop (gi + 1)) e (passesR m pl o cnt s.ls.length s1) = sF →
    Ok tab R27 (.inLoop L27_0 :: .inBlock 2 :: .inBlock 1 :: .code (tlC 2 L27_1b) :: .inLoop L27_1 :: .inBlock 0 :: k) #[K0,K1,K2,K3,.int .i64 o,K5,ptr X6,K7,K8,K9,Ka,ptr X11,Kc,Kd,Ke,ptr p,Kg,ptr d,lv,.int .i64 s.snd,.int .i64 (e : Nat),Kl,.int .i64 (cnt : Nat),Kn,Ko,ptr h.length,Kq,Kr,Ks,Kt,Ku,Kv,Kw,Kx,Ky,Kz,J0,J1,J2,J3,J4,J5,J6,J7,J8,J9,Ja,Jb,Jc,gv,.int .i64 (gs.length : Nat),.int .i64 (gi : Nat),Jg,Jh,Ji,Jj,Jk,Jl,Jm,Jn,Jo,Jp,Jq,Jr,Js,Jt,Ju,Jv,Jw,Jx,Jy,Jz,Y0,Y1,Y2,Y3,Y4,Y5,Y6,Y7,Y8,Y9,Ya,Yb,Yc,Yd,Ye,Yf,Yg,Yh,Yi,Yj,Yk,Yl,Ym,Yn,Yo,Yp,Yq,Yr,Ys,Yt,Yu,Yv,Yw,Yx,Yy,Yz,Z0,Z1,Z2,Z3,Z4,Z5,Z6,Z7,Z8,Z9,Za,Zb,Zc,Zd,Ze,Zf,Zg,Zh,Zi,Zj,Zk,Zl,Zm] h2 R := by
   intro h2 v own s1 K0 K1 K2 K3 K5 K7 K8 K9 Ka Kc Kd Ke Kg Kl Kn Ko Kq Kr Ks Kt Ku Kv Kw Kx Ky Kz J0 J1 J2 J3 J4 J5 J6 J7 J8 J9 Ja Jb Jc Jg Jh Ji Jj Jk Jl Jm Jn Jo Jp Jq Jr Js Jt Ju Jv Jw Jx Jy Jz Y0 Y1 Y2 Y3 Y4 Y5 Y6 Y7 Y8 Y9 Ya Yb Yc Yd Ye Yf Yg Yh Yi Yj Yk Yl Ym Yn Yo Yp Yq Yr Ys Yt Yu Yv Yw Yx Yy Yz Z0 Z1 Z2 Z3 Z4 Z5 Z6 Z7 Z8 Z9 Za Zb Zc Zd Ze Zf Zg Zh Zi Zj Zk Zl Zm I2 el esn hF2
   have hlen : ∀ (q i : Nat) (s : Rdg),(passesR m pl o q i s).ls.length = s.ls.length + q := by
    intro q
    induction q with
    | zero => intro i s; rfl
    | succ q ihq => intro i s; simp only [passesR]; rw [ihq]; simp; omega
   have hPL := fun K0 K1 K2 K3 K5 K7 K8 K9 Ka Kc Kd Ke Kg Kl Kn Ko Kq Kr Ks Kt Ku Kv Kw Kx Ky Kz J0 J1 J2 J3 J4 J5 J6 J7 J8 J9 Ja Jb Jc Jg Jh Ji Jj Jk Jl Jm Jn Jo Jp Jq Jr Js Jt Ju Jv Jw Jx Jy Jz Y0 Y1 Y2 Y3 Y4 Y5 Y6 Y7 Y8 Y9 Ya Yb Yc Yd Ye Yf Yg Yh Yi Yj Yk Yl Ym Yn Yo Yp Yq Yr Ys Yt Yu Yv Yw Yx Yy Yz Z0 Z1 Z2 Z3 Z4 Z5 Z6 Z7 Z8 Z9 Za Zb Zc Zd Ze Zf Zg Zh Zi Zj Zk Zl Zm => pass_loop_d (k := .inBlock 1 :: .code (tlC 2 L27_1b) :: .inLoop L27_1 :: .inBlock 0 :: k) (o := o) (v20 := .int .i64 (e : Nat)) (v49 := gv) (v50 := .int .i64 (gs.length : Nat)) (v51 := .int .i64 (gi : Nat)) (sF := passesR m pl o cnt s1.ls.length s1) (R := R) (Q := Q) (hB := hB) (X6 := X6) (X11 := X11) (p := p) (c := c) (d := d) (pb := pb) (k1 := h.length) (pl := pl) (pv := pv) (dv0 := dv0) (m := m)
    (fun h9 v9 own9 lv9 vs9 N9 K0 K1 K2 K3 K5 K7 K8 K9 Ka Kc Kd Ke Kg Kl Km Kn Ko Kp Kq Kr Ks Kt Ku Kv Kw Kx Ky Kz J0 J1 J2 J3 J4 J5 J6 J7 J8 J9 Ja Jb Jc Jg Jh Ji Jj Jk Jl Jm Jn Jo Jp Jq Jr Js Jt Ju Jv Jw Jx Jy Jz Y0 Y1 Y2 Y3 Y4 Y5 Y6 Y7 Y8 Y9 Ya Yb Yc Yd Ye Yf Yg Yh Yi Yj Yk Yl Ym Yn Yo Yp Yq Yr Ys Yt Yu Yv Yw Yx Yy Yz Z0 Z1 Z2 Z3 Z4 Z5 Z6 Z7 Z8 Z9 Za Zb Zc Zd Ze Zf Zg Zh Zi Zj Zk Zl Zm I9 => behind h9 lv9 vs9 _ _ _ _ _ _ _ _ _ _ _ _ _ _ _ _ _ _ _ _ _ _ _ _ _ _ _ _ _ _ _ _ _ _ _ _ _ _ _ _ _ _ _ _ _ _ _ _ _ _ _ _ _ _ _ _ _ _ _ _ _ _ _ _ _ _ _ _ _ _ _ _ _ _ _ _ _ _ _ _ _ _ _ _ _ _ _ _ _ _ _ _ _ _ _ _ _ _ _ _ _ _ _ _ _ _ _ _ _ _ _ _ _ _ _ _ _ _ _ _ _ I9.ro (by rw [hlen,el]) (by rw [el]; exact hF2))
    cnt h2 v own lv vs s1 0 K0 K1 K2 K3 K5 K7 K8 K9 Ka Kc Kd Ke Kg Kl Kn Ko Kq Kr Ks Kt Ku Kv Kw Kx Ky Kz J0 J1 J2 J3 J4 J5 J6 J7 J8 J9 Ja Jb Jc Jg Jh Ji Jj Jk Jl Jm Jn Jo Jp Jq Jr Js Jt Ju Jv Jw Jx Jy Jz Y0 Y1 Y2 Y3 Y4 Y5 Y6 Y7 Y8 Y9 Ya Yb Yc Yd Ye Yf Yg Yh Yi Yj Yk Yl Ym Yn Yo Yp Yq Yr Ys Yt Yu Yv Yw Yx Yy Yz Z0 Z1 Z2 Z3 Z4 Z5 Z6 Z7 Z8 Z9 Za Zb Zc Zd Ze Zf Zg Zh Zi Zj Zk Zl Zm I2 (by rw [el]; omega) (by omega) rfl
   rw [esn] at hPL
   exact hPL ..
  clear ih behind
  rw [hvl] at hlv
  rw [epv] at e6 hb62
  generalize hnc : ((s.ls.length + cnt : Nat) : Int) = nc at *
  generalize hnc1 : ((s.ls.length + cnt - 1 : Nat) : Int) = nc1 at *
  cases hrw : rawOf m s.ls.length with
  | true =>
   rw [hrw] at hF hraw
   simp only [if_true] at hF
   obtain ⟨hx,q',svv,eN,J,kx,lx,fo⟩ := newReader_c hsl hDd hDl
   have bkx : blk? hx h.length = some ⟨false,[ifC d]⟩ := by rw [kx _ (by omega)]; exact bk1
   have hkx := blk?_lt bkx
   have I2 := mkRI (hx.set h.length (some ⟨false,[ifW q']⟩)) (ifW q') (fun id => ownE d pb dv id ∨ ownR q' svv id) { s with raw := some (segD ds beg e,0) } rfl rfl
    (fun id h3 h4 => by rw [blk?_set_ne (by omega),kx id (by omega),k1 id h3])
    (.raw (iD.keep fun id hid => by have := own_lt id hid; rw [blk?_set_ne (by omega),kx id (by omega),k1 id this]) i19 iP (J.keep fun id hid => by have := fo id hid; rw [blk?_set_ne (by omega)]) (fun id h3 h4 => by have := own_lt id h3; have := fo id h4; omega))
    (blk?_set_eq hkx) (fun id hid => hid.elim .inl fun y => .inr (fo id y)) (fun xs qq hq => by simp only [Option.some.injEq,Prod.mk.injEq] at hq; omega) (by rw [List.length_set]; exact lx)
   have go' := fun K0 K1 K2 K3 K5 K7 K8 K9 Ka Kc Kd Ke Kg Kl Kn Ko Kq Kr Ks Kt Ku Kv Kw Kx Ky Kz J0 J1 J2 J3 J4 J5 J6 J7 J8 J9 Ja Jb Jc Jg Jh Ji Jj Jk Jl Jm Jn Jo Jp Jq Jr Js Jt Ju Jv Jw Jx Jy Jz Y0 Y1 Y2 Y3 Y4 Y5 Y6 Y7 Y8 Y9 Ya Yb Yc Yd Ye Yf Yg Yh Yi Yj Yk Yl Ym Yn Yo Yp Yq Yr Ys Yt Yu Yv Yw Yx Yy Yz Z0 Z1 Z2 Z3 Z4 Z5 Z6 Z7 Z8 Z9 Za Zb Zc Zd Ze Zf Zg Zh Zi Zj Zk Zl Zm => go _ _ _ _ K0 K1 K2 K3 K5 K7 K8 K9 Ka Kc Kd Ke Kg Kl Kn Ko Kq Kr Ks Kt Ku Kv Kw Kx Ky Kz J0 J1 J2 J3 J4 J5 J6 J7 J8 J9 Ja Jb Jc Jg Jh Ji Jj Jk Jl Jm Jn Jo Jp Jq Jr Js Jt Ju Jv Jw Jx Jy Jz Y0 Y1 Y2 Y3 Y4 Y5 Y6 Y7 Y8 Y9 Ya Yb Yc Yd Ye Yf Yg Yh Yi Yj Yk Yl Ym Yn Yo Yp Yq Yr Ys Yt Yu Yv Yw Yx Yy Yz Z0 Z1 Z2 Z3 Z4 Z5 Z6 Z7 Z8 Z9 Za Zb Zc Zd Ze Zf Zg Zh Zi Zj Zk Zl Zm I2 rfl rfl hF
   clear go
   rw [egv] at go' ⊢
   rw [hlv] at go' ⊢
   rw [ok_round,l27_1,L27_1a,show L27_1b = .seq (nthC 0 L27_1b) (.seq (nthC 1 L27_1b) (tlC 2 L27_1b)) from rfl]
   generalize tlC 2 L27_1b = tl2 at *
   simp only [nthC,tlC,fstC,inB,L27_1b]
   simp [hlt,hgb,hgc0,hb62,w1,w2,hi1,hi0,hit,hpb,hpc,hH1,blk?_push_eq,e11,hraw,e6,es,eN,bkx]
   exact go' ..
  | false =>
   rw [hrw] at hF hraw
   simp only [Bool.false_eq_true,if_false] at hF
   obtain ⟨hx,dv',n',eS,Ix,hdr,Fx⟩ := dstart_c iD1 (by omega) hsl hDd hDl
   have lx := Fx.len
   have hlen' : ∀ id,ownE d pb dv' id → ownE d pb dv id ∨ h1.length ≤ id := fun id hid => by
    rcases hid with hid | hid | hid
    ·exact .inl (.inl hid)
    ·exact .inl (.inr (.inl hid))
    ·rcases Fx.fresh id hid with y | y
     ·exact .inl (.inr (.inr y))
     ·exact .inr y.1
   have kx : ∀ id,id < h1.length → ¬ ownE d pb dv id → blk? hx id = blk? h1 id := fun id h3 h4 => Fx.same id h3 (fun y => h4 (.inl y)) (fun y => h4 (.inr (.inl y))) (fun y => h4 (.inr (.inr y)))
   have bkx : blk? hx h.length = some ⟨false,[ifC d]⟩ := by rw [kx _ (by omega) (fun y => by have := own_lt _ y; omega)]; exact bk1
   have I2 := mkRI hx (ifC d) (ownE d pb dv') { s with a := AD.start s.a.p (segD ds beg e),raw := none } rfl rfl
    (fun id h3 h4 => by rw [kx id (by omega) h4,k1 id h3])
    (.cod (a := AD.start s.a.p (segD ds beg e)) ⟨Ix,hdr,AD.start_ok iP hDd,by simp only [AD.start]; omega⟩ i19 hDd hDl) bkx hlen' (fun xs qq hq => by cases hq) lx
   have go' := fun K0 K1 K2 K3 K5 K7 K8 K9 Ka Kc Kd Ke Kg Kl Kn Ko Kq Kr Ks Kt Ku Kv Kw Kx Ky Kz J0 J1 J2 J3 J4 J5 J6 J7 J8 J9 Ja Jb Jc Jg Jh Ji Jj Jk Jl Jm Jn Jo Jp Jq Jr Js Jt Ju Jv Jw Jx Jy Jz Y0 Y1 Y2 Y3 Y4 Y5 Y6 Y7 Y8 Y9 Ya Yb Yc Yd Ye Yf Yg Yh Yi Yj Yk Yl Ym Yn Yo Yp Yq Yr Ys Yt Yu Yv Yw Yx Yy Yz Z0 Z1 Z2 Z3 Z4 Z5 Z6 Z7 Z8 Z9 Za Zb Zc Zd Ze Zf Zg Zh Zi Zj Zk Zl Zm => go _ _ _ _ K0 K1 K2 K3 K5 K7 K8 K9 Ka Kc Kd Ke Kg Kl Kn Ko Kq Kr Ks Kt Ku Kv Kw Kx Ky Kz J0 J1 J2 J3 J4 J5 J6 J7 J8 J9 Ja Jb Jc Jg Jh Ji Jj Jk Jl Jm Jn Jo Jp Jq Jr Js Jt Ju Jv Jw Jx Jy Jz Y0 Y1 Y2 Y3 Y4 Y5 Y6 Y7 Y8 Y9 Ya Yb Yc Yd Ye Yf Yg Yh Yi Yj Yk Yl Ym Yn Yo Yp Yq Yr Ys Yt Yu Yv Yw Yx Yy Yz Z0 Z1 Z2 Z3 Z4 Z5 Z6 Z7 Z8 Z9 Za Zb Zc Zd Ze Zf Zg Zh Zi Zj Zk Zl Zm I2 rfl rfl hF
   clear go
   rw [egv] at go' ⊢
   rw [hlv] at go' ⊢
   rw [ok_round,l27_1,L27_1a,show L27_1b = .seq (nthC 0 L27_1b) (.seq (nthC 1 L27_1b) (tlC 2 L27_1b)) from rfl]
   generalize tlC 2 L27_1b = tl2 at *
   simp only [nthC,tlC,fstC,inB,L27_1b]
   simp [hlt,hgb,hgc0,hb62,w1,w2,hi1,hi0,hit,hpb,hpc,hH1,blk?_push_eq,e11,hraw,e6,es,eS]
   exact go' ..
end
def readP (m : MD) (pl o : Int) (ps : List Int) (ds : List Nat) (n w hh : Nat) : Rdg := segsR m pl o ps ds (segsOf m n) 0 ⟨⟨AE.base 19,[],0,0⟩,none,newBS w hh,(n : Int),[]⟩
structure RdV (B : Nat) (h : Heap) (lv : Value) (ls : List (List (Int × Nat))) : Prop where
 ex : ∃ vs,OwnS h 1 lv vs.length vs ∧ vs.length = ls.length ∧ (∀ i (h1 : i < vs.length) (h2 : i < ls.length),OwnS h 2 vs[i] ls[i].length (encS ls[i])) ∧ ∀ l ∈ ls,l.length ≤ 20000
section
variable {R : RP} {h : Heap}
theorem read_c {pv dv0 : Value} {pl o : Int} {ps : List Int} {ds : List Nat} {n w hh : Nat} (m : MD) (hp : Rk .i64 h pv ps) (hd : Rk .u8 h dv0 (ds.map Int.ofNat)) (hps : ∀ x ∈ ps,0 ≤ x) (hz : ∀ i j,i ≤ j → j ≤ ps.length → zE ps i ≤ zE ps j ∧ zE ps j ≤ ds.length)
  (hdl : ds.length < 100000000) (hds : ∀ x ∈ ds,x < 256) (hpl : ps.length ≤ 178) (hn : n ≤ ps.length) (w1 : 1 ≤ w) (w2 : w ≤ 64) (h1 : 1 ≤ hh) (h2 : hh ≤ 64) :
  ∃ lv h',(∀ R : RP,Ret tab 27 [.agg #[.int .i64 pl,pv,dv0],.int .i64 (n : Nat),.int .i64 (w : Nat),.int .i64 (hh : Nat),.int .i64 o,m.val] h R = R (.tuple #[lv,.int .i64 (readP m pl o ps ds n w hh).snd,.int .i64 0]) h') ∧
   RdV h.length h' lv (readP m pl o ps ds n w hh).ls ∧ (∀ id,id < h.length → blk? h' id = blk? h id) ∧ h.length ≤ h'.length := by
 have key : ∀ R0 : RP,(∀ lv h',RdV h.length h' lv (readP m pl o ps ds n w hh).ls → (∀ id,id < h.length → blk? h' id = blk? h id) → h.length ≤ h'.length → R0 (.tuple #[lv,.int .i64 (readP m pl o ps ds n w hh).snd,.int .i64 0]) h') →
   Ret tab 27 [.agg #[.int .i64 pl,pv,dv0],.int .i64 (n : Nat),.int .i64 (w : Nat),.int .i64 (hh : Nat),.int .i64 o,m.val] h R0 := by
  intro R0 hR
  generalize hH : h ++ [some (⟨false,[.int .i64 pl,pv,dv0]⟩ : Blk),some ⟨false,[.bool m.byp,.bool m.res,.bool m.rst,.bool m.cz,.bool m.sy]⟩] = H
  have lH : H.length = h.length + 2 := by rw [← hH]; simp
  have kH : ∀ id,id < h.length → blk? H id = blk? h id := fun id hid => by rw [← hH]; exact app_lt hid
  have b6 : blk? H h.length = some ⟨false,[.int .i64 pl,pv,dv0]⟩ := by rw [← hH,app_len]; rfl
  have b11 : blk? H (h.length + 1) = some ⟨false,[.bool m.byp,.bool m.res,.bool m.rst,.bool m.cz,.bool m.sy]⟩ := by rw [← hH,app_add]; rfl
  have e1 := fun R => new_c (h := H) (R := R) w1 w2 h1 h2
  have cb1 := newHeap_cb H w1 w2 h1 h2
  have k1 := newHeap_low H w hh
  have l1 := newHeap_len H w hh
  generalize newHeap H w hh = H1 at *
  obtain ⟨H2,d,pb,e2,iD,hdB,hpB,l2,k2⟩ := newDec_c (h := H1) (m := 19) (by omega) (by omega)
  obtain ⟨H3,gv,e3,og,k3,l3,gB⟩ := segs_c (h := H2) n m (by omega)
  obtain ⟨sg1,sg2,sg3⟩ := segs_sum (m := m) (n := n) (by omega)
  have k13 : ∀ id,id < H1.length → blk? H3 id = blk? H1 id := fun id hid => by rw [k3 id (by omega),k2 id hid]
  have kH3 : ∀ id,id < H.length → blk? H3 id = blk? H id := fun id hid => by rw [k13 id (by omega),k1 id hid]
  have kh3 : ∀ id,id < h.length → blk? H3 id = blk? h id := fun id hid => by rw [kH3 id (by omega),kH id hid]
  obtain ⟨ga,gc,hgv⟩ := og.sl.shape
  have iD3 : DP H3 d pb (.slice none 0 0) [] 0 (AE.base 19) 0 0 false := iD.keep fun id hid => k3 id (iD.own_lt hid)
  have oE : ∀ id,ownE d pb (.slice none 0 0) id → H1.length ≤ id ∧ id < H2.length := fun id hid => by
   have := iD.own_lt hid
   rcases hid with rfl | rfl | hid
   ·exact ⟨hdB,this⟩
   ·exact ⟨hpB,this⟩
   ·simp [sid] at hid
  have gl : ∀ id,sid gv = some id → H2.length ≤ id ∧ id < H3.length := fun id hid => ⟨gB id hid,og.lt hid⟩
  have hp3 : Rk .i64 H3 pv ps := hp.keep (by omega) fun id hid _ => kh3 id hid
  have hd3 : Rk .u8 H3 dv0 (ds.map Int.ofNat) := hd.keep (by omega) fun id hid _ => kh3 id hid
  have I0 : RO (fun id => id < h.length ∨ sid gv = some id) H3 H3 h.length (h.length + 1) (H.length + 1) H.length d pb pl pv dv0 m (.slice none 0 0) [] ⟨⟨AE.base 19,[],0,0⟩,none,newBS w hh,(n : Int),[]⟩ := by
   refine ⟨by rw [kH3 _ (by omega)]; exact b6,by rw [kH3 _ (by omega)]; exact b11,⟨by rw [k13 _ (by omega)]; exact cb1.blkp,by rw [k13 _ (by omega)]; exact cb1.blkc,cb1.ok⟩,newBS_good w1 w2 h1 h2,⟨_,_,_,_,_,_,iD3,by simp [AE.base],base_ok 19,fun id hid => ⟨?_,?_,by simp [sid]⟩⟩,OwnS.nil _ _,rfl,fun i h1 _ => by simp at h1,fun id hid => ⟨?_,by simp [sid],?_⟩,by simp [sid],fun _ _ => rfl,Nat.le_refl _,fun l hl => (by cases hl),⟨?_,by omega,by omega⟩⟩
   ·have := oE id hid
    rintro ((x | x) | x | x | x | ⟨w,hw,_⟩)
    ·omega
    ·have := gl id x; omega
    ·omega
    ·omega
    ·omega
    ·cases hw
   ·have := oE id hid; omega
   ·rcases hid with (x | x) | x | x | x | ⟨w,hw,_⟩
    ·omega
    ·have := gl id x; omega
    ·omega
    ·omega
    ·omega
    ·cases hw
   ·rcases hid with (x | x) | x | x | x | ⟨w,hw,_⟩
    ·omega
    ·exact (gl id x).2
    ·omega
    ·omega
    ·omega
    ·cases hw
   ·rintro (x | x)
    ·omega
    ·have := gl _ x; omega
  have hL := fun K0 K1 K2 K3 K5 K7 K8 K9 Ka Kc Kd Ke Kg Kl Km Kn Ko Kp Kq Kr Ks Kt Ku Kv Kw Kx Ky Kz J0 J1 J2 J3 J4 J5 J6 J7 J8 J9 Ja Jb Jc Jg Jh Ji Jj Jk Jl Jm Jn Jo Jp Jq Jr Js Jt Ju Jv Jw Jx Jy Jz Y0 Y1 Y2 Y3 Y4 Y5 Y6 Y7 Y8 Y9 Ya Yb Yc Yd Ye Yf Yg Yh Yi Yj Yk Yl Ym Yn Yo Yp Yq Yr Ys Yt Yu Yv Yw Yx Yy Yz Z0 Z1 Z2 Z3 Z4 Z5 Z6 Z7 Z8 Z9 Za Zb Zc Zd Ze Zf Zg Zh Zi Zj Zk Zl Zm => seg_loop_d (R := R0) (k := [.code (tlC 8 B27)]) (o := o) (sF := readP m pl o ps ds n w hh) (Q := fun id => id < h.length ∨ sid gv = some id) (hB := H3) og.sl (fun id hid => .inr hid) hp3 (fun id hid => .inl (hp.lt hid)) hd3 (fun id hid => .inl (hd.lt hid))
   (fun x hx => (sg3 x hx).1) hps hz hdl hds hpl (by omega)
   (fun h9 lv vs K0 K1 K2 K3 K4 K5 K6 K7 K8 K9 Ka Kb Kc Kd Ke Kf Kg Kh Kk Kl Km Kn Ko Kp Kq Kr Ks Kt Ku Kv Kw Kx Ky Kz J0 J1 J2 J3 J4 J5 J6 J7 J8 J9 Ja Jb Jc Jd Je Jf Jg Jh Ji Jj Jk Jl Jm Jn Jo Jp Jq Jr Js Jt Ju Jv Jw Jx Jy Jz Y0 Y1 Y2 Y3 Y4 Y5 Y6 Y7 Y8 Y9 Ya Yb Yc Yd Ye Yf Yg Yh Yi Yj Yk Yl Ym Yn Yo Yp Yq Yr Ys Yt Yu Yv Yw Yx Yy Yz Z0 Z1 Z2 Z3 Z4 Z5 Z6 Z7 Z8 Z9 Za Zb Zc Zd Ze Zf Zg Zh Zi Zj Zk Zl Zm I9 => by
    obtain ⟨ta,tc,ht⟩ := I9.ol.sl.shape
    have hR' := hR lv h9 ⟨⟨vs,I9.ol,I9.vl,I9.each,I9.small⟩⟩ (fun id hid => by rw [I9.low id (.inl hid),kh3 id hid]) (by have := I9.len; omega)
    simp only [nthC,tlC,fstC,B27]
    simp [fin27]
    exact hR')
   (segsOf m n).length 0 H3 (.slice none 0 0) [] _ 0 K0 K1 K2 K3 K5 K7 K8 K9 Ka Kc Kd Ke Kg Kl Km Kn Ko Kp Kq Kr Ks Kt Ku Kv Kw Kx Ky Kz J0 J1 J2 J3 J4 J5 J6 J7 J8 J9 Ja Jb Jc Jg Jh Ji Jj Jk Jl Jm Jn Jo Jp Jq Jr Js Jt Ju Jv Jw Jx Jy Jz Y0 Y1 Y2 Y3 Y4 Y5 Y6 Y7 Y8 Y9 Ya Yb Yc Yd Ye Yf Yg Yh Yi Yj Yk Yl Ym Yn Yo Yp Yq Yr Ys Yt Yu Yv Yw Yx Yy Yz Z0 Z1 Z2 Z3 Z4 Z5 Z6 Z7 Z8 Z9 Za Zb Zc Zd Ze Zf Zg Zh Zi Zj Zk Zl Zm (by omega) I0 (by rw [List.drop_zero]; simp; omega) (by simp [zE]) (by rw [List.drop_zero]; rfl)
  have b112 : blk? H2 (h.length + 1) = some ⟨false,[.bool m.byp,.bool m.res,.bool m.rst,.bool m.cz,.bool m.sy]⟩ := by rw [k2 _ (by omega),k1 _ (by omega)]; exact b11
  simp only [MD.val,Int.cast_ofNat_Int] at e2 e3 hL
  rw [hgv] at e3 hL
  generalize (segsOf m n).length = gl at *
  rw [enter27,show B27 = .seq (nthC 0 B27) (.seq (nthC 1 B27) (.seq (nthC 2 B27) (.seq (nthC 3 B27) (.seq (nthC 4 B27) (.seq (nthC 5 B27) (.seq (nthC 6 B27) (.seq (nthC 7 B27) (tlC 8 B27)))))))) from rfl]
  generalize tlC 8 B27 = tl at *
  simp only [nthC,tlC,fstC,B27]
  simp [MD.val,hH,e1,e2,b112,e3]
  exact hL ..
 obtain ⟨v,h',e,lv,rfl,a,b,c⟩ := ret_ex (key (fun v h' => ∃ lv,v = .tuple #[lv,.int .i64 (readP m pl o ps ds n w hh).snd,.int .i64 0] ∧ RdV h.length h' lv (readP m pl o ps ds n w hh).ls ∧ (∀ id,id < h.length → blk? h' id = blk? h id) ∧ h.length ≤ h'.length) fun lv h' a b c => ⟨lv,rfl,a,b,c⟩)
 exact ⟨lv,h',e,a,b,c⟩
end
theorem vgo_get : ∀ (ps : List Int) (l r : Int),vgo ps l = some r → ∀ i,i < ps.length → l ≤ ps.getD i 0 ∧ ps.getD i 0 ≤ r
 | [],_,_,_,i,h => by simp at h
 | x :: xs,l,r,hv,i,h => by
  unfold vgo at hv
  split at hv
  ·cases hv
  ·rename_i hx
   cases i with
   | zero =>
    refine ⟨by simp; omega,?_⟩
    cases xs with
    | nil => simp [vgo] at hv; simp; omega
    | cons y ys => have := vgo_get (y :: ys) x r hv 0 (by simp); simp at this ⊢; omega
   | succ i =>
    have := vgo_get xs x r hv i (by simpa using h)
    simp only [List.getD_cons_succ]; omega
theorem valid_ends {pl : Int} {ps ds : List Int} (h : validP pl ps ds = 0) : 0 ≤ pl ∧ pl ≤ 60 ∧ ((ps.length : Int) ≤ max 0 (3 * pl - 2)) ∧ vgo ps 0 = some (ds.length : Int) ∧ ds.length ≤ 65535 := by
 unfold validP at h
 split at h
 ·cases h
 ·split at h
  ·cases h
  ·split at h
   ·cases h
   ·rename_i l hl
    split at h
    ·cases h
    ·rename_i h4
     split at h
     ·cases h
     ·rw [hl]; simp only [ne_eq,Decidable.not_not] at h4; subst h4; refine ⟨by omega,by omega,by omega,rfl,by omega⟩
section
variable {h : Heap} {R : RP} {k : List RItem} {pv dv pv' dv' : Value} {pl pl' : Int} {ps ps' ds ds' : List Int} {m : MD}
end
def checkP (pl : Int) (ps ds : List Int) (n w hh o : Int) : Int :=
 if validP pl ps ds ≠ 0 then validP pl ps ds
 else if n < 0 ∨ (ps.length : Int) < n ∨ w < 1 ∨ 64 < w ∨ hh < 1 ∨ 64 < hh then 2
 else if o < 0 ∨ 3 < o then 3 else 0
section
variable {h : Heap} {pv dv : Value} {pl : Int} {ps ds : List Int} {m : MD}
theorem check_c (hp : Rk .i64 h pv ps) (hd : Rk .u8 h dv ds) (hl : ps.length < 1000000) (hdl : ds.length < 1000000000) (n w hh o : Int) :
  Gives 26 [.agg #[.int .i64 pl,pv,dv],.int .i64 n,.int .i64 w,.int .i64 hh,.int .i64 o,m.val] h (.int .i64 (checkP pl ps ds n w hh o)) := by
 refine Gives.mk fun R0 hR => ?_
 generalize hH : h ++ [some (⟨false,[.int .i64 pl,pv,dv]⟩ : Blk),some ⟨false,[.bool m.byp,.bool m.res,.bool m.rst,.bool m.cz,.bool m.sy]⟩] = H
 have lH : H.length = h.length + 2 := by rw [← hH]; simp
 have b0 : blk? H h.length = some ⟨false,[.int .i64 pl,pv,dv]⟩ := by rw [← hH,app_len]; rfl
 have b1 : blk? H (h.length + 1) = some ⟨false,[.bool m.byp,.bool m.res,.bool m.rst,.bool m.cz,.bool m.sy]⟩ := by rw [← hH,app_add]; rfl
 have hpH : Rk .i64 H pv ps := by rw [← hH]; exact hp.push _
 have hdH : Rk .u8 H dv ds := by rw [← hH]; exact hd.push _
 obtain ⟨H1,e1,k1,l1⟩ := valid_c (m := m) (pl := pl) hpH hdH hl hdl
 have b01 : blk? H1 h.length = some ⟨false,[.int .i64 pl,pv,dv]⟩ := by rw [k1 _ (by omega)]; exact b0
 have hR' := hR H1 (fun id hid => by rw [k1 id (by omega),← hH]; exact app_lt hid) (by omega)
 clear hR
 obtain ⟨pa,pc,hpv⟩ := hp.sl.shape
 simp only [MD.val] at e1
 unfold checkP at hR'
 rw [enter26,B26]
 by_cases v0 : validP pl ps ds = 0
 case neg =>
  have v0' : (validP pl ps ds != 0) = true := by simpa using v0
  rw [if_pos v0] at hR'
  simp [k_guard,k_guardU,MD.val,hH,b0,b1,e1,v0',fin26]
  exact hR'
 have v0' : (validP pl ps ds != 0) = false := by simpa using v0
 rw [if_neg (by simp [v0])] at hR'
 rw [hpv] at hH b0 b01 e1
 rw [hpv]
 by_cases c1 : n < 0
 ·rw [if_pos (.inl c1)] at hR'
  simp [k_guard,k_guardU,MD.val,hH,b0,b1,e1,v0',c1,fin26]
  exact hR'
 by_cases c2 : (ps.length : Int) < n
 ·rw [if_pos (.inr (.inl c2))] at hR'
  simp [k_guard,k_guardU,MD.val,hH,b0,b1,e1,v0',b01,c1,c2,fin26]
  exact hR'
 by_cases c3 : w < 1
 ·rw [if_pos (.inr (.inr (.inl c3)))] at hR'
  simp [k_guard,k_guardU,MD.val,hH,b0,b1,e1,v0',b01,c1,c2,c3,fin26]
  exact hR'
 by_cases c4 : 64 < w
 ·rw [if_pos (.inr (.inr (.inr (.inl c4))))] at hR'
  simp [k_guard,k_guardU,MD.val,hH,b0,b1,e1,v0',b01,c1,c2,c3,c4,fin26]
  exact hR'
 by_cases c5 : hh < 1
 ·rw [if_pos (.inr (.inr (.inr (.inr (.inl c5)))))] at hR'
  simp [k_guard,k_guardU,MD.val,hH,b0,b1,e1,v0',b01,c1,c2,c3,c4,c5,fin26]
  exact hR'
 by_cases c6 : 64 < hh
 ·rw [if_pos (.inr (.inr (.inr (.inr (.inr c6)))))] at hR'
  simp [k_guard,k_guardU,MD.val,hH,b0,b1,e1,v0',b01,c1,c2,c3,c4,c5,c6,fin26]
  exact hR'
 rw [if_neg (by omega)] at hR'
 by_cases c7 : o < 0
 ·rw [if_pos (.inl c7)] at hR'
  simp [k_guard,k_guardU,MD.val,hH,b0,b1,e1,v0',b01,c1,c2,c3,c4,c5,c6,c7,fin26]
  exact hR'
 by_cases c8 : 3 < o
 ·rw [if_pos (.inr c8)] at hR'
  simp [k_guard,k_guardU,MD.val,hH,b0,b1,e1,v0',b01,c1,c2,c3,c4,c5,c6,c7,c8,fin26]
  exact hR'
 rw [if_neg (by omega)] at hR'
 simp [k_guard,k_guardU,MD.val,hH,b0,b1,e1,v0',b01,c1,c2,c3,c4,c5,c6,c7,c8,fin26]
 exact hR'
end
theorem vgo_take' : ∀ (ps : List Int) (l r : Int),vgo ps l = some r → ∀ a,a ≤ ps.length → vgo (ps.take a) l = some (if a = 0 then l else ps.getD (a - 1) 0)
 | ps,l,r,hv,0,_ => by simp [vgo]
 | [],l,r,hv,a + 1,h => by simp at h
 | x :: xs,l,r,hv,a + 1,h => by
  unfold vgo at hv
  split at hv
  ·cases hv
  ·rename_i hx
   have := vgo_take' xs x r hv a (by simpa using h)
   rw [List.take_succ_cons,vgo,if_neg hx,this]
   cases a with
   | zero => simp
   | succ a => simp
theorem valid_zE {pl : Int} {ps ds : List Int} (hv : validP pl ps ds = 0) : (∀ x ∈ ps,0 ≤ x) ∧ ∀ i j,i ≤ j → j ≤ ps.length → zE ps i ≤ zE ps j ∧ zE ps j ≤ ds.length := by
 obtain ⟨_,_,_,hg,_⟩ := valid_ends hv
 refine ⟨fun x hx => ?_,fun i j hij hj => ?_⟩
 ·obtain ⟨k,hk,rfl⟩ := List.getElem_of_mem hx
  have := vgo_get ps 0 _ hg k hk
  simpa [hk] using this.1
 ·unfold zE
  by_cases j0 : j = 0
  ·have : i = 0 := by omega
   subst this j0; simp
  ·have hb := vgo_get ps 0 _ hg (j - 1) (by omega)
   rw [if_neg j0]
   refine ⟨?_,by omega⟩
   by_cases i0 : i = 0
   ·rw [if_pos i0]; omega
   ·rw [if_neg i0]
    have h1 := vgo_take' ps 0 _ hg j hj
    rw [if_neg j0] at h1
    have h2 := vgo_get _ 0 _ h1 (i - 1) (by rw [List.length_take]; omega)
    have e : (ps.take j).getD (i - 1) 0 = ps.getD (i - 1) 0 := by rw [List.getD_eq_getElem?_getD,List.getD_eq_getElem?_getD,List.getElem?_take,if_pos (by omega)]
    rw [e] at h2
    omega
theorem Sl.tail {h : Heap} {s : Value} {l : List (Int × Int)} {p : Int × Int} (hs : Sl h 2 s (l.length + 1) (encP (p :: l))) :
  ∃ id off b,s = .slice (some ⟨id,off,none⟩) (l.length + 1) 2 ∧ blk? h id = some b ∧ b.cells[off]? = some (.int .i64 p.1) ∧ b.cells[off + 1]? = some (.int .i64 p.2) ∧ Sl h 2 (.slice (some ⟨id,off + 2,none⟩) l.length 2) l.length (encP l) := by
 obtain ⟨id,off,b,e,hb,hc⟩ := hs.get (i := 0) (by omega)
 have c0 := hc 0 (by omega)
 have c1 := hc 1 (by omega)
 simp [encP] at c0 c1
 refine ⟨id,off,b,e,hb,c0,c1,by rw [encP_len],.inr ⟨id,off + 2,rfl,?_⟩⟩
 obtain ⟨hl,hs⟩ := hs
 rcases hs with ⟨rfl,h0⟩ | ⟨id',off',e',h0 | ⟨b',hb',hle,hct⟩⟩
 ·cases e
 ·omega
 ·rw [e] at e'
  injection e' with e1 e2 e3
  injection e1 with e1
  injection e1 with e1 e4
  subst e1 e4
  rw [hb] at hb'
  injection hb' with hb'
  subst hb'
  refine .inr ⟨b,hb,by omega,?_⟩
  have h2 := congrArg (List.drop 2) hct
  rw [List.drop_take,List.drop_drop] at h2
  simp [encP] at h2
  rw [← h2]
  congr 1
  omega
structure RelV (c sb : Nat) (h : Heap) (sv : Value) (s : List (Int × Int) × Bool) : Prop where
 blk : blk? h sb = some ⟨false,[sv,.bool s.2]⟩
 sl : Sl h 2 sv s.1.length (encP s.1)
 far : ∀ id,sid sv = some id → id < h.length ∧ id ≠ c ∧ id ≠ sb
 ne : sb ≠ c
theorem next_d {c sb : Nat} {h : Heap} {sv : Value} {s : List (Int × Int) × Bool} (hr : RelV c sb h sv s) (x : Int) :
  ∃ sv' h' v,(∀ R,Ret tab 63 [ptr sb,.int .i64 x] h R = R (.int .i64 v) h') ∧ (v != 0) = (askV s x).1 ∧ RelV c sb h' sv' (askV s x).2 ∧ Stu h h' (fun id => id = sb) (fun id => id = sb) := by
 obtain ⟨l,bad⟩ := s
 obtain ⟨hb,hsl,hf,hne⟩ := hr
 simp only at hb hsl
 have hls := blk?_lt hb
 have hset : ∀ sv' bad',Stu h (h.set sb (some ⟨false,[sv',.bool bad']⟩)) (fun id => id = sb) (fun id => id = sb) := fun sv' bad' => ⟨by simp,fun id h1 h2 => blk?_set_ne (fun e => h2 e.symm),fun id h => .inl h⟩
 have hE : ∀ x : Blk,blk? (h.set sb (some x)) sb = some x := fun x => blk?_set_eq hls
 have hbad : askV (l,bad) x = (false,(l,true)) → RelV c sb (h.set sb (some ⟨false,[sv,.bool true]⟩)) sv (askV (l,bad) x).2 := by
  intro e
  rw [e]
  refine ⟨hE _,hsl.of_sid fun id b hid hb => ?_,fun id hid => by simpa using hf id hid,hne⟩
  rw [blk?_set_ne (fun e => (hf id hid).2.2 e.symm)]; exact hb
 cases l with
 | nil =>
  obtain ⟨a,cc,hsh⟩ := hsl.shape
  have e : askV ([],bad) x = (false,([],true)) := by cases bad <;> rfl
  refine ⟨sv,h.set sb (some ⟨false,[sv,.bool true]⟩),0,fun R => ?_,by rw [e]; rfl,hbad e,hset _ _⟩
  rw [enter63,B63]
  subst hsh
  simp [k_guard,k_guardU,hb,hE,fin63]
 | cons p l =>
  obtain ⟨id,off,b,rfl,hbk,c0,c1,htl⟩ := Sl.tail hsl
  have hfar := hf id rfl
  obtain ⟨p1,p2⟩ := p
  simp only at c0 c1
  by_cases h1 : p1 = x
  ·subst h1
   by_cases h2 : p2 = 0 ∨ p2 = 1
   ·-- a bit
    cases bad
    ·have e : askV ((p1,p2) :: l,false) p1 = (p2 == 1,(l,false)) := by simp only [askV]; rw [if_pos ⟨trivial,h2⟩]
     refine ⟨.slice (some ⟨id,off + 2,none⟩) l.length 2,h.set sb (some ⟨false,[.slice (some ⟨id,off + 2,none⟩) l.length 2,.bool false]⟩),p2,fun R => ?_,by rw [e]; rcases h2 with rfl | rfl <;> rfl,?_,hset _ _⟩
     ·rw [enter63,B63]
      have hnl : ((l.length : Int) + 1 == 0) = false := by simp; omega
      have hpos : (0 : Int) < (l.length : Int) + 1 := by omega
      have hsv : sliceV 2 (.slice (some ⟨id,off,none⟩) (l.length + 1) 2) (some (.int .i64 1)) none = some (.slice (some ⟨id,off + 2,none⟩) l.length 2) := by
       have hle : ((1 : Int) ≤ (l.length : Int) + 1) := by omega
       simp [sliceV,bndO,bnd,hle]
      rcases h2 with rfl | rfl <;> simp [k_guard,k_guardU,hb,hbk,c0,c1,hnl,hpos,hsv,fin63]
     ·rw [e]
      refine ⟨hE _,htl.of_sid fun id' b' hid hb' => ?_,fun id' hid => ?_,hne⟩
      ·simp [sid] at hid; subst hid
       rw [blk?_set_ne (fun e => hfar.2.2 e.symm)]; exact hb'
      ·simp [sid] at hid; subst hid
       simpa using hfar
    ·have e : askV ((p1,p2) :: l,true) p1 = (false,((p1,p2) :: l,true)) := rfl
     refine ⟨_,h,0,fun R => ?_,by rw [e]; rfl,by rw [e]; exact ⟨hb,hsl,hf,hne⟩,⟨Nat.le_refl _,fun _ _ _ => rfl,fun id h => .inl h⟩⟩
     rw [enter63,B63]
     have hnl : ((l.length : Int) + 1 == 0) = false := by simp; omega
     have hpos : (0 : Int) < (l.length : Int) + 1 := by omega
     rcases h2 with rfl | rfl <;> simp [k_guard,k_guardU,hb,hbk,c0,c1,hnl,hpos,fin63]
   ·have e : askV ((p1,p2) :: l,bad) p1 = (false,((p1,p2) :: l,true)) := by
     cases bad
     ·simp only [askV]; rw [if_neg (fun e => h2 e.2)]
     ·rfl
    refine ⟨_,h.set sb (some ⟨false,[.slice (some ⟨id,off,none⟩) (l.length + 1) 2,.bool true]⟩),0,fun R => ?_,by rw [e]; rfl,hbad e,hset _ _⟩
    rw [enter63,B63]
    have hnl : ((l.length : Int) + 1 == 0) = false := by simp; omega
    have hpos : (0 : Int) < (l.length : Int) + 1 := by omega
    have g0 : (p2 != 0) = true := by simp; omega
    have g1 : (p2 != 1) = true := by simp; omega
    simp [k_guard,k_guardU,hb,hbk,hE,c0,c1,g0,g1,hnl,hpos,fin63]
  ·have e : askV ((p1,p2) :: l,bad) x = (false,((p1,p2) :: l,true)) := by
    cases bad
    ·simp only [askV]; rw [if_neg (fun e => h1 e.1)]
    ·rfl
   refine ⟨_,h.set sb (some ⟨false,[.slice (some ⟨id,off,none⟩) (l.length + 1) 2,.bool true]⟩),0,fun R => ?_,by rw [e]; rfl,hbad e,hset _ _⟩
   rw [enter63,B63]
   have hnl : ((l.length : Int) + 1 == 0) = false := by simp; omega
   have hpos : (0 : Int) < (l.length : Int) + 1 := by omega
   have g1 : (p1 != x) = true := by simp; exact h1
   simp [k_guard,k_guardU,hb,hbk,hE,c0,c1,g1,hnl,hpos,fin63]
def srcV (c sb : Nat) : Src c (callF (.func (.func 63) #[ptr sb] #[])) where
 S := List (Int × Int) × Bool
 T := Value
 ask := askV
 rel := RelV c sb
 own := fun _ id => id = sb
 size := fun _ => 0
 lt := fun h id e => by rw [e]; exact blk?_lt h.blk
 stable := fun {h h' t s} hr hl hk => ⟨by rw [hk _ (blk?_lt hr.blk) hr.ne]; exact hr.blk,hr.sl.of_sid fun id b hid hb => (by obtain ⟨f1,f2,f3⟩ := hr.far id hid; rw [hk id f1 f2]; exact hb),fun id hid => (by obtain ⟨f1,f2,f3⟩ := hr.far id hid; exact ⟨by omega,f2,f3⟩),hr.ne⟩
 size_ask := fun _ _ => by simp
 step := fun {h t s} hr _ x => by
  obtain ⟨sv',h',v,e,hv,hr',st⟩ := next_d hr x
  refine ⟨sv',h',v,fun R => ?_,hv,hr',st⟩
  unfold callF
  rw [callK_func]
  exact e R
 c_own := fun hr e => hr.ne e.symm
structure PsI (h : Heap) (s : Value) (vs : List Value) (ls : List (List (Int × Int))) : Prop where
 sl : Sl h 1 s vs.length vs
 len : vs.length = ls.length
 each : ∀ i (h1 : i < vs.length) (h2 : i < ls.length),Sl h 2 vs[i] ls[i].length (encP ls[i])
 lt : ∀ i (h1 : i < vs.length) id,sid vs[i] = some id → id < h.length
theorem PsI.keep {h h' : Heap} {s : Value} {vs : List Value} {ls : List (List (Int × Int))} (hp : PsI h s vs ls) (hl : h.length ≤ h'.length) (hk : ∀ id,id < h.length → blk? h' id = blk? h id) : PsI h' s vs ls :=
 ⟨hp.sl.of_sid fun id b _ hb => by rw [hk id (blk?_lt hb)]; exact hb,hp.len,fun i h1 h2 => (hp.each i h1 h2).of_sid fun id b _ hb => by rw [hk id (blk?_lt hb)]; exact hb,fun i h1 id hid => Nat.lt_of_lt_of_le (hp.lt i h1 id hid) hl⟩
structure VLv (h0 H : Heap) (M p c : Nat) (m : MD) (w hh : Nat) (b : BS) : Prop where
 low : ∀ id,id < h0.length → blk? H id = blk? h0 id
 len : h0.length ≤ H.length
 box : blk? H M = some ⟨false,[.bool m.byp,.bool m.res,.bool m.rst,.bool m.cz,.bool m.sy]⟩
 cb : CB H false p c b
 good : b.Good
 d : h0.length ≤ c ∧ M ≠ c
 bw : b.w = w
 bh : b.h = hh
 dp : h0.length ≤ p
theorem vals_loop {h0 : Heap} {M p c : Nat} {m : MD} {s v5 : Value} {vs : List Value} {ls : List (List (Int × Int))} {P O w hh : Nat} (hp : PsI h0 s vs ls) (hP : P ≤ 60) (hP1 : 0 < ls.length → 1 ≤ P) (hO : O ≤ 3) (hn : ls.length ≤ 3 * P - 2) {k : List RItem} {R : RP} :
  ∀ (n i : Nat) (H : Heap) (b : BS) (K6 K7 K8 K9 Ka Kc Kd Ke Kg Kh Ki Kj Kk Kl Km Kn Ko Kp Kq Kr Ks Kt Ku Kv Kw Kx Ky Kz J0 J1 J2 J3 J4 J5 J6 J7 J8 J9 Ja Jb Jc Jd Je Jf Jg Jh Ji Jm Jn Jo Jp Jq Jr Js Jt Ju Jv Jw Jx Jy Jz Y0 Y1 Y2 Y3 Y4 Y5 Y6 Y7 Y8 Y9 Ya Yb Yc Yd Ye Yf Yg Yh Yi Yj Yk Yl Ym Yn Yo Yp Yq Yr Ys Yt Yu Yv Yw Yx Yy Yz Z0 Z1 Z2 Z3 Z4 Z5 Z6 Z7 Z8 Z9 Za Zb Zc Zd Ze Zf Zg Zh Zi Zj Zk Zl Zm Zn Zo Zp Zq Zr Zs Zt Zu Zv Zw Zx Zy Zz K0q : Value),n = ls.length - i → i ≤ ls.length → VLv h0 H M p c m w hh b →
   (∀ (H' : Heap) (b' : BS) (K6 K7 K8 K9 Ka Kc Kd Ke Kg Kh Ki Kj Kk Kl Km Kn Ko Kp Kq Kr Ks Kt Ku Kv Kw Kx Ky Kz J0 J1 J2 J3 J4 J5 J6 J7 J8 J9 Ja Jb Jc Jd Je Jf Jg Jh Ji Jj Jk Jl Jm Jn Jo Jp Jq Jr Js Jt Ju Jv Jw Jx Jy Jz Y0 Y1 Y2 Y3 Y4 Y5 Y6 Y7 Y8 Y9 Ya Yb Yc Yd Ye Yf Yg Yh Yi Yj Yk Yl Ym Yn Yo Yp Yq Yr Ys Yt Yu Yv Yw Yx Yy Yz Z0 Z1 Z2 Z3 Z4 Z5 Z6 Z7 Z8 Z9 Za Zb Zc Zd Ze Zf Zg Zh Zi Zj Zk Zl Zm Zn Zo Zp Zq Zr Zs Zt Zu Zv Zw Zx Zy Zz K0q : Value),vLoop m P O i b (ls.drop i) = (b',0) → VLv h0 H' M p c m w hh b' → Ok tab R28 k #[s,.int .i64 P,.int .i64 w,.int .i64 hh,.int .i64 O,v5,K6,K7,K8,K9,Ka,ptr M,Kc,Kd,Ke,ptr p,Kg,Kh,Ki,Kj,Kk,Kl,Km,Kn,Ko,Kp,Kq,Kr,Ks,Kt,Ku,Kv,Kw,Kx,Ky,Kz,J0,J1,J2,J3,J4,J5,J6,J7,J8,J9,Ja,Jb,Jc,Jd,Je,Jf,Jg,Jh,Ji,Jj,Jk,Jl,Jm,Jn,Jo,Jp,Jq,Jr,Js,Jt,Ju,Jv,Jw,Jx,Jy,Jz,Y0,Y1,Y2,Y3,Y4,Y5,Y6,Y7,Y8,Y9,Ya,Yb,Yc,Yd,Ye,Yf,Yg,Yh,Yi,Yj,Yk,Yl,Ym,Yn,Yo,Yp,Yq,Yr,Ys,Yt,Yu,Yv,Yw,Yx,Yy,Yz,Z0,Z1,Z2,Z3,Z4,Z5,Z6,Z7,Z8,Z9,Za,Zb,Zc,Zd,Ze,Zf,Zg,Zh,Zi,Zj,Zk,Zl,Zm,Zn,Zo,Zp,Zq,Zr,Zs,Zt,Zu,Zv,Zw,Zx,Zy,Zz,K0q] H' R) →
   (∀ (H' : Heap) (e : Int),(vLoop m P O i b (ls.drop i)).2 = e → e ≠ 0 → (∀ id,id < h0.length → blk? H' id = blk? h0 id) → h0.length ≤ H'.length → R (.tuple #[.slice none 0 0,.slice none 0 0,.int .i64 e]) H') →
   Ok tab R28 (.inLoop L28_0 :: .inBlock 0 :: k) #[s,.int .i64 P,.int .i64 w,.int .i64 hh,.int .i64 O,v5,K6,K7,K8,K9,Ka,ptr M,Kc,Kd,Ke,ptr p,Kg,Kh,Ki,Kj,Kk,Kl,Km,Kn,Ko,Kp,Kq,Kr,Ks,Kt,Ku,Kv,Kw,Kx,Ky,Kz,J0,J1,J2,J3,J4,J5,J6,J7,J8,J9,Ja,Jb,Jc,Jd,Je,Jf,Jg,Jh,Ji,s,.int .i64 ls.length,.int .i64 i,Jm,Jn,Jo,Jp,Jq,Jr,Js,Jt,Ju,Jv,Jw,Jx,Jy,Jz,Y0,Y1,Y2,Y3,Y4,Y5,Y6,Y7,Y8,Y9,Ya,Yb,Yc,Yd,Ye,Yf,Yg,Yh,Yi,Yj,Yk,Yl,Ym,Yn,Yo,Yp,Yq,Yr,Ys,Yt,Yu,Yv,Yw,Yx,Yy,Yz,Z0,Z1,Z2,Z3,Z4,Z5,Z6,Z7,Z8,Z9,Za,Zb,Zc,Zd,Ze,Zf,Zg,Zh,Zi,Zj,Zk,Zl,Zm,Zn,Zo,Zp,Zq,Zr,Zs,Zt,Zu,Zv,Zw,Zx,Zy,Zz,K0q] H R := by
 intro n
 induction n with
 | zero =>
  intro i H b;intros;rename_i hm hi vl hk hx
  have hlt : ¬ ((i : Int) < ls.length) := by omega
  rw [List.drop_of_length_le (by omega)] at hk
  rw [ok_round,l28_0,L28_0a,L28_0b]
  simp [hlt]
  exact hk H b _ _ _ _ _ _ _ _ _ _ _ _ _ _ _ _ _ _ _ _ _ _ _ _ _ _ _ _ _ _ _ _ _ _ _ _ _ _ _ _ _ _ _ _ _ _ _ _ _ _ _ _ _ _ _ _ _ _ _ _ _ _ _ _ _ _ _ _ _ _ _ _ _ _ _ _ _ _ _ _ _ _ _ _ _ _ _ _ _ _ _ _ _ _ _ _ _ _ _ _ _ _ _ _ _ _ _ _ _ _ _ _ _ _ _ _ _ _ _ _ _ _ _ _ _ _ _ _ _ _ _ _ _ _ _ _ _ rfl vl
 | succ n ih =>
  intro i H b;intros;rename_i hm hi vl hk hx
  have hil : i < ls.length := by omega
  have hivs : i < vs.length := by rw [hp.len]; exact hil
  have hlt : ((i : Int) < ls.length) := by omega
  have hw : IntKind.i64.wrap ((i : Int) + 1) = (i : Int) + 1 := wrapN (n := i + 1) (by omega)
  have hpH := hp.keep vl.len vl.low
  obtain ⟨id,off,bk,hs,hbk,hc⟩ := hpH.sl.get hivs
  have hc0 := hc 0 (by omega)
  rw [Nat.mul_one,Nat.add_zero,Nat.add_zero,List.getElem?_eq_getElem hivs] at hc0
  have hsl := hpH.each i hivs hil
  have hfar := hp.lt i hivs
  obtain ⟨d1,d2⟩ := vl.d
  rw [List.drop_eq_getElem_cons hil,vLoop] at hk hx
  generalize vs[i] = sv at *
  generalize ls[i] = l at *
  obtain ⟨sa,scc,hsh⟩ := hsl.shape
  have hH1 : ∀ id,id < H.length → blk? (H ++ [some ⟨false,[sv,.bool false]⟩]) id = blk? H id := fun id hid => blk?_push_lt hid
  have hcb1 : CB (H ++ [some ⟨false,[sv,.bool false]⟩]) false p c b := ⟨by rw [hH1 _ (blk?_lt vl.cb.blkp)]; exact vl.cb.blkp,by rw [hH1 _ (blk?_lt vl.cb.blkc)]; exact vl.cb.blkc,vl.cb.ok⟩
  have hlc := blk?_lt vl.cb.blkc
  have hlp := blk?_lt vl.cb.blkp
  have hlM := blk?_lt vl.box
  have hlen0 := vl.len
  have hrel : RelV c H.length (H ++ [some ⟨false,[sv,.bool false]⟩]) sv (l,false) := ⟨blk?_push_eq,hsl.push _,fun id hid => by have := hfar id hid; simp; omega,by omega⟩
  obtain ⟨t',H2,e,dr⟩ := run_d (A := srcV c H.length) (t := sv) (s := (l,false)) hcb1 vl.good.rng hrel (by show ¬ p = H.length; omega) (by simp) (by show 0 + 100000 < 1000000; omega) i P O m
  have herr : runErr (i : Int) (P : Int) (O : Int) = 0 := by unfold runErr; rw [if_neg (by omega),if_neg (by omega)]
  have hout : dOut (srcV c H.length).ask m b (i : Int) (P : Int) (O : Int) (l,false) = (dRun m b i P O).run askV (l,false) := by
   unfold dOut; rw [if_pos herr]; rfl
  rw [hout] at e dr
  have hde : ∀ r,dErr (i : Int) (P : Int) (O : Int) r = cond r 0 16 := fun r => by unfold dErr; rw [herr]; simp
  rw [hde] at e
  have hlow2 : ∀ id,id < h0.length → blk? H2 id = blk? h0 id := fun id hid => by
   rw [dr.st.same id (by simp; omega) (by omega) (by show ¬ id = H.length; omega),hH1 id (by omega)]
   exact vl.low id hid
  have hlen2 : H.length + 1 ≤ H2.length := by have := dr.st.len; simpa using this
  have hrel2 : RelV c H.length H2 t' ((dRun m b i P O).run askV (l,false)).2 := dr.rel
  have hbox : blk? (H ++ [some ⟨false,[sv,.bool false]⟩]) M = some ⟨false,[.bool m.byp,.bool m.res,.bool m.rst,.bool m.cz,.bool m.sy]⟩ := by rw [hH1 _ hlM]; exact vl.box
  have hle := (Tr.Lv.out (A := askV) (size := fun _ => 0) (fun _ _ => by simp) (l,false) (lv_dRun vl.good (m := m) (n := i) (planes := P) (o := O) (runPP_ok hP (hP1 (by omega)) hO))).1
  obtain ⟨pl1,pl2⟩ := askV_play (dRun m b i P O) l
  simp only [MD.val] at e
  rw [ok_round,l28_0,L28_0a,L28_0b]
  subst hsh
  subst hs
  cases hpl : (dRun m b i P O).play l with
  | none =>
   have hbad := pl2 hpl
   have hb2 := hrel2.blk
   rw [hbad] at hb2
   rw [hpl] at hx
   obtain ⟨a2,c2,hs2⟩ := hrel2.sl.shape
   subst hs2
   simp [-List.cons_append,-List.append_assoc,k_guard,hlt,hivs,hbk,hc0,hbox,e,hb2,fin28]
   exact hx H2 8 rfl (by decide) hlow2 (by omega)
  | some q =>
   obtain ⟨⟨b',r⟩,l'⟩ := q
   have hrun := pl1 _ _ hpl
   rw [hrun] at e dr hrel2 hle
   rw [hpl] at hx hk
   have hb2 := hrel2.blk
   simp only at hb2 e hx hk dr hle
   obtain ⟨a2,c2,hs2⟩ := hrel2.sl.shape
   simp only at hs2
   cases r
   ·simp only [cond_false,if_true] at e hx
    subst hs2
    simp [-List.cons_append,-List.append_assoc,k_guard,hlt,hivs,hbk,hc0,hbox,e,hb2,fin28]
    exact hx H2 16 rfl (by decide) hlow2 (by omega)
   ·simp only [cond_true,Bool.true_eq_false,if_false] at e hx hk
    subst hs2
    cases l' with
    | cons y l' =>
     simp only at hx
     have hpos : (0 : Int) < (l'.length : Int) + 1 := by omega
     simp [-List.cons_append,-List.append_assoc,k_guard,hlt,hivs,hbk,hc0,hbox,e,hb2,hpos,fin28]
     exact hx H2 8 rfl (by decide) hlow2 (by omega)
    | nil =>
     simp only at hx hk
     simp [-List.cons_append,-List.append_assoc,k_guard,hlt,hivs,hbk,hc0,hbox,e,hb2,hw,fin28]
     have vl2 : VLv h0 H2 M p c m w hh b' := by
      refine ⟨hlow2,by omega,?_,dr.cb,dr.good,⟨d1,d2⟩,by rw [hle.w]; exact vl.bw,by rw [hle.h]; exact vl.bh,vl.dp⟩
      rw [dr.st.same M (by simp; omega) d2 (by show ¬ M = H.length; omega)]
      exact hbox
     exact ih (i + 1) H2 b' _ _ _ _ _ _ _ _ _ _ _ _ _ _ _ _ _ _ _ _ _ _ _ _ _ _ _ _ _ _ _ _ _ _ _ _ _ _ _ _ _ _ _ _ _ _ _ _ _ _ _ _ _ _ _ _ _ _ _ _ _ _ _ _ _ _ _ _ _ _ _ _ _ _ _ _ _ _ _ _ _ _ _ _ _ _ _ _ _ _ _ _ _ _ _ _ _ _ _ _ _ _ _ _ _ _ _ _ _ _ _ _ _ _ _ _ _ _ _ _ _ _ _ _ _ _ _ _ _ _ _ _ _ _ (by omega) (by omega) vl2 hk hx
end Go.Proofs.YtjpjohchdfoeaaaGreat
