/-
  The passes of a block, plain: what Run and Symbols come to.
  The segments of a block, followed.
  The encoder's passes: bits; the significance and the refinement pass.
  The order of the coefficients: both Scan functions.
  The encoder's passes: the significance and the refinement pass.
  The encoder's passes: the refinement pass.
  The encoder's passes: the cleanup pass.
  The encoder's passes: the cleanup pass, whole; a pass as Run performs it.
  Run of the encoder's passes.
  Rows of numbers; the number of bit planes; new blocks; the program's and the reference's.
  The reference's numbers of passes.
  Rows of symbols, compared; the symbols of all passes.
  Lists of passes, compared and made.
  Symbols: the program's and the reference's come to the same.
  Symbols, on: the whole calls.
  The block encoder, followed: the symbols of a pass, the passes of a segment.
  The block encoder, followed: the passes of a segment.
  The block encoder, followed: the sizes of a segment's passes.
  The block encoder, followed: the segments.
-/
import Derived.Test.YtjpjohchdfoeaaaGreatXa
import Derived.Test.YtjpjohchdfoeaaaGreatTab
import Derived.Test.YtjpjohchdfoeaaaGreatSimZ
namespace Go.Proofs.YtjpjohchdfoeaaaGreat
open Go Go.Sim
set_option linter.unusedSimpArgs false
set_option linter.unusedVariables false
def ES.emits (P : PP) (σ : ES) (l : List Nat) : ES := l.foldl (fun σ b => σ.emit P 18 b) σ
theorem clean_eq (P : PP) (σ : ES) (on : Bool) (h : on = true) : σ.clean P on = ((σ.stripes P 0 (stripesOf σ.b.h)).clear (scan σ.b.w σ.b.h)).emits P [1,0,1,0] := by
 subst h; rfl
structure MD where
 byp : Bool
 res : Bool
 rst : Bool
 cz : Bool
 sy : Bool
def MD.val (m : MD) : Value := .agg #[.bool m.byp,.bool m.res,.bool m.rst,.bool m.cz,.bool m.sy]
def planeOf (n : Nat) : Nat := if n = 0 then 0 else (n - 1) / 3 + 1
def kindOf (n : Nat) : Nat := if n = 0 then 2 else (n - 1) % 3
def rawOf (m : MD) (n : Nat) : Bool := m.byp && decide (4 ≤ planeOf n) && decide (kindOf n ≠ 2)
def runPP (m : MD) (n planes o : Nat) : PP := ⟨planes - 1 - planeOf n,o,m.cz,rawOf m n⟩
def runSt (m : MD) (b : BS) (n planes o : Nat) : ES :=
 if kindOf n = 0 then ES.sigs (runPP m n planes o) ⟨b,[]⟩ (scan b.w b.h)
 else if kindOf n = 1 then ES.refs (runPP m n planes o) ⟨b,[]⟩ (scan b.w b.h)
 else ES.clean (runPP m n planes o) ⟨b,[]⟩ m.sy
def runErr (n planes o : Int) : Int := if planes < 1 ∨ 60 < planes ∨ n < 0 ∨ 3 * planes - 3 < n then 2 else if o < 0 ∨ 3 < o then 3 else 0
def runOut (m : MD) (b : BS) (n planes o : Int) : ES := if runErr n planes o = 0 then runSt m b n.toNat planes.toNat o.toNat else ⟨b,[]⟩
theorem planeOf_le {n planes : Nat} (h : n ≤ 3 * planes - 3) (h1 : 1 ≤ planes) : planeOf n ≤ planes - 1 := by
 unfold planeOf; split <;> omega
def blen (n : Nat) : Nat := if n = 0 then 0 else n.log2 + 1
theorem blen_le {n k : Nat} : blen n ≤ k ↔ n < 2 ^ k := by
 unfold blen
 by_cases h : n = 0
 ·subst h; simp [Nat.two_pow_pos]
 ·rw [if_neg h]
  exact Nat.log2_lt h
theorem lt_blen {n k : Nat} : k < blen n ↔ 2 ^ k ≤ n := by
 have := @blen_le n k
 omega
theorem blen_half {n : Nat} (h : n ≠ 0) : blen n = blen (n / 2) + 1 := by
 apply Nat.le_antisymm
 ·rw [blen_le]
  have := (@blen_le (n / 2) (blen (n / 2))).1 (Nat.le_refl _)
  rw [Nat.pow_succ]; omega
 ·have h1 : blen (n / 2) < blen n := by
   rw [lt_blen]
   by_cases h0 : n / 2 = 0
   ·rw [h0]
    show 2 ^ 0 ≤ n
    omega
   ·have := (@lt_blen (n / 2) (blen (n / 2) - 1)).1 (by unfold blen; rw [if_neg h0]; omega)
    have h2 : blen (n / 2) = blen (n / 2) - 1 + 1 := by unfold blen; rw [if_neg h0]; omega
    rw [h2,Nat.pow_succ]; omega
  exact h1
theorem blen_or (a b : Nat) : blen (a ||| b) = max (blen a) (blen b) := by
 apply Nat.le_antisymm
 ·rw [blen_le]
  apply Nat.or_lt_two_pow
  ·exact blen_le.1 (Nat.le_max_left _ _)
  ·exact blen_le.1 (Nat.le_max_right _ _)
 ·apply Nat.max_le.2
  constructor
  ·rw [blen_le]
   exact Nat.lt_of_le_of_lt Nat.left_le_or (blen_le.1 (Nat.le_refl _))
  ·rw [blen_le]
   exact Nat.lt_of_le_of_lt Nat.right_le_or (blen_le.1 (Nat.le_refl _))
def planesOf (xs : List Int) : Nat := xs.foldl (fun n v => max n (blen v.natAbs)) 0
theorem planes_fold (xs : List Int) : ∀ n,xs.foldl (fun n v => max n (blen v.natAbs)) n = max n (planesOf xs) := by
 induction xs with
 | nil => intro n; simp [planesOf]
 | cons v xs ih =>
  intro n
  show List.foldl _ n (v :: xs) = max n (List.foldl _ 0 (v :: xs))
  rw [List.foldl_cons,List.foldl_cons,ih,ih (max 0 _)]
  omega
theorem planes_le {xs : List Int} {n : Nat} : planesOf xs ≤ n ↔ ∀ v ∈ xs,v.natAbs < 2 ^ n := by
 induction xs with
 | nil => simp [planesOf]
 | cons v xs ih =>
  have : planesOf (v :: xs) = max (blen v.natAbs) (planesOf xs) := by
   rw [planesOf,List.foldl_cons,planes_fold]; omega
  rw [this,Nat.max_le,blen_le,ih]; simp
def blank (n : Nat) : List Cell := List.replicate n .zero
def newBS (w h : Nat) : BS := ⟨w,h,blank (w * h)⟩
theorem newBS_good {w h : Nat} (w1 : 1 ≤ w) (w2 : w ≤ 64) (h1 : 1 ≤ h) (h2 : h ≤ 64) : (newBS w h).Good := by
 refine ⟨⟨w1,w2,h1,h2,by simp [newBS,blank]⟩,fun x y => ?_⟩
 have : (newBS w h).get x y = .zero := by
  unfold BS.get
  split
  ·simp only [newBS,blank,List.getD_eq_getElem?_getD,List.getElem?_replicate]
   split <;> rfl
  ·rfl
 rw [this]; simp [Cell.zero]
def sized (w h : Int) : Bool := decide (1 ≤ w ∧ w ≤ 64 ∧ 1 ≤ h ∧ h ≤ 64)
def cellOf (v : Int) : Cell := ⟨v,false,false,false⟩
def fillTo (w h : Nat) (xs : List Int) (i : Nat) : BS := ⟨w,h,(xs.take i).map cellOf ++ blank (w * h - i)⟩
def setV (v : Int) (c : Cell) : Cell := { c with v := v }
theorem fillTo_zero (w h : Nat) (xs : List Int) : fillTo w h xs 0 = newBS w h := by simp [fillTo,newBS]
theorem idx_divmod {w h i : Nat} (hw : 0 < w) (cs : List Cell) : BS.idx ⟨w,h,cs⟩ ((i % w : Nat) : Int) ((i / w : Nat) : Int) = i := by
 unfold BS.idx
 have : ((i / w : Nat) : Int) * (w : Int) + ((i % w : Nat) : Int) = ((i / w * w + i % w : Nat) : Int) := by simp
 simp only
 rw [this,Int.toNat_natCast,Nat.mul_comm]
 exact Nat.div_add_mod i w
theorem inb_divmod {w h i : Nat} (hw : 0 < w) (hi : i < w * h) (cs : List Cell) : BS.inb ⟨w,h,cs⟩ ((i % w : Nat) : Int) ((i / w : Nat) : Int) := by
 have h1 := Nat.mod_lt i hw
 have h2 : i / w < h := by rw [Nat.div_lt_iff_lt_mul hw]; rw [Nat.mul_comm]; exact hi
 exact ⟨Int.natCast_nonneg _,Int.ofNat_lt.2 h1,Int.natCast_nonneg _,Int.ofNat_lt.2 h2⟩
theorem fillTo_step {w h : Nat} {xs : List Int} {i : Nat} (hw : 0 < w) (hi : i < xs.length) (hl : xs.length = w * h) :
  (fillTo w h xs i).upd ((i % w : Nat) : Int) ((i / w : Nat) : Int) (setV xs[i]) = fillTo w h xs (i + 1) := by
 have hlen : ((xs.take i).map cellOf).length = i := by simp; omega
 have hidx := idx_divmod (h := h) (i := i) hw ((xs.take i).map cellOf ++ blank (w * h - i))
 have hinb := inb_divmod (i := i) (h := h) hw (by omega) ((xs.take i).map cellOf ++ blank (w * h - i))
 have hget : (fillTo w h xs i).get ((i % w : Nat) : Int) ((i / w : Nat) : Int) = .zero := by
  unfold BS.get fillTo
  rw [if_pos hinb,hidx]
  simp only [List.getD_eq_getElem?_getD]
  rw [List.getElem?_append_right (by omega),hlen]
  simp only [blank,List.getElem?_replicate]
  split <;> rfl
 unfold BS.upd
 rw [hget]
 unfold fillTo at *
 rw [hidx]
 congr 1
 rw [List.set_append_right _ _ (by omega),hlen,Nat.sub_self,List.take_succ_eq_append_getElem hi,List.map_append]
 rw [show w * h - i = (w * h - (i + 1)) + 1 by omega]
 simp [blank,List.replicate_succ,setV,cellOf,Cell.zero]
theorem fillTo_good {w h : Nat} {xs : List Int} (hn : (newBS w h).Good) (hl : xs.length = w * h) : ∀ i,i ≤ xs.length → (∀ v ∈ xs.take i,-1152921504606846976 < v ∧ v < 1152921504606846976) → (fillTo w h xs i).Good := by
 intro i hi hr
 refine ⟨⟨hn.ok.w1,hn.ok.w2,hn.ok.h1,hn.ok.h2,by simp [fillTo,blank]; omega⟩,fun x y => ?_⟩
 unfold BS.get
 split
 ·simp only [fillTo,List.getD_eq_getElem?_getD]
  generalize BS.idx _ x y = j
  by_cases hj : j < i
  ·rw [List.getElem?_append_left (by simp; omega)]
   have : j < (xs.take i).length := by simp; omega
   rw [List.getElem?_map,List.getElem?_eq_getElem this]
   exact hr _ (List.getElem_mem this)
  ·rw [List.getElem?_append_right (by simp; omega)]
   simp only [blank,List.getElem?_replicate]
   split <;> simp [Cell.zero]
 ·simp [Cell.zero]
def passesOf (m : MD) (planes o : Nat) : Nat → Nat → BS → List (List (Int × Nat))
 | 0,_,_ => []
 | n + 1,k,b => (runSt m b k planes o).out :: passesOf m planes o n (k + 1) (runSt m b k planes o).b
theorem passesOf_len (m : MD) (planes o : Nat) : ∀ n k b,(passesOf m planes o n k b).length = n
 | 0,_,_ => rfl
 | n + 1,k,b => by rw [passesOf,List.length_cons,passesOf_len m planes o n]
def inR (v : Int) : Prop := -1152921504606846976 < v ∧ v < 1152921504606846976
instance (v : Int) : Decidable (inR v) := by unfold inR; exact inferInstance
def symRes (xs : List Int) (w h o : Int) (m : MD) : Int × List (List (Int × Nat)) :=
 if sized w h = false then (2,[])
 else if (xs.length : Int) ≠ w * h then (4,[])
 else if o < 0 ∨ 3 < o then (3,[])
 else if ∀ v ∈ xs,inR v then (0,passesOf m (planesOf xs) o.toNat (3 * planesOf xs - 2) 0 (fillTo w.toNat h.toNat xs xs.length))
 else (2,[])
theorem inR_planes {xs : List Int} : (∀ v ∈ xs,inR v) ↔ planesOf xs ≤ 60 := by
 rw [planes_le]
 constructor
 ·intro h v hv; have := h v hv; unfold inR at this; omega
 ·intro h v hv; have := h v hv; unfold inR; omega
def sgNext (m : MD) (sz : Nat) : Nat := if m.byp = true ∧ m.res = false then (if sz = 2 then 1 else 2) else sz
def sgGo (m : MD) : Nat → Nat → Nat → List Nat
 | 0,_,_ => []
 | f + 1,sz,left => if left = 0 then [] else min sz left :: sgGo m f (sgNext m sz) (left - min sz left)
def sgFirst (m : MD) (n : Nat) : Nat := if m.res = true then 1 else if m.byp = true then 10 else n
def segsOf (m : MD) (n : Nat) : List Nat := if n < 1 ∨ 178 < n then [] else sgGo m n (sgFirst m n) n
def sumL : List Nat → Nat
 | [] => 0
 | x :: l => x + sumL l
theorem sgNext_pos {m : MD} {sz : Nat} (h : 1 ≤ sz) : 1 ≤ sgNext m sz := by unfold sgNext; split <;> (try split) <;> omega
theorem sgGo_sum {m : MD} : ∀ (f sz left : Nat),1 ≤ sz → left ≤ f → sumL (sgGo m f sz left) = left ∧ (sgGo m f sz left).length ≤ left ∧ ∀ x ∈ sgGo m f sz left,1 ≤ x ∧ x ≤ left
 | 0,sz,left,_,h => by
  have : left = 0 := by omega
  subst this; simp [sgGo,sumL]
 | f + 1,sz,left,h1,h => by
  unfold sgGo
  by_cases h0 : left = 0
  ·rw [if_pos h0]; subst h0; simp [sumL]
  ·rw [if_neg h0]
   obtain ⟨a,b,c⟩ := sgGo_sum (m := m) f (sgNext m sz) (left - min sz left) (sgNext_pos h1) (by omega)
   refine ⟨by rw [sumL,a]; omega,by simp only [List.length_cons]; omega,fun x hx => ?_⟩
   rcases List.mem_cons.1 hx with rfl | hx
   ·omega
   ·have := c x hx; omega
theorem segs_sum {m : MD} {n : Nat} (h : n ≤ 178) : sumL (segsOf m n) = n ∧ (segsOf m n).length ≤ n ∧ ∀ x ∈ segsOf m n,1 ≤ x ∧ x ≤ n := by
 unfold segsOf
 by_cases h0 : n < 1
 ·rw [if_pos (.inl h0)]
  have : n = 0 := by omega
  subst this; simp [sumL]
 ·rw [if_neg (by omega)]
  refine sgGo_sum n _ n ?_ (Nat.le_refl _)
  unfold sgFirst; split
  ·omega
  ·split <;> omega
theorem app1n {H : Heap} {s : Value} {xs : List Nat} {v : Nat} (ho : OwnS H 1 s xs.length (nI xs)) (hn : xs.length < 1000000) :
  ∃ H1,appendV (H ++ [some ⟨false,[.int .i64 (v : Nat)]⟩]) 1 8 s (.slice (some ⟨H.length,0,none⟩) 1 1) = some (.slice (some ⟨H.length + 1,0,none⟩) (xs.length + 1) 1,H1) ∧
   OwnS H1 1 (.slice (some ⟨H.length + 1,0,none⟩) (xs.length + 1) 1) (xs ++ [v]).length (nI (xs ++ [v])) ∧ H1.length = H.length + 2 ∧ ∀ id,id < H.length → sid s ≠ some id → blk? H1 id = blk? H id := by
 have ho' : OwnS (H ++ [some ⟨false,[.int .i64 (v : Nat)]⟩]) 1 s xs.length (nI xs) := ho.of_blk fun id hid hb => by rw [blk?_push_lt (blk?_lt hb)]; exact hb
 have ht : Sl (H ++ [some ⟨false,[.int .i64 (v : Nat)]⟩]) 1 (.slice (some ⟨H.length,0,none⟩) 1 1) 1 [.int .i64 (v : Nat)] := ⟨rfl,.inr ⟨H.length,0,rfl,.inr ⟨_,blk?_push_eq,by simp,by simp⟩⟩⟩
 obtain ⟨H1,e,hb,hl,hk⟩ := own_append ho' ht (bytes := 8) (by unfold roomCells; omega) (by omega) (by omega)
 have hlen : (H ++ [some (⟨false,[.int .i64 (v : Nat)]⟩ : Blk)]).length = H.length + 1 := by simp
 rw [hlen] at e hb hl hk
 refine ⟨H1,e,⟨by simp [nI],.inr ⟨H.length + 1,by simp,by rw [hb]; simp [nI]⟩⟩,hl,fun id hid hne => by rw [hk id (by omega) hne,blk?_push_lt hid]⟩
theorem mn2 {k k' : IntKind} {x y : Int} : min2V (.int k x) (.int k' y) = some (.int k (min x y)) := by
 have e : (if y < x then y else x) = min x y := by split <;> omega
 rw [min2V,e]
section
variable {h : Heap}
theorem seg_loop {B M : Nat} {h0 : Heap} {m : MD} {k : List RItem} {R : Value → Heap → Prop} {zs : List Nat} (hMB : M < B) (hM : blk? h0 M = some ⟨false,[.bool m.byp,.bool m.res,.bool m.rst,.bool m.cz,.bool m.sy]⟩)
  (hk : ∀ (H : Heap) (s : Value) (K0 K1 K2 K4 K6 K7 K8 K9 Ka Kb Kc Kd Ke Kf Kg Kh Ki Kj Kk Kl Km Kn Ko Kp Kq Kr Ks Kt Ku Kv Kw Kx Ky Kz J0 J1 J2 J3 J4 J5 J6 : Value),OwnS H 1 s zs.length (nI zs) → (∀ id,id < B → blk? H id = blk? h0 id) → B ≤ H.length → (∀ id,sid s = some id → B ≤ id) →
   Ok tab R38 k #[K0,K1,K2,ptr M,K4,s,K6,K7,K8,K9,Ka,Kb,Kc,Kd,Ke,Kf,Kg,Kh,Ki,Kj,Kk,Kl,Km,Kn,Ko,Kp,Kq,Kr,Ks,Kt,Ku,Kv,Kw,Kx,Ky,Kz,J0,J1,J2,J3,J4,J5,J6] H R) :
  ∀ (f sz left : Nat) (xs : List Nat) (s : Value) (H : Heap) (K0 K1 K2 K4 K8 K9 Ka Kb Kc Kd Ke Kf Kg Kh Ki Kj Kk Kl Km Kn Ko Kp Kq Kr Ks Kt Ku Kv Kw Kx Ky Kz J0 J1 J2 J3 J4 J5 J6 : Value),left ≤ f → 1 ≤ sz → sz ≤ 1000 → f ≤ 1000 → xs.length + f ≤ 2000 → xs ++ sgGo m f sz left = zs →
   OwnS H 1 s xs.length (nI xs) → (∀ id,id < B → blk? H id = blk? h0 id) → B ≤ H.length → (∀ id,sid s = some id → B ≤ id) →
   Ok tab R38 (.inLoop L38_0 :: .inBlock 0 :: k) #[K0,K1,K2,ptr M,K4,s,.int .i64 (sz : Nat),.int .i64 (left : Nat),K8,K9,Ka,Kb,Kc,Kd,Ke,Kf,Kg,Kh,Ki,Kj,Kk,Kl,Km,Kn,Ko,Kp,Kq,Kr,Ks,Kt,Ku,Kv,Kw,Kx,Ky,Kz,J0,J1,J2,J3,J4,J5,J6] H R := by
 intro f
 induction f with
 | zero =>
  intro sz left xs s H;intros;rename_i hf h1 _ _ _ hz ho hl hlen hs
  obtain rfl : left = 0 := by omega
  simp only [sgGo,List.append_nil] at hz
  subst hz
  rw [ok_round,l38_0,L38_0a,L38_0b]
  simp
  exact hk _ _ _ _ _ _ _ _ _ _ _ _ _ _ _ _ _ _ _ _ _ _ _ _ _ _ _ _ _ _ _ _ _ _ _ _ _ _ _ _ _ _ _ ho hl hlen hs
 | succ f ih =>
  intro sz left xs s H;intros;rename_i hf h1 h2 h3 h4 hz ho hl hlen hs
  by_cases hz0 : left = 0
  ·subst hz0
   unfold sgGo at hz
   rw [if_pos rfl,List.append_nil] at hz
   subst hz
   rw [ok_round,l38_0,L38_0a,L38_0b]
   simp
   exact hk _ _ _ _ _ _ _ _ _ _ _ _ _ _ _ _ _ _ _ _ _ _ _ _ _ _ _ _ _ _ _ _ _ _ _ _ _ _ _ _ _ _ _ ho hl hlen hs
  ·unfold sgGo at hz
   rw [if_neg hz0] at hz
   obtain ⟨H1,ha,ho1,hl1,hk1⟩ := app1n (v := min sz left) ho (by omega)
   have hlow : ∀ id,id < B → blk? H1 id = blk? h0 id := fun id hid => by rw [hk1 id (by omega) (fun x => by have := hs id x; omega),hl id hid]
   have hb : blk? H M = some ⟨false,[.bool m.byp,.bool m.res,.bool m.rst,.bool m.cz,.bool m.sy]⟩ := by rw [hl M hMB]; exact hM
   have hb1 : blk? H1 M = some ⟨false,[.bool m.byp,.bool m.res,.bool m.rst,.bool m.cz,.bool m.sy]⟩ := by rw [hlow M hMB]; exact hM
   have hpos : 0 < left := by omega
   have hmin : min (sz : Int) (left : Int) = ((min sz left : Nat) : Int) := by omega
   have hw : IntKind.i64.wrap ((left : Int) - ((min sz left : Nat) : Int)) = ((left - min sz left : Nat) : Int) := by rw [wrapI (by omega) (by omega)]; omega
   have ih' := fun K0 K1 K2 K4 K8 K9 Ka Kb Kc Kd Ke Kf Kg Kh Ki Kj Kk Kl Km Kn Ko Kp Kq Kr Ks Kt Ku Kv Kw Kx Ky Kz J0 J1 J2 J3 J4 J5 J6 => ih (sgNext m sz) (left - min sz left) (xs ++ [min sz left]) (.slice (some ⟨H.length + 1,0,none⟩) (xs.length + 1) 1) H1 K0 K1 K2 K4 K8 K9 Ka Kb Kc Kd Ke Kf Kg Kh Ki Kj Kk Kl Km Kn Ko Kp Kq Kr Ks Kt Ku Kv Kw Kx Ky Kz J0 J1 J2 J3 J4 J5 J6 (by omega) (sgNext_pos h1) (by unfold sgNext; split <;> (try split) <;> omega) (by omega) (by simp; omega)
    (by rw [List.append_assoc]; exact hz) ho1 hlow (by omega) (fun id hid => by simp [sid] at hid; omega)
   unfold sgNext at ih'
   generalize ((left - min sz left : Nat) : Int) = l2 at *
   generalize hmm : ((min sz left : Nat) : Int) = mm at *
   rw [ok_round,l38_0,L38_0a,L38_0b]
   cases hbp : m.byp with
   | false =>
    rw [hbp] at hb hb1 ih'
    simp only [Bool.false_eq_true,false_and,if_false] at ih'
    simp [k_guard,repL,hb,hb1,hpos,fold1,foldO,mn2,hmin,ha,hw]
    exact ih' ..
   | true =>
    rw [hbp] at hb hb1 ih'
    cases hrs : m.res with
    | true =>
     rw [hrs] at hb hb1 ih'
     simp only [Bool.true_eq_false,and_false,if_false] at ih'
     simp [k_guard,repL,hb,hb1,hpos,fold1,foldO,mn2,hmin,ha,hw]
     exact ih' ..
    | false =>
     rw [hrs] at hb hb1 ih'
     simp only [and_self,if_true] at ih'
     by_cases h22 : sz = 2
     ·subst h22
      simp only [if_true] at ih'
      have hmin3 : min 2 (left : Int) = mm := hmin
      simp [k_guard,repL,hb,hb1,hpos,fold1,foldO,mn2,hmin3,ha,hw]
      exact ih' ..
     ·have h22' : ((sz : Int) == 2) = false := beq_eq_false_iff_ne.2 (by omega)
      have h22'' : ¬ (sz : Int) = 2 := by omega
      rw [if_neg h22] at ih'
      simp [k_guard,repL,hb,hb1,hpos,fold1,foldO,mn2,hmin,ha,hw,h22',h22'']
      exact ih' ..
theorem segs_c (n : Nat) (m : MD) (hn : n < 9000000000) : ∃ h' s,(∀ R,Ret tab 38 [.int .i64 (n : Nat),m.val] h R = R s h') ∧ OwnS h' 1 s (segsOf m n).length (nI (segsOf m n)) ∧ (∀ id,id < h.length → blk? h' id = blk? h id) ∧ h.length ≤ h'.length ∧ (∀ id,sid s = some id → h.length ≤ id) := by
 have key : ∀ R0 : Value → Heap → Prop,(∀ h' s,OwnS h' 1 s (segsOf m n).length (nI (segsOf m n)) → (∀ id,id < h.length → blk? h' id = blk? h id) → h.length ≤ h'.length → (∀ id,sid s = some id → h.length ≤ id) → R0 s h') →
   Ret tab 38 [.int .i64 (n : Nat),m.val] h R0 := by
  intro R0 hR
  have hlow0 : ∀ x : Option Blk,∀ id,id < h.length → blk? (h ++ [x]) id = blk? h id := fun x id hid => blk?_push_lt hid
  have hempty : (n < 1 ∨ 178 < n) → R0 (.slice none 0 0) (h ++ [some ⟨false,[.bool m.byp,.bool m.res,.bool m.rst,.bool m.cz,.bool m.sy]⟩]) := fun hx => by
   have e : segsOf m n = [] := by unfold segsOf; rw [if_pos hx]
   exact hR _ _ (by rw [e]; exact OwnS.nil _ _) (hlow0 _) (by simp) (fun id hid => by simp [sid] at hid)
  rw [enter38,B38]
  by_cases h1 : n < 1
  ·have h1' : (n : Int) < 1 := by omega
   simp [k_guard,MD.val,h1',fin38]
   exact hempty (.inl h1)
  have h1' : ¬ (n : Int) < 1 := by omega
  by_cases h2 : 178 < n
  ·have h2' : (178 : Int) < n := by omega
   simp [k_guard,MD.val,h1',h2',fin38]
   exact hempty (.inr h2)
  have h2' : ¬ (178 : Int) < n := by omega
  have e : segsOf m n = sgGo m n (sgFirst m n) n := by unfold segsOf; rw [if_neg (by omega)]
  rw [e] at hR
  generalize hH : h ++ [some (⟨false,[.bool m.byp,.bool m.res,.bool m.rst,.bool m.cz,.bool m.sy]⟩ : Blk)] = H
  have hbM : blk? H h.length = some ⟨false,[.bool m.byp,.bool m.res,.bool m.rst,.bool m.cz,.bool m.sy]⟩ := by rw [← hH]; exact blk?_push_eq
  have hHl : H.length = h.length + 1 := by rw [← hH]; simp
  have hfirst : 1 ≤ sgFirst m n ∧ sgFirst m n ≤ 1000 := by unfold sgFirst; split <;> (try split) <;> omega
  have hL := fun K0 K1 K2 K4 K8 K9 Ka Kb Kc Kd Ke Kf Kg Kh Ki Kj Kk Kl Km Kn Ko Kp Kq Kr Ks Kt Ku Kv Kw Kx Ky Kz J0 J1 J2 J3 J4 J5 J6 => seg_loop (R := R0) (zs := sgGo m n (sgFirst m n) n) (m := m) (B := h.length + 1) (M := h.length) (h0 := H) (by omega) hbM (k := [.code (tlC 7 B38)])
   (fun H' s K0 K1 K2 K4 K6 K7 K8 K9 Ka Kb Kc Kd Ke Kf Kg Kh Ki Kj Kk Kl Km Kn Ko Kp Kq Kr Ks Kt Ku Kv Kw Kx Ky Kz J0 J1 J2 J3 J4 J5 J6 ho hl hlen hs => by
    show Ok tab R38 [.code (.seq (nthC 7 B38) (tlC 8 B38))] _ H' R0
    simp only [nthC,tlC,fstC,B38]
    simp [fin38]
    exact hR _ _ ho (fun id hid => by rw [hl id (by omega),← hH]; exact blk?_push_lt hid) (by omega) (fun id hid => by have := hs id hid; omega))
   n (sgFirst m n) n [] (.slice none 0 0) H K0 K1 K2 K4 K8 K9 Ka Kb Kc Kd Ke Kf Kg Kh Ki Kj Kk Kl Km Kn Ko Kp Kq Kr Ks Kt Ku Kv Kw Kx Ky Kz J0 J1 J2 J3 J4 J5 J6 (Nat.le_refl _) hfirst.1 hfirst.2 (by omega) (by simp; omega) rfl (OwnS.nil _ _) (fun _ _ => rfl) (by omega) (fun id hid => by simp [sid] at hid)
  unfold sgFirst at hL
  simp only [tlC,B38] at hL
  cases hbp : m.byp <;> cases hrs : m.res <;> rw [hbp,hrs] at hbM hH <;> simp only [hbp,hrs,Bool.false_eq_true,if_false,if_true] at hL <;> simp [k_guard,MD.val,h1',h2',hbp,hrs,hH,hbM]
  ·exact hL ..
  ·exact hL ..
  ·exact hL ..
  ·exact hL ..
 obtain ⟨v,h',ee,A,B,C,D⟩ := ret_ex (key (fun s h' => OwnS h' 1 s (segsOf m n).length (nI (segsOf m n)) ∧ (∀ id,id < h.length → blk? h' id = blk? h id) ∧ h.length ≤ h'.length ∧ (∀ id,sid s = some id → h.length ≤ id)) (fun h' s A B C D => ⟨A,B,C,D⟩))
 exact ⟨h',v,ee,A,B,C,D⟩
end
def encP : List (Int × Int) → List Value
 | [] => []
 | p :: l => .int .i64 p.1 :: .int .i64 p.2 :: encP l
theorem encP_len : ∀ a,(encP a).length = a.length * 2
 | [] => rfl
 | p :: a => by rw [encP,List.length_cons,List.length_cons,encP_len a,List.length_cons]; omega
theorem encP_append : ∀ a b,encP (a ++ b) = encP a ++ encP b
 | [],b => rfl
 | p :: a,b => by rw [List.cons_append,encP,encP,encP_append a b]; rfl
theorem encP_get : ∀ (l : List (Int × Int)) (i : Nat) (h : i < l.length),(encP l)[i * 2]? = some (.int .i64 l[i].1) ∧ (encP l)[i * 2 + 1]? = some (.int .i64 l[i].2)
 | [],i,h => by simp at h
 | p :: l,0,_ => by simp [encP]
 | p :: l,i + 1,h => by
  obtain ⟨a,b⟩ := encP_get l i (by simpa using h)
  rw [encP,show (i + 1) * 2 + 1 = i * 2 + 1 + 1 + 1 by omega,show (i + 1) * 2 = i * 2 + 1 + 1 by omega]
  simpa using ⟨a,b⟩
structure Far (h : Heap) (s : Value) (l : List (Int × Int)) (c ob : Nat) (sv : Value) : Prop where
 sl : Sl h 2 s l.length (encP l)
 far : ∀ id,sid s = some id → id < h.length ∧ id ≠ c ∧ id ≠ ob ∧ sid sv ≠ some id
theorem Far.stp {h h' : Heap} {s : Value} {l : List (Int × Int)} {c ob : Nat} {sv sv' : Value} (hf : Far h s l c ob sv) (hs : Stp h h' c ob sv sv') : Far h' s l c ob sv' := by
 refine ⟨hf.sl.of_sid fun id b hid hb => ?_,fun id hid => ?_⟩
 ·obtain ⟨a1,a2,a3,a4⟩ := hf.far id hid
  rw [hs.same id a1 a2 a3 a4]; exact hb
 ·obtain ⟨a1,a2,a3,a4⟩ := hf.far id hid
  refine ⟨Nat.lt_of_lt_of_le a1 hs.len,a2,a3,fun e => ?_⟩
  rcases hs.fresh id e with h | h
  ·exact a4 h
  ·omega
theorem two {l : List Value} {m : Nat} {x y : Value} (h1 : l[m]? = some x) (h2 : l[m + 1]? = some y) : (l.drop m).take 2 = [x,y] ∧ m + 2 ≤ l.length := by
 have hl := (List.getElem?_eq_some_iff.1 h2).1
 refine ⟨?_,by omega⟩
 apply List.ext_getElem?
 intro j
 rw [List.getElem?_take]
 match j with
 | 0 => simpa using h1
 | 1 => simpa using h2
 | j + 2 => rw [if_neg (by omega)]; simp
theorem Far.get {h : Heap} {s : Value} {l : List (Int × Int)} {c ob : Nat} {sv : Value} (hf : Far h s l c ob sv) {i : Nat} (hi : i < l.length) :
  ∃ id off b,s = .slice (some ⟨id,off,none⟩) l.length 2 ∧ blk? h id = some b ∧ (b.cells.drop (off + i * 2)).take 2 = [.int .i64 l[i].1,.int .i64 l[i].2] ∧ off + i * 2 + 2 ≤ b.cells.length := by
 obtain ⟨id,off,b,rfl,hb,hc⟩ := hf.sl.get hi
 obtain ⟨g0,g1⟩ := encP_get l i hi
 have c0 := hc 0 (by omega)
 have c1 := hc 1 (by omega)
 rw [Nat.add_zero,Nat.add_zero,g0] at c0
 rw [g1] at c1
 obtain ⟨ht,hle⟩ := two c0 c1
 exact ⟨id,off,b,rfl,hb,ht,hle⟩
section
variable {h : Heap} {q p c pb ob : Nat} {P : PP} {sv : Value} {σ : ES}
theorem code_p (he : PE h q p c pb ob P sv σ) (hn : σ.out.length + 2 < 1000000) {x y : Int} (hi : σ.b.inb x y) :
  ∃ sv' h',(∀ R,Ret tab 163 [ptr q,.int .i64 x,.int .i64 y] h R = R (.tuple #[]) h') ∧ PE h' q p c pb ob P sv' (σ.code P x y) ∧ Stp h h' c ob sv sv' := by
 obtain ⟨sv1,h1,e1,p1,s1⟩ := emit_c he (by omega) (ctxOf P σ.b x y) (bitOf (σ.b.get x y).v P.s)
 have hq := he.pr.blk
 have hq1 := p1.pr.blk
 obtain ⟨n1,n2,n3⟩ := nb_le σ.b x y P.cz
 have hnb := fun R => neighbors_c (R := R) he.pr.cb hi P.cz
 have hbit := fun R => bit_c (R := R) (x := x) (y := y) he.pr
 have hsg := fun R => significance_c (h := h) (R := R) he.pr.pok.o1 n1 n2 n3
 change ∀ R,Ret tab _ _ h R = R (.int .i64 (ctxOf P σ.b x y)) h at hsg
 unfold ES.code
 by_cases hb : bitOf (σ.b.get x y).v P.s = 1
 ·obtain ⟨sv2,h2,e2,p2,s2⟩ := sign_p p1 (by simp [ES.emit]; omega) hi
  rw [if_pos hb]
  refine ⟨sv2,h2,fun R => ?_,p2,s1.trans s2⟩
  rw [hb] at hbit e1
  rw [enter163,B163]
  simp at hbit e1
  simp [hq,hq1,hnb,hbit,hsg,e1,e2,fin163,book,logOf,addLog,chk1,lookL,reload]
 ·have hb0 : bitOf (σ.b.get x y).v P.s = 0 := by unfold bitOf at *; omega
  rw [if_neg hb]
  refine ⟨sv1,h1,fun R => ?_,p1,s1⟩
  rw [hb0] at hbit e1
  rw [enter163,B163]
  simp at hbit e1
  simp [hq,hq1,hnb,hbit,hsg,e1,fin163,book,logOf,addLog,chk1,lookL,reload]
end
structure Mk (B : Nat) (h0 h : Heap) (s : Value) (l : List (Int × Int)) : Prop where
 own : OwnS h 2 s l.length (encP l)
 low : ∀ id,id < B → blk? h id = blk? h0 id
 len : B ≤ h.length
 far : ∀ id,sid s = some id → B ≤ id
theorem Mk.push {B : Nat} {h0 h : Heap} {s : Value} {l : List (Int × Int)} (m : Mk B h0 h s l) (hl : l.length < 100000) (x y : Int) :
  ∃ s' H,appendV (h ++ [some ⟨false,[.int .i64 x,.int .i64 y]⟩]) 2 16 s (.slice (some ⟨h.length,0,none⟩) 1 2) = some (s',H) ∧ Mk B h0 H s' (l ++ [(x,y)]) := by
 have hsl : Sl (h ++ [some ⟨false,[.int .i64 x,.int .i64 y]⟩]) 2 (.slice (some ⟨h.length,0,none⟩) 1 2) 1 [.int .i64 x,.int .i64 y] :=
  ⟨by simp,.inr ⟨h.length,0,rfl,.inr ⟨_,blk?_push_eq,by simp,by simp⟩⟩⟩
 have ho : OwnS (h ++ [some ⟨false,[.int .i64 x,.int .i64 y]⟩]) 2 s l.length (encP l) := m.own.of_blk fun id _ hb => blk?_push hb
 obtain ⟨H,ha,hK,hHl,hHs⟩ := own_append (bytes := 16) ho hsl (by unfold roomCells; omega) (by omega) (by omega)
 simp only [List.length_append,List.length_singleton] at ha hK hHl hHs
 have hlen := m.len
 refine ⟨_,H,ha,⟨⟨by rw [encP_len],.inr ⟨h.length + 1,by simp,?_⟩⟩,fun id hid => ?_,by omega,fun id hid => ?_⟩⟩
 ·rw [hK,encP_append]; rfl
 ·rw [hHs id (by omega) (fun e => by have := m.far id e; omega),blk?_push_lt (by omega)]
  exact m.low id hid
 ·simp [sid] at hid; omega
theorem min4 {top : Int} {hh : Nat} (h0 : 0 ≤ top) : (if (hh : Int) < top + 4 then (hh : Int) else top + 4) = min (top + 4) (hh : Int) := by split <;> omega
theorem sized_c {w hh : Nat} (w1 : 1 ≤ w) (w2 : w ≤ 64) (h1 : 1 ≤ hh) (h2 : hh ≤ 64) {h : Heap} {R : Value → Heap → Prop} : Ret tab 105 [.int .i64 w,.int .i64 hh] h R = R (.bool true) h := by
 have a1 : (1 : Int) ≤ w := by omega
 have a2 : (w : Int) ≤ 64 := by omega
 have a3 : (1 : Int) ≤ hh := by omega
 have a4 : (hh : Int) ≤ 64 := by omega
 rw [enter105,B105]
 simp [k_guard,a1,a2,a3,a4,fin105]
theorem sized_r {w hh : Nat} (w1 : 1 ≤ w) (w2 : w ≤ 64) (h1 : 1 ≤ hh) (h2 : hh ≤ 64) {h : Heap} {R : Value → Heap → Prop} : Ret tab 114 [.int .i64 w,.int .i64 hh] h R = R (.bool true) h := by
 have a1 : (1 : Int) ≤ w := by omega
 have a2 : (w : Int) ≤ 64 := by omega
 have a3 : (1 : Int) ≤ hh := by omega
 have a4 : (hh : Int) ≤ 64 := by omega
 rw [enter114,B114]
 simp [k_guard,a1,a2,a3,a4,fin114]
section
variable {B w hh : Nat} {h0 : Heap} {R : Value → Heap → Prop} {k : List RItem} {v4 : Value}
theorem scan0_c (hh2 : hh ≤ 64) {top x : Int} (ht : 0 ≤ top ∧ top < 64) :
  ∀ (n : Nat) (y : Int) (h : Heap) (s : Value) (l : List (Int × Int)) (K2 K3 K9 Ka Kb Kc Kd Ke Kf Kg Kh Ki Kj Kk Kl Km Kn Ko Kp Kq Kr Ks Kt Ku Kv Kw Kx Ky Kz J0 J1 J2 J3 J4 J5 J6 : Value),y + n = min (top + 4) hh → top ≤ y → Mk B h0 h s l → l.length + n ≤ 20000 →
   (∀ (h' : Heap) (s' : Value) (y' : Int) (K2 K3 K9 Ka Kb Kc Kd Ke Kf Kg Kh Ki Kj Kk Kl Km Kn Ko Kp Kq Kr Ks Kt Ku Kv Kw Kx Ky Kz J0 J1 J2 J3 J4 J5 J6 : Value),Mk B h0 h' s' (l ++ colPts x y n) → Ok tab R139 k #[.int .i64 w,.int .i64 hh,K2,K3,v4,s',.int .i64 top,.int .i64 x,.int .i64 y',K9,Ka,Kb,Kc,Kd,Ke,Kf,Kg,Kh,Ki,Kj,Kk,Kl,Km,Kn,Ko,Kp,Kq,Kr,Ks,Kt,Ku,Kv,Kw,Kx,Ky,Kz,J0,J1,J2,J3,J4,J5,J6] h' R) →
   Ok tab R139 (.inLoop L139_0 :: .inBlock 4 :: k) #[.int .i64 w,.int .i64 hh,K2,K3,v4,s,.int .i64 top,.int .i64 x,.int .i64 y,K9,Ka,Kb,Kc,Kd,Ke,Kf,Kg,Kh,Ki,Kj,Kk,Kl,Km,Kn,Ko,Kp,Kq,Kr,Ks,Kt,Ku,Kv,Kw,Kx,Ky,Kz,J0,J1,J2,J3,J4,J5,J6] h R := by
 intro n
 induction n with
 | zero =>
  intro y h s l;intros;rename_i hy hty m hl hk
  have hw : IntKind.i64.wrap (top + 4) = top + 4 := wrapI (by omega) (by omega)
  have hlt : ¬ y < min (top + 4) (hh : Int) := by omega
  have := hk h s y
  rw [colPts,List.append_nil] at this
  rw [ok_round,l139_0,L139_0a,L139_0b]
  simp [hw,fold1,foldO,min2V,min4 (hh := hh) ht.1]
  simp [hlt]
  exact this _ _ _ _ _ _ _ _ _ _ _ _ _ _ _ _ _ _ _ _ _ _ _ _ _ _ _ _ _ _ _ _ _ _ _ _ m
 | succ n ih =>
  intro y h s l;intros;rename_i hy hty m hl hk
  have hw : IntKind.i64.wrap (top + 4) = top + 4 := wrapI (by omega) (by omega)
  have hw1 : IntKind.i64.wrap (y + 1) = y + 1 := wrapI (by omega) (by omega)
  have hlt : y < min (top + 4) (hh : Int) := by omega
  obtain ⟨s',H,ha,m'⟩ := m.push (by omega) x y
  rw [ok_round,l139_0,L139_0a,L139_0b]
  simp [hw,fold1,foldO,min2V,min4 (hh := hh) ht.1]
  simp [hlt,hw1,repL,ha]
  refine ih (y + 1) H s' (l ++ [(x,y)]) _ _ _ _ _ _ _ _ _ _ _ _ _ _ _ _ _ _ _ _ _ _ _ _ _ _ _ _ _ _ _ _ _ _ _ _ (by omega) (by omega) m' (by simp; omega) ?_
  intro h' s'' y';intros;rename_i m2
  exact hk h' s'' y' _ _ _ _ _ _ _ _ _ _ _ _ _ _ _ _ _ _ _ _ _ _ _ _ _ _ _ _ _ _ _ _ _ _ _ _ (by rw [colPts]; simpa using m2)
theorem scan1_c (hh2 : hh ≤ 64) (hw2 : w ≤ 64) {top : Int} (ht : 0 ≤ top ∧ top < 64) :
  ∀ (n : Nat) (x : Int) (h : Heap) (s : Value) (l : List (Int × Int)) (K2 K3 K8 K9 Ka Kb Kc Kd Ke Kf Kg Kh Ki Kj Kk Kl Km Kn Ko Kp Kq Kr Ks Kt Ku Kv Kw Kx Ky Kz J0 J1 J2 J3 J4 J5 J6 : Value),x + n = w → 0 ≤ x → Mk B h0 h s l → l.length + 4 * n ≤ 20000 →
   (∀ (h' : Heap) (s' : Value) (x' : Int) (K2 K3 K8 K9 Ka Kb Kc Kd Ke Kf Kg Kh Ki Kj Kk Kl Km Kn Ko Kp Kq Kr Ks Kt Ku Kv Kw Kx Ky Kz J0 J1 J2 J3 J4 J5 J6 : Value),Mk B h0 h' s' (l ++ stripePts hh x top n) → Ok tab R139 k #[.int .i64 w,.int .i64 hh,K2,K3,v4,s',.int .i64 top,.int .i64 x',K8,K9,Ka,Kb,Kc,Kd,Ke,Kf,Kg,Kh,Ki,Kj,Kk,Kl,Km,Kn,Ko,Kp,Kq,Kr,Ks,Kt,Ku,Kv,Kw,Kx,Ky,Kz,J0,J1,J2,J3,J4,J5,J6] h' R) →
   Ok tab R139 (.inLoop L139_1 :: .inBlock 2 :: k) #[.int .i64 w,.int .i64 hh,K2,K3,v4,s,.int .i64 top,.int .i64 x,K8,K9,Ka,Kb,Kc,Kd,Ke,Kf,Kg,Kh,Ki,Kj,Kk,Kl,Km,Kn,Ko,Kp,Kq,Kr,Ks,Kt,Ku,Kv,Kw,Kx,Ky,Kz,J0,J1,J2,J3,J4,J5,J6] h R := by
 intro n
 induction n with
 | zero =>
  intro x h s l;intros;rename_i hx h0x m hl hk
  have hlt : ¬ x < (w : Int) := by omega
  have := hk h s x
  rw [stripePts,List.append_nil] at this
  rw [ok_round,l139_1,L139_1a,L139_1b]
  simp [hlt]
  exact this _ _ _ _ _ _ _ _ _ _ _ _ _ _ _ _ _ _ _ _ _ _ _ _ _ _ _ _ _ _ _ _ _ _ _ _ _ m
 | succ n ih =>
  intro x h s l;intros;rename_i hx h0x m hl hk
  have hw1 : IntKind.i64.wrap (x + 1) = x + 1 := wrapI (by omega) (by omega)
  have hlt : x < (w : Int) := by omega
  rw [ok_round,l139_1,L139_1a,L139_1b]
  simp [hlt]
  by_cases hth : top ≤ hh
  ·refine scan0_c hh2 ht (min (top + 4) (hh : Int) - top).toNat top h s l _ _ _ _ _ _ _ _ _ _ _ _ _ _ _ _ _ _ _ _ _ _ _ _ _ _ _ _ _ _ _ _ _ _ _ _ (by omega) (by omega) m (by omega) ?_
   intro h' s' y';intros;rename_i m1
   simp [hw1]
   refine ih (x + 1) h' s' _ _ _ _ _ _ _ _ _ _ _ _ _ _ _ _ _ _ _ _ _ _ _ _ _ _ _ _ _ _ _ _ _ _ _ _ _ _ (by omega) (by omega) m1 (by rw [List.length_append,colPts_len]; omega) ?_
   intro h'' s'' x';intros;rename_i m2
   exact hk h'' s'' x' _ _ _ _ _ _ _ _ _ _ _ _ _ _ _ _ _ _ _ _ _ _ _ _ _ _ _ _ _ _ _ _ _ _ _ _ _ (by rw [stripePts]; simpa using m2)
  ·have hw : IntKind.i64.wrap (top + 4) = top + 4 := wrapI (by omega) (by omega)
   have hlt2 : ¬ top < min (top + 4) (hh : Int) := by omega
   rw [ok_round,l139_0,L139_0a,L139_0b]
   simp [hw,fold1,foldO,min2V,min4 (hh := hh) ht.1]
   simp [hlt2,hw1]
   refine ih (x + 1) h s _ _ _ _ _ _ _ _ _ _ _ _ _ _ _ _ _ _ _ _ _ _ _ _ _ _ _ _ _ _ _ _ _ _ _ _ _ _ (by omega) (by omega) m (by omega) ?_
   intro h'' s'' x';intros;rename_i m2
   refine hk h'' s'' x' _ _ _ _ _ _ _ _ _ _ _ _ _ _ _ _ _ _ _ _ _ _ _ _ _ _ _ _ _ _ _ _ _ _ _ _ _ ?_
   rw [stripePts,show (min (top + 4) (hh : Int) - top).toNat = 0 by omega]
   simpa [colPts] using m2
theorem scan2_c (hh2 : hh ≤ 64) (hw2 : w ≤ 64) :
  ∀ (n : Nat) (top : Int) (h : Heap) (s : Value) (l : List (Int × Int)) (K2 K3 K7 K8 K9 Ka Kb Kc Kd Ke Kf Kg Kh Ki Kj Kk Kl Km Kn Ko Kp Kq Kr Ks Kt Ku Kv Kw Kx Ky Kz J0 J1 J2 J3 J4 J5 J6 : Value),(hh : Int) ≤ top + 4 * n → top + 4 * n ≤ hh + 3 → 0 ≤ top → Mk B h0 h s l → l.length + 4 * w * n ≤ 20000 →
   (∀ (h' : Heap) (s' : Value) (K2 K3 K6 K7 K8 K9 Ka Kb Kc Kd Ke Kf Kg Kh Ki Kj Kk Kl Km Kn Ko Kp Kq Kr Ks Kt Ku Kv Kw Kx Ky Kz J0 J1 J2 J3 J4 J5 J6 : Value),Mk B h0 h' s' (l ++ scanPts w hh top n) → Ok tab R139 k #[.int .i64 w,.int .i64 hh,K2,K3,v4,s',K6,K7,K8,K9,Ka,Kb,Kc,Kd,Ke,Kf,Kg,Kh,Ki,Kj,Kk,Kl,Km,Kn,Ko,Kp,Kq,Kr,Ks,Kt,Ku,Kv,Kw,Kx,Ky,Kz,J0,J1,J2,J3,J4,J5,J6] h' R) →
   Ok tab R139 (.inLoop L139_2 :: .inBlock 0 :: k) #[.int .i64 w,.int .i64 hh,K2,K3,v4,s,.int .i64 top,K7,K8,K9,Ka,Kb,Kc,Kd,Ke,Kf,Kg,Kh,Ki,Kj,Kk,Kl,Km,Kn,Ko,Kp,Kq,Kr,Ks,Kt,Ku,Kv,Kw,Kx,Ky,Kz,J0,J1,J2,J3,J4,J5,J6] h R := by
 intro n
 induction n with
 | zero =>
  intro top h s l;intros;rename_i hx hx2 h0x m hl hk
  have hlt : ¬ top < (hh : Int) := by omega
  have := hk h s
  rw [scanPts,List.append_nil] at this
  rw [ok_round,l139_2,L139_2a,L139_2b]
  simp [hlt]
  exact this _ _ _ _ _ _ _ _ _ _ _ _ _ _ _ _ _ _ _ _ _ _ _ _ _ _ _ _ _ _ _ _ _ _ _ _ _ _ _ m
 | succ n ih =>
  intro top h s l;intros;rename_i hx hx2 h0x m hl hk
  have hw1 : IntKind.i64.wrap (top + 4) = top + 4 := wrapI (by omega) (by omega)
  have hlt : top < (hh : Int) := by omega
  have hmul : 4 * w * (n + 1) = 4 * w * n + 4 * w := by rw [Nat.mul_add]; omega
  rw [ok_round,l139_2,L139_2a,L139_2b]
  simp [hlt]
  refine scan1_c hh2 hw2 ⟨h0x,by omega⟩ w 0 h s l _ _ _ _ _ _ _ _ _ _ _ _ _ _ _ _ _ _ _ _ _ _ _ _ _ _ _ _ _ _ _ _ _ _ _ _ _ (by omega) (by omega) m (by omega) ?_
  intro h' s' x';intros;rename_i m1
  simp [hw1]
  refine ih (top + 4) h' s' _ _ _ _ _ _ _ _ _ _ _ _ _ _ _ _ _ _ _ _ _ _ _ _ _ _ _ _ _ _ _ _ _ _ _ _ _ _ _ (by omega) (by omega) (by omega) m1 (by rw [List.length_append]; have := stripePts_len hh w 0 top; omega) ?_
  intro h'' s'';intros;rename_i m2
  exact hk h'' s'' _ _ _ _ _ _ _ _ _ _ _ _ _ _ _ _ _ _ _ _ _ _ _ _ _ _ _ _ _ _ _ _ _ _ _ _ _ _ _ (by rw [scanPts]; simpa using m2)
end
theorem scan_c {w hh : Nat} (w1 : 1 ≤ w) (w2 : w ≤ 64) (h1 : 1 ≤ hh) (h2 : hh ≤ 64) (h : Heap) :
  ∃ s h',(∀ R,Ret tab 139 [.int .i64 w,.int .i64 hh] h R = R s h') ∧ Mk h.length h h' s (scan w hh) := by
 have hs : ∀ h R,Ret tab 105 [.int .i64 w,.int .i64 hh] h R = R (.bool true) h := fun h R => sized_c w1 w2 h1 h2
 have key : Ret tab 139 [.int .i64 w,.int .i64 hh] h fun s h' => Mk h.length h h' s (scan w hh) := by
  have hm : w * hh ≤ 64 * 64 := Nat.mul_le_mul w2 h2
  have hst : 4 * w * stripesOf hh ≤ 4 * 64 * 16 := Nat.mul_le_mul (by omega) (by unfold stripesOf; omega)
  have g1 : (hh : Int) ≤ 0 + 4 * (stripesOf hh : Nat) := by unfold stripesOf; omega
  have g2 : 0 + 4 * ((stripesOf hh : Nat) : Int) ≤ hh + 3 := by unfold stripesOf; omega
  rw [enter139,B139]
  have hw : IntKind.i64.wrap ((w : Int) * hh) = ((w * hh : Nat) : Int) := by rw [← Int.natCast_mul]; exact wrapN (by omega)
  have hr : ((w * hh : Nat) : Int) ≤ (roomCells : Int) := by unfold roomCells; omega
  simp [-Int.natCast_mul,hs,hw,hr,repL]
  refine scan2_c h2 w2 (stripesOf hh) 0 _ _ [] _ _ _ _ _ _ _ _ _ _ _ _ _ _ _ _ _ _ _ _ _ _ _ _ _ _ _ _ _ _ _ _ _ _ _ _ _ _ g1 g2 (by omega) ⟨⟨rfl,.inr ⟨h.length,rfl,blk?_push_eq⟩⟩,fun id hid => blk?_push_lt hid,by simp,fun id hid => by simp [sid] at hid; omega⟩ (by simp; omega) ?_
  intro h' s';intros;rename_i m
  simp [fin139]
  simpa [scan] using m
 obtain ⟨v,h',e,m⟩ := ret_ex key
 exact ⟨v,h',e,m⟩
section
variable {B w hh : Nat} {h0 : Heap} {R : Value → Heap → Prop} {k : List RItem} {v4 : Value}
theorem scan0_r (hh2 : hh ≤ 64) {top x : Int} (ht : 0 ≤ top ∧ top < 64) :
  ∀ (n : Nat) (y : Int) (h : Heap) (s : Value) (l : List (Int × Int)) (K2 K3 K9 Ka Kb Kc Kd Ke Kf Kg Kh Ki Kj Kk Kl Km Kn Ko Kp Kq Kr Ks Kt Ku Kv Kw Kx Ky Kz J0 J1 J2 : Value),y + n = min (top + 4) hh → top ≤ y → Mk B h0 h s l → l.length + n ≤ 20000 →
   (∀ (h' : Heap) (s' : Value) (y' : Int) (K2 K3 K9 Ka Kb Kc Kd Ke Kf Kg Kh Ki Kj Kk Kl Km Kn Ko Kp Kq Kr Ks Kt Ku Kv Kw Kx Ky Kz J0 J1 J2 : Value),Mk B h0 h' s' (l ++ colPts x y n) → Ok tab R118 k #[.int .i64 w,.int .i64 hh,K2,K3,v4,s',.int .i64 top,.int .i64 x,.int .i64 y',K9,Ka,Kb,Kc,Kd,Ke,Kf,Kg,Kh,Ki,Kj,Kk,Kl,Km,Kn,Ko,Kp,Kq,Kr,Ks,Kt,Ku,Kv,Kw,Kx,Ky,Kz,J0,J1,J2] h' R) →
   Ok tab R118 (.inLoop L118_0 :: .inBlock 4 :: k) #[.int .i64 w,.int .i64 hh,K2,K3,v4,s,.int .i64 top,.int .i64 x,.int .i64 y,K9,Ka,Kb,Kc,Kd,Ke,Kf,Kg,Kh,Ki,Kj,Kk,Kl,Km,Kn,Ko,Kp,Kq,Kr,Ks,Kt,Ku,Kv,Kw,Kx,Ky,Kz,J0,J1,J2] h R := by
 intro n
 induction n with
 | zero =>
  intro y h s l;intros;rename_i hy hty m hl hk
  have hw : IntKind.i64.wrap (top + 4) = top + 4 := wrapI (by omega) (by omega)
  have hlt : ¬ y < min (top + 4) (hh : Int) := by omega
  have := hk h s y
  rw [colPts,List.append_nil] at this
  rw [ok_round,l118_0,L118_0a,L118_0b]
  simp [hw,fold1,foldO,min2V,min4 (hh := hh) ht.1]
  simp [hlt]
  exact this _ _ _ _ _ _ _ _ _ _ _ _ _ _ _ _ _ _ _ _ _ _ _ _ _ _ _ _ _ _ _ _ m
 | succ n ih =>
  intro y h s l;intros;rename_i hy hty m hl hk
  have hw : IntKind.i64.wrap (top + 4) = top + 4 := wrapI (by omega) (by omega)
  have hw1 : IntKind.i64.wrap (y + 1) = y + 1 := wrapI (by omega) (by omega)
  have hlt : y < min (top + 4) (hh : Int) := by omega
  obtain ⟨s',H,ha,m'⟩ := m.push (by omega) x y
  rw [ok_round,l118_0,L118_0a,L118_0b]
  simp [hw,fold1,foldO,min2V,min4 (hh := hh) ht.1]
  simp [hlt,hw1,repL,ha]
  refine ih (y + 1) H s' (l ++ [(x,y)]) _ _ _ _ _ _ _ _ _ _ _ _ _ _ _ _ _ _ _ _ _ _ _ _ _ _ _ _ _ _ _ _ (by omega) (by omega) m' (by simp; omega) ?_
  intro h' s'' y';intros;rename_i m2
  exact hk h' s'' y' _ _ _ _ _ _ _ _ _ _ _ _ _ _ _ _ _ _ _ _ _ _ _ _ _ _ _ _ _ _ _ _ (by rw [colPts]; simpa using m2)
theorem scan1_r (hh2 : hh ≤ 64) (hw2 : w ≤ 64) {top : Int} (ht : 0 ≤ top ∧ top < 64) :
  ∀ (n : Nat) (x : Int) (h : Heap) (s : Value) (l : List (Int × Int)) (K2 K3 K8 K9 Ka Kb Kc Kd Ke Kf Kg Kh Ki Kj Kk Kl Km Kn Ko Kp Kq Kr Ks Kt Ku Kv Kw Kx Ky Kz J0 J1 J2 : Value),x + n = w → 0 ≤ x → Mk B h0 h s l → l.length + 4 * n ≤ 20000 →
   (∀ (h' : Heap) (s' : Value) (x' : Int) (K2 K3 K8 K9 Ka Kb Kc Kd Ke Kf Kg Kh Ki Kj Kk Kl Km Kn Ko Kp Kq Kr Ks Kt Ku Kv Kw Kx Ky Kz J0 J1 J2 : Value),Mk B h0 h' s' (l ++ stripePts hh x top n) → Ok tab R118 k #[.int .i64 w,.int .i64 hh,K2,K3,v4,s',.int .i64 top,.int .i64 x',K8,K9,Ka,Kb,Kc,Kd,Ke,Kf,Kg,Kh,Ki,Kj,Kk,Kl,Km,Kn,Ko,Kp,Kq,Kr,Ks,Kt,Ku,Kv,Kw,Kx,Ky,Kz,J0,J1,J2] h' R) →
   Ok tab R118 (.inLoop L118_1 :: .inBlock 2 :: k) #[.int .i64 w,.int .i64 hh,K2,K3,v4,s,.int .i64 top,.int .i64 x,K8,K9,Ka,Kb,Kc,Kd,Ke,Kf,Kg,Kh,Ki,Kj,Kk,Kl,Km,Kn,Ko,Kp,Kq,Kr,Ks,Kt,Ku,Kv,Kw,Kx,Ky,Kz,J0,J1,J2] h R := by
 intro n
 induction n with
 | zero =>
  intro x h s l;intros;rename_i hx h0x m hl hk
  have hlt : ¬ x < (w : Int) := by omega
  have := hk h s x
  rw [stripePts,List.append_nil] at this
  rw [ok_round,l118_1,L118_1a,L118_1b]
  simp [hlt]
  exact this _ _ _ _ _ _ _ _ _ _ _ _ _ _ _ _ _ _ _ _ _ _ _ _ _ _ _ _ _ _ _ _ _ m
 | succ n ih =>
  intro x h s l;intros;rename_i hx h0x m hl hk
  have hw1 : IntKind.i64.wrap (x + 1) = x + 1 := wrapI (by omega) (by omega)
  have hlt : x < (w : Int) := by omega
  rw [ok_round,l118_1,L118_1a,L118_1b]
  simp [hlt]
  by_cases hth : top ≤ hh
  ·refine scan0_r hh2 ht (min (top + 4) (hh : Int) - top).toNat top h s l _ _ _ _ _ _ _ _ _ _ _ _ _ _ _ _ _ _ _ _ _ _ _ _ _ _ _ _ _ _ _ _ (by omega) (by omega) m (by omega) ?_
   intro h' s' y';intros;rename_i m1
   simp [hw1]
   refine ih (x + 1) h' s' _ _ _ _ _ _ _ _ _ _ _ _ _ _ _ _ _ _ _ _ _ _ _ _ _ _ _ _ _ _ _ _ _ _ (by omega) (by omega) m1 (by rw [List.length_append,colPts_len]; omega) ?_
   intro h'' s'' x';intros;rename_i m2
   exact hk h'' s'' x' _ _ _ _ _ _ _ _ _ _ _ _ _ _ _ _ _ _ _ _ _ _ _ _ _ _ _ _ _ _ _ _ _ (by rw [stripePts]; simpa using m2)
  ·have hw : IntKind.i64.wrap (top + 4) = top + 4 := wrapI (by omega) (by omega)
   have hlt2 : ¬ top < min (top + 4) (hh : Int) := by omega
   rw [ok_round,l118_0,L118_0a,L118_0b]
   simp [hw,fold1,foldO,min2V,min4 (hh := hh) ht.1]
   simp [hlt2,hw1]
   refine ih (x + 1) h s _ _ _ _ _ _ _ _ _ _ _ _ _ _ _ _ _ _ _ _ _ _ _ _ _ _ _ _ _ _ _ _ _ _ (by omega) (by omega) m (by omega) ?_
   intro h'' s'' x';intros;rename_i m2
   refine hk h'' s'' x' _ _ _ _ _ _ _ _ _ _ _ _ _ _ _ _ _ _ _ _ _ _ _ _ _ _ _ _ _ _ _ _ _ ?_
   rw [stripePts,show (min (top + 4) (hh : Int) - top).toNat = 0 by omega]
   simpa [colPts] using m2
theorem scan2_r (hh2 : hh ≤ 64) (hw2 : w ≤ 64) :
  ∀ (n : Nat) (top : Int) (h : Heap) (s : Value) (l : List (Int × Int)) (K2 K3 K7 K8 K9 Ka Kb Kc Kd Ke Kf Kg Kh Ki Kj Kk Kl Km Kn Ko Kp Kq Kr Ks Kt Ku Kv Kw Kx Ky Kz J0 J1 J2 : Value),(hh : Int) ≤ top + 4 * n → top + 4 * n ≤ hh + 3 → 0 ≤ top → Mk B h0 h s l → l.length + 4 * w * n ≤ 20000 →
   (∀ (h' : Heap) (s' : Value) (K2 K3 K6 K7 K8 K9 Ka Kb Kc Kd Ke Kf Kg Kh Ki Kj Kk Kl Km Kn Ko Kp Kq Kr Ks Kt Ku Kv Kw Kx Ky Kz J0 J1 J2 : Value),Mk B h0 h' s' (l ++ scanPts w hh top n) → Ok tab R118 k #[.int .i64 w,.int .i64 hh,K2,K3,v4,s',K6,K7,K8,K9,Ka,Kb,Kc,Kd,Ke,Kf,Kg,Kh,Ki,Kj,Kk,Kl,Km,Kn,Ko,Kp,Kq,Kr,Ks,Kt,Ku,Kv,Kw,Kx,Ky,Kz,J0,J1,J2] h' R) →
   Ok tab R118 (.inLoop L118_2 :: .inBlock 0 :: k) #[.int .i64 w,.int .i64 hh,K2,K3,v4,s,.int .i64 top,K7,K8,K9,Ka,Kb,Kc,Kd,Ke,Kf,Kg,Kh,Ki,Kj,Kk,Kl,Km,Kn,Ko,Kp,Kq,Kr,Ks,Kt,Ku,Kv,Kw,Kx,Ky,Kz,J0,J1,J2] h R := by
 intro n
 induction n with
 | zero =>
  intro top h s l;intros;rename_i hx hx2 h0x m hl hk
  have hlt : ¬ top < (hh : Int) := by omega
  have := hk h s
  rw [scanPts,List.append_nil] at this
  rw [ok_round,l118_2,L118_2a,L118_2b]
  simp [hlt]
  exact this _ _ _ _ _ _ _ _ _ _ _ _ _ _ _ _ _ _ _ _ _ _ _ _ _ _ _ _ _ _ _ _ _ _ _ m
 | succ n ih =>
  intro top h s l;intros;rename_i hx hx2 h0x m hl hk
  have hw1 : IntKind.i64.wrap (top + 4) = top + 4 := wrapI (by omega) (by omega)
  have hlt : top < (hh : Int) := by omega
  have hmul : 4 * w * (n + 1) = 4 * w * n + 4 * w := by rw [Nat.mul_add]; omega
  rw [ok_round,l118_2,L118_2a,L118_2b]
  simp [hlt]
  refine scan1_r hh2 hw2 ⟨h0x,by omega⟩ w 0 h s l _ _ _ _ _ _ _ _ _ _ _ _ _ _ _ _ _ _ _ _ _ _ _ _ _ _ _ _ _ _ _ _ _ (by omega) (by omega) m (by omega) ?_
  intro h' s' x';intros;rename_i m1
  simp [hw1]
  refine ih (top + 4) h' s' _ _ _ _ _ _ _ _ _ _ _ _ _ _ _ _ _ _ _ _ _ _ _ _ _ _ _ _ _ _ _ _ _ _ _ (by omega) (by omega) (by omega) m1 (by rw [List.length_append]; have := stripePts_len hh w 0 top; omega) ?_
  intro h'' s'';intros;rename_i m2
  exact hk h'' s'' _ _ _ _ _ _ _ _ _ _ _ _ _ _ _ _ _ _ _ _ _ _ _ _ _ _ _ _ _ _ _ _ _ _ _ (by rw [scanPts]; simpa using m2)
end
theorem scan_r {w hh : Nat} (w1 : 1 ≤ w) (w2 : w ≤ 64) (h1 : 1 ≤ hh) (h2 : hh ≤ 64) (h : Heap) :
  ∃ s h',(∀ R,Ret tab 118 [.int .i64 w,.int .i64 hh] h R = R s h') ∧ Mk h.length h h' s (scan w hh) := by
 have hs : ∀ h R,Ret tab 114 [.int .i64 w,.int .i64 hh] h R = R (.bool true) h := fun h R => sized_r w1 w2 h1 h2
 have key : Ret tab 118 [.int .i64 w,.int .i64 hh] h fun s h' => Mk h.length h h' s (scan w hh) := by
  have hm : w * hh ≤ 64 * 64 := Nat.mul_le_mul w2 h2
  have hst : 4 * w * stripesOf hh ≤ 4 * 64 * 16 := Nat.mul_le_mul (by omega) (by unfold stripesOf; omega)
  have g1 : (hh : Int) ≤ 0 + 4 * (stripesOf hh : Nat) := by unfold stripesOf; omega
  have g2 : 0 + 4 * ((stripesOf hh : Nat) : Int) ≤ hh + 3 := by unfold stripesOf; omega
  rw [enter118,B118]
  simp [hs]
  refine scan2_r h2 w2 (stripesOf hh) 0 _ _ [] _ _ _ _ _ _ _ _ _ _ _ _ _ _ _ _ _ _ _ _ _ _ _ _ _ _ _ _ _ _ _ _ _ _ g1 g2 (by omega) ⟨OwnS.nil _ _,fun id hid => rfl,Nat.le_refl _,fun id hid => by simp [sid] at hid⟩ (by simp; omega) ?_
  intro h' s';intros;rename_i m
  simp [fin118]
  simpa [scan] using m
 obtain ⟨v,h',e,m⟩ := ret_ex key
 exact ⟨v,h',e,m⟩
theorem Stp.low {h h' : Heap} (hk : ∀ id,id < h.length → blk? h' id = blk? h id) (hl : h.length ≤ h'.length) (c ob : Nat) (sv : Value) : Stp h h' c ob sv sv := ⟨hl,fun id h1 _ _ _ => hk id h1,fun _ h => .inl h⟩
section
variable {h : Heap} {q p c pb ob : Nat} {P : PP} {sv : Value} {σ : ES}
theorem PE.low (he : PE h q p c pb ob P sv σ) {h' : Heap} (hk : ∀ id,id < h.length → blk? h' id = blk? h id) (hl : h.length ≤ h'.length) : PE h' q p c pb ob P sv σ := by
 obtain ⟨l1,l2,l3,l4,l5⟩ := he.lts
 refine ⟨he.pr.keep (fun id hid => hk id ?_) (by simp; omega),by rw [hk _ l4]; exact he.pbk,by rw [hk _ l5]; exact he.obk,he.own.of_blk (fun id _ hb => by rw [hk _ (blk?_lt hb)]; exact hb),he.n1,he.n2,he.n3⟩
 rcases hid with rfl | rfl | rfl <;> assumption
theorem PE.good (he : PE h q p c pb ob P sv σ) : σ.b.Good := ⟨he.pr.cb.ok,he.pr.rng⟩
theorem PE.scan (he : PE h q p c pb ob P sv σ) : ∃ s h',(∀ R,Ret tab 139 [.int .i64 σ.b.w,.int .i64 σ.b.h] h R = R s h') ∧ PE h' q p c pb ob P sv σ ∧ Stp h h' c ob sv sv ∧ Far h' s (scan σ.b.w σ.b.h) c ob sv := by
 have ho := he.pr.cb.ok
 obtain ⟨l1,l2,l3,l4,l5⟩ := he.lts
 obtain ⟨s,h',e,m⟩ := scan_c ho.w1 ho.w2 ho.h1 ho.h2 h
 refine ⟨s,h',e,he.low m.low m.len,Stp.low m.low m.len c ob sv,⟨m.own.sl,fun id hid => ?_⟩⟩
 have h1 := m.far id hid
 refine ⟨?_,by omega,by omega,fun e => by have := he.own.lt e; omega⟩
 rcases m.own.2 with ⟨rfl,_⟩ | ⟨id',rfl,hb⟩
 ·simp [sid] at hid
 ·simp [sid] at hid; subst hid; exact blk?_lt hb
theorem sig_loop {s : Value} {pts : List (Int × Int)} {k : List RItem} {R : Value → Heap → Prop} :
  ∀ (m i : Nat) (h : Heap) (sv : Value) (σ : ES) (K1 K2 K3 K4 K5 K6 K7 K8 K9 Ka Kb Kf Kg Kh Ki Kj Kk Kl Km Kn Ko Kp Kq Kr Ks Kt Ku Kv Kw Kx Ky Kz J0 J1 J2 J3 J4 J5 J6 J7 J8 J9 Ja Jb Jc Jd Je Jf : Value),m = pts.length - i → i ≤ pts.length → PE h q p c pb ob P sv σ → Far h s pts c ob sv → AllIn σ.b pts → σ.out.length + 2 * m + 3 < 1000000 → pts.length < 1000000 →
   (∀ (h' : Heap) (sv' : Value) (K1 K2 K3 K4 K5 K6 K7 K8 K9 Ka Kb Kc Kd Ke Kf Kg Kh Ki Kj Kk Kl Km Kn Ko Kp Kq Kr Ks Kt Ku Kv Kw Kx Ky Kz J0 J1 J2 J3 J4 J5 J6 J7 J8 J9 Ja Jb Jc Jd Je Jf : Value),PE h' q p c pb ob P sv' (σ.sigs P (pts.drop i)) → Stp h h' c ob sv sv' → Ok tab R124 k #[ptr q,K1,K2,K3,K4,K5,K6,K7,K8,K9,Ka,Kb,Kc,Kd,Ke,Kf,Kg,Kh,Ki,Kj,Kk,Kl,Km,Kn,Ko,Kp,Kq,Kr,Ks,Kt,Ku,Kv,Kw,Kx,Ky,Kz,J0,J1,J2,J3,J4,J5,J6,J7,J8,J9,Ja,Jb,Jc,Jd,Je,Jf] h' R) →
   Ok tab R124 (.inLoop L124_0 :: .inBlock 0 :: k) #[ptr q,K1,K2,K3,K4,K5,K6,K7,K8,K9,Ka,Kb,s,.int .i64 pts.length,.int .i64 i,Kf,Kg,Kh,Ki,Kj,Kk,Kl,Km,Kn,Ko,Kp,Kq,Kr,Ks,Kt,Ku,Kv,Kw,Kx,Ky,Kz,J0,J1,J2,J3,J4,J5,J6,J7,J8,J9,Ja,Jb,Jc,Jd,Je,Jf] h R := by
 intro m
 induction m with
 | zero =>
  intro i h sv σ;intros;rename_i hm hi he hf ha hl hpl hk
  have hlt : ¬ ((i : Int) < pts.length) := by omega
  rw [ok_round,l124_0,L124_0a,L124_0b]
  simp [hlt]
  refine hk h sv _ _ _ _ _ _ _ _ _ _ _ _ _ _ _ _ _ _ _ _ _ _ _ _ _ _ _ _ _ _ _ _ _ _ _ _ _ _ _ _ _ _ _ _ _ _ _ _ _ _ _ ?_ (Stp.refl _ _ _ _)
  rw [List.drop_of_length_le (by omega)]; exact he
 | succ m ih =>
  intro i h sv σ;intros;rename_i hm hi he hf ha hl hpl hk
  have hlt : ((i : Int) < pts.length) := by omega
  have hw : IntKind.i64.wrap ((i : Int) + 1) = (i : Int) + 1 := wrapN (n := i + 1) (by omega)
  have hil : i < pts.length := by omega
  obtain ⟨id,off,blk,hs,hb,ht,hle⟩ := hf.get hil
  have hin := ha _ (List.getElem_mem hil)
  have hsp : ∀ τ : ES,τ = σ.sig1 P pts[i].1 pts[i].2 → σ.sigs P (pts.drop i) = τ.sigs P (pts.drop (i + 1)) := by
   intro τ hτ
   rw [List.drop_eq_getElem_cons hil,hτ]; rfl
  have hle1 := le_sig1 (P := P) he.good hin
  generalize hx : pts[i].1 = x at *
  generalize hy : pts[i].2 = y at *
  have he2 := he.push (some ⟨false,[.int .i64 x,.int .i64 y]⟩)
  have hs2 := Stp.push h (some ⟨false,[.int .i64 x,.int .i64 y]⟩) c ob sv
  have hf2 := hf.stp hs2
  have hK : ∀ y : Blk,blk? (h ++ [some y]) h.length = some y := fun y => blk?_push_eq
  obtain ⟨l1,l2,l3,l4,l5⟩ := he.lts
  have hq2 := he2.pr.blk
  have hcb2 := he2.pr.cb
  have hsig := fun R => significant_c (R := R) (x := x) (y := y) hcb2
  have hnb := fun R => neighbors_p (R := R) (x := x) (y := y) he2.pr hin
  rw [ok_round,l124_0,L124_0a,L124_0b]
  cases hsg : (σ.b.get x y).s
  ·cases hnr : near σ.b x y P.cz
   ·have h1 : σ.sig1 P x y = σ := by unfold ES.sig1; rw [if_neg (by simp [hnr])]
    rw [hsg] at hsig; rw [hnr] at hnb
    simp [-List.cons_append,-List.append_assoc,k_guard,hlt,hw,hs,hb,ht,hle,hK,hq2,hsig,hnb]
    rw [← hs]
    refine ih (i + 1) _ sv σ _ _ _ _ _ _ _ _ _ _ _ _ _ _ _ _ _ _ _ _ _ _ _ _ _ _ _ _ _ _ _ _ _ _ _ _ _ _ _ _ _ _ _ _ _ _ _ _ (by omega) (by omega) he2 hf2 ha (by omega) hpl ?_
    intro h' sv';intros;rename_i pe st
    exact hk h' sv' _ _ _ _ _ _ _ _ _ _ _ _ _ _ _ _ _ _ _ _ _ _ _ _ _ _ _ _ _ _ _ _ _ _ _ _ _ _ _ _ _ _ _ _ _ _ _ _ _ _ _ (by rw [hsp σ h1.symm]; exact pe) (hs2.trans st)
   ·obtain ⟨sv3,h3,e3,p3,s3⟩ := code_p he2 (by omega) hin
    have hc1 := le_code (P := P) he.good hin
    have hq3 := p3.pr.blk
    have hv3 : blk? h3 h.length = some ⟨false,[.int .i64 x,.int .i64 y]⟩ := by
     rw [s3.same h.length (by simp) (by omega) (by omega) (fun e => by have := he.own.lt e; omega)]; exact blk?_push_eq
    have htc := fun R => touch_c (R := R) (v := true) p3.pr.cb (x := x) (y := y) (hc1.inb hin)
    obtain ⟨p4,s4⟩ := p3.map (x := x) (y := y) (hc1.inb hin) (kv_touch true)
    have h1 : σ.sig1 P x y = (σ.code P x y).map x y (touch true) := by unfold ES.sig1; rw [if_pos ⟨hsg,hnr⟩]
    have hmm : (fun z : Cell => ({ z with t := true } : Cell)) = touch true := rfl
    rw [hmm] at htc
    have hle1' := hle1.len
    rw [h1] at hle1'
    rw [hsg] at hsig; rw [hnr] at hnb
    simp [-List.cons_append,-List.append_assoc,k_guard,hlt,hw,hs,hb,ht,hle,hK,hq2,hsig,hnb,e3,hq3,hv3,htc]
    rw [← hs]
    have st4 := (hs2.trans s3).trans s4
    refine ih (i + 1) _ sv3 _ _ _ _ _ _ _ _ _ _ _ _ _ _ _ _ _ _ _ _ _ _ _ _ _ _ _ _ _ _ _ _ _ _ _ _ _ _ _ _ _ _ _ _ _ _ _ _ _ (by omega) (by omega) p4 (hf.stp st4) (by rw [← h1]; exact ha.le hle1) (by omega) hpl ?_
    intro h' sv';intros;rename_i pe st
    exact hk h' sv' _ _ _ _ _ _ _ _ _ _ _ _ _ _ _ _ _ _ _ _ _ _ _ _ _ _ _ _ _ _ _ _ _ _ _ _ _ _ _ _ _ _ _ _ _ _ _ _ _ _ _ (by rw [hsp _ h1.symm]; exact pe) (st4.trans st)
  ·have h1 : σ.sig1 P x y = σ := by unfold ES.sig1; rw [if_neg (by simp [hsg])]
   rw [hsg] at hsig
   simp [-List.cons_append,-List.append_assoc,k_guard,hlt,hw,hs,hb,ht,hle,hK,hq2,hsig]
   rw [← hs]
   refine ih (i + 1) _ sv σ _ _ _ _ _ _ _ _ _ _ _ _ _ _ _ _ _ _ _ _ _ _ _ _ _ _ _ _ _ _ _ _ _ _ _ _ _ _ _ _ _ _ _ _ _ _ _ _ (by omega) (by omega) he2 hf2 ha (by omega) hpl ?_
   intro h' sv';intros;rename_i pe st
   exact hk h' sv' _ _ _ _ _ _ _ _ _ _ _ _ _ _ _ _ _ _ _ _ _ _ _ _ _ _ _ _ _ _ _ _ _ _ _ _ _ _ _ _ _ _ _ _ _ _ _ _ _ _ _ (by rw [hsp σ h1.symm]; exact pe) (hs2.trans st)
theorem scan_len {w h : Nat} (hw : w ≤ 64) (hh : h ≤ 64) : (scan w h).length ≤ 4096 := by
 have := scanPts_len w h (stripesOf h) 0
 have h2 : 4 * w * stripesOf h ≤ 4 * 64 * 16 := Nat.mul_le_mul (by omega) (by unfold stripesOf; omega)
 unfold scan; omega
theorem significance_p (he : PE h q p c pb ob P sv σ) (hl : σ.out.length ≤ 1000) :
  ∃ sv' h',(∀ R,Ret tab 124 [ptr q] h R = R (.tuple #[]) h') ∧ PE h' q p c pb ob P sv' (σ.sigs P (scan σ.b.w σ.b.h)) ∧ Stp h h' c ob sv sv' := by
 have key : Ret tab 124 [ptr q] h fun v h' => v = .tuple #[] ∧ ∃ sv',PE h' q p c pb ob P sv' (σ.sigs P (scan σ.b.w σ.b.h)) ∧ Stp h h' c ob sv sv' := by
  obtain ⟨s,h1,e1,p1,s1,f1⟩ := he.scan
  obtain ⟨a,cc,hs⟩ := f1.sl.shape
  have hsl := scan_len he.pr.cb.ok.w2 he.pr.cb.ok.h2
  have hq := he.pr.blk
  rw [enter124,B124]
  simp [hq,e1,hs]
  rw [← hs]
  refine sig_loop _ 0 h1 sv σ _ _ _ _ _ _ _ _ _ _ _ _ _ _ _ _ _ _ _ _ _ _ _ _ _ _ _ _ _ _ _ _ _ _ _ _ _ _ _ _ _ _ _ _ _ _ _ _ rfl (by omega) p1 f1 (scanIn σ.b) (by omega) (by omega) ?_
  intro h' sv';intros;rename_i pe st
  simp [fin124]
  exact ⟨sv',by simpa using pe,s1.trans st⟩
 obtain ⟨v,h',e,rfl,sv',pe,st⟩ := ret_ex key
 exact ⟨sv',h',e,pe,st⟩
end
section
variable {h : Heap} {q p c pb ob : Nat} {P : PP} {sv : Value} {σ : ES}
theorem ref_loop {s : Value} {pts : List (Int × Int)} {k : List RItem} {R : Value → Heap → Prop} :
  ∀ (m i : Nat) (h : Heap) (sv : Value) (σ : ES) (K1 K2 K3 K4 K5 K6 K7 K8 K9 Ka Kb Kf Kg Kh Ki Kj Kk Kl Km Kn Ko Kp Kq Kr Ks Kt Ku Kv Kw Kx Ky Kz J0 J1 J2 J3 J4 J5 J6 J7 J8 J9 Ja Jb Jc Jd Je Jf Jg Jh Ji Jj Jk Jl Jm Jn Jo Jp Jq Jr Js Jt Ju Jv Jw Jx Jy Jz Y0 Y1 Y2 Y3 Y4 Y5 Y6 Y7 Y8 Y9 Ya Yb Yc Yd : Value),m = pts.length - i → i ≤ pts.length → PE h q p c pb ob P sv σ → Far h s pts c ob sv → AllIn σ.b pts → σ.out.length + 2 * m + 3 < 1000000 → pts.length < 1000000 →
   (∀ (h' : Heap) (sv' : Value) (K1 K2 K3 K4 K5 K6 K7 K8 K9 Ka Kb Kc Kd Ke Kf Kg Kh Ki Kj Kk Kl Km Kn Ko Kp Kq Kr Ks Kt Ku Kv Kw Kx Ky Kz J0 J1 J2 J3 J4 J5 J6 J7 J8 J9 Ja Jb Jc Jd Je Jf Jg Jh Ji Jj Jk Jl Jm Jn Jo Jp Jq Jr Js Jt Ju Jv Jw Jx Jy Jz Y0 Y1 Y2 Y3 Y4 Y5 Y6 Y7 Y8 Y9 Ya Yb Yc Yd : Value),PE h' q p c pb ob P sv' (σ.refs P (pts.drop i)) → Stp h h' c ob sv sv' → Ok tab R125 k #[ptr q,K1,K2,K3,K4,K5,K6,K7,K8,K9,Ka,Kb,Kc,Kd,Ke,Kf,Kg,Kh,Ki,Kj,Kk,Kl,Km,Kn,Ko,Kp,Kq,Kr,Ks,Kt,Ku,Kv,Kw,Kx,Ky,Kz,J0,J1,J2,J3,J4,J5,J6,J7,J8,J9,Ja,Jb,Jc,Jd,Je,Jf,Jg,Jh,Ji,Jj,Jk,Jl,Jm,Jn,Jo,Jp,Jq,Jr,Js,Jt,Ju,Jv,Jw,Jx,Jy,Jz,Y0,Y1,Y2,Y3,Y4,Y5,Y6,Y7,Y8,Y9,Ya,Yb,Yc,Yd] h' R) →
   Ok tab R125 (.inLoop L125_0 :: .inBlock 0 :: k) #[ptr q,K1,K2,K3,K4,K5,K6,K7,K8,K9,Ka,Kb,s,.int .i64 pts.length,.int .i64 i,Kf,Kg,Kh,Ki,Kj,Kk,Kl,Km,Kn,Ko,Kp,Kq,Kr,Ks,Kt,Ku,Kv,Kw,Kx,Ky,Kz,J0,J1,J2,J3,J4,J5,J6,J7,J8,J9,Ja,Jb,Jc,Jd,Je,Jf,Jg,Jh,Ji,Jj,Jk,Jl,Jm,Jn,Jo,Jp,Jq,Jr,Js,Jt,Ju,Jv,Jw,Jx,Jy,Jz,Y0,Y1,Y2,Y3,Y4,Y5,Y6,Y7,Y8,Y9,Ya,Yb,Yc,Yd] h R := by
 intro m
 induction m with
 | zero =>
  intro i h sv σ;intros;rename_i hm hi he hf ha hl hpl hk
  have hlt : ¬ ((i : Int) < pts.length) := by omega
  rw [ok_round,l125_0,L125_0a,L125_0b]
  simp [hlt]
  refine hk h sv _ _ _ _ _ _ _ _ _ _ _ _ _ _ _ _ _ _ _ _ _ _ _ _ _ _ _ _ _ _ _ _ _ _ _ _ _ _ _ _ _ _ _ _ _ _ _ _ _ _ _ _ _ _ _ _ _ _ _ _ _ _ _ _ _ _ _ _ _ _ _ _ _ _ _ _ _ _ _ _ _ _ _ _ _ ?_ (Stp.refl _ _ _ _)
  rw [List.drop_of_length_le (by omega)]; exact he
 | succ m ih =>
  intro i h sv σ;intros;rename_i hm hi he hf ha hl hpl hk
  have hlt : ((i : Int) < pts.length) := by omega
  have hw : IntKind.i64.wrap ((i : Int) + 1) = (i : Int) + 1 := wrapN (n := i + 1) (by omega)
  have hil : i < pts.length := by omega
  obtain ⟨id,off,blk,hs,hb,ht,hle⟩ := hf.get hil
  have hin := ha _ (List.getElem_mem hil)
  have hsp : ∀ τ : ES,τ = σ.ref1 P pts[i].1 pts[i].2 → σ.refs P (pts.drop i) = τ.refs P (pts.drop (i + 1)) := by
   intro τ hτ
   rw [List.drop_eq_getElem_cons hil,hτ]; rfl
  have hle1 := le_ref1 (P := P) he.good hin
  generalize hx : pts[i].1 = x at *
  generalize hy : pts[i].2 = y at *
  have he2 := he.push (some ⟨false,[.int .i64 x,.int .i64 y]⟩)
  have hs2 := Stp.push h (some ⟨false,[.int .i64 x,.int .i64 y]⟩) c ob sv
  have hf2 := hf.stp hs2
  have hK : ∀ y : Blk,blk? (h ++ [some y]) h.length = some y := fun y => blk?_push_eq
  obtain ⟨l1,l2,l3,l4,l5⟩ := he.lts
  have hq2 := he2.pr.blk
  have hcb2 := he2.pr.cb
  have hsig := fun R => significant_c (R := R) (x := x) (y := y) hcb2
  have htch := fun R => touched_c (R := R) (x := x) (y := y) hcb2
  have hrfd := fun R => refined_c (R := R) (x := x) (y := y) hcb2
  have hnb := fun R => neighbors_p (R := R) (x := x) (y := y) he2.pr hin
  have hbit := fun R => bit_c (R := R) (x := x) (y := y) he2.pr
  have hcx := fun a b R => ctxRefine_c (h := h ++ [some (⟨false,[.int .i64 x,.int .i64 y]⟩ : Blk)]) (R := R) (a := a) (b := b)
  have hskip : σ.ref1 P x y = σ → ∀ K1 K2 K3 K4 K5 K6 K7 K8 K9 Ka Kb Kf Kg Kh Ki Kj Kk Kl Km Kn Ko Kp Kq Kr Ks Kt Ku Kv Kw Kx Ky Kz J0 J1 J2 J3 J4 J5 J6 J7 J8 J9 Ja Jb Jc Jd Je Jf Jg Jh Ji Jj Jk Jl Jm Jn Jo Jp Jq Jr Js Jt Ju Jv Jw Jx Jy Jz Y0 Y1 Y2 Y3 Y4 Y5 Y6 Y7 Y8 Y9 Ya Yb Yc Yd : Value,Ok tab R125 (.inLoop L125_0 :: .inBlock 0 :: k) #[ptr q,K1,K2,K3,K4,K5,K6,K7,K8,K9,Ka,Kb,s,.int .i64 pts.length,.int .i64 ((i : Int) + 1),Kf,Kg,Kh,Ki,Kj,Kk,Kl,Km,Kn,Ko,Kp,Kq,Kr,Ks,Kt,Ku,Kv,Kw,Kx,Ky,Kz,J0,J1,J2,J3,J4,J5,J6,J7,J8,J9,Ja,Jb,Jc,Jd,Je,Jf,Jg,Jh,Ji,Jj,Jk,Jl,Jm,Jn,Jo,Jp,Jq,Jr,Js,Jt,Ju,Jv,Jw,Jx,Jy,Jz,Y0,Y1,Y2,Y3,Y4,Y5,Y6,Y7,Y8,Y9,Ya,Yb,Yc,Yd] (h ++ [some ⟨false,[.int .i64 x,.int .i64 y]⟩]) R := by
   intro h1;intros
   refine ih (i + 1) _ sv σ _ _ _ _ _ _ _ _ _ _ _ _ _ _ _ _ _ _ _ _ _ _ _ _ _ _ _ _ _ _ _ _ _ _ _ _ _ _ _ _ _ _ _ _ _ _ _ _ _ _ _ _ _ _ _ _ _ _ _ _ _ _ _ _ _ _ _ _ _ _ _ _ _ _ _ _ _ _ _ _ _ _ (by omega) (by omega) he2 hf2 ha (by omega) hpl ?_
   intro h' sv';intros;rename_i pe st
   exact hk h' sv' _ _ _ _ _ _ _ _ _ _ _ _ _ _ _ _ _ _ _ _ _ _ _ _ _ _ _ _ _ _ _ _ _ _ _ _ _ _ _ _ _ _ _ _ _ _ _ _ _ _ _ _ _ _ _ _ _ _ _ _ _ _ _ _ _ _ _ _ _ _ _ _ _ _ _ _ _ _ _ _ _ _ _ _ _ (by rw [hsp σ h1.symm]; exact pe) (hs2.trans st)
  rw [ok_round,l125_0,L125_0a,L125_0b]
  cases hsg : (σ.b.get x y).s
  ·have h1 : σ.ref1 P x y = σ := by unfold ES.ref1; rw [if_pos (.inl hsg)]
   rw [hsg] at hsig
   simp [-List.cons_append,-List.append_assoc,k_guard,hlt,hw,hs,hb,ht,hle,hK,hq2,hsig]
   rw [← hs]
   exact hskip h1 ..
  ·cases htc0 : (σ.b.get x y).t
   ·-- refined
    obtain ⟨sv3,h3,e3,p3,s3⟩ := emit_c he2 (by omega) (refCtx (!(σ.b.get x y).r) (near σ.b x y P.cz)) (bitOf (σ.b.get x y).v P.s)
    have hc1 := le_emit (P := P) he.good (refCtx (!(σ.b.get x y).r) (near σ.b x y P.cz)) (bitOf (σ.b.get x y).v P.s)
    have hq3 := p3.pr.blk
    have hv3 : blk? h3 h.length = some ⟨false,[.int .i64 x,.int .i64 y]⟩ := by
     rw [s3.same h.length (by simp) (by omega) (by omega) (fun e => by have := he.own.lt e; omega)]; exact blk?_push_eq
    have hrf := fun R => refine_c (R := R) p3.pr.cb (x := x) (y := y) (hc1.inb hin)
    obtain ⟨p4,s4⟩ := p3.map (x := x) (y := y) (hc1.inb hin) kv_refine
    have hc2 := hc1.trans (le_map hc1.good (hc1.inb hin) kv_refine)
    have hq4 := p4.pr.blk
    have hv4 : blk? (h3.set c (some ⟨false,encC ((σ.emit P (refCtx (!(σ.b.get x y).r) (near σ.b x y P.cz)) (bitOf (σ.b.get x y).v P.s)).b.upd x y refine').cs⟩)) h.length = some ⟨false,[.int .i64 x,.int .i64 y]⟩ := by
     rw [blk?_set_ne (by omega)]; exact hv3
    have htc := fun R => touch_c (R := R) (v := true) p4.pr.cb (x := x) (y := y) (hc2.inb hin)
    obtain ⟨p5,s5⟩ := p4.map (x := x) (y := y) (hc2.inb hin) (kv_touch true)
    have h1 : σ.ref1 P x y = ((σ.emit P (refCtx (!(σ.b.get x y).r) (near σ.b x y P.cz)) (bitOf (σ.b.get x y).v P.s)).map x y refine').map x y (touch true) := by unfold ES.ref1; rw [if_neg (by simp [hsg,htc0])]
    have hmm : (fun z : Cell => ({ z with t := true } : Cell)) = touch true := rfl
    have hmr : (fun z : Cell => ({ z with r := true } : Cell)) = refine' := rfl
    rw [hmm] at htc
    rw [hmr] at hrf
    have hle1' := hle1.len
    rw [h1] at hle1'
    rw [hsg] at hsig; rw [htc0] at htch
    have st5 := ((hs2.trans s3).trans s4).trans s5
    rw [List.set_set] at p5 st5
    simp only [ES.map_b,ES.emit_b] at hrf htc hv4 hq3 hq4
    simp [-List.cons_append,-List.append_assoc,k_guard,hlt,hw,hs,hb,ht,hle,hK,hq2,hsig,htch,hrfd,hnb,hbit,hcx,e3,hq3,hv3,hrf,hq4,hv4,htc,book,logOf,addLog,chk1,lookL,reload]
    rw [← hs]
    refine ih (i + 1) _ sv3 _ _ _ _ _ _ _ _ _ _ _ _ _ _ _ _ _ _ _ _ _ _ _ _ _ _ _ _ _ _ _ _ _ _ _ _ _ _ _ _ _ _ _ _ _ _ _ _ _ _ _ _ _ _ _ _ _ _ _ _ _ _ _ _ _ _ _ _ _ _ _ _ _ _ _ _ _ _ _ _ _ _ _ (by omega) (by omega) p5 (hf.stp st5) (by rw [← h1]; exact ha.le hle1) (by omega) hpl ?_
    intro h' sv';intros;rename_i pe st
    exact hk h' sv' _ _ _ _ _ _ _ _ _ _ _ _ _ _ _ _ _ _ _ _ _ _ _ _ _ _ _ _ _ _ _ _ _ _ _ _ _ _ _ _ _ _ _ _ _ _ _ _ _ _ _ _ _ _ _ _ _ _ _ _ _ _ _ _ _ _ _ _ _ _ _ _ _ _ _ _ _ _ _ _ _ _ _ _ _ (by rw [hsp _ h1.symm]; exact pe) (st5.trans st)
   ·have h1 : σ.ref1 P x y = σ := by unfold ES.ref1; rw [if_pos (.inr htc0)]
    rw [hsg] at hsig; rw [htc0] at htch
    simp [-List.cons_append,-List.append_assoc,k_guard,hlt,hw,hs,hb,ht,hle,hK,hq2,hsig,htch]
    rw [← hs]
    exact hskip h1 ..
theorem refinement_p (he : PE h q p c pb ob P sv σ) (hl : σ.out.length ≤ 1000) :
  ∃ sv' h',(∀ R,Ret tab 125 [ptr q] h R = R (.tuple #[]) h') ∧ PE h' q p c pb ob P sv' (σ.refs P (scan σ.b.w σ.b.h)) ∧ Stp h h' c ob sv sv' := by
 have key : Ret tab 125 [ptr q] h fun v h' => v = .tuple #[] ∧ ∃ sv',PE h' q p c pb ob P sv' (σ.refs P (scan σ.b.w σ.b.h)) ∧ Stp h h' c ob sv sv' := by
  obtain ⟨s,h1,e1,p1,s1,f1⟩ := he.scan
  obtain ⟨a,cc,hs⟩ := f1.sl.shape
  have hsl := scan_len he.pr.cb.ok.w2 he.pr.cb.ok.h2
  have hq := he.pr.blk
  rw [enter125,B125]
  simp [hq,e1,hs]
  rw [← hs]
  refine ref_loop _ 0 h1 sv σ _ _ _ _ _ _ _ _ _ _ _ _ _ _ _ _ _ _ _ _ _ _ _ _ _ _ _ _ _ _ _ _ _ _ _ _ _ _ _ _ _ _ _ _ _ _ _ _ _ _ _ _ _ _ _ _ _ _ _ _ _ _ _ _ _ _ _ _ _ _ _ _ _ _ _ _ _ _ _ _ _ _ rfl (by omega) p1 f1 (scanIn σ.b) (by omega) (by omega) ?_
  intro h' sv';intros;rename_i pe st
  simp [fin125]
  exact ⟨sv',by simpa using pe,s1.trans st⟩
 obtain ⟨v,h',e,rfl,sv',pe,st⟩ := ret_ex key
 exact ⟨sv',h',e,pe,st⟩
theorem half {k : Nat} (hk : k < 4) : shrI .i64 (k : Int) 1 = ((k / 2 : Nat) : Int) := by
 have := shrN (i := .i64) (a := k) (b := 1) (by decide)
 simpa using this
theorem run_loop {x top : Int} {k : List RItem} {v6 : Value} (R : Value → Heap → Prop) (he : PE h q p c pb ob P sv σ) (hn : σ.out.length + 5 < 1000000) (hx : 0 ≤ x ∧ x < σ.b.w) (ht : 0 ≤ top ∧ top + 4 ≤ σ.b.h)
  (hnone : firstBit σ.b P.s x top 4 = none → ∀ K3 K4 K5 K7 K8 K9 Ka Kb Kc Kd Ke Kf Kg Kh Ki Kj Kk Kl Km Kn Ko Kp Kq Kr Ks Kt Ku Kv Kw Kx Ky Kz J0 J1 J2 J3 J4 J5 J6 J7 J8 J9 Ja Jb Jc Jd Je Jf Jg Jh Ji : Value,Ok tab R166 k #[ptr q,.int .i64 x,.int .i64 top,K3,K4,K5,v6,K7,K8,K9,Ka,Kb,Kc,Kd,Ke,Kf,Kg,Kh,Ki,Kj,Kk,Kl,Km,Kn,Ko,Kp,Kq,Kr,Ks,Kt,Ku,Kv,Kw,Kx,Ky,Kz,J0,J1,J2,J3,J4,J5,J6,J7,J8,J9,Ja,Jb,Jc,Jd,Je,Jf,Jg,Jh,Ji] h R)
  (hsome : ∀ j,firstBit σ.b P.s x top 4 = some j → ∀ sv' h',PE h' q p c pb ob P sv' ((((σ.emit P 17 1).emit P 18 (j / 2)).emit P 18 (j % 2)).sign P x (top + j)) → Stp h h' c ob sv sv' → R (.int .i64 (top + j + 1)) h') :
  ∀ (n i : Nat) (K3 K4 K5 K7 K9 Ka Kb Kc Kd Ke Kf Kg Kh Ki Kj Kk Kl Km Kn Ko Kp Kq Kr Ks Kt Ku Kv Kw Kx Ky Kz J0 J1 J2 J3 J4 J5 J6 J7 J8 J9 Ja Jb Jc Jd Je Jf Jg Jh Ji : Value),i + n = 4 → firstBit σ.b P.s x top 4 = (firstBit σ.b P.s x (top + i) n).map (· + i) →
   Ok tab R166 (.inLoop L166_0 :: .inBlock 0 :: k) #[ptr q,.int .i64 x,.int .i64 top,K3,K4,K5,v6,K7,.int .i64 i,K9,Ka,Kb,Kc,Kd,Ke,Kf,Kg,Kh,Ki,Kj,Kk,Kl,Km,Kn,Ko,Kp,Kq,Kr,Ks,Kt,Ku,Kv,Kw,Kx,Ky,Kz,J0,J1,J2,J3,J4,J5,J6,J7,J8,J9,Ja,Jb,Jc,Jd,Je,Jf,Jg,Jh,Ji] h R := by
 intro n
 induction n with
 | zero =>
  intro i;intros;rename_i hi hfb
  obtain rfl : i = 4 := by omega
  rw [ok_round,l166_0,L166_0a,L166_0b]
  simp
  exact hnone (by rw [hfb]; simp [firstBit]) ..
 | succ n ih =>
  intro i;intros;rename_i hi hfb
  have hb2 := he.pr.cb.ok.h2
  have hlt : (i : Int) < 4 := by omega
  have hw1 : IntKind.i64.wrap ((i : Int) + 1) = (i : Int) + 1 := wrapN (n := i + 1) (by omega)
  have hw2 : IntKind.i64.wrap (top + (i : Int)) = top + (i : Int) := wrapI (by omega) (by omega)
  have hw3 : IntKind.i64.wrap (top + (i : Int) + 1) = top + (i : Int) + 1 := wrapI (by omega) (by omega)
  have hbit := fun R => bit_c (R := R) (x := x) (y := top + i) he.pr
  have hq := he.pr.blk
  rw [ok_round,l166_0,L166_0a,L166_0b]
  by_cases hb : bitOf (σ.b.get x (top + i)).v P.s = 1
  ·have hfb' : firstBit σ.b P.s x top 4 = some i := by rw [hfb]; simp [firstBit,hb]
   obtain ⟨sv1,h1,e1,p1,s1⟩ := emit_c he (by omega) 17 1
   obtain ⟨sv2,h2,e2,p2,s2⟩ := emit_c p1 (by simp [ES.emit]; omega) 18 (i / 2)
   obtain ⟨sv3,h3,e3,p3,s3⟩ := emit_c p2 (by simp [ES.emit]; omega) 18 (i % 2)
   obtain ⟨sv4,h4,e4,p4,s4⟩ := sign_p p3 (by simp [ES.emit]; omega) (x := x) (y := top + i) ⟨hx.1,hx.2,by omega,by show top + (i : Int) < σ.b.h; omega⟩
   have hq1 := p1.pr.blk
   have hq2 := p2.pr.blk
   have hq3 := p3.pr.blk
   rw [hb] at hbit
   have hsh := half (k := i) (by omega)
   have han := and1 (a := i) (by omega)
   simp only [Int.natCast_one] at e1 hbit
   simp [-Int.natCast_ediv,-Int.natCast_emod,hlt,hw1,hw2,hw3,hbit,hq,e1,hq1,hsh,e2,hq2,han,e3,hq3,e4,fin166]
   exact hsome i hfb' sv4 h4 p4 (((s1.trans s2).trans s3).trans s4)
  ·have hb0 : bitOf (σ.b.get x (top + i)).v P.s = 0 := by unfold bitOf at *; omega
   rw [hb0] at hbit
   simp only [Int.natCast_zero] at hbit
   simp [hlt,hw1,hw2,hbit]
   refine ih (i + 1) _ _ _ _ _ _ _ _ _ _ _ _ _ _ _ _ _ _ _ _ _ _ _ _ _ _ _ _ _ _ _ _ _ _ _ _ _ _ _ _ _ _ _ _ _ _ _ _ _ _ (by omega) ?_
   rw [hfb,firstBit,if_neg hb]
   rw [show top + ((i + 1 : Nat) : Int) = top + i + 1 by omega]
   cases firstBit σ.b P.s x (top + i + 1) n with
   | none => rfl
   | some j => simp; omega
theorem run_p (he : PE h q p c pb ob P sv σ) (hn : σ.out.length + 5 < 1000000) {x top : Int} (hx : 0 ≤ x ∧ x < σ.b.w) (ht : 0 ≤ top ∧ top + 4 ≤ σ.b.h) :
  ∃ sv' h',(∀ R,Ret tab 166 [ptr q,.int .i64 x,.int .i64 top] h R = R (.int .i64 (σ.run P x top).2) h') ∧ PE h' q p c pb ob P sv' (σ.run P x top).1 ∧ Stp h h' c ob sv sv' := by
 have key : Ret tab 166 [ptr q,.int .i64 x,.int .i64 top] h fun v h' => v = .int .i64 (σ.run P x top).2 ∧ ∃ sv',PE h' q p c pb ob P sv' (σ.run P x top).1 ∧ Stp h h' c ob sv sv' := by
  have hb2 := he.pr.cb.ok.h2
  rw [enter166,B166]
  simp
  refine run_loop _ he hn hx ht ?_ ?_ 4 0 _ _ _ _ _ _ _ _ _ _ _ _ _ _ _ _ _ _ _ _ _ _ _ _ _ _ _ _ _ _ _ _ _ _ _ _ _ _ _ _ _ _ _ _ _ _ _ _ _ _ (by omega) ?_
  ·intro hnone;intros
   obtain ⟨sv1,h1,e1,p1,s1⟩ := emit_c he (by omega) 17 0
   have hq := he.pr.blk
   have hw : IntKind.i64.wrap (top + 4) = top + 4 := wrapI (by omega) (by omega)
   have hr : σ.run P x top = (σ.emit P 17 0,top + 4) := by unfold ES.run; rw [hnone]
   rw [hr]
   simp only [Int.natCast_zero] at e1
   simp [hq,e1,hw,fin166]
   exact ⟨sv1,p1,s1⟩
  ·intro j hj sv' h' pe st
   have hr : σ.run P x top = ((((σ.emit P 17 1).emit P 18 (j / 2)).emit P 18 (j % 2)).sign P x (top + j),top + j + 1) := by unfold ES.run; rw [hj]
   rw [hr]
   exact ⟨rfl,sv',pe,st⟩
  ·simp
 obtain ⟨v,h',e,rfl,sv',pe,st⟩ := ret_ex key
 exact ⟨sv',h',e,pe,st⟩
end
section
variable {h : Heap} {q p c pb ob : Nat} {P : PP} {sv : Value} {σ : ES} {k : List RItem} {R : Value → Heap → Prop} {v1 : Value}
theorem rows_loop {w hh : Nat} (hw2 : w ≤ 64) (hh2 : hh ≤ 64) {x top : Int} {v22 v23 : Value} (hx : 0 ≤ x ∧ x < w) (ht : 0 ≤ top ∧ top < hh) :
  ∀ (n : Nat) (y : Int) (h : Heap) (sv : Value) (σ : ES) (K2 K3 K7 K8 K9 Ka Kb Kc Kd Ke Kf Kg Kh Ki Kj Kk Kl Ko Kp Kq Kr Ks Kt Ku Kv Kw Kx Ky Kz J0 J1 J2 J3 J4 J5 J6 J7 J8 J9 Ja Jb Jc Jd Je Jf Jg Jh Ji Jj Jk Jl Jm Jn Jo Jp Jq Jr Js Jt Ju Jv Jw Jx Jy Jz Y0 Y1 Y2 Y3 Y4 Y5 Y6 Y7 Y8 Y9 Ya Yb Yc Yd Ye Yf Yg Yh Yi Yj Yk Yl Ym Yn Yo Yp Yq Yr Ys Yt Yu Yv Yw Yx Yy Yz Z0 Z1 Z2 : Value),y + n = min (top + 4) hh → 0 ≤ y → σ.b.w = w → σ.b.h = hh → PE h q p c pb ob P sv σ → σ.out.length + 2 * n + 3 < 1000000 →
   (∀ (h' : Heap) (sv' : Value) (y' : Int) (K2 K3 K7 K8 K9 Ka Kb Kc Kd Ke Kf Kg Kh Ki Kj Kk Kl Ko Kp Kq Kr Ks Kt Ku Kv Kw Kx Ky Kz J0 J1 J2 J3 J4 J5 J6 J7 J8 J9 Ja Jb Jc Jd Je Jf Jg Jh Ji Jj Jk Jl Jm Jn Jo Jp Jq Jr Js Jt Ju Jv Jw Jx Jy Jz Y0 Y1 Y2 Y3 Y4 Y5 Y6 Y7 Y8 Y9 Ya Yb Yc Yd Ye Yf Yg Yh Yi Yj Yk Yl Ym Yn Yo Yp Yq Yr Ys Yt Yu Yv Yw Yx Yy Yz Z0 Z1 Z2 : Value),PE h' q p c pb ob P sv' (σ.rows P x y n) → Stp h h' c ob sv sv' →
    Ok tab R126 k #[ptr q,v1,K2,K3,.int .i64 top,.int .i64 x,.int .i64 y',K7,K8,K9,Ka,Kb,Kc,Kd,Ke,Kf,Kg,Kh,Ki,Kj,Kk,Kl,v22,v23,Ko,Kp,Kq,Kr,Ks,Kt,Ku,Kv,Kw,Kx,Ky,Kz,J0,J1,J2,J3,J4,J5,J6,J7,J8,J9,Ja,Jb,Jc,Jd,Je,Jf,Jg,Jh,Ji,Jj,Jk,Jl,Jm,Jn,Jo,Jp,Jq,Jr,Js,Jt,Ju,Jv,Jw,Jx,Jy,Jz,Y0,Y1,Y2,Y3,Y4,Y5,Y6,Y7,Y8,Y9,Ya,Yb,Yc,Yd,Ye,Yf,Yg,Yh,Yi,Yj,Yk,Yl,Ym,Yn,Yo,Yp,Yq,Yr,Ys,Yt,Yu,Yv,Yw,Yx,Yy,Yz,Z0,Z1,Z2] h' R) →
   Ok tab R126 (.inLoop L126_0 :: .inBlock 4 :: k) #[ptr q,v1,K2,K3,.int .i64 top,.int .i64 x,.int .i64 y,K7,K8,K9,Ka,Kb,Kc,Kd,Ke,Kf,Kg,Kh,Ki,Kj,Kk,Kl,v22,v23,Ko,Kp,Kq,Kr,Ks,Kt,Ku,Kv,Kw,Kx,Ky,Kz,J0,J1,J2,J3,J4,J5,J6,J7,J8,J9,Ja,Jb,Jc,Jd,Je,Jf,Jg,Jh,Ji,Jj,Jk,Jl,Jm,Jn,Jo,Jp,Jq,Jr,Js,Jt,Ju,Jv,Jw,Jx,Jy,Jz,Y0,Y1,Y2,Y3,Y4,Y5,Y6,Y7,Y8,Y9,Ya,Yb,Yc,Yd,Ye,Yf,Yg,Yh,Yi,Yj,Yk,Yl,Ym,Yn,Yo,Yp,Yq,Yr,Ys,Yt,Yu,Yv,Yw,Yx,Yy,Yz,Z0,Z1,Z2] h R := by
 intro n
 induction n with
 | zero =>
  intro y h sv σ;intros;rename_i hy h0 hw hh' he hl hk
  have hq := he.pr.blk
  rw [hw,hh'] at hq
  have hw4 : IntKind.i64.wrap (top + 4) = top + 4 := wrapI (by omega) (by omega)
  have hlt : ¬ y < min (top + 4) (hh : Int) := by omega
  rw [ok_round,l126_0,L126_0a,L126_0b]
  simp [hq,hw4,fold1,foldO,min2V,min4 (hh := hh) ht.1]
  simp [hlt]
  exact hk h sv y _ _ _ _ _ _ _ _ _ _ _ _ _ _ _ _ _ _ _ _ _ _ _ _ _ _ _ _ _ _ _ _ _ _ _ _ _ _ _ _ _ _ _ _ _ _ _ _ _ _ _ _ _ _ _ _ _ _ _ _ _ _ _ _ _ _ _ _ _ _ _ _ _ _ _ _ _ _ _ _ _ _ _ _ _ _ _ _ _ _ _ _ _ _ _ _ _ _ _ _ _ _ _ _ he (Stp.refl _ _ _ _)
 | succ n ih =>
  intro y h sv σ;intros;rename_i hy h0 hw hh' he hl hk
  have hq := he.pr.blk
  rw [hw,hh'] at hq
  have hw4 : IntKind.i64.wrap (top + 4) = top + 4 := wrapI (by omega) (by omega)
  have hw1 : IntKind.i64.wrap (y + 1) = y + 1 := wrapI (by omega) (by omega)
  have hlt : y < min (top + 4) (hh : Int) := by omega
  have hin : σ.b.inb x y := ⟨hx.1,by rw [hw]; exact hx.2,h0,by rw [hh']; omega⟩
  have hsig := fun R => significant_c (R := R) (x := x) (y := y) he.pr.cb
  have htch := fun R => touched_c (R := R) (x := x) (y := y) he.pr.cb
  have hle := le_cln1 (P := P) he.good hin
  have hskip : σ.cln1 P x y = σ → ∀ K2 K3 K7 K8 K9 Ka Kb Kc Kd Ke Kf Kg Kh Ki Kj Kk Kl Ko Kp Kq Kr Ks Kt Ku Kv Kw Kx Ky Kz J0 J1 J2 J3 J4 J5 J6 J7 J8 J9 Ja Jb Jc Jd Je Jf Jg Jh Ji Jj Jk Jl Jm Jn Jo Jp Jq Jr Js Jt Ju Jv Jw Jx Jy Jz Y0 Y1 Y2 Y3 Y4 Y5 Y6 Y7 Y8 Y9 Ya Yb Yc Yd Ye Yf Yg Yh Yi Yj Yk Yl Ym Yn Yo Yp Yq Yr Ys Yt Yu Yv Yw Yx Yy Yz Z0 Z1 Z2 : Value,Ok tab R126 (.inLoop L126_0 :: .inBlock 4 :: k) #[ptr q,v1,K2,K3,.int .i64 top,.int .i64 x,.int .i64 (y + 1),K7,K8,K9,Ka,Kb,Kc,Kd,Ke,Kf,Kg,Kh,Ki,Kj,Kk,Kl,v22,v23,Ko,Kp,Kq,Kr,Ks,Kt,Ku,Kv,Kw,Kx,Ky,Kz,J0,J1,J2,J3,J4,J5,J6,J7,J8,J9,Ja,Jb,Jc,Jd,Je,Jf,Jg,Jh,Ji,Jj,Jk,Jl,Jm,Jn,Jo,Jp,Jq,Jr,Js,Jt,Ju,Jv,Jw,Jx,Jy,Jz,Y0,Y1,Y2,Y3,Y4,Y5,Y6,Y7,Y8,Y9,Ya,Yb,Yc,Yd,Ye,Yf,Yg,Yh,Yi,Yj,Yk,Yl,Ym,Yn,Yo,Yp,Yq,Yr,Ys,Yt,Yu,Yv,Yw,Yx,Yy,Yz,Z0,Z1,Z2] h R := by
   intro h1;intros
   refine ih (y + 1) h sv σ _ _ _ _ _ _ _ _ _ _ _ _ _ _ _ _ _ _ _ _ _ _ _ _ _ _ _ _ _ _ _ _ _ _ _ _ _ _ _ _ _ _ _ _ _ _ _ _ _ _ _ _ _ _ _ _ _ _ _ _ _ _ _ _ _ _ _ _ _ _ _ _ _ _ _ _ _ _ _ _ _ _ _ _ _ _ _ _ _ _ _ _ _ _ _ _ _ _ _ _ _ _ _ _ (by omega) (by omega) hw hh' he (by omega) ?_
   intro h' sv' y';intros;rename_i pe st
   exact hk h' sv' y' _ _ _ _ _ _ _ _ _ _ _ _ _ _ _ _ _ _ _ _ _ _ _ _ _ _ _ _ _ _ _ _ _ _ _ _ _ _ _ _ _ _ _ _ _ _ _ _ _ _ _ _ _ _ _ _ _ _ _ _ _ _ _ _ _ _ _ _ _ _ _ _ _ _ _ _ _ _ _ _ _ _ _ _ _ _ _ _ _ _ _ _ _ _ _ _ _ _ _ _ _ _ _ _ (by rw [ES.rows,h1]; exact pe) st
  rw [ok_round,l126_0,L126_0a,L126_0b]
  simp [hq,hw4,fold1,foldO,min2V,min4 (hh := hh) ht.1]
  cases hsg : (σ.b.get x y).s
  ·cases htc : (σ.b.get x y).t
   ·have h1 : σ.cln1 P x y = σ.code P x y := by unfold ES.cln1; rw [if_pos ⟨hsg,htc⟩]
    obtain ⟨sv1,h2,e1,p1,s1⟩ := code_p he (by omega) hin
    rw [hsg] at hsig; rw [htc] at htch
    simp [k_guard,hlt,hw1,hq,hsig,htch,e1]
    rw [← h1] at p1
    refine ih (y + 1) h2 sv1 _ _ _ _ _ _ _ _ _ _ _ _ _ _ _ _ _ _ _ _ _ _ _ _ _ _ _ _ _ _ _ _ _ _ _ _ _ _ _ _ _ _ _ _ _ _ _ _ _ _ _ _ _ _ _ _ _ _ _ _ _ _ _ _ _ _ _ _ _ _ _ _ _ _ _ _ _ _ _ _ _ _ _ _ _ _ _ _ _ _ _ _ _ _ _ _ _ _ _ _ _ _ _ _ _ (by omega) (by omega) (by rw [hle.w]; exact hw) (by rw [hle.h]; exact hh') p1 (by have := hle.len; omega) ?_
    intro h' sv' y';intros;rename_i pe st
    exact hk h' sv' y' _ _ _ _ _ _ _ _ _ _ _ _ _ _ _ _ _ _ _ _ _ _ _ _ _ _ _ _ _ _ _ _ _ _ _ _ _ _ _ _ _ _ _ _ _ _ _ _ _ _ _ _ _ _ _ _ _ _ _ _ _ _ _ _ _ _ _ _ _ _ _ _ _ _ _ _ _ _ _ _ _ _ _ _ _ _ _ _ _ _ _ _ _ _ _ _ _ _ _ _ _ _ _ _ (by rw [ES.rows]; exact pe) (s1.trans st)
   ·have h1 : σ.cln1 P x y = σ := by unfold ES.cln1; rw [if_neg (by simp [htc])]
    rw [hsg] at hsig; rw [htc] at htch
    simp [k_guard,hlt,hw1,hq,hsig,htch]
    exact hskip h1 ..
  ·have h1 : σ.cln1 P x y = σ := by unfold ES.cln1; rw [if_neg (by simp [hsg])]
   rw [hsg] at hsig
   simp [k_guard,k_guardU,hlt,hw1,hq,hsig]
   exact hskip h1 ..
theorem cols_loop {w hh : Nat} (hw2 : w ≤ 64) (hh2 : hh ≤ 64) {top : Int} (ht : 0 ≤ top ∧ top < hh) :
  ∀ (n : Nat) (x : Int) (h : Heap) (sv : Value) (σ : ES) (K2 K3 K5 K6 K7 K8 K9 Ka Kb Kc Kd Ke Kf Kg Kh Ki Kj Kk Kl Ko Kp Kq Kr Ks Kt Ku Kv Kw Kx Ky Kz J0 J1 J2 J3 J4 J5 J6 J7 J8 J9 Ja Jb Jc Jd Je Jf Jg Jh Ji Jj Jk Jl Jm Jn Jo Jp Jq Jr Js Jt Ju Jv Jw Jx Jy Jz Y0 Y1 Y2 Y3 Y4 Y5 Y6 Y7 Y8 Y9 Ya Yb Yc Yd Ye Yf Yg Yh Yi Yj Yk Yl Ym Yn Yo Yp Yq Yr Ys Yt Yu Yv Yw Yx Yy Yz Z0 Z1 Z2 : Value),x + n = w → 0 ≤ x → σ.b.w = w → σ.b.h = hh → PE h q p c pb ob P sv σ → σ.out.length + 12 * n + 20 < 1000000 →
   (∀ (h' : Heap) (sv' : Value) (K2 K3 K5 K6 K7 K8 K9 Ka Kb Kc Kd Ke Kf Kg Kh Ki Kj Kk Kl Km Kn Ko Kp Kq Kr Ks Kt Ku Kv Kw Kx Ky Kz J0 J1 J2 J3 J4 J5 J6 J7 J8 J9 Ja Jb Jc Jd Je Jf Jg Jh Ji Jj Jk Jl Jm Jn Jo Jp Jq Jr Js Jt Ju Jv Jw Jx Jy Jz Y0 Y1 Y2 Y3 Y4 Y5 Y6 Y7 Y8 Y9 Ya Yb Yc Yd Ye Yf Yg Yh Yi Yj Yk Yl Ym Yn Yo Yp Yq Yr Ys Yt Yu Yv Yw Yx Yy Yz Z0 Z1 Z2 : Value),PE h' q p c pb ob P sv' (σ.cols P x top n) → Stp h h' c ob sv sv' →
    Ok tab R126 k #[ptr q,v1,K2,K3,.int .i64 top,K5,K6,K7,K8,K9,Ka,Kb,Kc,Kd,Ke,Kf,Kg,Kh,Ki,Kj,Kk,Kl,Km,Kn,Ko,Kp,Kq,Kr,Ks,Kt,Ku,Kv,Kw,Kx,Ky,Kz,J0,J1,J2,J3,J4,J5,J6,J7,J8,J9,Ja,Jb,Jc,Jd,Je,Jf,Jg,Jh,Ji,Jj,Jk,Jl,Jm,Jn,Jo,Jp,Jq,Jr,Js,Jt,Ju,Jv,Jw,Jx,Jy,Jz,Y0,Y1,Y2,Y3,Y4,Y5,Y6,Y7,Y8,Y9,Ya,Yb,Yc,Yd,Ye,Yf,Yg,Yh,Yi,Yj,Yk,Yl,Ym,Yn,Yo,Yp,Yq,Yr,Ys,Yt,Yu,Yv,Yw,Yx,Yy,Yz,Z0,Z1,Z2] h' R) →
   Ok tab R126 (.inLoop L126_1 :: .inBlock 2 :: k) #[ptr q,v1,K2,K3,.int .i64 top,K5,K6,K7,K8,K9,Ka,Kb,Kc,Kd,Ke,Kf,Kg,Kh,Ki,Kj,Kk,Kl,.int .i64 w,.int .i64 x,Ko,Kp,Kq,Kr,Ks,Kt,Ku,Kv,Kw,Kx,Ky,Kz,J0,J1,J2,J3,J4,J5,J6,J7,J8,J9,Ja,Jb,Jc,Jd,Je,Jf,Jg,Jh,Ji,Jj,Jk,Jl,Jm,Jn,Jo,Jp,Jq,Jr,Js,Jt,Ju,Jv,Jw,Jx,Jy,Jz,Y0,Y1,Y2,Y3,Y4,Y5,Y6,Y7,Y8,Y9,Ya,Yb,Yc,Yd,Ye,Yf,Yg,Yh,Yi,Yj,Yk,Yl,Ym,Yn,Yo,Yp,Yq,Yr,Ys,Yt,Yu,Yv,Yw,Yx,Yy,Yz,Z0,Z1,Z2] h R := by
 intro n
 induction n with
 | zero =>
  intro x h sv σ;intros;rename_i hx h0 hw hh' he hl hk
  have hlt : ¬ x < (w : Int) := by omega
  rw [ok_round,l126_1,L126_1a,L126_1b]
  simp [hlt]
  exact hk h sv _ _ _ _ _ _ _ _ _ _ _ _ _ _ _ _ _ _ _ _ _ _ _ _ _ _ _ _ _ _ _ _ _ _ _ _ _ _ _ _ _ _ _ _ _ _ _ _ _ _ _ _ _ _ _ _ _ _ _ _ _ _ _ _ _ _ _ _ _ _ _ _ _ _ _ _ _ _ _ _ _ _ _ _ _ _ _ _ _ _ _ _ _ _ _ _ _ _ _ _ _ _ _ _ _ _ _ _ he (Stp.refl _ _ _ _)
 | succ n ih =>
  intro x h sv σ;intros;rename_i hx h0 hw hh' he hl hk
  have hlt : x < (w : Int) := by omega
  have hw1 : IntKind.i64.wrap (x + 1) = x + 1 := wrapI (by omega) (by omega)
  have hw4 : IntKind.i64.wrap (top + 4) = top + 4 := wrapI (by omega) (by omega)
  have hq := he.pr.blk
  have hin : σ.b.inb x top := ⟨h0,by rw [hw]; exact hlt,ht.1,by rw [hh']; exact ht.2⟩
  have hqt := fun R => quiet_p (R := R) (x := x) (top := top) he.pr ⟨h0,by rw [hw]; exact hlt⟩ ⟨ht.1,by rw [hh']; exact ht.2⟩
  have hle := le_col (P := P) he.good hin
  have hnext : ∀ (h' : Heap) (sv' : Value) (K2 K3 K5 K6 K7 K8 K9 Ka Kb Kc Kd Ke Kf Kg Kh Ki Kj Kk Kl Ko Kp Kq Kr Ks Kt Ku Kv Kw Kx Ky Kz J0 J1 J2 J3 J4 J5 J6 J7 J8 J9 Ja Jb Jc Jd Je Jf Jg Jh Ji Jj Jk Jl Jm Jn Jo Jp Jq Jr Js Jt Ju Jv Jw Jx Jy Jz Y0 Y1 Y2 Y3 Y4 Y5 Y6 Y7 Y8 Y9 Ya Yb Yc Yd Ye Yf Yg Yh Yi Yj Yk Yl Ym Yn Yo Yp Yq Yr Ys Yt Yu Yv Yw Yx Yy Yz Z0 Z1 Z2 : Value),PE h' q p c pb ob P sv' (σ.col P x top) → Stp h h' c ob sv sv' →
    Ok tab R126 (.inLoop L126_1 :: .inBlock 2 :: k) #[ptr q,v1,K2,K3,.int .i64 top,K5,K6,K7,K8,K9,Ka,Kb,Kc,Kd,Ke,Kf,Kg,Kh,Ki,Kj,Kk,Kl,.int .i64 w,.int .i64 (x + 1),Ko,Kp,Kq,Kr,Ks,Kt,Ku,Kv,Kw,Kx,Ky,Kz,J0,J1,J2,J3,J4,J5,J6,J7,J8,J9,Ja,Jb,Jc,Jd,Je,Jf,Jg,Jh,Ji,Jj,Jk,Jl,Jm,Jn,Jo,Jp,Jq,Jr,Js,Jt,Ju,Jv,Jw,Jx,Jy,Jz,Y0,Y1,Y2,Y3,Y4,Y5,Y6,Y7,Y8,Y9,Ya,Yb,Yc,Yd,Ye,Yf,Yg,Yh,Yi,Yj,Yk,Yl,Ym,Yn,Yo,Yp,Yq,Yr,Ys,Yt,Yu,Yv,Yw,Yx,Yy,Yz,Z0,Z1,Z2] h' R := by
   intro h' sv';intros;rename_i pe st
   refine ih (x + 1) h' sv' _ _ _ _ _ _ _ _ _ _ _ _ _ _ _ _ _ _ _ _ _ _ _ _ _ _ _ _ _ _ _ _ _ _ _ _ _ _ _ _ _ _ _ _ _ _ _ _ _ _ _ _ _ _ _ _ _ _ _ _ _ _ _ _ _ _ _ _ _ _ _ _ _ _ _ _ _ _ _ _ _ _ _ _ _ _ _ _ _ _ _ _ _ _ _ _ _ _ _ _ _ _ _ _ _ _ _ (by omega) (by omega) (by rw [hle.w]; exact hw) (by rw [hle.h]; exact hh') pe (by have := hle.len; omega) ?_
   intro h'' sv'';intros;rename_i pe2 st2
   exact hk h'' sv'' _ _ _ _ _ _ _ _ _ _ _ _ _ _ _ _ _ _ _ _ _ _ _ _ _ _ _ _ _ _ _ _ _ _ _ _ _ _ _ _ _ _ _ _ _ _ _ _ _ _ _ _ _ _ _ _ _ _ _ _ _ _ _ _ _ _ _ _ _ _ _ _ _ _ _ _ _ _ _ _ _ _ _ _ _ _ _ _ _ _ _ _ _ _ _ _ _ _ _ _ _ _ _ _ _ _ _ _ (by rw [ES.cols]; exact pe2) (st.trans st2)
  rw [ok_round,l126_1,L126_1a,L126_1b]
  cases hqq : quiet σ.b x top P.cz
  ·-- no run length
   have hcol : σ.col P x top = σ.rows P x top (min (top + 4) σ.b.h - top).toNat := by unfold ES.col; rw [if_neg (by simp [hqq])]
   rw [hqq] at hqt
   simp [hlt,hqt]
   refine rows_loop hw2 hh2 ⟨h0,hlt⟩ ht (min (top + 4) (hh : Int) - top).toNat top h sv σ _ _ _ _ _ _ _ _ _ _ _ _ _ _ _ _ _ _ _ _ _ _ _ _ _ _ _ _ _ _ _ _ _ _ _ _ _ _ _ _ _ _ _ _ _ _ _ _ _ _ _ _ _ _ _ _ _ _ _ _ _ _ _ _ _ _ _ _ _ _ _ _ _ _ _ _ _ _ _ _ _ _ _ _ _ _ _ _ _ _ _ _ _ _ _ _ _ _ _ _ _ _ _ _ (by omega) ht.1 hw hh' he (by omega) ?_
   intro h' sv' y';intros;rename_i pe st
   simp [hw1]
   exact hnext h' sv' _ _ _ _ _ _ _ _ _ _ _ _ _ _ _ _ _ _ _ _ _ _ _ _ _ _ _ _ _ _ _ _ _ _ _ _ _ _ _ _ _ _ _ _ _ _ _ _ _ _ _ _ _ _ _ _ _ _ _ _ _ _ _ _ _ _ _ _ _ _ _ _ _ _ _ _ _ _ _ _ _ _ _ _ _ _ _ _ _ _ _ _ _ _ _ _ _ _ _ _ _ _ _ _ _ _ (by rw [hcol,hh']; exact pe) st
  ·-- a run length
   have htop : top + 4 ≤ σ.b.h := by
    simp only [quiet,Bool.and_eq_true,decide_eq_true_eq] at hqq; exact hqq.1
   obtain ⟨sv1,h1,e1,p1,s1⟩ := run_p he (by omega) (x := x) (top := top) ⟨h0,by rw [hw]; exact hlt⟩ ⟨ht.1,htop⟩
   obtain ⟨l1,l2,l3⟩ := le_run (P := P) he.good (x := x) (top := top) hin htop
   have hcol : σ.col P x top = ((σ.run P x top).1).rows P x (σ.run P x top).2 (min (top + 4) σ.b.h - (σ.run P x top).2).toNat := by unfold ES.col; rw [if_pos hqq]
   rw [hqq] at hqt
   by_cases hend : (σ.run P x top).2 = top + 4
   ·rw [hend,show (min (top + 4) (σ.b.h : Int) - (top + 4)).toNat = 0 by omega,ES.rows] at hcol
    rw [hend] at e1
    simp [hlt,hqt,e1,hw4,hw1]
    exact hnext h1 sv1 _ _ _ _ _ _ _ _ _ _ _ _ _ _ _ _ _ _ _ _ _ _ _ _ _ _ _ _ _ _ _ _ _ _ _ _ _ _ _ _ _ _ _ _ _ _ _ _ _ _ _ _ _ _ _ _ _ _ _ _ _ _ _ _ _ _ _ _ _ _ _ _ _ _ _ _ _ _ _ _ _ _ _ _ _ _ _ _ _ _ _ _ _ _ _ _ _ _ _ _ _ _ _ _ _ _ (by rw [hcol]; exact p1) s1
   ·have hend' : ((σ.run P x top).2 == top + 4) = false := by simp [hend]
    simp [hlt,hqt,e1,hw4,hend']
    refine rows_loop hw2 hh2 ⟨h0,hlt⟩ ht (min (top + 4) (hh : Int) - (σ.run P x top).2).toNat (σ.run P x top).2 h1 sv1 _ _ _ _ _ _ _ _ _ _ _ _ _ _ _ _ _ _ _ _ _ _ _ _ _ _ _ _ _ _ _ _ _ _ _ _ _ _ _ _ _ _ _ _ _ _ _ _ _ _ _ _ _ _ _ _ _ _ _ _ _ _ _ _ _ _ _ _ _ _ _ _ _ _ _ _ _ _ _ _ _ _ _ _ _ _ _ _ _ _ _ _ _ _ _ _ _ _ _ _ _ _ _ _ _ (by omega) (by omega) (by rw [l1.w]; exact hw) (by rw [l1.h]; exact hh') p1 (by have := l1.len; omega) ?_
    intro h' sv' y';intros;rename_i pe st
    simp [hw1]
    exact hnext h' sv' _ _ _ _ _ _ _ _ _ _ _ _ _ _ _ _ _ _ _ _ _ _ _ _ _ _ _ _ _ _ _ _ _ _ _ _ _ _ _ _ _ _ _ _ _ _ _ _ _ _ _ _ _ _ _ _ _ _ _ _ _ _ _ _ _ _ _ _ _ _ _ _ _ _ _ _ _ _ _ _ _ _ _ _ _ _ _ _ _ _ _ _ _ _ _ _ _ _ _ _ _ _ _ _ _ _ (by rw [hcol,hh']; exact pe) (s1.trans st)
theorem stripes_loop {w hh : Nat} (hw2 : w ≤ 64) (hh2 : hh ≤ 64) :
  ∀ (n : Nat) (top : Int) (h : Heap) (sv : Value) (σ : ES) (K2 K3 K5 K6 K7 K8 K9 Ka Kb Kc Kd Ke Kf Kg Kh Ki Kj Kk Kl Km Kn Ko Kp Kq Kr Ks Kt Ku Kv Kw Kx Ky Kz J0 J1 J2 J3 J4 J5 J6 J7 J8 J9 Ja Jb Jc Jd Je Jf Jg Jh Ji Jj Jk Jl Jm Jn Jo Jp Jq Jr Js Jt Ju Jv Jw Jx Jy Jz Y0 Y1 Y2 Y3 Y4 Y5 Y6 Y7 Y8 Y9 Ya Yb Yc Yd Ye Yf Yg Yh Yi Yj Yk Yl Ym Yn Yo Yp Yq Yr Ys Yt Yu Yv Yw Yx Yy Yz Z0 Z1 Z2 : Value),(hh : Int) ≤ top + 4 * n → top + 4 * n ≤ hh + 3 → 0 ≤ top → σ.b.w = w → σ.b.h = hh → PE h q p c pb ob P sv σ → σ.out.length + 12 * w * n + 20 < 1000000 →
   (∀ (h' : Heap) (sv' : Value) (K2 K3 K4 K5 K6 K7 K8 K9 Ka Kb Kc Kd Ke Kf Kg Kh Ki Kj Kk Kl Km Kn Ko Kp Kq Kr Ks Kt Ku Kv Kw Kx Ky Kz J0 J1 J2 J3 J4 J5 J6 J7 J8 J9 Ja Jb Jc Jd Je Jf Jg Jh Ji Jj Jk Jl Jm Jn Jo Jp Jq Jr Js Jt Ju Jv Jw Jx Jy Jz Y0 Y1 Y2 Y3 Y4 Y5 Y6 Y7 Y8 Y9 Ya Yb Yc Yd Ye Yf Yg Yh Yi Yj Yk Yl Ym Yn Yo Yp Yq Yr Ys Yt Yu Yv Yw Yx Yy Yz Z0 Z1 Z2 : Value),PE h' q p c pb ob P sv' (σ.stripes P top n) → Stp h h' c ob sv sv' →
    Ok tab R126 k #[ptr q,v1,K2,K3,K4,K5,K6,K7,K8,K9,Ka,Kb,Kc,Kd,Ke,Kf,Kg,Kh,Ki,Kj,Kk,Kl,Km,Kn,Ko,Kp,Kq,Kr,Ks,Kt,Ku,Kv,Kw,Kx,Ky,Kz,J0,J1,J2,J3,J4,J5,J6,J7,J8,J9,Ja,Jb,Jc,Jd,Je,Jf,Jg,Jh,Ji,Jj,Jk,Jl,Jm,Jn,Jo,Jp,Jq,Jr,Js,Jt,Ju,Jv,Jw,Jx,Jy,Jz,Y0,Y1,Y2,Y3,Y4,Y5,Y6,Y7,Y8,Y9,Ya,Yb,Yc,Yd,Ye,Yf,Yg,Yh,Yi,Yj,Yk,Yl,Ym,Yn,Yo,Yp,Yq,Yr,Ys,Yt,Yu,Yv,Yw,Yx,Yy,Yz,Z0,Z1,Z2] h' R) →
   Ok tab R126 (.inLoop L126_2 :: .inBlock 0 :: k) #[ptr q,v1,K2,K3,.int .i64 top,K5,K6,K7,K8,K9,Ka,Kb,Kc,Kd,Ke,Kf,Kg,Kh,Ki,Kj,Kk,Kl,Km,Kn,Ko,Kp,Kq,Kr,Ks,Kt,Ku,Kv,Kw,Kx,Ky,Kz,J0,J1,J2,J3,J4,J5,J6,J7,J8,J9,Ja,Jb,Jc,Jd,Je,Jf,Jg,Jh,Ji,Jj,Jk,Jl,Jm,Jn,Jo,Jp,Jq,Jr,Js,Jt,Ju,Jv,Jw,Jx,Jy,Jz,Y0,Y1,Y2,Y3,Y4,Y5,Y6,Y7,Y8,Y9,Ya,Yb,Yc,Yd,Ye,Yf,Yg,Yh,Yi,Yj,Yk,Yl,Ym,Yn,Yo,Yp,Yq,Yr,Ys,Yt,Yu,Yv,Yw,Yx,Yy,Yz,Z0,Z1,Z2] h R := by
 intro n
 induction n with
 | zero =>
  intro top h sv σ;intros;rename_i ha hb h0 hw hh' he hl hk
  have hq := he.pr.blk
  rw [hw,hh'] at hq
  have hlt : ¬ top < (hh : Int) := by omega
  rw [ok_round,l126_2,L126_2a,L126_2b]
  simp [hq,hlt]
  exact hk h sv _ _ _ _ _ _ _ _ _ _ _ _ _ _ _ _ _ _ _ _ _ _ _ _ _ _ _ _ _ _ _ _ _ _ _ _ _ _ _ _ _ _ _ _ _ _ _ _ _ _ _ _ _ _ _ _ _ _ _ _ _ _ _ _ _ _ _ _ _ _ _ _ _ _ _ _ _ _ _ _ _ _ _ _ _ _ _ _ _ _ _ _ _ _ _ _ _ _ _ _ _ _ _ _ _ _ _ _ _ he (Stp.refl _ _ _ _)
 | succ n ih =>
  intro top h sv σ;intros;rename_i ha hb h0 hw hh' he hl hk
  have hq := he.pr.blk
  rw [hw,hh'] at hq
  have hlt : top < (hh : Int) := by omega
  have hw4 : IntKind.i64.wrap (top + 4) = top + 4 := wrapI (by omega) (by omega)
  have hle := le_cols (P := P) (n := w) he.good (x := 0) (top := top) (by omega) (by rw [hw]; omega) h0 (by rw [hh']; exact hlt)
  have hmul : 12 * w * (n + 1) = 12 * w * n + 12 * w := by rw [Nat.mul_add]; omega
  rw [ok_round,l126_2,L126_2a,L126_2b]
  simp [hq,hlt]
  refine cols_loop hw2 hh2 ⟨h0,hlt⟩ w 0 h sv σ _ _ _ _ _ _ _ _ _ _ _ _ _ _ _ _ _ _ _ _ _ _ _ _ _ _ _ _ _ _ _ _ _ _ _ _ _ _ _ _ _ _ _ _ _ _ _ _ _ _ _ _ _ _ _ _ _ _ _ _ _ _ _ _ _ _ _ _ _ _ _ _ _ _ _ _ _ _ _ _ _ _ _ _ _ _ _ _ _ _ _ _ _ _ _ _ _ _ _ _ _ _ _ _ _ _ (by omega) (by omega) hw hh' he (by omega) ?_
  intro h' sv';intros;rename_i pe st
  simp [hw4]
  refine ih (top + 4) h' sv' _ _ _ _ _ _ _ _ _ _ _ _ _ _ _ _ _ _ _ _ _ _ _ _ _ _ _ _ _ _ _ _ _ _ _ _ _ _ _ _ _ _ _ _ _ _ _ _ _ _ _ _ _ _ _ _ _ _ _ _ _ _ _ _ _ _ _ _ _ _ _ _ _ _ _ _ _ _ _ _ _ _ _ _ _ _ _ _ _ _ _ _ _ _ _ _ _ _ _ _ _ _ _ _ _ _ _ _ _ (by omega) (by omega) (by omega) (by rw [hle.w]; exact hw) (by rw [hle.h]; exact hh') pe (by have := hle.len; omega) ?_
  intro h'' sv'';intros;rename_i pe2 st2
  exact hk h'' sv'' _ _ _ _ _ _ _ _ _ _ _ _ _ _ _ _ _ _ _ _ _ _ _ _ _ _ _ _ _ _ _ _ _ _ _ _ _ _ _ _ _ _ _ _ _ _ _ _ _ _ _ _ _ _ _ _ _ _ _ _ _ _ _ _ _ _ _ _ _ _ _ _ _ _ _ _ _ _ _ _ _ _ _ _ _ _ _ _ _ _ _ _ _ _ _ _ _ _ _ _ _ _ _ _ _ _ _ _ _ (by rw [ES.stripes,hw]; exact pe2) (st.trans st2)
theorem clear_loop {s : Value} {pts : List (Int × Int)} :
  ∀ (m i : Nat) (h : Heap) (sv : Value) (σ : ES) (K2 K3 K4 K5 K6 K7 K8 K9 Ka Kb Kc Kd Ke Kf Kg Kh Ki Kj Kk Kl Km Kn Ko Kp Kq Kr Ks Kt Ku Kv Kw Kx Ky Kz J0 J1 J2 J3 J4 J5 J6 J7 J8 J9 Ja Jb Jc Jd Je Jf Jg Jh Ji Jj Jk Jl Jm Jn Jo Jp Jq Jr Js Jt Ju Jv Jw Jx Jy Jz Y0 Y1 Y2 Y3 Y4 Y5 Y6 Y7 Y8 Yc Yd Ye Yf Yg Yh Yi Yj Yk Yl Ym Yn Yo Yp Yq Yr Ys Yt Yu Yv Yw Yx Yy Yz Z0 Z1 Z2 : Value),m = pts.length - i → i ≤ pts.length → PE h q p c pb ob P sv σ → Far h s pts c ob sv → AllIn σ.b pts → pts.length < 1000000 →
   (∀ (h' : Heap) (sv' : Value) (K2 K3 K4 K5 K6 K7 K8 K9 Ka Kb Kc Kd Ke Kf Kg Kh Ki Kj Kk Kl Km Kn Ko Kp Kq Kr Ks Kt Ku Kv Kw Kx Ky Kz J0 J1 J2 J3 J4 J5 J6 J7 J8 J9 Ja Jb Jc Jd Je Jf Jg Jh Ji Jj Jk Jl Jm Jn Jo Jp Jq Jr Js Jt Ju Jv Jw Jx Jy Jz Y0 Y1 Y2 Y3 Y4 Y5 Y6 Y7 Y8 Y9 Ya Yb Yc Yd Ye Yf Yg Yh Yi Yj Yk Yl Ym Yn Yo Yp Yq Yr Ys Yt Yu Yv Yw Yx Yy Yz Z0 Z1 Z2 : Value),PE h' q p c pb ob P sv' (σ.clear (pts.drop i)) → Stp h h' c ob sv sv' → Ok tab R126 k #[ptr q,v1,K2,K3,K4,K5,K6,K7,K8,K9,Ka,Kb,Kc,Kd,Ke,Kf,Kg,Kh,Ki,Kj,Kk,Kl,Km,Kn,Ko,Kp,Kq,Kr,Ks,Kt,Ku,Kv,Kw,Kx,Ky,Kz,J0,J1,J2,J3,J4,J5,J6,J7,J8,J9,Ja,Jb,Jc,Jd,Je,Jf,Jg,Jh,Ji,Jj,Jk,Jl,Jm,Jn,Jo,Jp,Jq,Jr,Js,Jt,Ju,Jv,Jw,Jx,Jy,Jz,Y0,Y1,Y2,Y3,Y4,Y5,Y6,Y7,Y8,Y9,Ya,Yb,Yc,Yd,Ye,Yf,Yg,Yh,Yi,Yj,Yk,Yl,Ym,Yn,Yo,Yp,Yq,Yr,Ys,Yt,Yu,Yv,Yw,Yx,Yy,Yz,Z0,Z1,Z2] h' R) →
   Ok tab R126 (.inLoop L126_3 :: .inBlock 6 :: k) #[ptr q,v1,K2,K3,K4,K5,K6,K7,K8,K9,Ka,Kb,Kc,Kd,Ke,Kf,Kg,Kh,Ki,Kj,Kk,Kl,Km,Kn,Ko,Kp,Kq,Kr,Ks,Kt,Ku,Kv,Kw,Kx,Ky,Kz,J0,J1,J2,J3,J4,J5,J6,J7,J8,J9,Ja,Jb,Jc,Jd,Je,Jf,Jg,Jh,Ji,Jj,Jk,Jl,Jm,Jn,Jo,Jp,Jq,Jr,Js,Jt,Ju,Jv,Jw,Jx,Jy,Jz,Y0,Y1,Y2,Y3,Y4,Y5,Y6,Y7,Y8,s,.int .i64 pts.length,.int .i64 i,Yc,Yd,Ye,Yf,Yg,Yh,Yi,Yj,Yk,Yl,Ym,Yn,Yo,Yp,Yq,Yr,Ys,Yt,Yu,Yv,Yw,Yx,Yy,Yz,Z0,Z1,Z2] h R := by
 intro m
 induction m with
 | zero =>
  intro i h sv σ;intros;rename_i hm hi he hf ha hpl hk
  have hlt : ¬ ((i : Int) < pts.length) := by omega
  rw [ok_round,l126_3,L126_3a,L126_3b]
  simp [hlt]
  refine hk h sv _ _ _ _ _ _ _ _ _ _ _ _ _ _ _ _ _ _ _ _ _ _ _ _ _ _ _ _ _ _ _ _ _ _ _ _ _ _ _ _ _ _ _ _ _ _ _ _ _ _ _ _ _ _ _ _ _ _ _ _ _ _ _ _ _ _ _ _ _ _ _ _ _ _ _ _ _ _ _ _ _ _ _ _ _ _ _ _ _ _ _ _ _ _ _ _ _ _ _ _ _ _ _ _ _ _ _ _ _ ?_ (Stp.refl _ _ _ _)
  rw [List.drop_of_length_le (by omega)]; exact he
 | succ m ih =>
  intro i h sv σ;intros;rename_i hm hi he hf ha hpl hk
  have hlt : ((i : Int) < pts.length) := by omega
  have hw : IntKind.i64.wrap ((i : Int) + 1) = (i : Int) + 1 := wrapN (n := i + 1) (by omega)
  have hil : i < pts.length := by omega
  obtain ⟨id,off,blk,hs,hb,ht,hle⟩ := hf.get hil
  have hin := ha _ (List.getElem_mem hil)
  have hsp : σ.clear (pts.drop i) = (σ.map pts[i].1 pts[i].2 (touch false)).clear (pts.drop (i + 1)) := by
   rw [List.drop_eq_getElem_cons hil]; rfl
  generalize hx : pts[i].1 = x at *
  generalize hy : pts[i].2 = y at *
  have he2 := he.push (some ⟨false,[.int .i64 x,.int .i64 y]⟩)
  have hs2 := Stp.push h (some ⟨false,[.int .i64 x,.int .i64 y]⟩) c ob sv
  have hf2 := hf.stp hs2
  have hK : ∀ y : Blk,blk? (h ++ [some y]) h.length = some y := fun y => blk?_push_eq
  have hq2 := he2.pr.blk
  have htc := fun R => touch_c (R := R) (v := false) he2.pr.cb (x := x) (y := y) hin
  obtain ⟨p4,s4⟩ := he2.map (x := x) (y := y) hin (kv_touch false)
  have hmm : (fun z : Cell => ({ z with t := false } : Cell)) = touch false := rfl
  rw [hmm] at htc
  have hls : (h ++ [some (⟨false,[.int .i64 x,.int .i64 y]⟩ : Blk)]).set c (some ⟨false,encC (σ.b.upd x y (touch false)).cs⟩) = h.set c (some ⟨false,encC (σ.b.upd x y (touch false)).cs⟩) ++ [some ⟨false,[.int .i64 x,.int .i64 y]⟩] :=
   List.set_append_left _ _ he.lts.2.2.1
  rw [ok_round,l126_3,L126_3a,L126_3b]
  rw [hls] at htc p4 s4
  simp [-List.cons_append,-List.append_assoc,hlt,hw,hs,hb,ht,hle,hK,hq2,htc]
  rw [← hs]
  have st4 := hs2.trans s4
  refine ih (i + 1) _ sv _ _ _ _ _ _ _ _ _ _ _ _ _ _ _ _ _ _ _ _ _ _ _ _ _ _ _ _ _ _ _ _ _ _ _ _ _ _ _ _ _ _ _ _ _ _ _ _ _ _ _ _ _ _ _ _ _ _ _ _ _ _ _ _ _ _ _ _ _ _ _ _ _ _ _ _ _ _ _ _ _ _ _ _ _ _ _ _ _ _ _ _ _ _ _ _ _ _ _ _ _ _ _ _ _ _ _ (by omega) (by omega) p4 (hf.stp st4) (ha.le (le_map he.good hin (kv_touch false))) hpl ?_
  intro h' sv';intros;rename_i pe st
  exact hk h' sv' _ _ _ _ _ _ _ _ _ _ _ _ _ _ _ _ _ _ _ _ _ _ _ _ _ _ _ _ _ _ _ _ _ _ _ _ _ _ _ _ _ _ _ _ _ _ _ _ _ _ _ _ _ _ _ _ _ _ _ _ _ _ _ _ _ _ _ _ _ _ _ _ _ _ _ _ _ _ _ _ _ _ _ _ _ _ _ _ _ _ _ _ _ _ _ _ _ _ _ _ _ _ _ _ _ _ _ _ _ (by rw [hsp]; exact pe) (st4.trans st)
end
section
variable {h : Heap} {q p c pb ob : Nat} {P : PP} {sv : Value} {σ : ES} {k : List RItem} {R : Value → Heap → Prop} {v1 : Value}
theorem check_loop {z : Nat} {bits : List Nat} (hbl : bits.length ≤ 4) :
  ∀ (m i : Nat) (h : Heap) (sv : Value) (σ : ES) (K1 K2 K3 K4 K5 K6 K7 K8 K9 Ka Kb Kc Kd Ke Kf Kg Kh Ki Kj Kk Kl Km Kn Ko Kp Kq Kr Ks Kt Ku Kv Kw Kx Ky Kz J0 J1 J2 J3 J4 J5 J6 J7 J8 J9 Ja Jb Jc Jd Je Jf Jg Jh Ji Jj Jk Jl Jm Jn Jo Jp Jq Jr Js Jt Ju Jv Jw Jx Jy Jz Y0 Y1 Y2 Y3 Y4 Y5 Y6 Y7 Y8 Y9 Ya Yb Yc Yd Ye Yf Yg Yh Yi Yj Yk Yl Ym Yn Yo Yp Yt Yu Yv Yw Yx Yy Yz Z0 Z1 Z2 : Value),m = bits.length - i → i ≤ bits.length → PE h q p c pb ob P sv σ →
   blk? h z = some ⟨false,bits.map fun (n : Nat) => .int .i64 n⟩ → (z ≠ c ∧ z ≠ ob ∧ sid sv ≠ some z) → σ.out.length + 10 < 1000000 + i →
   (∀ (h' : Heap) (sv' : Value) (K1 K2 K3 K4 K5 K6 K7 K8 K9 Ka Kb Kc Kd Ke Kf Kg Kh Ki Kj Kk Kl Km Kn Ko Kp Kq Kr Ks Kt Ku Kv Kw Kx Ky Kz J0 J1 J2 J3 J4 J5 J6 J7 J8 J9 Ja Jb Jc Jd Je Jf Jg Jh Ji Jj Jk Jl Jm Jn Jo Jp Jq Jr Js Jt Ju Jv Jw Jx Jy Jz Y0 Y1 Y2 Y3 Y4 Y5 Y6 Y7 Y8 Y9 Ya Yb Yc Yd Ye Yf Yg Yh Yi Yj Yk Yl Ym Yn Yo Yp Yq Yr Ys Yt Yu Yv Yw Yx Yy Yz Z0 Z1 Z2 : Value),PE h' q p c pb ob P sv' (σ.emits P (bits.drop i)) → Stp h h' c ob sv sv' → Ok tab R126 k #[ptr q,K1,K2,K3,K4,K5,K6,K7,K8,K9,Ka,Kb,Kc,Kd,Ke,Kf,Kg,Kh,Ki,Kj,Kk,Kl,Km,Kn,Ko,Kp,Kq,Kr,Ks,Kt,Ku,Kv,Kw,Kx,Ky,Kz,J0,J1,J2,J3,J4,J5,J6,J7,J8,J9,Ja,Jb,Jc,Jd,Je,Jf,Jg,Jh,Ji,Jj,Jk,Jl,Jm,Jn,Jo,Jp,Jq,Jr,Js,Jt,Ju,Jv,Jw,Jx,Jy,Jz,Y0,Y1,Y2,Y3,Y4,Y5,Y6,Y7,Y8,Y9,Ya,Yb,Yc,Yd,Ye,Yf,Yg,Yh,Yi,Yj,Yk,Yl,Ym,Yn,Yo,Yp,Yq,Yr,Ys,Yt,Yu,Yv,Yw,Yx,Yy,Yz,Z0,Z1,Z2] h' R) →
   Ok tab R126 (.inLoop L126_4 :: .inBlock 8 :: k) #[ptr q,K1,K2,K3,K4,K5,K6,K7,K8,K9,Ka,Kb,Kc,Kd,Ke,Kf,Kg,Kh,Ki,Kj,Kk,Kl,Km,Kn,Ko,Kp,Kq,Kr,Ks,Kt,Ku,Kv,Kw,Kx,Ky,Kz,J0,J1,J2,J3,J4,J5,J6,J7,J8,J9,Ja,Jb,Jc,Jd,Je,Jf,Jg,Jh,Ji,Jj,Jk,Jl,Jm,Jn,Jo,Jp,Jq,Jr,Js,Jt,Ju,Jv,Jw,Jx,Jy,Jz,Y0,Y1,Y2,Y3,Y4,Y5,Y6,Y7,Y8,Y9,Ya,Yb,Yc,Yd,Ye,Yf,Yg,Yh,Yi,Yj,Yk,Yl,Ym,Yn,Yo,Yp,.slice (some ⟨z,0,none⟩) bits.length 1,.int .i64 bits.length,.int .i64 i,Yt,Yu,Yv,Yw,Yx,Yy,Yz,Z0,Z1,Z2] h R := by
 intro m
 induction m with
 | zero =>
  intro i h sv σ;intros;rename_i hm hi he hz hn hl hk
  have hlt : ¬ ((i : Int) < bits.length) := by omega
  rw [ok_round,l126_4,L126_4a,L126_4b]
  simp [hlt]
  refine hk h sv _ _ _ _ _ _ _ _ _ _ _ _ _ _ _ _ _ _ _ _ _ _ _ _ _ _ _ _ _ _ _ _ _ _ _ _ _ _ _ _ _ _ _ _ _ _ _ _ _ _ _ _ _ _ _ _ _ _ _ _ _ _ _ _ _ _ _ _ _ _ _ _ _ _ _ _ _ _ _ _ _ _ _ _ _ _ _ _ _ _ _ _ _ _ _ _ _ _ _ _ _ _ _ _ _ _ _ _ _ _ ?_ (Stp.refl _ _ _ _)
  rw [List.drop_of_length_le (by omega)]; exact he
 | succ m ih =>
  intro i h sv σ;intros;rename_i hm hi he hz hn hl hk
  have hlt : ((i : Int) < bits.length) := by omega
  have hw : IntKind.i64.wrap ((i : Int) + 1) = (i : Int) + 1 := wrapN (n := i + 1) (by omega)
  have hil : i < bits.length := by omega
  have hq := he.pr.blk
  have hsp : σ.emits P (bits.drop i) = (σ.emit P 18 bits[i]).emits P (bits.drop (i + 1)) := by
   rw [List.drop_eq_getElem_cons hil]; rfl
  obtain ⟨sv1,h1,e1,p1,s1⟩ := emit_c he (by omega) 18 bits[i]
  have hz1 : blk? h1 z = some ⟨false,bits.map fun (n : Nat) => .int .i64 n⟩ := by rw [s1.same z (blk?_lt hz) hn.1 hn.2.1 hn.2.2]; exact hz
  have hn1 : z ≠ c ∧ z ≠ ob ∧ sid sv1 ≠ some z := ⟨hn.1,hn.2.1,fun e => by
   rcases s1.fresh z e with h | h
   ·exact hn.2.2 h
   ·have := blk?_lt hz; omega⟩
  rw [ok_round,l126_4,L126_4a,L126_4b]
  simp [hlt,hw,hz,hil,hq,e1]
  refine ih (i + 1) h1 sv1 _ _ _ _ _ _ _ _ _ _ _ _ _ _ _ _ _ _ _ _ _ _ _ _ _ _ _ _ _ _ _ _ _ _ _ _ _ _ _ _ _ _ _ _ _ _ _ _ _ _ _ _ _ _ _ _ _ _ _ _ _ _ _ _ _ _ _ _ _ _ _ _ _ _ _ _ _ _ _ _ _ _ _ _ _ _ _ _ _ _ _ _ _ _ _ _ _ _ _ _ _ _ _ _ _ _ _ _ (by omega) (by omega) p1 hz1 hn1 (by simp [ES.emit]; omega) ?_
  intro h' sv';intros;rename_i pe st
  exact hk h' sv' _ _ _ _ _ _ _ _ _ _ _ _ _ _ _ _ _ _ _ _ _ _ _ _ _ _ _ _ _ _ _ _ _ _ _ _ _ _ _ _ _ _ _ _ _ _ _ _ _ _ _ _ _ _ _ _ _ _ _ _ _ _ _ _ _ _ _ _ _ _ _ _ _ _ _ _ _ _ _ _ _ _ _ _ _ _ _ _ _ _ _ _ _ _ _ _ _ _ _ _ _ _ _ _ _ _ _ _ _ _ (by rw [hsp]; exact pe) (s1.trans st)
theorem cleanup_p (he : PE h q p c pb ob P sv σ) (hl : σ.out.length ≤ 1000) (on : Bool) :
  ∃ sv' h',(∀ R,Ret tab 126 [ptr q,.bool on] h R = R (.tuple #[]) h') ∧ PE h' q p c pb ob P sv' (σ.clean P on) ∧ Stp h h' c ob sv sv' := by
 have key : Ret tab 126 [ptr q,.bool on] h fun v h' => v = .tuple #[] ∧ ∃ sv',PE h' q p c pb ob P sv' (σ.clean P on) ∧ Stp h h' c ob sv sv' := by
  have hsl := scan_len he.pr.cb.ok.w2 he.pr.cb.ok.h2
  have hw2 := he.pr.cb.ok.w2
  have hh2 := he.pr.cb.ok.h2
  have hst : 12 * σ.b.w * stripesOf σ.b.h ≤ 12 * 64 * 16 := Nat.mul_le_mul (by omega) (by unfold stripesOf; omega)
  have g1 : (σ.b.h : Int) ≤ 0 + 4 * (stripesOf σ.b.h : Nat) := by unfold stripesOf; omega
  have g2 : 0 + 4 * ((stripesOf σ.b.h : Nat) : Int) ≤ σ.b.h + 3 := by unfold stripesOf; omega
  have hls := le_stripes (P := P) (n := stripesOf σ.b.h) he.good (top := 0) (by omega) g2
  rw [enter126,show B126 = .seq (nthC 0 B126) (.seq (nthC 1 B126) (tlC 2 B126)) from rfl]
  generalize hT : tlC 2 B126 = tl
  simp only [nthC,tlC,fstC,B126]
  simp
  refine stripes_loop hw2 hh2 (stripesOf σ.b.h) 0 h sv σ _ _ _ _ _ _ _ _ _ _ _ _ _ _ _ _ _ _ _ _ _ _ _ _ _ _ _ _ _ _ _ _ _ _ _ _ _ _ _ _ _ _ _ _ _ _ _ _ _ _ _ _ _ _ _ _ _ _ _ _ _ _ _ _ _ _ _ _ _ _ _ _ _ _ _ _ _ _ _ _ _ _ _ _ _ _ _ _ _ _ _ _ _ _ _ _ _ _ _ _ _ _ _ _ _ _ _ _ g1 g2 (by omega) rfl rfl he (by omega) ?_
  intro h1 sv1;intros;rename_i p1 s1
  obtain ⟨s,h2,e2,p2,s2,f2⟩ := p1.scan
  obtain ⟨a,cc,hs⟩ := f2.sl.shape
  have hq1 := p1.pr.blk
  rw [hls.w,hls.h] at e2 f2 hs hq1
  simp [hq1,e2,hs]
  rw [← hs]
  have hall : AllIn (σ.stripes P 0 (stripesOf σ.b.h)).b (scan σ.b.w σ.b.h) := by have := scanIn (σ.stripes P 0 (stripesOf σ.b.h)).b; rwa [hls.w,hls.h] at this
  refine clear_loop _ 0 h2 sv1 _ _ _ _ _ _ _ _ _ _ _ _ _ _ _ _ _ _ _ _ _ _ _ _ _ _ _ _ _ _ _ _ _ _ _ _ _ _ _ _ _ _ _ _ _ _ _ _ _ _ _ _ _ _ _ _ _ _ _ _ _ _ _ _ _ _ _ _ _ _ _ _ _ _ _ _ _ _ _ _ _ _ _ _ _ _ _ _ _ _ _ _ _ _ _ _ _ _ _ _ _ _ _ _ _ _ _ rfl (by omega) p2 f2 hall (by omega) ?_
  intro h3 sv3;intros;rename_i p3 s3
  rw [List.drop_zero] at p3
  have hcl := le_clear hls.good hall
  rw [← hT]
  simp only [tlC,B126]
  cases on
  ·simp [fin126]
   exact ⟨sv3,p3,(s1.trans s2).trans s3⟩
  ·have p4 := p3.push (some ⟨false,[.int .i64 1,.int .i64 0,.int .i64 1,.int .i64 0]⟩)
   have s4 := Stp.push h3 (some ⟨false,[.int .i64 1,.int .i64 0,.int .i64 1,.int .i64 0]⟩) c ob sv3
   obtain ⟨l1,l2,l3,l4,l5⟩ := p3.lts
   simp [repL]
   refine check_loop (z := h3.length) (bits := [1,0,1,0]) (by simp) 4 0 _ sv3 _ _ _ _ _ _ _ _ _ _ _ _ _ _ _ _ _ _ _ _ _ _ _ _ _ _ _ _ _ _ _ _ _ _ _ _ _ _ _ _ _ _ _ _ _ _ _ _ _ _ _ _ _ _ _ _ _ _ _ _ _ _ _ _ _ _ _ _ _ _ _ _ _ _ _ _ _ _ _ _ _ _ _ _ _ _ _ _ _ _ _ _ _ _ _ _ _ _ _ _ _ _ _ _ _ _ _ _ (by simp) (by simp) p4 ?_ ⟨by omega,by omega,fun e => by have := p3.own.lt e; omega⟩ (by have := hls.len; have := hcl.len; omega) ?_
   ·simpa using blk?_push_eq (h := h3) (x := some (⟨false,[.int .i64 1,.int .i64 0,.int .i64 1,.int .i64 0]⟩ : Blk))
   ·intro h5 sv5;intros;rename_i p5 s5
    simp [fin126]
    exact ⟨sv5,by rw [clean_eq P σ true rfl]; exact p5,(((s1.trans s2).trans s3).trans s4).trans s5⟩
 obtain ⟨v,h',e,rfl,sv',pe,st⟩ := ret_ex key
 exact ⟨sv',h',e,pe,st⟩
end
section
variable {h : Heap} {R : Value → Heap → Prop}
theorem pass_c {n : Nat} (hn : n < 100000) : Ret tab 62 [.int .i64 n] h R = R (.tuple #[.int .i64 (planeOf n),.int .i64 (kindOf n)]) h := by
 have h1 : ¬ ((n : Int) < 0) := by omega
 rw [enter62,B62]
 by_cases h0 : n = 0
 ·subst h0; simp [fin62,planeOf,kindOf]
 ·have hn0 : ((n : Int) == 0) = false := by simp [h0]
  have e1 : IntKind.i64.wrap ((n : Int) - 1) = ((n - 1 : Nat) : Int) := by rw [wrapI (by omega) (by omega)]; omega
  have e2 : ((n - 1 : Nat) : Int).tdiv 3 = (((n - 1) / 3 : Nat) : Int) := rfl
  have e3 : ((n - 1 : Nat) : Int).tmod 3 = (((n - 1) % 3 : Nat) : Int) := rfl
  have e4 : IntKind.i64.wrap ((((n - 1) / 3 : Nat) : Int)) = (((n - 1) / 3 : Nat) : Int) := wrapN (by omega)
  have e5 : IntKind.i64.wrap ((((n - 1) / 3 : Nat) : Int) + 1) = (((n - 1) / 3 + 1 : Nat) : Int) := wrapN (n := (n - 1) / 3 + 1) (by omega)
  have hp : planeOf n = (n - 1) / 3 + 1 := by unfold planeOf; rw [if_neg h0]
  have hk : kindOf n = (n - 1) % 3 := by unfold kindOf; rw [if_neg h0]
  rw [hp,hk]
  generalize hm : n - 1 = m at *
  generalize hd : m / 3 = d at *
  generalize hr : m % 3 = r at *
  simp [-Int.natCast_add,h1,hn0,e1,e2,e3,e4,e5,fin62]
theorem raw_c {n : Nat} (hn : n < 100000) (m : MD) : Ret tab 39 [.int .i64 n,m.val] h R = R (.bool (rawOf m n)) h := by
 have hK : ∀ y : Blk,blk? (frz h ++ [some y]) h.length = some y := fun y => by
  have := blk?_push_eq (h := frz h) (x := some y)
  rwa [len_frz] at this
 have hp := fun h R => pass_c (h := h) (R := R) hn
 have hk : kindOf n = 0 ∨ kindOf n = 1 ∨ kindOf n = 2 := by unfold kindOf; split <;> omega
 have h4 : decide ((4 : Int) ≤ (planeOf n : Int)) = decide (4 ≤ planeOf n) := by congr 1; exact propext (by omega)
 rw [enter39,B39]
 obtain ⟨b1,b2,b3,b4,b5⟩ := m
 rcases hk with hk | hk | hk
 ·cases b1 <;> simp [k_guard,MD.val,hp,hk,hK,h4,fin39,rawOf]
 ·cases b1 <;> simp [k_guard,MD.val,hp,hk,hK,h4,fin39,rawOf]
 ·simp [k_guard,MD.val,hp,hk,hK,fin39,rawOf]
end
structure RunRes (h h' : Heap) (p c : Nat) (sv : Value) (σ : ES) : Prop where
 cb : CB h' false p c σ.b
 good : σ.b.Good
 own : OwnS h' 2 sv σ.out.length (encS σ.out)
 fresh : ∀ id,sid sv = some id → h.length ≤ id
 same : ∀ id,id < h.length → id ≠ c → blk? h' id = blk? h id
 len : h.length ≤ h'.length
section
variable {h : Heap} {p c : Nat} {b : BS}
theorem RunRes.nothing {h h' : Heap} (hb : CB h false p c b) (hr : b.Rng) (hk : ∀ id,id < h.length → blk? h' id = blk? h id) (hl : h.length ≤ h'.length) : RunRes h h' p c (.slice none 0 0) ⟨b,[]⟩ :=
 ⟨⟨by rw [hk _ (blk?_lt hb.blkp)]; exact hb.blkp,by rw [hk _ (blk?_lt hb.blkc)]; exact hb.blkc,hb.ok⟩,⟨hb.ok,hr⟩,OwnS.nil _ _,fun id h => by simp [sid] at h,fun id h1 _ => hk id h1,hl⟩
theorem runErr_lo {n planes o : Int} (h : planes < 1 ∨ 60 < planes ∨ n < 0 ∨ 3 * planes - 3 < n) : runErr n planes o = 2 := by unfold runErr; rw [if_pos h]
theorem run_c (hb : CB h false p c b) (hr : b.Rng) (n planes o : Int) (m : MD) :
  ∃ sv h',(∀ R,Ret tab 80 [ptr p,.int .i64 n,.int .i64 planes,.int .i64 o,m.val] h R = R (.tuple #[sv,.int .i64 (runErr n planes o)]) h') ∧ RunRes h h' p c sv (runOut m b n planes o) := by
 have key : Ret tab 80 [ptr p,.int .i64 n,.int .i64 planes,.int .i64 o,m.val] h fun v h' => ∃ sv,v = .tuple #[sv,.int .i64 (runErr n planes o)] ∧ RunRes h h' p c sv (runOut m b n planes o) := by
  have hb1 : CB (h ++ [some ⟨false,[.bool m.byp,.bool m.res,.bool m.rst,.bool m.cz,.bool m.sy]⟩]) false p c b := ⟨blk?_push hb.blkp,blk?_push hb.blkc,hb.ok⟩
  have hsz := fun R => size_c (R := R) hb1
  have hw0 := hb.ok.w1
  have hw0' : ((b.w : Int) == 0) = false := by simp; omega
  have hnone : runErr n planes o ≠ 0 → ∀ h',(∀ id,id < h.length → blk? h' id = blk? h id) → h.length ≤ h'.length → RunRes h h' p c (.slice none 0 0) (runOut m b n planes o) := by
   intro he h' hk hl
   unfold runOut
   rw [if_neg he]
   exact RunRes.nothing hb hr hk hl
  have hkp : ∀ x : Option Blk,∀ id,id < h.length → blk? (h ++ [x]) id = blk? h id := fun x id hid => blk?_push_lt hid
  rw [enter80,show B80 = .seq (nthC 0 B80) (.seq (nthC 1 B80) (.seq (nthC 2 B80) (.seq (nthC 3 B80) (.seq (nthC 4 B80) (tlC 5 B80))))) from rfl]
  generalize hT : tlC 5 B80 = tl
  simp only [nthC,tlC,fstC,B80]
  obtain ⟨byp,res,rst,cz,sy⟩ := m
  simp only [MD.val] at *
  by_cases h1 : planes < 1
  ·have he := runErr_lo (n := n) (o := o) (.inl h1 : planes < 1 ∨ 60 < planes ∨ n < 0 ∨ 3 * planes - 3 < n)
   simp [k_guard,k_guardU,hsz,hw0',h1,fin80]
   exact ⟨_,⟨rfl,he.symm⟩,hnone (by rw [he]; decide) _ (hkp _) (by simp)⟩
  by_cases h2 : 60 < planes
  ·have he := runErr_lo (n := n) (o := o) (.inr (.inl h2) : planes < 1 ∨ 60 < planes ∨ n < 0 ∨ 3 * planes - 3 < n)
   simp [k_guard,k_guardU,hsz,hw0',h1,h2,fin80]
   exact ⟨_,⟨rfl,he.symm⟩,hnone (by rw [he]; decide) _ (hkp _) (by simp)⟩
  by_cases h3 : n < 0
  ·have he := runErr_lo (n := n) (o := o) (.inr (.inr (.inl h3)) : planes < 1 ∨ 60 < planes ∨ n < 0 ∨ 3 * planes - 3 < n)
   simp [k_guard,k_guardU,hsz,hw0',h1,h2,h3,fin80]
   exact ⟨_,⟨rfl,he.symm⟩,hnone (by rw [he]; decide) _ (hkp _) (by simp)⟩
  have hm1 : IntKind.i64.wrap (3 * planes) = 3 * planes := wrapI (by omega) (by omega)
  have hm2 : IntKind.i64.wrap (3 * planes - 3) = 3 * planes - 3 := wrapI (by omega) (by omega)
  by_cases h4 : 3 * planes - 3 < n
  ·have he := runErr_lo (n := n) (o := o) (.inr (.inr (.inr h4)) : planes < 1 ∨ 60 < planes ∨ n < 0 ∨ 3 * planes - 3 < n)
   simp [k_guard,k_guardU,hsz,hw0',h1,h2,h3,hm1,hm2,h4,fin80]
   exact ⟨_,⟨rfl,he.symm⟩,hnone (by rw [he]; decide) _ (hkp _) (by simp)⟩
  by_cases h5 : o < 0
  ·have he : runErr n planes o = 3 := by unfold runErr; rw [if_neg (by omega),if_pos (.inl h5)]
   simp [k_guard,k_guardU,hsz,hw0',h1,h2,h3,hm1,hm2,h4,h5,fin80]
   exact ⟨_,⟨rfl,he.symm⟩,hnone (by rw [he]; decide) _ (hkp _) (by simp)⟩
  by_cases h6 : 3 < o
  ·have he : runErr n planes o = 3 := by unfold runErr; rw [if_neg (by omega),if_pos (.inr h6)]
   simp [k_guard,k_guardU,hsz,hw0',h1,h2,h3,hm1,hm2,h4,h5,h6,fin80]
   exact ⟨_,⟨rfl,he.symm⟩,hnone (by rw [he]; decide) _ (hkp _) (by simp)⟩
  simp [k_guard,k_guardU,hsz,hw0',h1,h2,h3,hm1,hm2,h4,h5,h6,fin80]
  have he : runErr n planes o = 0 := by unfold runErr; rw [if_neg (by omega),if_neg (by omega)]
  rw [he]
  unfold runOut
  rw [if_pos he]
  obtain ⟨n,rfl⟩ := Int.eq_ofNat_of_zero_le (show 0 ≤ n by omega)
  obtain ⟨planes,rfl⟩ := Int.eq_ofNat_of_zero_le (show 0 ≤ planes by omega)
  obtain ⟨o,rfl⟩ := Int.eq_ofNat_of_zero_le (show 0 ≤ o by omega)
  have hp := fun h R => pass_c (h := h) (R := R) (n := n) (by omega)
  have hrw := fun h R => raw_c (h := h) (R := R) (n := n) (by omega) ⟨byp,res,rst,cz,sy⟩
  have hpl := planeOf_le (n := n) (planes := planes) (by omega) (by omega)
  have e1 : IntKind.i64.wrap ((planes : Int) - 1) = ((planes - 1 : Nat) : Int) := by rw [wrapI (by omega) (by omega)]; omega
  have e2 : IntKind.i64.wrap (((planes - 1 : Nat) : Int) - (planeOf n : Int)) = ((planes - 1 - planeOf n : Nat) : Int) := by rw [wrapI (by omega) (by omega)]; omega
  rw [← hT,show tlC 5 B80 = .seq (nthC 5 B80) (.seq (nthC 6 B80) (.seq (nthC 7 B80) (.seq (nthC 8 B80) (tlC 9 B80)))) from rfl]
  generalize hT2 : tlC 9 B80 = tl2
  simp only [nthC,tlC,fstC,B80]
  simp only [MD.val] at hrw
  have hlp := blk?_lt hb.blkp
  have hlc := blk?_lt hb.blkc
  have hblk := hb.blkp
  simp [hp,hrw,e1,e2,app_len,app_add,app_zero,app_succ,app_set,app_setk,book,logOf,addLog,chk1,lookL,reload]
  generalize hP : runPP ⟨byp,res,rst,cz,sy⟩ n planes o = P
  have hPs : P.s = planes - 1 - planeOf n := by rw [← hP]; rfl
  have hPo : P.o = o := by rw [← hP]; rfl
  have hPc : P.cz = cz := by rw [← hP]; rfl
  have hPr : P.rw = rawOf ⟨byp,res,rst,cz,sy⟩ n := by rw [← hP]; rfl
  have hrs : runSt ⟨byp,res,rst,cz,sy⟩ b n planes o = if kindOf n = 0 then ES.sigs P ⟨b,[]⟩ (scan b.w b.h) else if kindOf n = 1 then ES.refs P ⟨b,[]⟩ (scan b.w b.h) else ES.clean P ⟨b,[]⟩ sy := by
   unfold runSt; rw [hP]
  rw [hrs]
  rw [← hPr,← hPs,← hPo,← hPc]
  generalize hH : h ++ [some (⟨false,[.bool byp,.bool res,.bool rst,.bool P.cz,.bool sy]⟩ : Blk),some ⟨false,[.slice none 0 0]⟩,
   some ⟨false,[ptr p,.int .i64 b.w,.int .i64 b.h,.int .i64 P.s,.int .i64 P.o,.bool P.cz,.bool P.rw,.func (.func 123) #[] #[ptr (h.length + 3),ptr (h.length + 1)]]⟩,some ⟨false,[ptr (h.length + 2)]⟩] = H
  have hlow : ∀ id,id < h.length → blk? H id = blk? h id := fun id hid => by rw [← hH]; exact app_lt hid
  have hHl : H.length = h.length + 4 := by rw [← hH]; simp
  have hm0 : blk? H h.length = some ⟨false,[.bool byp,.bool res,.bool rst,.bool P.cz,.bool sy]⟩ := by rw [← hH,app_len]; rfl
  have he : PE H (h.length + 2) p c (h.length + 3) (h.length + 1) P (.slice none 0 0) ⟨b,[]⟩ := by
   refine ⟨⟨by rw [← hH,app_add]; rfl,⟨by rw [hlow _ hlp]; exact hb.blkp,by rw [hlow _ hlc]; exact hb.blkc,hb.ok⟩,by simp; omega,⟨by rw [hPs]; omega,by rw [hPo]; omega⟩,hr⟩,by rw [← hH,app_add]; rfl,by rw [← hH,app_add]; rfl,OwnS.nil _ _,?_,?_,?_⟩
   ·have := hb.ne; omega
   ·omega
   ·simp [sid]
  have hq := he.pr.blk
  have hob := he.obk
  have hpb := he.pbk
  have fin : ∀ (σ : ES) (sv' : Value) (H' : Heap),PE H' (h.length + 2) p c (h.length + 3) (h.length + 1) P sv' σ → Stp H H' c (h.length + 1) (.slice none 0 0) sv' → RunRes h H' p c sv' σ := by
   intro σ sv' H' pe st
   refine ⟨pe.pr.cb,pe.good,pe.own,fun id hid => ?_,fun id hid hc => ?_,by have := st.len; omega⟩
   ·rcases st.fresh id hid with h | h
    ·simp [sid] at h
    ·omega
   ·rw [st.same id (by omega) hc (by omega) (by simp [sid]),hlow id hid]
  rw [← hT2]
  simp only [tlC,B80]
  have hk : kindOf n = 0 ∨ kindOf n = 1 ∨ kindOf n = 2 := by unfold kindOf; split <;> omega
  rcases hk with hk | hk | hk
  ·obtain ⟨sv',H',e,pe,st⟩ := significance_p he (by simp)
   have hob' := pe.obk
   simp [hk,hpb,e,hob',fin80]
   exact fin _ _ _ pe st
  ·obtain ⟨sv',H',e,pe,st⟩ := refinement_p he (by simp)
   have hob' := pe.obk
   simp [hk,hpb,e,hob',fin80]
   exact fin _ _ _ pe st
  ·obtain ⟨sv',H',e,pe,st⟩ := cleanup_p he (by simp) sy
   have hob' := pe.obk
   simp [hk,hpb,hm0,e,hob',fin80]
   exact fin _ _ _ pe st
 obtain ⟨v,h',e,sv,rfl,rs⟩ := ret_ex key
 exact ⟨sv,h',e,rs⟩
end
theorem own_below {h : Heap} {esz n : Nat} {s : Value} {cs : List Value} (ho : OwnS h esz s n cs) {N : Nat} (hl : h.length ≤ N) : below N s = true := by
 rcases ho.2 with ⟨rfl,_⟩ | ⟨id,rfl,hb⟩
 ·simp
 ·have := blk?_lt hb; simp; omega
section
variable {h : Heap} {R : Value → Heap → Prop}
theorem abs_r {v : Int} (h1 : -9223372036854775808 ≤ v) (h2 : v < 9223372036854775808) : Ret tab 87 [.int .i64 v] h R = R (.int .u64 (v.natAbs : Nat)) h := by
 rw [enter87,B87]
 by_cases hv : v < 0
 ·have := natAbs_wrap hv h1
  rw [Int.zero_sub] at this
  simp [hv,this,fin87]
 ·simp [hv,natAbs_wrap0 hv h2,fin87]
end
theorem Sl_of_cells {h h' : Heap} {esz n : Nat} {s : Value} {cs : List Value} (hs : Sl h esz s n cs) (hk : ∀ id b,sid s = some id → blk? h id = some b → ∃ b',blk? h' id = some b' ∧ b'.cells = b.cells) : Sl h' esz s n cs := by
 obtain ⟨hl,hs⟩ := hs
 refine ⟨hl,?_⟩
 rcases hs with hs | ⟨id,off,rfl,h0 | ⟨b,hb,hle,hc⟩⟩
 ·exact .inl hs
 ·exact .inr ⟨id,off,rfl,.inl h0⟩
 ·obtain ⟨b',h1,h2⟩ := hk id b rfl hb
  exact .inr ⟨id,off,rfl,.inr ⟨b',h1,by rw [h2]; exact hle,by rw [h2]; exact hc⟩⟩
def i64s (xs : List Int) : List Value := xs.map fun v => .int .i64 v
structure Ints (h : Heap) (s : Value) (xs : List Int) : Prop where
 sl : Sl h 1 s xs.length (i64s xs)
 sb : below h.length s = true
 bl : ∀ id b,sid s = some id → blk? h id = some b → ∀ n,belowL n b.cells = true
 rng : ∀ v ∈ xs,-9223372036854775808 ≤ v ∧ v < 9223372036854775808
theorem Ints.frz {h : Heap} {s : Value} {xs : List Int} (hi : Ints h s xs) : Ints (frz h) s xs := by
 refine ⟨Sl_of_cells hi.sl fun id b hid hb => ⟨_,blk_frz hb (hi.bl id b hid hb _),rfl⟩,by rw [len_frz]; exact hi.sb,fun id b hid hb => ?_,hi.rng⟩
 obtain ⟨b0,h0,rfl,_⟩ := frz_some hb
 exact hi.bl id b0 hid h0
theorem below_sid {h h' : Heap} {s : Value} (hl : h.length ≤ h'.length) {a : Option Addr} {n c : Nat} (hs : s = .slice a n c) (hb : below h.length s = true) : below h'.length s = true := by
 subst hs
 cases a with
 | none => simp
 | some a => simp at hb ⊢; omega
theorem Ints.keep {h h' : Heap} {s : Value} {xs : List Int} (hi : Ints h s xs) (hl : h.length ≤ h'.length) (hk : ∀ id,id < h.length → sid s = some id → blk? h' id = blk? h id) : Ints h' s xs := by
 obtain ⟨a,c,hs⟩ := hi.sl.shape
 have hlt : ∀ id,sid s = some id → id < h.length := by
  intro id hid
  have := hi.sb
  rw [hs] at this hid
  cases a with
  | none => simp [sid] at hid
  | some a => simp [sid] at hid; simp at this; omega
 refine ⟨hi.sl.of_sid fun id b hid hb => by rw [hk id (blk?_lt hb) hid]; exact hb,below_sid hl hs hi.sb,fun id b hid hb => ?_,hi.rng⟩
 rw [hk id (hlt id hid) hid] at hb
 exact hi.bl id b hid hb
theorem Ints.get {h : Heap} {s : Value} {xs : List Int} (hi : Ints h s xs) {i : Nat} (hil : i < xs.length) :
  ∃ id off b,s = .slice (some ⟨id,off,none⟩) xs.length 1 ∧ blk? h id = some b ∧ b.cells[off + i]? = some (.int .i64 xs[i]) := by
 obtain ⟨id,off,b,hs,hb,hc⟩ := hi.sl.get hil
 refine ⟨id,off,b,hs,hb,?_⟩
 have := hc 0 (by omega)
 simp only [Nat.mul_one,Nat.add_zero] at this
 rw [this]
 simp [i64s,hil]
section
variable {h : Heap} {R : Value → Heap → Prop}
theorem cnt_loop {k : List RItem} {v0 v2 : Value} (m : Nat)
  (hk : ∀ K1 K3 K4 K5 K7 K8 K9 Ka Kb Kc Kd Ke Kf Kg Kh Ki Kj Kk Kl Km Kn Ko : Value,Ok tab R37 k #[v0,K1,v2,K3,K4,K5,.int .i64 m,K7,K8,K9,Ka,Kb,Kc,Kd,Ke,Kf,Kg,Kh,Ki,Kj,Kk,Kl,Km,Kn,Ko] h R) :
  ∀ (n a c : Nat) (K1 K4 K5 K7 K8 K9 Ka Kb Kc Kd Ke Kf Kg Kh Ki Kj Kk Kl Km Kn Ko : Value),n = a → c + blen a = m → m ≤ 64 → a < 18446744073709551616 →
   Ok tab R37 (.inLoop L37_1 :: .inBlock 2 :: k) #[v0,K1,v2,.int .u64 a,K4,K5,.int .i64 c,K7,K8,K9,Ka,Kb,Kc,Kd,Ke,Kf,Kg,Kh,Ki,Kj,Kk,Kl,Km,Kn,Ko] h R := by
 intro n
 induction n using Nat.strongRecOn with
 | _ n ih =>
  intro a c;intros;rename_i hn hc hm ha
  rw [ok_round,l37_1,L37_1a,L37_1b]
  by_cases h0 : a = 0
  ·subst h0
   simp [blen] at hc
   subst hc
   simp
   exact hk ..
  ·have hlt : (0 : Int) < a := by omega
   have hb := blen_half h0
   have hsh : shrI .u64 (a : Int) 1 = ((a / 2 : Nat) : Int) := by
    have := shrN (i := .u64) (a := a) (b := 1) (by decide)
    simpa using this
   have hw : IntKind.i64.wrap ((c : Int) + 1) = ((c + 1 : Nat) : Int) := wrapN (n := c + 1) (by omega)
   have ih' := ih (a / 2) (by omega) (a / 2) (c + 1)
   generalize hq : ((c + 1 : Nat) : Int) = q at *
   generalize hq2 : ((a / 2 : Nat) : Int) = q2 at *
   simp [show 0 < a by omega,hsh,hw]
   exact ih' _ _ _ _ _ _ _ _ _ _ _ _ _ _ _ _ _ _ _ _ _ rfl (by omega) hm (by omega)
theorem or_loop {k : List RItem} {s v0 v2 : Value} {xs : List Int} (hi : Ints h s xs)
  (hk : ∀ (a : Nat) (K1 K4 K5 K6 K7 K8 K9 Ka Kb Kc Kd Ke Kf Kg Kh Ki Kj Kk Kl Km Kn Ko : Value),blen a = planesOf xs → a < 18446744073709551616 → Ok tab R37 k #[v0,K1,v2,.int .u64 a,K4,K5,K6,K7,K8,K9,Ka,Kb,Kc,Kd,Ke,Kf,Kg,Kh,Ki,Kj,Kk,Kl,Km,Kn,Ko] h R) :
  ∀ (n i a : Nat) (K1 K4 K5 K6 Ka Kb Kc Kd Ke Kf Kg Kh Ki Kj Kk Kl Km Kn Ko : Value),n = xs.length - i → i ≤ xs.length → blen a = planesOf (xs.take i) → a < 18446744073709551616 → xs.length < 9000000000 →
   Ok tab R37 (.inLoop L37_0 :: .inBlock 0 :: k) #[v0,K1,v2,.int .u64 a,K4,K5,K6,s,.int .i64 xs.length,.int .i64 i,Ka,Kb,Kc,Kd,Ke,Kf,Kg,Kh,Ki,Kj,Kk,Kl,Km,Kn,Ko] h R := by
 intro n
 induction n with
 | zero =>
  intro i a;intros;rename_i hn hi' hb ha hl
  have hlt : ¬ ((i : Int) < xs.length) := by omega
  rw [ok_round,l37_0,L37_0a,L37_0b]
  simp [hlt]
  exact hk a _ _ _ _ _ _ _ _ _ _ _ _ _ _ _ _ _ _ _ _ _ _ (by rw [hb,List.take_of_length_le (by omega)]) ha
 | succ n ih =>
  intro i a;intros;rename_i hn hi' hb ha hl
  have hlt : ((i : Int) < xs.length) := by omega
  have hil : i < xs.length := by omega
  have hw : IntKind.i64.wrap ((i : Int) + 1) = ((i + 1 : Nat) : Int) := wrapN (n := i + 1) (by omega)
  obtain ⟨id,off,b,hs,hbk,hc⟩ := hi.get hil
  obtain ⟨r1,r2⟩ := hi.rng xs[i] (List.getElem_mem hil)
  have hm := fun R => magnitude_c (h := h) (R := R) r1 r2
  have ho : orI .u64 (a : Int) (xs[i].natAbs : Int) = ((a ||| xs[i].natAbs : Nat) : Int) := u64_or_nat a xs[i].natAbs ha (by omega)
  have hlt64 : a ||| xs[i].natAbs < 2 ^ 64 := Nat.or_lt_two_pow ha (by omega)
  have hb' : blen (a ||| xs[i].natAbs) = planesOf (xs.take (i + 1)) := by
   rw [blen_or,hb,List.take_succ_eq_append_getElem hil,planesOf,planesOf,List.foldl_append]; rfl
  have ih' := ih (i + 1) (a ||| xs[i].natAbs)
  rw [ok_round,l37_0,L37_0a,L37_0b]
  generalize hq : ((i + 1 : Nat) : Int) = q at *
  generalize hq2 : ((a ||| xs[i].natAbs : Nat) : Int) = q2 at *
  simp [hlt,hs,hbk,hc,hm,ho,hw]
  rw [← hs]
  exact ih' _ _ _ _ _ _ _ _ _ _ _ _ _ _ _ _ _ _ _ (by omega) (by omega) hb' hlt64 hl
theorem planes_64 {h : Heap} {s : Value} {xs : List Int} (hi : Ints h s xs) : planesOf xs ≤ 64 := by
 rw [planes_le]
 intro v hv
 have := hi.rng v hv
 omega
theorem planes_c {s : Value} {xs : List Int} (hi : Ints h s xs) (hl : xs.length < 9000000000) : Ret tab 37 [s] h R = R (.int .i64 (planesOf xs)) h := by
 obtain ⟨a,cc,hs⟩ := hi.sl.shape
 have key : Ret tab 37 [s] h fun v h' => v = .int .i64 (planesOf xs) ∧ h' = h := by
  rw [enter37,B37]
  refine ⟨by simp [hi.sb],?_⟩
  simp [hs]
  rw [← hs]
  refine or_loop hi.frz ?_ _ 0 0 _ _ _ _ _ _ _ _ _ _ _ _ _ _ _ _ _ _ _ rfl (by omega) (by simp [planesOf,blen]) (by omega) hl
  intro a;intros;rename_i hb ha
  simp
  refine cnt_loop (planesOf xs) ?_ a a 0 _ _ _ _ _ _ _ _ _ _ _ _ _ _ _ _ _ _ _ _ _ rfl (by omega) (planes_64 hi) ha
  intros
  simp [fin37]
 obtain ⟨v,h',e,rfl,rfl⟩ := ret_ex key
 exact e R
theorem in_loop {k : List RItem} {v0 v2 v6 v7 v8 : Value} {v : Int} (r1 : -9223372036854775808 ≤ v) (r2 : v < 9223372036854775808) (m : Nat)
  (hk : ∀ K1 K4 K5 K9 Ka Kb Kc Kd Ke Kf Kg Kh Ki Kj Kk Kl Km Kn Ko Kp : Value,Ok tab R44 k #[v0,K1,v2,.int .i64 m,K4,K5,v6,v7,v8,K9,Ka,Kb,Kc,Kd,Ke,Kf,Kg,Kh,Ki,Kj,Kk,Kl,Km,Kn,Ko,Kp] h R) :
  ∀ (n c : Nat) (K1 K4 K9 Ka Kb Kc Kd Ke Kf Kg Kh Ki Kj Kk Kl Km Kn Ko Kp : Value),c + n = m → m = max c (blen v.natAbs) → m ≤ 64 →
   Ok tab R44 (.inLoop L44_0 :: .inBlock 2 :: k) #[v0,K1,v2,.int .i64 c,K4,.int .i64 v,v6,v7,v8,K9,Ka,Kb,Kc,Kd,Ke,Kf,Kg,Kh,Ki,Kj,Kk,Kl,Km,Kn,Ko,Kp] h R := by
 intro n
 have hm := fun R => abs_r (h := h) (R := R) r1 r2
 induction n with
 | zero =>
  intro c;intros;rename_i hc hmx hm64
  have hcm : c = m := by omega
  subst hcm
  rw [ok_round,l44_0,L44_0a,L44_0b]
  by_cases h64 : c < 64
  ·have h64' : (c : Int) < 64 := by omega
   have hwu : IntKind.u64.wrap (c : Int) = (c : Int) := wrapU (by omega)
   have hc0 : ¬ (c : Int) < 0 := by omega
   have hsh : shrI .u64 (v.natAbs : Int) (c : Int) = ((v.natAbs / 2 ^ c : Nat) : Int) := shrN (show c ≤ 64 by omega)
   have hz : v.natAbs / 2 ^ c = 0 := Nat.div_eq_of_lt (blen_le.1 (by omega))
   rw [hz] at hsh
   simp [k_guard,h64',hm,hwu,hc0,hsh]
   exact hk ..
  ·have h64' : ¬ (c : Int) < 64 := by omega
   simp [k_guard,k_guardU,h64']
   exact hk ..
 | succ n ih =>
  intro c;intros;rename_i hc hmx hm64
  have h64' : (c : Int) < 64 := by omega
  have hwu : IntKind.u64.wrap (c : Int) = (c : Int) := wrapU (by omega)
  have hc0 : ¬ (c : Int) < 0 := by omega
  have hsh : shrI .u64 (v.natAbs : Int) (c : Int) = ((v.natAbs / 2 ^ c : Nat) : Int) := shrN (show c ≤ 64 by omega)
  have hpos : (0 : Int) < ((v.natAbs / 2 ^ c : Nat) : Int) := by
   have := (lt_blen (n := v.natAbs) (k := c)).1 (by omega)
   have := Nat.div_pos this (Nat.two_pow_pos c)
   omega
  have hw : IntKind.i64.wrap ((c : Int) + 1) = ((c + 1 : Nat) : Int) := wrapN (n := c + 1) (by omega)
  have ih' := ih (c + 1)
  rw [ok_round,l44_0,L44_0a,L44_0b]
  generalize hq : ((c + 1 : Nat) : Int) = q at *
  generalize hq2 : ((v.natAbs / 2 ^ c : Nat) : Int) = q2 at *
  simp [k_guard,h64',hm,hwu,hc0,hsh,hpos,hw]
  exact ih' _ _ _ _ _ _ _ _ _ _ _ _ _ _ _ _ _ _ _ (by omega) (by omega) hm64
theorem max_loop {k : List RItem} {s v0 v2 : Value} {xs : List Int} (hi : Ints h s xs)
  (hk : ∀ K1 K4 K5 K6 K7 K8 K9 Ka Kb Kc Kd Ke Kf Kg Kh Ki Kj Kk Kl Km Kn Ko Kp : Value,Ok tab R44 k #[v0,K1,v2,.int .i64 (planesOf xs),K4,K5,K6,K7,K8,K9,Ka,Kb,Kc,Kd,Ke,Kf,Kg,Kh,Ki,Kj,Kk,Kl,Km,Kn,Ko,Kp] h R) :
  ∀ (n i : Nat) (K1 K4 K5 K9 Ka Kb Kc Kd Ke Kf Kg Kh Ki Kj Kk Kl Km Kn Ko Kp : Value),n = xs.length - i → i ≤ xs.length → xs.length < 9000000000 →
   Ok tab R44 (.inLoop L44_1 :: .inBlock 0 :: k) #[v0,K1,v2,.int .i64 (planesOf (xs.take i)),K4,K5,s,.int .i64 xs.length,.int .i64 i,K9,Ka,Kb,Kc,Kd,Ke,Kf,Kg,Kh,Ki,Kj,Kk,Kl,Km,Kn,Ko,Kp] h R := by
 intro n
 have h64 := planes_64 hi
 induction n with
 | zero =>
  intro i;intros;rename_i hn hi' hl
  have hlt : ¬ ((i : Int) < xs.length) := by omega
  rw [ok_round,l44_1,L44_1a,L44_1b,List.take_of_length_le (by omega)]
  simp [hlt]
  exact hk ..
 | succ n ih =>
  intro i;intros;rename_i hn hi' hl
  have hlt : ((i : Int) < xs.length) := by omega
  have hil : i < xs.length := by omega
  have hw : IntKind.i64.wrap ((i : Int) + 1) = ((i + 1 : Nat) : Int) := wrapN (n := i + 1) (by omega)
  obtain ⟨id,off,b,hs,hbk,hc⟩ := hi.get hil
  obtain ⟨r1,r2⟩ := hi.rng xs[i] (List.getElem_mem hil)
  have hp : planesOf (xs.take (i + 1)) = max (planesOf (xs.take i)) (blen xs[i].natAbs) := by
   rw [List.take_succ_eq_append_getElem hil,planesOf,planesOf,List.foldl_append]; rfl
  have hp64 : planesOf (xs.take (i + 1)) ≤ 64 := by
   rw [planes_le] at h64 ⊢
   exact fun v hv => h64 v (List.mem_of_mem_take hv)
  have ih' := ih (i + 1)
  rw [ok_round,l44_1,L44_1a,L44_1b]
  generalize hq : ((i + 1 : Nat) : Int) = q at *
  simp [hlt,hs,hbk,hc]
  rw [← hs]
  refine in_loop r1 r2 (planesOf (xs.take (i + 1))) ?_ (planesOf (xs.take (i + 1)) - planesOf (xs.take i)) (planesOf (xs.take i)) _ _ _ _ _ _ _ _ _ _ _ _ _ _ _ _ _ _ _ (by omega) hp hp64
  intros
  simp [hw]
  exact ih' _ _ _ _ _ _ _ _ _ _ _ _ _ _ _ _ _ _ _ _ (by omega) (by omega) hl
theorem planes_r {s : Value} {xs : List Int} (hi : Ints h s xs) (hl : xs.length < 9000000000) : Ret tab 44 [s] h R = R (.int .i64 (planesOf xs)) h := by
 obtain ⟨a,cc,hs⟩ := hi.sl.shape
 have key : Ret tab 44 [s] h fun v h' => v = .int .i64 (planesOf xs) ∧ h' = h := by
  rw [enter44,B44]
  refine ⟨by simp [hi.sb],?_⟩
  simp [hs]
  rw [← hs]
  refine max_loop hi.frz ?_ _ 0 _ _ _ _ _ _ _ _ _ _ _ _ _ _ _ _ _ _ _ _ rfl (by omega) hl
  intros
  simp [fin44]
 obtain ⟨v,h',e,rfl,rfl⟩ := ret_ex key
 exact e R
end
theorem repL_blank : ∀ n,repL [.int .i64 0,.bool false,.bool false,.bool false] n = encC (blank n)
 | 0 => rfl
 | n + 1 => by rw [repL,repL_blank n,blank,blank,List.replicate_succ,encC]; rfl
section
variable {h : Heap} {R : Value → Heap → Prop}
theorem sized_ci {w hh : Int} : Ret tab 105 [.int .i64 w,.int .i64 hh] h R = R (.bool (sized w hh)) h := by
 rw [enter105,B105]
 by_cases a1 : 1 ≤ w
 ·by_cases a2 : w ≤ 64
  ·by_cases a3 : 1 ≤ hh
   ·by_cases a4 : hh ≤ 64 <;> simp [k_guard,a1,a2,a3,a4,fin105,sized]
   ·simp [k_guard,a1,a2,a3,fin105,sized]
  ·simp [k_guard,a1,a2,fin105,sized]
 ·simp [k_guard,a1,fin105,sized]
def newHeap (h : Heap) (w hh : Nat) : Heap := h ++ [some ⟨false,encC (blank (w * hh))⟩,some ⟨false,[.int .i64 w,.int .i64 hh,.slice (some ⟨h.length,0,none⟩) (w * hh) 4]⟩]
theorem newHeap_cb (h : Heap) {w hh : Nat} (w1 : 1 ≤ w) (w2 : w ≤ 64) (h1 : 1 ≤ hh) (h2 : hh ≤ 64) : CB (newHeap h w hh) false (h.length + 1) h.length (newBS w hh) :=
 ⟨by unfold newHeap; rw [app_add]; rfl,by unfold newHeap; rw [app_len]; rfl,(newBS_good w1 w2 h1 h2).ok⟩
theorem newHeap_low (h : Heap) (w hh : Nat) : ∀ id,id < h.length → blk? (newHeap h w hh) id = blk? h id := fun id hid => app_lt hid
theorem newHeap_len (h : Heap) (w hh : Nat) : (newHeap h w hh).length = h.length + 2 := by simp [newHeap]
theorem new_c {w hh : Nat} (w1 : 1 ≤ w) (w2 : w ≤ 64) (h1 : 1 ≤ hh) (h2 : hh ≤ 64) : Ret tab 55 [.int .i64 w,.int .i64 hh] h R = R (.tuple #[ptr (h.length + 1),.int .i64 0]) (newHeap h w hh) := by
 have hm : w * hh ≤ 64 * 64 := Nat.mul_le_mul w2 h2
 have hs := fun R => sized_c (h := h) (R := R) w1 w2 h1 h2
 have hw : IntKind.i64.wrap ((w : Int) * hh) = ((w * hh : Nat) : Int) := by rw [← Int.natCast_mul]; exact wrapN (by omega)
 have hr : ((w * hh : Nat) : Int) ≤ (roomCells : Int) := by unfold roomCells; omega
 rw [enter55,B55]
 simp [-Int.natCast_mul,hs,hw,hr,repL_blank,fin55,newHeap]
theorem new_r {w hh : Nat} (w1 : 1 ≤ w) (w2 : w ≤ 64) (h1 : 1 ≤ hh) (h2 : hh ≤ 64) : Ret tab 69 [.int .i64 w,.int .i64 hh] h R = R (.tuple #[ptr (h.length + 1),.int .i64 0]) (newHeap h w hh) := by
 have hm : w * hh ≤ 64 * 64 := Nat.mul_le_mul w2 h2
 have hs := fun R => Go.Proofs.YtjpjohchdfoeaaaGreat.sized_r (h := h) (R := R) w1 w2 h1 h2
 have hw : IntKind.i64.wrap ((w : Int) * hh) = ((w * hh : Nat) : Int) := by rw [← Int.natCast_mul]; exact wrapN (by omega)
 have hr : ((w * hh : Nat) : Int) ≤ (roomCells : Int) := by unfold roomCells; omega
 rw [enter69,B69]
 simp [-Int.natCast_mul,hs,hw,hr,repL_blank,fin69,newHeap]
theorem new_bad {w hh : Int} (hs : sized w hh = false) : Ret tab 55 [.int .i64 w,.int .i64 hh] h R = R (.tuple #[.pointer none,.int .i64 2]) h := by
 rw [enter55,B55]
 simp [sized_ci,hs,fin55]
end
section
variable {h : Heap} {R : Value → Heap → Prop}
theorem validOrient_r {o : Int} : Ret tab 68 [.int .i64 o] h R = R (.bool (decide (0 ≤ o ∧ o ≤ 3))) h := by
 rw [enter68,B68]
 by_cases h0 : 0 ≤ o
 ·by_cases h3 : o ≤ 3
  ·simp [k_guard,h0,h3,fin68]
  ·simp [k_guard,h0,h3,fin68]
 ·simp [k_guard,h0,fin68]
theorem floorDiv3_r {n : Nat} (hn : n < 100000) : Ret tab 78 [.int .i64 n,.int .i64 3] h R = R (.int .i64 (n / 3 : Nat)) h := by
 have e2 : (n : Int).tdiv 3 = ((n / 3 : Nat) : Int) := rfl
 have e3 : (n : Int).tmod 3 = ((n % 3 : Nat) : Int) := rfl
 have e4 : IntKind.i64.wrap ((n / 3 : Nat) : Int) = ((n / 3 : Nat) : Int) := wrapN (by omega)
 have e5 : ¬ (((n % 3 : Nat) : Int) < 0) := by omega
 rw [enter78,B78]
 simp [-Int.natCast_ediv,-Int.natCast_emod,e2,e3,e4,e5,fin78]
theorem pass_r {n : Nat} (hn : n < 100000) : Ret tab 32 [.int .i64 n] h R = R (.tuple #[.int .i64 (planeOf n),.int .i64 (kindOf n)]) h := by
 have h1 : ¬ ((n : Int) < 0) := by omega
 rw [enter32,B32]
 by_cases h0 : n = 0
 ·subst h0; simp [fin32,planeOf,kindOf]
 ·have hn0 : ((n : Int) == 0) = false := by simp [h0]
  have e1 : IntKind.i64.wrap ((n : Int) - 1) = ((n - 1 : Nat) : Int) := by rw [wrapI (by omega) (by omega)]; omega
  have e3 : ((n - 1 : Nat) : Int).tmod 3 = (((n - 1) % 3 : Nat) : Int) := rfl
  have hf := fun R => floorDiv3_r (h := frz h) (R := R) (n := n - 1) (by omega)
  have e5 : IntKind.i64.wrap (1 + (((n - 1) / 3 : Nat) : Int)) = (((n - 1) / 3 + 1 : Nat) : Int) := by rw [wrapI (by omega) (by omega)]; omega
  have hp : planeOf n = (n - 1) / 3 + 1 := by unfold planeOf; rw [if_neg h0]
  have hk : kindOf n = (n - 1) % 3 := by unfold kindOf; rw [if_neg h0]
  rw [hp,hk]
  generalize hm : n - 1 = m at *
  generalize hd : m / 3 = d at *
  generalize hr : m % 3 = r at *
  simp [-Int.natCast_add,h1,hn0,e1,e3,hf,e5,fin32]
theorem raw_r {n : Nat} (hn : n < 100000) (m : MD) : Ret tab 48 [.int .i64 n,m.val] h R = R (.bool (rawOf m n)) h := by
 have hK : ∀ y : Blk,blk? (frz h ++ [some y]) h.length = some y := fun y => by
  have := blk?_push_eq (h := frz h) (x := some y)
  rwa [len_frz] at this
 have hp := fun h R => pass_r (h := h) (R := R) hn
 have hk : kindOf n = 0 ∨ kindOf n = 1 ∨ kindOf n = 2 := by unfold kindOf; split <;> omega
 rw [enter48,B48]
 obtain ⟨b1,b2,b3,b4,b5⟩ := m
 by_cases h4 : 4 ≤ planeOf n
 ·have h4' : (4 : Int) ≤ (planeOf n : Int) := by omega
  rcases hk with hk | hk | hk <;> cases b1 <;> simp [k_guard,k_guardU,MD.val,hp,hk,hK,h4,h4',fin48,rawOf]
 ·have h4' : ¬ (4 : Int) ≤ (planeOf n : Int) := by omega
  rcases hk with hk | hk | hk <;> cases b1 <;> simp [k_guard,k_guardU,MD.val,hp,hk,hK,h4,h4',fin48,rawOf]
end
structure Syms (h : Heap) (s : Value) (l : List (Int × Nat)) : Prop where
 sl : Sl h 2 s l.length (encS l)
 sb : below h.length s = true
 bl : ∀ id b,sid s = some id → blk? h id = some b → ∀ n,belowL n b.cells = true
theorem encS_below (n : Nat) : ∀ l,belowL n (encS l) = true
 | [] => by simp [encS]
 | p :: l => by simp [encS,encS_below n l]
theorem syms_own {h : Heap} {s : Value} {l : List (Int × Nat)} (ho : OwnS h 2 s l.length (encS l)) : Syms h s l := by
 refine ⟨ho.sl,own_below ho (Nat.le_refl _),fun id b hid hb n => ?_⟩
 rcases ho.2 with ⟨rfl,_⟩ | ⟨id',rfl,hb'⟩
 ·simp [sid] at hid
 ·simp [sid] at hid; subst hid
  rw [hb'] at hb; injection hb with hb; subst hb
  exact encS_below n l
theorem Syms.frz {h : Heap} {s : Value} {l : List (Int × Nat)} (hi : Syms h s l) : Syms (frz h) s l := by
 refine ⟨Sl_of_cells hi.sl fun id b hid hb => ⟨_,blk_frz hb (hi.bl id b hid hb _),rfl⟩,by rw [len_frz]; exact hi.sb,fun id b hid hb => ?_⟩
 obtain ⟨b0,h0,rfl,_⟩ := frz_some hb
 exact hi.bl id b0 hid h0
theorem encS_get : ∀ (l : List (Int × Nat)) (i : Nat) (h : i < l.length),(encS l)[i * 2]? = some (.int .i64 l[i].1) ∧ (encS l)[i * 2 + 1]? = some (.int .i64 l[i].2)
 | [],i,h => by simp at h
 | p :: l,0,_ => by simp [encS]
 | p :: l,i + 1,h => by
  obtain ⟨a,b⟩ := encS_get l i (by simpa using h)
  rw [encS,show (i + 1) * 2 + 1 = i * 2 + 1 + 1 + 1 by omega,show (i + 1) * 2 = i * 2 + 1 + 1 by omega]
  simpa using ⟨a,b⟩
theorem Syms.get {h : Heap} {s : Value} {l : List (Int × Nat)} (hf : Syms h s l) {i : Nat} (hi : i < l.length) :
  ∃ id off b,s = .slice (some ⟨id,off,none⟩) l.length 2 ∧ blk? h id = some b ∧ (b.cells.drop (off + i * 2)).take 2 = [.int .i64 l[i].1,.int .i64 l[i].2] ∧ off + i * 2 + 2 ≤ b.cells.length := by
 obtain ⟨id,off,b,rfl,hb,hc⟩ := hf.sl.get hi
 obtain ⟨g0,g1⟩ := encS_get l i hi
 have c0 := hc 0 (by omega)
 have c1 := hc 1 (by omega)
 rw [Nat.add_zero,Nat.add_zero,g0] at c0
 rw [g1] at c1
 obtain ⟨ht,hle⟩ := two c0 c1
 exact ⟨id,off,b,rfl,hb,ht,hle⟩
section
variable {h : Heap} {R : Value → Heap → Prop}
end
structure Pss (h : Heap) (s : Value) (vs : List Value) (ls : List (List (Int × Nat))) : Prop where
 sl : Sl h 1 s vs.length vs
 sb : below h.length s = true
 bl : ∀ id b,sid s = some id → blk? h id = some b → belowL h.length b.cells = true
 len : vs.length = ls.length
 each : ∀ i (h1 : i < vs.length) (h2 : i < ls.length),Syms h vs[i] ls[i]
theorem Pss.frz {h : Heap} {s : Value} {vs : List Value} {ls : List (List (Int × Nat))} (hp : Pss h s vs ls) : Pss (frz h) s vs ls := by
 refine ⟨Sl_of_cells hp.sl fun id b hid hb => ⟨_,blk_frz hb (hp.bl id b hid hb),rfl⟩,by rw [len_frz]; exact hp.sb,fun id b hid hb => ?_,hp.len,fun i h1 h2 => (hp.each i h1 h2).frz⟩
 obtain ⟨b0,h0,rfl,hbl,_⟩ := frz_some hb
 rw [len_frz]; exact hbl
theorem Pss.get {h : Heap} {s : Value} {vs : List Value} {ls : List (List (Int × Nat))} (hp : Pss h s vs ls) {i : Nat} (hi : i < vs.length) :
  ∃ id off b,s = .slice (some ⟨id,off,none⟩) vs.length 1 ∧ blk? h id = some b ∧ b.cells[off + i]? = some vs[i] := by
 obtain ⟨id,off,b,hs,hb,hc⟩ := hp.sl.get hi
 refine ⟨id,off,b,hs,hb,?_⟩
 have := hc 0 (by omega)
 simp only [Nat.mul_one,Nat.add_zero] at this
 rw [this,List.getElem?_eq_getElem hi]
section
variable {h : Heap} {R : Value → Heap → Prop}
end
structure SL (B : Nat) (h0 h : Heap) (p c : Nat) (b : BS) (s : Value) (vs : List Value) (ls : List (List (Int × Nat))) : Prop where
 cb : CB h false p c b
 good : b.Good
 bp : B ≤ p ∧ B ≤ c
 own : OwnS h 1 s vs.length vs
 len : vs.length = ls.length
 each : ∀ (i : Nat) (v : Value) (l : List (Int × Nat)),vs[i]? = some v → ls[i]? = some l → OwnS h 2 v l.length (encS l) ∧ ∀ id,sid v = some id → B ≤ id ∧ id ≠ c ∧ id ≠ p ∧ sid s ≠ some id
 far : ∀ id,sid s = some id → B ≤ id ∧ id ≠ c ∧ id ≠ p
 low : ∀ id,id < B → blk? h id = blk? h0 id
 lenB : B ≤ h.length
theorem SL.start {B : Nat} {h0 h : Heap} {p c : Nat} {b : BS} (cb : CB h false p c b) (good : b.Good) (bp : B ≤ p ∧ B ≤ c) (low : ∀ id,id < B → blk? h id = blk? h0 id) (lenB : B ≤ h.length) : SL B h0 h p c b (.slice none 0 0) [] [] :=
 ⟨cb,good,bp,OwnS.nil _ _,rfl,fun i v l hv => by simp at hv,fun id hid => by simp [sid] at hid,low,lenB⟩
theorem SL.step {B : Nat} {h0 h h1 : Heap} {p c : Nat} {b : BS} {s sv : Value} {vs : List Value} {ls : List (List (Int × Nat))} {σ : ES} (w : SL B h0 h p c b s vs ls) (hr : RunRes h h1 p c sv σ) (hl : vs.length < 100000) :
  ∃ s' H,appendV (h1 ++ [some ⟨false,[sv]⟩]) 1 24 s (.slice (some ⟨h1.length,0,none⟩) 1 1) = some (s',H) ∧ SL B h0 H p c σ.b s' (vs ++ [sv]) (ls ++ [σ.out]) := by
 have hlt := fun id (hid : sid s = some id) => w.own.lt hid
 have own1 : OwnS h1 1 s vs.length vs := w.own.of_blk fun id hid hb => by rw [hr.same id (blk?_lt hb) (w.far id hid).2.1]; exact hb
 have hsl : Sl (h1 ++ [some ⟨false,[sv]⟩]) 1 (.slice (some ⟨h1.length,0,none⟩) 1 1) 1 [sv] := ⟨by simp,.inr ⟨h1.length,0,rfl,.inr ⟨_,blk?_push_eq,by simp,by simp⟩⟩⟩
 have own2 : OwnS (h1 ++ [some ⟨false,[sv]⟩]) 1 s vs.length vs := own1.of_blk fun id _ hb => blk?_push hb
 obtain ⟨H,ha,hK,hHl,hHs⟩ := own_append (bytes := 24) own2 hsl (by unfold roomCells; omega) (by omega) (by omega)
 simp only [List.length_append,List.length_singleton] at ha hK hHl hHs
 have hk : ∀ id,id < h1.length → sid s ≠ some id → blk? H id = blk? h1 id := fun id hid hne => by rw [hHs id (by omega) hne,blk?_push_lt hid]
 have hlen := hr.len
 have hlB := w.lenB
 have hpc := w.bp
 refine ⟨_,H,ha,⟨⟨?_,?_,hr.good.ok⟩,hr.good,w.bp,⟨by simp,.inr ⟨h1.length + 1,by simp,hK⟩⟩,by simp [w.len],fun i v l hv hl' => ?_,fun id hid => ?_,fun id hid => ?_,by omega⟩⟩
 ·rw [hk p (blk?_lt hr.cb.blkp) (fun e => (w.far p e).2.2 rfl)]; exact hr.cb.blkp
 ·rw [hk c (blk?_lt hr.cb.blkc) (fun e => (w.far c e).2.1 rfl)]; exact hr.cb.blkc
 ·by_cases hi : i < vs.length
  ·rw [List.getElem?_append_left hi] at hv
   rw [List.getElem?_append_left (by rw [← w.len]; exact hi)] at hl'
   obtain ⟨o,f⟩ := w.each i v l hv hl'
   refine ⟨o.of_blk fun id hid hb => ?_,fun id hid => ?_⟩
   ·obtain ⟨f1,f2,f3,f4⟩ := f id hid
    rw [hk id (Nat.lt_of_lt_of_le (blk?_lt hb) hlen) f4,hr.same id (blk?_lt hb) f2]; exact hb
   ·obtain ⟨f1,f2,f3,f4⟩ := f id hid
    refine ⟨f1,f2,f3,?_⟩
    have := o.lt hid
    simp [sid]; omega
  ·have hi' : i = vs.length := by
    have := (List.getElem?_eq_some_iff.1 hv).1
    simp at this; omega
   subst hi'
   rw [List.getElem?_append_right (Nat.le_refl _)] at hv
   rw [w.len,List.getElem?_append_right (Nat.le_refl _)] at hl'
   simp at hv hl'
   subst hv; subst hl'
   have hsv := hr.fresh
   refine ⟨hr.own.of_blk fun id hid hb => ?_,fun id hid => ?_⟩
   ·rw [hk id (blk?_lt hb) (fun e => by have := hlt id e; have := hsv id hid; omega)]; exact hb
   ·have h2 := hsv id hid
    have h3 := hr.own.lt hid
    have := blk?_lt w.cb.blkp
    have := blk?_lt w.cb.blkc
    refine ⟨by omega,by omega,by omega,?_⟩
    simp [sid]; omega
 ·simp [sid] at hid
  have := blk?_lt hr.cb.blkp
  have := blk?_lt hr.cb.blkc
  exact ⟨by omega,by omega,by omega⟩
 ·have := w.low id hid
  rw [hk id (by omega) (fun e => by have := (w.far id e).1; omega),hr.same id (by omega) (by omega)]; exact this
theorem SL.pss {B : Nat} {h0 h : Heap} {p c : Nat} {b : BS} {s : Value} {vs : List Value} {ls : List (List (Int × Nat))} (w : SL B h0 h p c b s vs ls) : Pss h s vs ls := by
 refine ⟨w.own.sl,own_below w.own (Nat.le_refl _),fun id bk hid hb => ?_,w.len,fun i h1 h2 => ?_⟩
 ·rcases w.own.2 with ⟨rfl,_⟩ | ⟨id',rfl,hb'⟩
  ·simp [sid] at hid
  ·simp [sid] at hid; subst hid
   rw [hb'] at hb; injection hb with hb; subst hb
   rw [belowL_iff]
   intro v hv
   obtain ⟨i,hi,rfl⟩ := List.getElem_of_mem hv
   exact own_below (w.each i vs[i] (ls[i]'(by rw [← w.len]; exact hi)) (List.getElem?_eq_getElem hi) (List.getElem?_eq_getElem _)).1 (Nat.le_refl _)
 ·exact syms_own (w.each i vs[i] ls[i] (List.getElem?_eq_getElem h1) (List.getElem?_eq_getElem h2)).1
theorem Pss.keep {h h' : Heap} {s : Value} {vs : List Value} {ls : List (List (Int × Nat))} (hp : Pss h s vs ls) (hl : h.length ≤ h'.length) (hk : ∀ id,id < h.length → blk? h' id = blk? h id) : Pss h' s vs ls := by
 obtain ⟨a,cc,hs⟩ := hp.sl.shape
 have hlt : ∀ id,sid s = some id → id < h.length := by
  intro id hid
  have := hp.sb
  rw [hs] at this hid
  cases a with
  | none => simp [sid] at hid
  | some a => simp [sid] at hid; simp at this; omega
 have hsy : ∀ {v : Value} {l : List (Int × Nat)},Syms h v l → Syms h' v l := by
  intro v l y
  obtain ⟨a',c',hv⟩ := y.sl.shape
  refine ⟨y.sl.of_sid fun id b _ hb => by rw [hk id (blk?_lt hb)]; exact hb,below_sid hl hv y.sb,fun id b hid hb => ?_⟩
  have hlt' : id < h.length := by
   have := y.sb
   rw [hv] at this hid
   cases a' with
   | none => simp [sid] at hid
   | some a' => simp [sid] at hid; simp at this; omega
  rw [hk id hlt'] at hb
  exact y.bl id b hid hb
 refine ⟨hp.sl.of_sid fun id b _ hb => by rw [hk id (blk?_lt hb)]; exact hb,below_sid hl hs hp.sb,fun id b hid hb => ?_,hp.len,fun i h1 h2 => hsy (hp.each i h1 h2)⟩
 rw [hk id (hlt id hid)] at hb
 exact belowL_mono hl _ (hp.bl id b hid hb)
structure SymOut (h h' : Heap) (s : Value) (r : Int × List (List (Int × Nat))) : Prop where
 pss : ∃ vs,Pss h' s vs r.2
 low : ∀ id,id < h.length → blk? h' id = blk? h id
 len : h.length ≤ h'.length
theorem SymOut.nil {h h' : Heap} (low : ∀ id,id < h.length → blk? h' id = blk? h id) (len : h.length ≤ h'.length) (e : Int) : SymOut h h' (.slice none 0 0) (e,[]) :=
 ⟨⟨[],(OwnS.nil _ _).sl,by simp,fun id b hid => by simp [sid] at hid,rfl,fun i h1 => by simp at h1⟩,low,len⟩
section
variable {h : Heap} {R : Value → Heap → Prop} {k : List RItem}
theorem pass_loop_c {B : Nat} {h0 : Heap} {b0 : BS} {p c M : Nat} {m : MD} {planes o : Nat} {v10 v11 : Value} (hM : blk? h0 M = some ⟨false,[.bool m.byp,.bool m.res,.bool m.rst,.bool m.cz,.bool m.sy]⟩) (hMB : M < B) (hp1 : planes ≤ 60) (ho : o ≤ 3)
  (hk : ∀ (h' : Heap) (s : Value) (vs : List Value) (b : BS) (ls : List (List (Int × Nat))) (K0 K1 K2 K3 K4 K5 K6 K7 K8 K9 Kc Kd Ke Kf Kg Ki Kj Kk Kl Km Kn Ko Kp Kq Kr Ks Kt Ku Kv Kw Kx Ky Kz J0 J1 J2 J3 J4 J5 J6 J7 J8 J9 Ja Jb Jc Jd Je Jf Jg Jh Ji Jj Jk Jl Jm Jn Jo Jp Jq Jr Js Jt Ju Jv Jw Jx Jy Jz Y0 Y1 Y2 Y3 Y4 Y5 Y6 Y7 Y8 Y9 Ya Yb Yc Yd Ye Yf Yg Yh Yi : Value),SL B h0 h' p c b s vs ls → ls = passesOf m planes o (3 * planes - 2) 0 b0 → Ok tab R35 k #[K0,K1,K2,K3,K4,K5,K6,K7,K8,K9,v10,v11,Kc,Kd,Ke,Kf,Kg,s,Ki,Kj,Kk,Kl,Km,Kn,Ko,Kp,Kq,Kr,Ks,Kt,Ku,Kv,Kw,Kx,Ky,Kz,J0,J1,J2,J3,J4,J5,J6,J7,J8,J9,Ja,Jb,Jc,Jd,Je,Jf,Jg,Jh,Ji,Jj,Jk,Jl,Jm,Jn,Jo,Jp,Jq,Jr,Js,Jt,Ju,Jv,Jw,Jx,Jy,Jz,Y0,Y1,Y2,Y3,Y4,Y5,Y6,Y7,Y8,Y9,Ya,Yb,Yc,Yd,Ye,Yf,Yg,Yh,Yi] h' R) :
  ∀ (n i : Nat) (h : Heap) (b : BS) (s : Value) (vs : List Value) (ls : List (List (Int × Nat))) (K0 K1 K2 K4 K5 K6 K7 K8 Kd Ke Kf Ki Kj Kk Kl Km Kn Ko Kp Kq Kr Ks Kt Ku Kv Kw Kx Ky Kz J0 J1 J2 J3 J4 J5 J6 J7 J8 J9 Ja Jb Jc Jd Je Jf Jg Jh Ji Jj Jk Jl Jm Jn Jo Jp Jq Jr Js Jt Ju Jv Jw Jz Y0 Y1 Y2 Y3 Y4 Y5 Y6 Y7 Y8 Y9 Ya Yb Yc Yd Ye Yf Yg Yh Yi : Value),i + n = 3 * planes - 2 → ls.length = i → ls ++ passesOf m planes o n i b = passesOf m planes o (3 * planes - 2) 0 b0 → SL B h0 h p c b s vs ls →
   Ok tab R35 (.inLoop L35_1 :: .inBlock 2 :: k) #[K0,K1,K2,.int .i64 o,K4,K5,K6,K7,K8,ptr M,v10,v11,ptr p,Kd,Ke,Kf,.int .i64 planes,s,Ki,Kj,Kk,Kl,Km,Kn,Ko,Kp,Kq,Kr,Ks,Kt,Ku,Kv,Kw,Kx,Ky,Kz,J0,J1,J2,J3,J4,J5,J6,J7,J8,J9,Ja,Jb,Jc,Jd,Je,Jf,Jg,Jh,Ji,Jj,Jk,Jl,Jm,Jn,Jo,Jp,Jq,Jr,Js,Jt,Ju,Jv,Jw,.int .i64 (3 * planes - 2 : Nat),.int .i64 i,Jz,Y0,Y1,Y2,Y3,Y4,Y5,Y6,Y7,Y8,Y9,Ya,Yb,Yc,Yd,Ye,Yf,Yg,Yh,Yi] h R := by
 intro n
 induction n with
 | zero =>
  intro i h b s vs ls;intros;rename_i hi hls hpa w
  have hlt : ¬ ((i : Int) < ((3 * planes - 2 : Nat) : Int)) := by omega
  generalize ((3 * planes - 2 : Nat) : Int) = np at *
  rw [ok_round,l35_1,L35_1a,L35_1b]
  simp [hlt]
  exact hk h s vs b ls _ _ _ _ _ _ _ _ _ _ _ _ _ _ _ _ _ _ _ _ _ _ _ _ _ _ _ _ _ _ _ _ _ _ _ _ _ _ _ _ _ _ _ _ _ _ _ _ _ _ _ _ _ _ _ _ _ _ _ _ _ _ _ _ _ _ _ _ _ _ _ _ _ _ _ _ _ _ _ _ _ _ _ _ _ _ _ _ w (by simpa [passesOf] using hpa)
 | succ n ih =>
  intro i h b s vs ls;intros;rename_i hi hls hpa w
  have hlt : (i : Int) < ((3 * planes - 2 : Nat) : Int) := by omega
  have hw : IntKind.i64.wrap ((i : Int) + 1) = ((i + 1 : Nat) : Int) := wrapN (n := i + 1) (by omega)
  have hM1 : blk? h M = some ⟨false,[.bool m.byp,.bool m.res,.bool m.rst,.bool m.cz,.bool m.sy]⟩ := by rw [w.low M hMB]; exact hM
  obtain ⟨sv,h1,e1,r1⟩ := run_c w.cb w.good.rng i planes o m
  have herr : runErr i planes o = 0 := by unfold runErr; rw [if_neg (by omega),if_neg (by omega)]
  have hro : runOut m b i planes o = runSt m b i planes o := by unfold runOut; rw [if_pos herr]; simp
  rw [herr] at e1
  rw [hro] at r1
  obtain ⟨s',H,ha,w'⟩ := w.step r1 (by rw [w.len]; omega)
  simp only [MD.val] at e1
  have ih' := ih (i + 1)
  generalize hq : ((i + 1 : Nat) : Int) = q at *
  generalize hnp : ((3 * planes - 2 : Nat) : Int) = np at *
  have e9 := w'
  rw [ok_round,l35_1,L35_1a,L35_1b]
  cases sv with
  | slice a sl cp =>
   simp [hlt,hM1,e1,repL,ha,hw]
   exact ih' H _ s' _ _ _ _ _ _ _ _ _ _ _ _ _ _ _ _ _ _ _ _ _ _ _ _ _ _ _ _ _ _ _ _ _ _ _ _ _ _ _ _ _ _ _ _ _ _ _ _ _ _ _ _ _ _ _ _ _ _ _ _ _ _ _ _ _ _ _ _ _ _ _ _ _ _ _ _ _ _ _ _ _ _ _ _ (by omega) (by simp; omega) (by rw [← hpa,passesOf]; simp) w'
  | _ => exact absurd r1.own.sl.shape (by simp)
theorem fill_loop_c {B : Nat} {h0 : Heap} {s : Value} {xs : List Int} {w hh : Nat} {p c : Nat} {v2 v3 v9 v10 v11 v13 : Value} (hi : Ints h0 s xs) (hsB : ∀ id,sid s = some id → id < B) (w1 : 1 ≤ w) (w2 : w ≤ 64) (h1 : 1 ≤ hh) (h2 : hh ≤ 64) (hl : xs.length = w * hh)
  (hbad : ∀ h',(∀ id,id < B → blk? h' id = blk? h0 id) → B ≤ h'.length → ¬ (∀ v ∈ xs,inR v) → R (.tuple #[.slice none 0 0,.int .i64 2]) h')
  (hk : ∀ (h' : Heap) (K1 K4 K5 K6 K7 K8 Ke Kf Kg Kh Ki Kj Kk Kl Km Kn Ko Kp Kq Kr Ks Kt Ku Kv Kw Kx Ky Kz J0 J1 J2 J3 J4 J5 J6 J7 J8 J9 Ja Jb Jc Jd Je Jf Jg Jh Ji Jj Jk Jl Jm Jn Jo Jp Jq Jr Js Jt Ju Jv Jw Jx Jy Jz Y0 Y1 Y2 Y3 Y4 Y5 Y6 Y7 Y8 Y9 Ya Yb Yc Yd Ye Yf Yg Yh Yi : Value),(∀ v ∈ xs,inR v) → CB h' false p c (fillTo w hh xs xs.length) → (∀ id,id < B → blk? h' id = blk? h0 id) → B ≤ h'.length →
   Ok tab R35 k #[s,K1,v2,v3,K4,K5,K6,K7,K8,v9,v10,v11,ptr p,v13,Ke,Kf,Kg,Kh,Ki,Kj,Kk,Kl,Km,Kn,Ko,Kp,Kq,Kr,Ks,Kt,Ku,Kv,Kw,Kx,Ky,Kz,J0,J1,J2,J3,J4,J5,J6,J7,J8,J9,Ja,Jb,Jc,Jd,Je,Jf,Jg,Jh,Ji,Jj,Jk,Jl,Jm,Jn,Jo,Jp,Jq,Jr,Js,Jt,Ju,Jv,Jw,Jx,Jy,Jz,Y0,Y1,Y2,Y3,Y4,Y5,Y6,Y7,Y8,Y9,Ya,Yb,Yc,Yd,Ye,Yf,Yg,Yh,Yi] h' R) :
  ∀ (n i : Nat) (h : Heap) (K4 K5 K6 K7 K8 Ke Kf Kg Kh Ki Kj Kk Kl Km Kn Ko Kp Kq Kr Ks Kt Ku Kv Kw Kx Ky Kz J0 J1 J2 J3 J4 J8 J9 Ja Jb Jc Jd Je Jf Jg Jh Ji Jj Jk Jl Jm Jn Jo Jp Jq Jr Js Jt Ju Jv Jw Jx Jy Jz Y0 Y1 Y2 Y3 Y4 Y5 Y6 Y7 Y8 Y9 Ya Yb Yc Yd Ye Yf Yg Yh Yi : Value),n = xs.length - i → i ≤ xs.length → (∀ v ∈ xs.take i,inR v) → CB h false p c (fillTo w hh xs i) → B ≤ p ∧ B ≤ c → (∀ id,id < B → blk? h id = blk? h0 id) → B ≤ h.length →
   Ok tab R35 (.inLoop L35_0 :: .inBlock 0 :: k) #[s,.int .i64 w,v2,v3,K4,K5,K6,K7,K8,v9,v10,v11,ptr p,v13,Ke,Kf,Kg,Kh,Ki,Kj,Kk,Kl,Km,Kn,Ko,Kp,Kq,Kr,Ks,Kt,Ku,Kv,Kw,Kx,Ky,Kz,J0,J1,J2,J3,J4,s,.int .i64 xs.length,.int .i64 i,J8,J9,Ja,Jb,Jc,Jd,Je,Jf,Jg,Jh,Ji,Jj,Jk,Jl,Jm,Jn,Jo,Jp,Jq,Jr,Js,Jt,Ju,Jv,Jw,Jx,Jy,Jz,Y0,Y1,Y2,Y3,Y4,Y5,Y6,Y7,Y8,Y9,Ya,Yb,Yc,Yd,Ye,Yf,Yg,Yh,Yi] h R := by
 intro n
 have hm : w * hh ≤ 64 * 64 := Nat.mul_le_mul w2 h2
 induction n with
 | zero =>
  intro i h;intros;rename_i hn hi' hr hcb hB low len
  have hlt : ¬ ((i : Int) < xs.length) := by omega
  have : i = xs.length := by omega
  subst this
  rw [ok_round,l35_0,L35_0a,L35_0b]
  simp [hlt]
  exact hk h _ _ _ _ _ _ _ _ _ _ _ _ _ _ _ _ _ _ _ _ _ _ _ _ _ _ _ _ _ _ _ _ _ _ _ _ _ _ _ _ _ _ _ _ _ _ _ _ _ _ _ _ _ _ _ _ _ _ _ _ _ _ _ _ _ _ _ _ _ _ _ _ _ _ _ _ _ _ _ _ _ _ _ (by rw [List.take_of_length_le (Nat.le_refl _)] at hr; exact hr) hcb low len
 | succ n ih =>
  intro i h;intros;rename_i hn hi' hr hcb hB low len
  have hlt : ((i : Int) < xs.length) := by omega
  have hil : i < xs.length := by omega
  have hw : IntKind.i64.wrap ((i : Int) + 1) = ((i + 1 : Nat) : Int) := wrapN (n := i + 1) (by omega)
  obtain ⟨id,off,b,hs,hbk,hc⟩ := hi.get hil
  have hbk' : blk? h id = some b := by rw [low id (hsB id (by rw [hs]; rfl))]; exact hbk
  have hmod : (i : Int).tmod (w : Int) = ((i % w : Nat) : Int) := rfl
  have hdiv : (i : Int).tdiv (w : Int) = ((i / w : Nat) : Int) := rfl
  have hdw : IntKind.i64.wrap ((i / w : Nat) : Int) = ((i / w : Nat) : Int) := wrapN (by have := Nat.div_le_self i w; omega)
  have hw0 : ¬ w = 0 := by omega
  have hinb := inb_divmod (i := i) (h := hh) (w := w) (by omega) (by omega) (fillTo w hh xs i).cs
  have ih' := ih (i + 1)
  have hmem := List.getElem_mem hil
  have hstep := fillTo_step (i := i) (w := w) (by omega) hil hl
  have htk : ∀ v ∈ xs.take (i + 1),inR xs[i] → inR v := by
   intro v hv hx
   rw [List.take_succ_eq_append_getElem hil] at hv
   rw [List.mem_append,List.mem_singleton] at hv
   rcases hv with hv | hv
   ·exact hr v hv
   ·rw [hv]; exact hx
  rw [ok_round,l35_0,L35_0a,L35_0b]
  by_cases hin : inR xs[i]
  ·have hst := fun R => set_c (R := R) (v := xs[i]) hcb (x := ((i % w : Nat) : Int)) (y := ((i / w : Nat) : Int)) hinb hin
   have hmm : (fun z : Cell => ({ z with v := xs[i] } : Cell)) = setV xs[i] := rfl
   rw [hmm,hstep] at hst
   have hgood := fillTo_good (newBS_good w1 w2 h1 h2) hl (i + 1) (by omega) (fun v hv => htk v hv hin)
   have hcb' := hcb.set (b' := fillTo w hh xs (i + 1)) rfl rfl hgood.ok
   have n1 : ¬ xs[i] ≤ -1152921504606846976 := by unfold inR at hin; omega
   have n2 : ¬ 1152921504606846976 ≤ xs[i] := by unfold inR at hin; omega
   generalize hq : ((i + 1 : Nat) : Int) = q at *
   generalize hq2 : ((i % w : Nat) : Int) = q2 at *
   generalize hq3 : ((i / w : Nat) : Int) = q3 at *
   simp [k_guard,hlt,hs,hbk',hc,n1,n2,hmod,hdiv,hdw,hw0,hst,hw]
   rw [← hs]
   refine ih' _ _ _ _ _ _ _ _ _ _ _ _ _ _ _ _ _ _ _ _ _ _ _ _ _ _ _ _ _ _ _ _ _ _ _ _ _ _ _ _ _ _ _ _ _ _ _ _ _ _ _ _ _ _ _ _ _ _ _ _ _ _ _ _ _ _ _ _ _ _ _ _ _ _ _ _ _ _ _ _ (by omega) (by omega) (fun v hv => htk v hv hin) hcb' hB (fun id hid => ?_) (by simp; omega)
   rw [blk?_set_ne (by omega)]; exact low id hid
  ·have hfin := hbad h low len (fun hall => hin (hall _ hmem))
   by_cases n1 : xs[i] ≤ -1152921504606846976
   ·simp [k_guard,k_guardU,hlt,hs,hbk',hc,n1,fin35]
    exact hfin
   ·have n2 : 1152921504606846976 ≤ xs[i] := by unfold inR at hin; omega
    simp [k_guard,hlt,hs,hbk',hc,n1,n2,fin35]
    exact hfin
end
section
variable {h : Heap} {R : Value → Heap → Prop} {k : List RItem}
theorem symbols_c {s : Value} {xs : List Int} (hi : Ints h s xs) (hl : xs.length < 9000000000) (w hh o : Int) (m : MD) :
  ∃ sv h',(∀ R,Ret tab 35 [s,.int .i64 w,.int .i64 hh,.int .i64 o,m.val] h R = R (.tuple #[sv,.int .i64 (symRes xs w hh o m).1]) h') ∧ SymOut h h' sv (symRes xs w hh o m) := by
 have key : Ret tab 35 [s,.int .i64 w,.int .i64 hh,.int .i64 o,m.val] h fun v h' => ∃ sv,v = .tuple #[sv,.int .i64 (symRes xs w hh o m).1] ∧ SymOut h h' sv (symRes xs w hh o m) := by
  obtain ⟨a,cc,hs⟩ := hi.sl.shape
  rw [enter35,show B35 = .seq (nthC 0 B35) (.seq (nthC 1 B35) (.seq (nthC 2 B35) (.seq (nthC 3 B35) (.seq (nthC 4 B35) (.seq (nthC 5 B35) (tlC 6 B35)))))) from rfl]
  generalize hT : tlC 6 B35 = tl
  simp only [nthC,tlC,fstC,B35]
  have hkp : ∀ x : Option Blk,∀ id,id < h.length → blk? (h ++ [x]) id = blk? h id := fun x id hid => blk?_push_lt hid
  cases hsz : sized w hh
  ·have hr : symRes xs w hh o m = (2,[]) := by unfold symRes; rw [if_pos hsz]
   rw [hr]
   simp [MD.val,new_bad hsz,fin35]
   exact SymOut.nil (hkp _) (by simp) _
  have hsz' := hsz
  simp only [sized,decide_eq_true_eq] at hsz'
  obtain ⟨w,rfl⟩ := Int.eq_ofNat_of_zero_le (show 0 ≤ w by omega)
  obtain ⟨hh,rfl⟩ := Int.eq_ofNat_of_zero_le (show 0 ≤ hh by omega)
  have w1 : 1 ≤ w := by omega
  have w2 : w ≤ 64 := by omega
  have h1 : 1 ≤ hh := by omega
  have h2 : hh ≤ 64 := by omega
  have hm : w * hh ≤ 64 * 64 := Nat.mul_le_mul w2 h2
  have hmw : IntKind.i64.wrap ((w : Int) * (hh : Int)) = ((w * hh : Nat) : Int) := by rw [← Int.natCast_mul]; exact wrapN (by omega)
  have hnew := fun H R => new_c (h := H) (R := R) w1 w2 h1 h2
  have hls : ∀ H : Heap,(newHeap H w hh).length = H.length + 2 := fun H => newHeap_len H w hh
  have hlow : ∀ x : Option Blk,∀ id,id < h.length → blk? (newHeap (h ++ [x]) w hh) id = blk? h id := fun x id hid => by
   rw [newHeap_low _ _ _ id (by simp; omega)]; exact hkp x id hid
  by_cases hln : xs.length = w * hh
  case neg =>
   have hr : symRes xs w hh o m = (4,[]) := by
    unfold symRes; rw [if_neg (by rw [hsz]; simp),if_pos (by rw [← Int.natCast_mul]; omega)]
   have hne : ((xs.length : Int) != ((w * hh : Nat) : Int)) = true := by simp only [bne_iff_ne,ne_eq]; omega
   rw [hr]
   simp [-Int.natCast_mul,MD.val,hnew,hs,hmw,hne,fin35]
   exact SymOut.nil (hlow _) (by rw [hls]; simp; omega) _
  have hne : ((xs.length : Int) != ((w * hh : Nat) : Int)) = false := by rw [hln]; simp
  have hsq : (xs.length : Int) = (w : Int) * (hh : Int) := by rw [hln,Int.natCast_mul]
  by_cases ho1 : o < 0
  ·have hr : symRes xs w hh o m = (3,[]) := by
    unfold symRes; rw [if_neg (by rw [hsz]; simp),if_neg (by rw [hsq]; simp),if_pos (.inl ho1)]
   rw [hr]
   simp [-Int.natCast_mul,k_guard,k_guardU,MD.val,hnew,hs,hmw,hne,ho1,fin35]
   exact SymOut.nil (hlow _) (by rw [hls]; simp; omega) _
  by_cases ho2 : 3 < o
  ·have hr : symRes xs w hh o m = (3,[]) := by
    unfold symRes; rw [if_neg (by rw [hsz]; simp),if_neg (by rw [hsq]; simp),if_pos (.inr ho2)]
   rw [hr]
   simp [-Int.natCast_mul,k_guard,k_guardU,MD.val,hnew,hs,hmw,hne,ho1,ho2,fin35]
   exact SymOut.nil (hlow _) (by rw [hls]; simp; omega) _
  obtain ⟨o,rfl⟩ := Int.eq_ofNat_of_zero_le (show 0 ≤ o by omega)
  have hbadr : ¬ (∀ v ∈ xs,inR v) → symRes xs w hh o m = (2,[]) := fun hb => by
   unfold symRes; rw [if_neg (by rw [hsz]; simp),if_neg (by rw [hsq]; simp),if_neg (by omega),if_neg hb]
  have hokr : (∀ v ∈ xs,inR v) → symRes xs w hh o m = (0,passesOf m (planesOf xs) o (3 * planesOf xs - 2) 0 (fillTo w hh xs xs.length)) := fun hb => by
   unfold symRes; rw [if_neg (by rw [hsz]; simp),if_neg (by rw [hsq]; simp),if_neg (by omega),if_pos hb]; rfl
  simp [-Int.natCast_mul,k_guard,k_guardU,MD.val,hnew,hs,hmw,hne,ho1,ho2]
  rw [← hs]
  generalize hH0 : h ++ [some (⟨false,[.bool m.byp,.bool m.res,.bool m.rst,.bool m.cz,.bool m.sy]⟩ : Blk)] = H0
  have hH0l : H0.length = h.length + 1 := by rw [← hH0]; simp
  have hM : blk? H0 h.length = some ⟨false,[.bool m.byp,.bool m.res,.bool m.rst,.bool m.cz,.bool m.sy]⟩ := by rw [← hH0]; exact blk?_push_eq
  have hk0 : ∀ id,id < h.length → blk? H0 id = blk? h id := fun id hid => by rw [← hH0]; exact hkp _ id hid
  have hi0 : Ints H0 s xs := hi.keep (by omega) (fun id hid _ => hk0 id hid)
  have hsB : ∀ id,sid s = some id → id < H0.length := by
   intro id hid
   have := hi0.sb
   rw [hs] at this hid
   cases a with
   | none => simp [sid] at hid
   | some a => simp [sid] at hid; simp at this; omega
  have hcb := newHeap_cb H0 w1 w2 h1 h2
  rw [← fillTo_zero w hh xs,hH0l] at hcb
  refine fill_loop_c hi0 hsB w1 w2 h1 h2 hln ?_ ?_ _ 0 _ _ _ _ _ _ _ _ _ _ _ _ _ _ _ _ _ _ _ _ _ _ _ _ _ _ _ _ _ _ _ _ _ _ _ _ _ _ _ _ _ _ _ _ _ _ _ _ _ _ _ _ _ _ _ _ _ _ _ _ _ _ _ _ _ _ _ _ _ _ _ _ _ _ _ _ _ _ _ _ rfl (by omega) (by simp) hcb ⟨by omega,by omega⟩ (newHeap_low H0 w hh) (by rw [hls]; omega)
  ·intro h' low len hb
   rw [hbadr hb]
   exact ⟨_,rfl,SymOut.nil (fun id hid => by rw [low id (by omega),hk0 id hid]) (by omega) _⟩
  ·intro h2';intros;rename_i hb hcb2 low2 len2
   rw [hokr hb]
   have hp60 := inR_planes.1 hb
   have hi2 : Ints h2' s xs := hi0.keep (by omega) (fun id hid _ => low2 id hid)
   have hpl := fun R => planes_c (R := R) hi2 hl
   have hmx : (if 2 < 3 * (planesOf xs : Int) then (3 * (planesOf xs : Int) - 2) else 0) = ((3 * planesOf xs - 2 : Nat) : Int) := by split <;> omega
   have hw3 : IntKind.i64.wrap (3 * (planesOf xs : Int)) = 3 * (planesOf xs : Int) := wrapI (by omega) (by omega)
   have hw4 : IntKind.i64.wrap (3 * (planesOf xs : Int) - 2) = 3 * (planesOf xs : Int) - 2 := wrapI (by omega) (by omega)
   rw [← hT]
   simp only [tlC,B35]
   generalize hmg : ((3 * planesOf xs - 2 : Nat) : Int) = mg at *
   simp [hpl,hw3,hw4,fold1,foldO,max2V]
   rw [hmx,← hmg]
   have hgood := fillTo_good (newBS_good w1 w2 h1 h2) hln xs.length (Nat.le_refl _) (by rw [List.take_of_length_le (Nat.le_refl _)]; exact hb)
   have w0 := SL.start (B := H0.length) (h0 := H0) hcb2 hgood ⟨by omega,by omega⟩ low2 len2
   refine pass_loop_c (b0 := fillTo w hh xs xs.length) hM (by omega) hp60 (by omega) ?_ (3 * planesOf xs - 2) 0 _ _ _ _ _ _ _ _ _ _ _ _ _ _ _ _ _ _ _ _ _ _ _ _ _ _ _ _ _ _ _ _ _ _ _ _ _ _ _ _ _ _ _ _ _ _ _ _ _ _ _ _ _ _ _ _ _ _ _ _ _ _ _ _ _ _ _ _ _ _ _ _ _ _ _ _ _ _ _ _ _ _ _ _ _ _ _ (by omega) rfl rfl w0
   intro h' s' vs b' ls;intros;rename_i w hls
   simp [fin35]
   refine ⟨⟨vs,?_⟩,fun id hid => by rw [w.low id (by omega),hk0 id hid],by have := w.lenB; omega⟩
   rw [← hls]; exact w.pss
 obtain ⟨v,h',e,sv,rfl,rs⟩ := ret_ex key
 exact ⟨sv,h',e,rs⟩
end
set_option maxRecDepth 10000
theorem encS_two : ∀ (l : List (Int × Nat)) (i : Nat) (h : i < l.length),((encS l).drop (i * 2)).take 2 = [.int .i64 l[i].1,.int .i64 l[i].2]
 | [],i,h => by simp at h
 | p :: l,0,_ => by simp [encS]
 | p :: l,i + 1,h => by
  rw [encS,show (i + 1) * 2 = i * 2 + 1 + 1 by omega,List.drop_succ_cons,List.drop_succ_cons]
  simpa using encS_two l i (by simpa using h)
theorem sym_two {h : Heap} {s : Value} {l : List (Int × Nat)} (hs : Sl h 2 s l.length (encS l)) {i : Nat} (hi : i < l.length) :
  ∃ id off b,s = .slice (some ⟨id,off,none⟩) l.length 2 ∧ blk? h id = some b ∧ off + i * 2 + 2 ≤ b.cells.length ∧ ((b.cells.drop (off + i * 2)).take 2) = [.int .i64 l[i].1,.int .i64 l[i].2] := by
 obtain ⟨hl,hs⟩ := hs
 rcases hs with ⟨rfl,h0⟩ | ⟨id,off,rfl,h0 | ⟨b,hb,hle,hc⟩⟩
 ·omega
 ·omega
 ·refine ⟨id,off,b,rfl,hb,by omega,?_⟩
  have h2 := encS_two l i hi
  rw [← hc,List.drop_take,List.take_take,List.drop_drop,Nat.min_eq_left (by omega)] at h2
  exact h2
def S2.puts (st : S2) (l : List (Int × Nat)) : S2 := l.foldl S2.put st
theorem puts_raw : ∀ (l : List (Int × Nat)) (st : S2),(st.raw = none ↔ (st.puts l).raw = none)
 | [],st => Iff.rfl
 | s :: l,st => by
  have h1 : (st.put s).raw = none ↔ st.raw = none := by unfold S2.put; cases st.raw <;> simp
  exact h1.symm.trans (puts_raw l (st.put s))
section
variable {R : Value → Heap → Prop} {k : List RItem} {e M X0 X cnt gn gi n j : Nat} {sv zv gv v : Value}
theorem sym_loop {h0 : Heap} {own0 : Nat → Prop} {st0 : S2} {N0 : Nat} {l : List (Int × Nat)} {yv : Value} (hy : Sl h0 2 yv l.length (encS l)) (hno : ∀ id,sid yv = some id → ¬ own0 id) (hok : ∀ s ∈ l,SymOk st0.raw s) (hN : N0 + l.length ≤ 900000)
  (hk : ∀ (h : Heap) (own : Nat → Prop) (K0 K1 K2 K3 K4 K5 K6 K7 K8 Kb Kd Kh Kl Km Kn Ko Kp Kq Kr Ks Kt Ku Kv Kw Kx Ky Kz J0 J1 J2 J3 J4 J5 J6 J7 J8 J9 Ja Jb Jc Jd Je Jf Jg Jk Jl Jm Jn Jo Jp Jq Jr Js Jt Ju Jv Jy Jz Y0 Y1 Y2 Y3 Y4 Y5 Y6 Y7 Y8 Y9 Ya Yb Yc Yd Ye Yf Yg Yh Yi Yj Yk Yl Ym Yn Yo Yp Yq Yr Ys Yt Yu Yv Yw Yx Yy Yz Z0 Z1 Z2 Z3 Z4 Z5 Z6 Z7 Z8 Z9 Za Zb Zc Zd Ze Zf Zg Zh Zi Zj Zk Zl Zm Zn Zo Zp Zq Zr Zs Zt Zu Zv Zw Zx Zy Zz K0q K1q K2q K3q : Value),Snk h e v own (st0.puts l) (N0 + l.length) → SF h0 h own0 own → Ok tab R17 k #[K0,K1,K2,K3,K4,K5,K6,K7,K8,ptr M,ptr X0,Kb,sv,Kd,ptr e,ptr X,.int .i64 (n : Nat),Kh,.int .i64 (cnt : Nat),v,zv,Kl,Km,Kn,Ko,Kp,Kq,Kr,Ks,Kt,Ku,Kv,Kw,Kx,Ky,Kz,J0,J1,J2,J3,J4,J5,J6,J7,J8,J9,Ja,Jb,Jc,Jd,Je,Jf,Jg,gv,.int .i64 (gn : Nat),.int .i64 (gi : Nat),Jk,Jl,Jm,Jn,Jo,Jp,Jq,Jr,Js,Jt,Ju,Jv,.int .i64 (cnt : Nat),.int .i64 (j : Nat),Jy,Jz,Y0,Y1,Y2,Y3,Y4,Y5,Y6,Y7,Y8,Y9,Ya,Yb,Yc,Yd,Ye,Yf,Yg,Yh,Yi,Yj,Yk,Yl,Ym,Yn,Yo,Yp,Yq,Yr,Ys,Yt,Yu,Yv,Yw,Yx,Yy,Yz,Z0,Z1,Z2,Z3,Z4,Z5,Z6,Z7,Z8,Z9,Za,Zb,Zc,Zd,Ze,Zf,Zg,Zh,Zi,Zj,Zk,Zl,Zm,Zn,Zo,Zp,Zq,Zr,Zs,Zt,Zu,Zv,Zw,Zx,Zy,Zz,K0q,K1q,K2q,K3q] h R) :
  ∀ (m i : Nat) (h : Heap) (own : Nat → Prop) (st : S2) (K0 K1 K2 K3 K4 K5 K6 K7 K8 Kb Kd Kh Kl Km Kn Ko Kp Kq Kr Ks Kt Ku Kv Kw Kx Ky Kz J0 J1 J2 J3 J4 J5 J6 J7 J8 J9 Ja Jb Jc Jd Je Jf Jg Jk Jl Jm Jn Jo Jp Jq Jr Js Jt Ju Jv Jy Jz Y0 Y1 Y2 Y3 Y4 Y5 Y6 Y7 Y8 Y9 Ya Yb Yf Yg Yh Yi Yj Yk Yl Ym Yn Yo Yp Yq Yr Ys Yt Yu Yv Yw Yx Yy Yz Z0 Z1 Z2 Z3 Z4 Z5 Z6 Z7 Z8 Z9 Za Zb Zc Zd Ze Zf Zg Zh Zi Zj Zk Zl Zm Zn Zo Zp Zq Zr Zs Zt Zu Zv Zw Zx Zy Zz K0q K1q K2q K3q : Value),i + m = l.length → st = st0.puts (l.take i) → Snk h e v own st (N0 + i) → SF h0 h own0 own →
   Ok tab R17 (.inLoop L17_0 :: .inBlock 4 :: k) #[K0,K1,K2,K3,K4,K5,K6,K7,K8,ptr M,ptr X0,Kb,sv,Kd,ptr e,ptr X,.int .i64 (n : Nat),Kh,.int .i64 (cnt : Nat),v,zv,Kl,Km,Kn,Ko,Kp,Kq,Kr,Ks,Kt,Ku,Kv,Kw,Kx,Ky,Kz,J0,J1,J2,J3,J4,J5,J6,J7,J8,J9,Ja,Jb,Jc,Jd,Je,Jf,Jg,gv,.int .i64 (gn : Nat),.int .i64 (gi : Nat),Jk,Jl,Jm,Jn,Jo,Jp,Jq,Jr,Js,Jt,Ju,Jv,.int .i64 (cnt : Nat),.int .i64 (j : Nat),Jy,Jz,Y0,Y1,Y2,Y3,Y4,Y5,Y6,Y7,Y8,Y9,Ya,Yb,yv,.int .i64 (l.length : Nat),.int .i64 (i : Nat),Yf,Yg,Yh,Yi,Yj,Yk,Yl,Ym,Yn,Yo,Yp,Yq,Yr,Ys,Yt,Yu,Yv,Yw,Yx,Yy,Yz,Z0,Z1,Z2,Z3,Z4,Z5,Z6,Z7,Z8,Z9,Za,Zb,Zc,Zd,Ze,Zf,Zg,Zh,Zi,Zj,Zk,Zl,Zm,Zn,Zo,Zp,Zq,Zr,Zs,Zt,Zu,Zv,Zw,Zx,Zy,Zz,K0q,K1q,K2q,K3q] h R := by
 intro m
 induction m with
 | zero =>
  intro i h own st;intros;rename_i him hst hK F
  obtain rfl : i = l.length := by omega
  rw [List.take_length] at hst
  subst hst
  rw [ok_round,l17_0,L17_0a,L17_0b]
  simp
  exact hk _ _ _ _ _ _ _ _ _ _ _ _ _ _ _ _ _ _ _ _ _ _ _ _ _ _ _ _ _ _ _ _ _ _ _ _ _ _ _ _ _ _ _ _ _ _ _ _ _ _ _ _ _ _ _ _ _ _ _ _ _ _ _ _ _ _ _ _ _ _ _ _ _ _ _ _ _ _ _ _ _ _ _ _ _ _ _ _ _ _ _ _ _ _ _ _ _ _ _ _ _ _ _ _ _ _ _ _ _ _ _ _ _ _ _ _ _ _ _ _ _ _ _ _ _ _ _ _ _ _ _ _ _ _ _ _ hK F
 | succ m ih =>
  intro i h own st;intros;rename_i him hst hK F
  have hi : i < l.length := by omega
  have hlt : (i : Int) < (l.length : Int) := by omega
  have hw : IntKind.i64.wrap ((i : Int) + 1) = ((i + 1 : Nat) : Int) := wrapN (n := i + 1) (by omega)
  obtain ⟨id,off,b,rfl,hb,hle,htw⟩ := sym_two hy hi
  have hbh : blk? h id = some b := by rw [F.same id (blk?_lt hb) (hno id rfl)]; exact hb
  have hraw : st.raw = none ↔ st0.raw = none := by rw [hst]; exact (puts_raw _ _).symm
  have hsok : SymOk st.raw (l[i].1,l[i].2) := by
   have := hok l[i] (List.getElem_mem hi)
   exact ⟨this.1,fun x => this.2 (hraw.1 x)⟩
  have hK1 : Snk (h ++ [some ⟨false,[.int .i64 l[i].1,.int .i64 (l[i].2 : Nat)]⟩]) e v own st (N0 + i) := hK.keep fun id hid => blk?_push_lt (hK.own_lt hid)
  obtain ⟨h',own',e1,hK2,F2⟩ := snk_put hK1 (by omega) hsok
  have F3 : SF h (h ++ [some ⟨false,[.int .i64 l[i].1,.int .i64 (l[i].2 : Nat)]⟩]) own own := ⟨by simp,fun id hid _ => blk?_push_lt hid,fun id hid => .inl hid⟩
  have htk : l.take (i + 1) = l.take i ++ [l[i]] := by rw [List.take_add_one,List.getElem?_eq_getElem hi]; rfl
  have hst' : st.put (l[i].1,l[i].2) = st0.puts (l.take (i + 1)) := by rw [htk,hst]; unfold S2.puts; rw [List.foldl_append]; rfl
  have ih' := fun K0 K1 K2 K3 K4 K5 K6 K7 K8 Kb Kd Kh Kl Km Kn Ko Kp Kq Kr Ks Kt Ku Kv Kw Kx Ky Kz J0 J1 J2 J3 J4 J5 J6 J7 J8 J9 Ja Jb Jc Jd Je Jf Jg Jk Jl Jm Jn Jo Jp Jq Jr Js Jt Ju Jv Jy Jz Y0 Y1 Y2 Y3 Y4 Y5 Y6 Y7 Y8 Y9 Ya Yb Yf Yg Yh Yi Yj Yk Yl Ym Yn Yo Yp Yq Yr Ys Yt Yu Yv Yw Yx Yy Yz Z0 Z1 Z2 Z3 Z4 Z5 Z6 Z7 Z8 Z9 Za Zb Zc Zd Ze Zf Zg Zh Zi Zj Zk Zl Zm Zn Zo Zp Zq Zr Zs Zt Zu Zv Zw Zx Zy Zz K0q K1q K2q K3q => ih (i + 1) h' own' _ K0 K1 K2 K3 K4 K5 K6 K7 K8 Kb Kd Kh Kl Km Kn Ko Kp Kq Kr Ks Kt Ku Kv Kw Kx Ky Kz J0 J1 J2 J3 J4 J5 J6 J7 J8 J9 Ja Jb Jc Jd Je Jf Jg Jk Jl Jm Jn Jo Jp Jq Jr Js Jt Ju Jv Jy Jz Y0 Y1 Y2 Y3 Y4 Y5 Y6 Y7 Y8 Y9 Ya Yb Yf Yg Yh Yi Yj Yk Yl Ym Yn Yo Yp Yq Yr Ys Yt Yu Yv Yw Yx Yy Yz Z0 Z1 Z2 Z3 Z4 Z5 Z6 Z7 Z8 Z9 Za Zb Zc Zd Ze Zf Zg Zh Zi Zj Zk Zl Zm Zn Zo Zp Zq Zr Zs Zt Zu Zv Zw Zx Zy Zz K0q K1q K2q K3q (by omega) hst' hK2 ((F.trans F3).trans F2)
  generalize l[i].1 = c at *
  generalize l[i].2 = bt at *
  generalize ((i + 1 : Nat) : Int) = i1 at *
  have hset : ∀ x : Option Blk,(h ++ [x]).set h.length (some ⟨false,[.int .i64 c,.int .i64 (bt : Nat)]⟩) = h ++ [some ⟨false,[.int .i64 c,.int .i64 (bt : Nat)]⟩] := fun x => by rw [app_set]; rfl
  have hpe : ∀ x : Option Blk,blk? (h ++ [x]) h.length = x := fun x => blk?_push_eq
  rw [ok_round,l17_0,L17_0a,L17_0b]
  simp [hi,hbh,hle,htw,hpe,hset,e1,hw]
  exact ih' ..
end
set_option maxRecDepth 10000
def segRun (m : MD) : Nat → List (List (Int × Nat)) → S2 → S2 × List Nat
 | _,[],st => (st,[])
 | n,l :: r,st =>
  let st1 := (if m.rst = true ∧ rawOf m n = false then st.back else st).puts l
  ((segRun m (n + 1) r st1).1,st1.size :: (segRun m (n + 1) r st1).2)
def totL : List (List (Int × Nat)) → Nat
 | [] => 0
 | l :: r => l.length + totL r
def ownZ (own : Nat → Prop) (zv : Value) (id : Nat) : Prop := own id ∨ sid zv = some id
section
variable {R : Value → Heap → Prop} {k : List RItem} {e M X0 X cnt gn gi n0 : Nat} {sv gv v : Value} {m : MD}
theorem mid_loop {h0 : Heap} {own0 : Nat → Prop} {vs : List Value} {ls : List (List (Int × Nat))} {stF : S2} {zsF : List Nat} {NF : Nat} (hNF : NF ≤ 900000) (hp : Pss h0 sv vs ls) (hpn : ∀ id,sid sv = some id → ¬ own0 id) (hen : ∀ i (h1 : i < vs.length) id,sid vs[i] = some id → ¬ own0 id)
  (hm : blk? h0 M = some ⟨false,[.bool m.byp,.bool m.res,.bool m.rst,.bool m.cz,.bool m.sy]⟩) (hMn : ¬ own0 M) (hcnt : n0 + cnt ≤ ls.length) (hls : ls.length ≤ 178)
  (hk : ∀ (h : Heap) (own : Nat → Prop) (zv : Value) (K0 K1 K2 K3 K4 K5 K6 K7 K8 Kb Kd Kh Kl Km Kn Ko Kp Kq Kr Ks Kt Ku Kv Kw Kx Ky Kz J0 J1 J2 J3 J4 J5 J6 J7 J8 J9 Ja Jb Jc Jd Je Jf Jg Jk Jl Jm Jn Jo Jp Jq Jr Js Jt Ju Jv Jw Jx Jy Jz Y0 Y1 Y2 Y3 Y4 Y5 Y6 Y7 Y8 Y9 Ya Yb Yc Yd Ye Yf Yg Yh Yi Yj Yk Yl Ym Yn Yo Yp Yq Yr Ys Yt Yu Yv Yw Yx Yy Yz Z0 Z1 Z2 Z3 Z4 Z5 Z6 Z7 Z8 Z9 Za Zb Zc Zd Ze Zf Zg Zh Zi Zj Zk Zl Zm Zn Zo Zp Zq Zr Zs Zt Zu Zv Zw Zx Zy Zz K0q K1q K2q K3q : Value),Snk h e v own stF NF → OwnS h 1 zv zsF.length (nI zsF) → (∀ z ∈ zsF,z ≤ 900004) → (∀ id,own id → sid zv ≠ some id) → SF h0 h own0 (ownZ own zv) → Ok tab R17 k #[K0,K1,K2,K3,K4,K5,K6,K7,K8,ptr M,ptr X0,Kb,sv,Kd,ptr e,ptr X,.int .i64 ((n0 + cnt : Nat) : Int),Kh,.int .i64 (cnt : Nat),v,zv,Kl,Km,Kn,Ko,Kp,Kq,Kr,Ks,Kt,Ku,Kv,Kw,Kx,Ky,Kz,J0,J1,J2,J3,J4,J5,J6,J7,J8,J9,Ja,Jb,Jc,Jd,Je,Jf,Jg,gv,.int .i64 (gn : Nat),.int .i64 (gi : Nat),Jk,Jl,Jm,Jn,Jo,Jp,Jq,Jr,Js,Jt,Ju,Jv,Jw,Jx,Jy,Jz,Y0,Y1,Y2,Y3,Y4,Y5,Y6,Y7,Y8,Y9,Ya,Yb,Yc,Yd,Ye,Yf,Yg,Yh,Yi,Yj,Yk,Yl,Ym,Yn,Yo,Yp,Yq,Yr,Ys,Yt,Yu,Yv,Yw,Yx,Yy,Yz,Z0,Z1,Z2,Z3,Z4,Z5,Z6,Z7,Z8,Z9,Za,Zb,Zc,Zd,Ze,Zf,Zg,Zh,Zi,Zj,Zk,Zl,Zm,Zn,Zo,Zp,Zq,Zr,Zs,Zt,Zu,Zv,Zw,Zx,Zy,Zz,K0q,K1q,K2q,K3q] h R) :
  ∀ (d j : Nat) (h : Heap) (own : Nat → Prop) (st : S2) (zv : Value) (zs : List Nat) (N : Nat) (K0 K1 K2 K3 K4 K5 K6 K7 K8 Kb Kd Kh Kl Km Kn Ko Kp Kq Kr Ks Kt Ku Kv Kw Kx Ky Kz J0 J1 J2 J3 J4 J5 J6 J7 J8 J9 Ja Jb Jc Jd Je Jf Jg Jk Jl Jm Jn Jo Jp Jq Jr Js Jt Ju Jv Jy Jz Y0 Y1 Y2 Y3 Y4 Y5 Y6 Y7 Y8 Y9 Ya Yb Yc Yd Ye Yf Yg Yh Yi Yj Yk Yl Ym Yn Yo Yp Yq Yr Ys Yt Yu Yv Yw Yx Yy Yz Z0 Z1 Z2 Z3 Z4 Z5 Z6 Z7 Z8 Z9 Za Zb Zc Zd Ze Zf Zg Zh Zi Zj Zk Zl Zm Zn Zo Zp Zq Zr Zs Zt Zu Zv Zw Zx Zy Zz K0q K1q K2q K3q : Value),j + d = cnt → Snk h e v own st N → N + totL ((ls.drop (n0 + j)).take d) = NF → (∀ l ∈ (ls.drop (n0 + j)).take d,∀ s ∈ l,SymOk st.raw s) →
   OwnS h 1 zv zs.length (nI zs) → (∀ z ∈ zs,z ≤ 900004) → zs.length ≤ 178 + j → (∀ id,own id → sid zv ≠ some id) → SF h0 h own0 (ownZ own zv) → (segRun m (n0 + j) ((ls.drop (n0 + j)).take d) st).1 = stF → zs ++ (segRun m (n0 + j) ((ls.drop (n0 + j)).take d) st).2 = zsF →
   Ok tab R17 (.inLoop L17_1 :: .inBlock 2 :: k) #[K0,K1,K2,K3,K4,K5,K6,K7,K8,ptr M,ptr X0,Kb,sv,Kd,ptr e,ptr X,.int .i64 ((n0 + j : Nat) : Int),Kh,.int .i64 (cnt : Nat),v,zv,Kl,Km,Kn,Ko,Kp,Kq,Kr,Ks,Kt,Ku,Kv,Kw,Kx,Ky,Kz,J0,J1,J2,J3,J4,J5,J6,J7,J8,J9,Ja,Jb,Jc,Jd,Je,Jf,Jg,gv,.int .i64 (gn : Nat),.int .i64 (gi : Nat),Jk,Jl,Jm,Jn,Jo,Jp,Jq,Jr,Js,Jt,Ju,Jv,.int .i64 (cnt : Nat),.int .i64 (j : Nat),Jy,Jz,Y0,Y1,Y2,Y3,Y4,Y5,Y6,Y7,Y8,Y9,Ya,Yb,Yc,Yd,Ye,Yf,Yg,Yh,Yi,Yj,Yk,Yl,Ym,Yn,Yo,Yp,Yq,Yr,Ys,Yt,Yu,Yv,Yw,Yx,Yy,Yz,Z0,Z1,Z2,Z3,Z4,Z5,Z6,Z7,Z8,Z9,Za,Zb,Zc,Zd,Ze,Zf,Zg,Zh,Zi,Zj,Zk,Zl,Zm,Zn,Zo,Zp,Zq,Zr,Zs,Zt,Zu,Zv,Zw,Zx,Zy,Zz,K0q,K1q,K2q,K3q] h R := by
 intro d
 induction d with
 | zero =>
  intro j h own st zv zs N;intros;rename_i hjd hK hN _ hz hzb _ hd hF h1 h2
  obtain rfl : j = cnt := by omega
  simp only [List.take_zero,segRun,List.append_nil] at h1 h2
  subst h1 h2
  rw [ok_round,l17_1,L17_1a,L17_1b]
  simp
  have := hk h own zv
  simp only [Int.natCast_add] at this
  exact this _ _ _ _ _ _ _ _ _ _ _ _ _ _ _ _ _ _ _ _ _ _ _ _ _ _ _ _ _ _ _ _ _ _ _ _ _ _ _ _ _ _ _ _ _ _ _ _ _ _ _ _ _ _ _ _ _ _ _ _ _ _ _ _ _ _ _ _ _ _ _ _ _ _ _ _ _ _ _ _ _ _ _ _ _ _ _ _ _ _ _ _ _ _ _ _ _ _ _ _ _ _ _ _ _ _ _ _ _ _ _ _ _ _ _ _ _ _ _ _ _ _ _ _ _ _ _ _ _ _ _ _ _ _ _ _ (by simp [totL] at hN; rw [← hN]; exact hK) hz hzb hd hF
 | succ d ih =>
  intro j h own st zv zs N;intros;rename_i hjd hK hN hok hz hzb hzl hd hF h1 h2
  have hi : n0 + j < ls.length := by omega
  have hiv : n0 + j < vs.length := by rw [hp.len]; omega
  have htk : (ls.drop (n0 + j)).take (d + 1) = ls[n0 + j] :: (ls.drop (n0 + j + 1)).take d := by rw [List.drop_eq_getElem_cons hi,List.take_succ_cons]
  rw [htk] at hN hok h1 h2
  simp only [totL,segRun] at hN h1 h2
  have hlt : (j : Int) < (cnt : Int) := by omega
  have hjc : j < cnt := by omega
  have lt0 : ∀ id b,blk? h0 id = some b → ¬ own0 id → blk? h id = some b := fun id b hb hn => by rw [hF.same id (blk?_lt hb) hn]; exact hb
  obtain ⟨pid,poff,pbk,hsv,hpb,hpc⟩ := hp.get hiv
  have hpb' := lt0 _ _ hpb (hpn pid (by rw [hsv]; rfl))
  have hm' := lt0 _ _ hm hMn
  have hmo : ¬ own M := fun x => by
   rcases hF.fresh M (.inl x) with hx | hx
   ·exact hMn hx
   ·have := blk?_lt hm; omega
  have hyS := hp.each (n0 + j) hiv hi
  obtain ⟨ya,yc,hyv⟩ := hyS.sl.shape
  have hyno : ∀ id,sid vs[n0 + j] = some id → ¬ own id := fun id hid x => by
   rcases hF.fresh id (.inl x) with hx | hx
   ·exact hen _ hiv id hid hx
   ·have hsb := hyS.sb
    rw [hyv] at hid hsb
    cases ya with
    | none => simp [sid] at hid
    | some ad => simp [sid] at hid hsb; omega
  have hrc := fun H R => raw_c (h := H) (R := R) (n := n0 + j) (by omega) m
  have stepA : ∃ h1 st1,Snk h1 e v own st1 N ∧ SF h h1 own own ∧ st1 = (if m.rst = true ∧ rawOf m (n0 + j) = false then st.back else st) ∧ (m.rst = true → rawOf m (n0 + j) = false → ∀ R,Ret tab 41 [ptr e] h R = R (.tuple #[]) h1) ∧ (¬ (m.rst = true ∧ rawOf m (n0 + j) = false) → h1 = h) := by
   by_cases hc : m.rst = true ∧ rawOf m (n0 + j) = false
   ·obtain ⟨h1,e1,hK1,F1⟩ := snk_back hK
    exact ⟨h1,_,hK1,F1,by rw [if_pos hc],fun _ _ => e1,fun x => absurd hc x⟩
   ·exact ⟨h,_,hK,SF.refl _ _,by rw [if_neg hc],fun a b => absurd ⟨a,b⟩ hc,fun _ => rfl⟩
  obtain ⟨hA,stA,hKA,FA,hstA,eA,eA'⟩ := stepA
  rw [← hstA] at h1 h2
  have hrawA : stA.raw = st.raw := by rw [hstA]; split <;> rfl
  have sameA : ∀ id b,blk? h0 id = some b → ¬ own0 id → ¬ own id → blk? hA id = some b := fun id b hb hn hn2 => by
   have hx := lt0 id b hb hn
   rw [FA.same id (blk?_lt hx) hn2]; exact hx
  have hpo : ¬ own pid := fun x => by
   rcases hF.fresh pid (.inl x) with hx | hx
   ·exact hpn pid (by rw [hsv]; rfl) hx
   ·have := blk?_lt hpb; omega
  have hpbA := sameA _ _ hpb (hpn pid (by rw [hsv]; rfl)) hpo
  have hyA : Sl hA 2 vs[n0 + j] ls[n0 + j].length (encS ls[n0 + j]) := hyS.sl.of_sid fun id b hid hb => sameA id b hb (hen _ hiv id hid) (hyno id hid)
  have tail : ∀ (hB : Heap) (own' : Nat → Prop) (K0 K1 K2 K3 K4 K5 K6 K7 K8 Kb Kd Kh Kl Km Kn Ko Kp Kq Kr Ks Kt Ku Kv Kw Kx Ky Kz J0 J1 J2 J3 J4 J5 J6 J7 J8 J9 Ja Jb Jc Jd Je Jf Jg Jk Jl Jm Jn Jo Jp Jq Jr Js Jt Ju Jv Jy Jz Y0 Y1 Y2 Y3 Y4 Y5 Y6 Y7 Y8 Y9 Ya Yb Yc Yd Ye Yf Yg Yh Yi Yj Yk Yl Ym Yn Yo Yp Yq Yr Ys Yt Yu Yv Yw Yx Yy Yz Z0 Z1 Z2 Z3 Z4 Z5 Z6 Z7 Z8 Z9 Za Zb Zc Zd Ze Zf Zg Zh Zi Zj Zk Zl Zm Zn Zo Zp Zq Zr Zs Zt Zu Zv Zw Zx Zy Zz K0q K1q K2q K3q : Value),Snk hB e v own' (stA.puts ls[n0 + j]) (N + ls[n0 + j].length) → SF hA hB own own' →
    Ok tab R17 (.code (.seq (.region [⟨some 94,.mov (.tmp 20),none⟩,⟨some 95,.mov (.tmp 19),none⟩,⟨some 96,.call (.const (.tuple tbS)) [.tmp 95],none⟩,⟨some 97,.buildSlice 1 1 [.int .i64 0] [(0,.tmp 96)],none⟩,⟨some 98,.append 1 8 (.tmp 94) (.tmp 97),none⟩,⟨some 20,.mov (.tmp 98),none⟩] [])
     (.region [⟨some 99,.mov (.tmp 16),none⟩,⟨some 100,.bin .add (.tmp 99) (.const (.int .i64 1)),none⟩,⟨some 16,.mov (.tmp 100),none⟩] [])) :: .inBlock 3 :: .code (.region [⟨some 101,.bin .add (.tmp 69) (.const (.int .i64 1)),none⟩,⟨some 69,.mov (.tmp 101),none⟩] []) :: .inLoop L17_1 :: .inBlock 2 :: k) #[K0,K1,K2,K3,K4,K5,K6,K7,K8,ptr M,ptr X0,Kb,sv,Kd,ptr e,ptr X,.int .i64 ((n0 + j : Nat) : Int),Kh,.int .i64 (cnt : Nat),v,zv,Kl,Km,Kn,Ko,Kp,Kq,Kr,Ks,Kt,Ku,Kv,Kw,Kx,Ky,Kz,J0,J1,J2,J3,J4,J5,J6,J7,J8,J9,Ja,Jb,Jc,Jd,Je,Jf,Jg,gv,.int .i64 (gn : Nat),.int .i64 (gi : Nat),Jk,Jl,Jm,Jn,Jo,Jp,Jq,Jr,Js,Jt,Ju,Jv,.int .i64 (cnt : Nat),.int .i64 (j : Nat),Jy,Jz,Y0,Y1,Y2,Y3,Y4,Y5,Y6,Y7,Y8,Y9,Ya,Yb,Yc,Yd,Ye,Yf,Yg,Yh,Yi,Yj,Yk,Yl,Ym,Yn,Yo,Yp,Yq,Yr,Ys,Yt,Yu,Yv,Yw,Yx,Yy,Yz,Z0,Z1,Z2,Z3,Z4,Z5,Z6,Z7,Z8,Z9,Za,Zb,Zc,Zd,Ze,Zf,Zg,Zh,Zi,Zj,Zk,Zl,Zm,Zn,Zo,Zp,Zq,Zr,Zs,Zt,Zu,Zv,Zw,Zx,Zy,Zz,K0q,K1q,K2q,K3q] hB R := by
   intro hB own';intros;rename_i hKB FB
   have FAB := FA.trans FB
   have hzid : ∀ id,sid zv = some id → ¬ own' id := fun id hid x => by
    rcases FAB.fresh id x with hx | hx
    ·exact hd id hx hid
    ·have := hz.lt hid; omega
   have hzB : OwnS hB 1 zv zs.length (nI zs) := hz.of_blk fun id hid hb => by rw [FAB.same id (blk?_lt hb) (fun x => hd id x hid)]; exact hb
   obtain ⟨hC,eC,hKC,FC⟩ := snk_size hKB (by omega)
   have hzC : OwnS hC 1 zv zs.length (nI zs) := hzB.of_blk fun id hid hb => by rw [FC.same id (blk?_lt hb) (hzid id hid)]; exact hb
   obtain ⟨hD,eD,hzD,lD,kD⟩ := app1n (v := (stA.puts ls[n0 + j]).size) hzC (by omega)
   have hKD : Snk hD e v own' (stA.puts ls[n0 + j]) (N + ls[n0 + j].length) := hKC.keep fun id hid => kD id (hKC.own_lt hid) (fun x => hzid id x hid)
   have FD : SF h0 hD own0 (ownZ own' (.slice (some ⟨hC.length + 1,0,none⟩) (zs.length + 1) 1)) := by
    have l1 := hF.len; have l2 := FAB.len; have l3 := FC.len
    refine ⟨by omega,fun id hid hn => ?_,fun id hid => ?_⟩
    ·have hno : ¬ ownZ own zv id := fun x => by
      rcases hF.fresh id x with hx | hx
      ·exact hn hx
      ·omega
     have hno' : ¬ own' id := fun x => by
      rcases FAB.fresh id x with hx | hx
      ·exact hno (.inl hx)
      ·omega
     rw [kD id (by omega) (fun x => hno (.inr x)),FC.same id (by omega) hno',FAB.same id (by omega) (fun x => hno (.inl x)),hF.same id hid hn]
    ·rcases hid with hid | hid
     ·rcases FAB.fresh id hid with hx | hx
      ·rcases hF.fresh id (.inl hx) with hy | hy
       ·exact .inl hy
       ·right; omega
      ·right; omega
     ·simp [sid] at hid; right; omega
   have hd' : ∀ id,own' id → sid (.slice (some ⟨hC.length + 1,0,none⟩) (zs.length + 1) 1) ≠ some id := fun id hid x => by
    have := hKC.own_lt hid
    simp [sid] at x; omega
   have ih' := fun K0 K1 K2 K3 K4 K5 K6 K7 K8 Kb Kd Kh Kl Km Kn Ko Kp Kq Kr Ks Kt Ku Kv Kw Kx Ky Kz J0 J1 J2 J3 J4 J5 J6 J7 J8 J9 Ja Jb Jc Jd Je Jf Jg Jk Jl Jm Jn Jo Jp Jq Jr Js Jt Ju Jv Jy Jz Y0 Y1 Y2 Y3 Y4 Y5 Y6 Y7 Y8 Y9 Ya Yb Yc Yd Ye Yf Yg Yh Yi Yj Yk Yl Ym Yn Yo Yp Yq Yr Ys Yt Yu Yv Yw Yx Yy Yz Z0 Z1 Z2 Z3 Z4 Z5 Z6 Z7 Z8 Z9 Za Zb Zc Zd Ze Zf Zg Zh Zi Zj Zk Zl Zm Zn Zo Zp Zq Zr Zs Zt Zu Zv Zw Zx Zy Zz K0q K1q K2q K3q => ih (j + 1) hD own' _ _ (zs ++ [(stA.puts ls[n0 + j]).size]) _ K0 K1 K2 K3 K4 K5 K6 K7 K8 Kb Kd Kh Kl Km Kn Ko Kp Kq Kr Ks Kt Ku Kv Kw Kx Ky Kz J0 J1 J2 J3 J4 J5 J6 J7 J8 J9 Ja Jb Jc Jd Je Jf Jg Jk Jl Jm Jn Jo Jp Jq Jr Js Jt Ju Jv Jy Jz Y0 Y1 Y2 Y3 Y4 Y5 Y6 Y7 Y8 Y9 Ya Yb Yc Yd Ye Yf Yg Yh Yi Yj Yk Yl Ym Yn Yo Yp Yq Yr Ys Yt Yu Yv Yw Yx Yy Yz Z0 Z1 Z2 Z3 Z4 Z5 Z6 Z7 Z8 Z9 Za Zb Zc Zd Ze Zf Zg Zh Zi Zj Zk Zl Zm Zn Zo Zp Zq Zr Zs Zt Zu Zv Zw Zx Zy Zz K0q K1q K2q K3q (by omega) hKD (by rw [← Nat.add_assoc]; omega)
    (fun l hl s hs => by
     have := hok l (by rw [← Nat.add_assoc] at hl; exact List.mem_cons_of_mem _ hl) s hs
     have hr := puts_raw ls[n0 + j] stA
     rw [hrawA] at hr
     exact ⟨this.1,fun x => this.2 (hr.2 x)⟩)
    hzD (fun z hz' => by
     rcases List.mem_append.1 hz' with hx | hx
     ·exact hzb z hx
     ·have := snk_size_le hKB
      rw [List.mem_singleton.1 hx]; omega) (by simp; omega) hd' FD (by rw [← Nat.add_assoc]; exact h1) (by rw [← Nat.add_assoc,List.append_assoc]; exact h2)
   have w1 : IntKind.i64.wrap ((n0 : Int) + (j : Int) + 1) = (n0 : Int) + (j : Int) + 1 := wrapI (by omega) (by omega)
   have w2 : IntKind.i64.wrap ((j : Int) + 1) = (j : Int) + 1 := wrapI (by omega) (by omega)
   simp only [Int.natCast_add,Int.cast_ofNat_Int,← Int.add_assoc] at ih'
   generalize (stA.puts ls[n0 + j]).size = z at *
   simp [repL,eC,eD,w1,w2]
   exact ih' ..
  have hsymok : ∀ s ∈ ls[n0 + j],SymOk stA.raw s := fun s hs => by rw [hrawA]; exact hok _ (List.mem_cons_self ..) s hs
  have hSL := fun K0 K1 K2 K3 K4 K5 K6 K7 K8 Kb Kd Kh Kl Km Kn Ko Kp Kq Kr Ks Kt Ku Kv Kw Kx Ky Kz J0 J1 J2 J3 J4 J5 J6 J7 J8 J9 Ja Jb Jc Jd Je Jf Jg Jk Jl Jm Jn Jo Jp Jq Jr Js Jt Ju Jv Jy Jz Y0 Y1 Y2 Y3 Y4 Y5 Y6 Y7 Y8 Y9 Ya Yb Yf Yg Yh Yi Yj Yk Yl Ym Yn Yo Yp Yq Yr Ys Yt Yu Yv Yw Yx Yy Yz Z0 Z1 Z2 Z3 Z4 Z5 Z6 Z7 Z8 Z9 Za Zb Zc Zd Ze Zf Zg Zh Zi Zj Zk Zl Zm Zn Zo Zp Zq Zr Zs Zt Zu Zv Zw Zx Zy Zz K0q K1q K2q K3q => sym_loop (R := R) (e := e) (M := M) (X0 := X0) (X := X) (cnt := cnt) (gn := gn) (gi := gi) (n := n0 + j) (j := j) (sv := sv) (zv := zv) (gv := gv) (v := v) hyA hyno hsymok (by omega) (N0 := N) (fun hB own' K0 K1 K2 K3 K4 K5 K6 K7 K8 Kb Kd Kh Kl Km Kn Ko Kp Kq Kr Ks Kt Ku Kv Kw Kx Ky Kz J0 J1 J2 J3 J4 J5 J6 J7 J8 J9 Ja Jb Jc Jd Je Jf Jg Jk Jl Jm Jn Jo Jp Jq Jr Js Jt Ju Jv Jy Jz Y0 Y1 Y2 Y3 Y4 Y5 Y6 Y7 Y8 Y9 Ya Yb Yc Yd Ye Yf Yg Yh Yi Yj Yk Yl Ym Yn Yo Yp Yq Yr Ys Yt Yu Yv Yw Yx Yy Yz Z0 Z1 Z2 Z3 Z4 Z5 Z6 Z7 Z8 Z9 Za Zb Zc Zd Ze Zf Zg Zh Zi Zj Zk Zl Zm Zn Zo Zp Zq Zr Zs Zt Zu Zv Zw Zx Zy Zz K0q K1q K2q K3q a b => tail hB own' K0 K1 K2 K3 K4 K5 K6 K7 K8 Kb Kd Kh Kl Km Kn Ko Kp Kq Kr Ks Kt Ku Kv Kw Kx Ky Kz J0 J1 J2 J3 J4 J5 J6 J7 J8 J9 Ja Jb Jc Jd Je Jf Jg Jk Jl Jm Jn Jo Jp Jq Jr Js Jt Ju Jv Jy Jz Y0 Y1 Y2 Y3 Y4 Y5 Y6 Y7 Y8 Y9 Ya Yb Yc Yd Ye Yf Yg Yh Yi Yj Yk Yl Ym Yn Yo Yp Yq Yr Ys Yt Yu Yv Yw Yx Yy Yz Z0 Z1 Z2 Z3 Z4 Z5 Z6 Z7 Z8 Z9 Za Zb Zc Zd Ze Zf Zg Zh Zi Zj Zk Zl Zm Zn Zo Zp Zq Zr Zs Zt Zu Zv Zw Zx Zy Zz K0q K1q K2q K3q a b) ls[n0 + j].length 0 hA own stA K0 K1 K2 K3 K4 K5 K6 K7 K8 Kb Kd Kh Kl Km Kn Ko Kp Kq Kr Ks Kt Ku Kv Kw Kx Ky Kz J0 J1 J2 J3 J4 J5 J6 J7 J8 J9 Ja Jb Jc Jd Je Jf Jg Jk Jl Jm Jn Jo Jp Jq Jr Js Jt Ju Jv Jy Jz Y0 Y1 Y2 Y3 Y4 Y5 Y6 Y7 Y8 Y9 Ya Yb Yf Yg Yh Yi Yj Yk Yl Ym Yn Yo Yp Yq Yr Ys Yt Yu Yv Yw Yx Yy Yz Z0 Z1 Z2 Z3 Z4 Z5 Z6 Z7 Z8 Z9 Za Zb Zc Zd Ze Zf Zg Zh Zi Zj Zk Zl Zm Zn Zo Zp Zq Zr Zs Zt Zu Zv Zw Zx Zy Zz K0q K1q K2q K3q (by omega) rfl hKA (SF.refl _ _)
  clear tail ih
  have c1 : ((n0 + j : Nat) : Int) < (vs.length : Int) := by omega
  rw [hyv] at hpc hSL
  simp only [Int.natCast_add,Int.cast_ofNat_Int] at hSL hrc c1
  have hge : (0 : Int) ≤ (n0 : Int) + (j : Int) := by omega
  have htn : ((n0 : Int) + (j : Int)).toNat = n0 + j := by omega
  subst hsv
  rw [ok_round,l17_1,L17_1a,L17_1b]
  simp only [MD.val] at hrc
  cases hrs : m.rst with
  | false =>
   have hAh := eA' (by rw [hrs]; simp)
   subst hAh
   rw [hrs] at hm' hrc
   simp [k_guard,hlt,hjc,hm',hpbA,hpc,c1,hge,htn]
   exact hSL ..
  | true =>
   rw [hrs] at hm' hrc
   cases hrw : rawOf m (n0 + j) with
   | true =>
    have hAh := eA' (by rw [hrw]; simp)
    subst hAh
    rw [hrw] at hrc
    simp [k_guard,hlt,hjc,hm',hrc,hpbA,hpc,c1,hge,htn]
    exact hSL ..
   | false =>
    have eA1 := fun R => eA hrs hrw R
    rw [hrw] at hrc
    simp [k_guard,hlt,hjc,hm',hrc,eA1,hpbA,hpc,c1,hge,htn]
    exact hSL ..
end
set_option maxRecDepth 10000
theorem app_any {h : Heap} {t s : Value} {n m bytes : Nat} {cs new : List Value} (ho : OwnS h 1 t n cs) (hs : Sl h 1 s m new) (hr : n + m ≤ roomCells) (hb : bytes ≤ 4096) :
  ∃ t' H,appendV h 1 bytes t s = some (t',H) ∧ OwnS H 1 t' (n + m) (cs ++ new) ∧ h.length ≤ H.length ∧ (∀ id,id < h.length → sid t ≠ some id → blk? H id = blk? h id) ∧ (∀ id,sid t' = some id → h.length ≤ id ∧ id < H.length) := by
 by_cases hm : m = 0
 ·subst hm
  have hn : new = [] := List.eq_nil_of_length_eq_zero (by have := hs.1; omega)
  subst hn
  rcases ho.2 with ⟨rfl,h0⟩ | ⟨id,rfl,hbk⟩
  ·subst h0
   have hc : cs = [] := List.eq_nil_of_length_eq_zero (by have := ho.1; omega)
   subst hc
   refine ⟨.slice none 0 0,h,?_,OwnS.nil _ _,Nat.le_refl _,fun _ _ _ => rfl,fun id hid => by simp [sid] at hid⟩
   unfold appendV
   simp [hs.lenV,hs.firstC]
  ·have hl := ho.1
   refine ⟨.slice (some ⟨h.length,0,none⟩) n 1,h.set id none ++ [some ⟨false,cs⟩],?_,⟨by simpa using hl,.inr ⟨h.length,rfl,?_⟩⟩,by simp,fun j hj hne => ?_,fun j hj => by simp [sid] at hj; subst hj; simp⟩
   ·simp only [appendV,hs.lenV,hs.firstC,hbk]
    rw [if_pos ⟨trivial,trivial,by simp; omega,hr,hb⟩]
    simp only [List.drop_zero,List.append_nil,Nat.add_zero]
    rw [List.take_of_length_le (by omega)]
   ·have := blk?_push_eq (h := h.set id none) (x := some ⟨false,cs⟩)
    simpa using this
   ·rw [blk?_push_lt (by simpa using hj),blk?_set_ne (fun e => hne (by rw [e]; rfl))]
 ·obtain ⟨H,e,hbk,hl,hk⟩ := own_append ho hs hr hb hm
  refine ⟨_,H,e,⟨by have h1 := ho.1; have h2 := hs.1; simp only [List.length_append]; omega,.inr ⟨_,rfl,hbk⟩⟩,by omega,hk,fun id hid => by simp [sid] at hid; omega⟩
section
variable {R : Value → Heap → Prop} {k : List RItem} {e M X0 X gn gi : Nat} {sv gv nv : Value}
theorem size_loop {B : Nat} {h0 : Heap} {pl : Value} {dv zv pv0 : Value} {zs D : List Nat} {beg : Nat} (hz : Sl h0 1 zv zs.length (nI zs)) (hzB : ∀ id,sid zv = some id → id < B ∧ id ≠ X ∧ sid pv0 ≠ some id) (hXB : X < B) (hdshape : ∃ da dc,dv = .slice da D.length dc) (hbeg : beg < 1000000000) (hzs : ∀ z ∈ zs,z < 1000000000) (hzl : zs.length ≤ 1000) (hD : D.length < 1000000000) {PF : List Nat}
  (hk : ∀ (h : Heap) (pv : Value) (K0 K1 K2 K3 K4 K5 K6 K7 K8 Kb Kd Kh Ki Kj Kk Kl Km Kn Ko Kp Kq Kr Ks Kt Ku Kv Kw Kx Ky Kz J0 J1 J2 J3 J4 J5 J6 J7 J8 J9 Ja Jb Jc Jd Je Jf Jg Jk Jl Jm Jn Jo Jp Jq Jr Js Jt Ju Jv Jw Jx Jy Jz Y0 Y1 Y2 Y3 Y4 Y5 Y6 Y7 Y8 Y9 Ya Yb Yc Yd Ye Yf Yg Yh Yi Yj Yk Yl Ym Yn Yo Yp Yq Yr Ys Yt Yu Yv Yw Yx Yy Yz Z0 Z1 Z2 Z3 Z4 Z5 Z6 Z7 Z8 Z9 Za Zb Zc Zd Ze Zf Zg Zh Zi Zj Zk Zl Zm Zn Zo Zp Zq Zr Zs Zt Zu Zv Zw Zx Zy Zz K0q K1q K2q K3q : Value),OwnS h 1 pv PF.length (nI PF) → (∀ id,id < B → id ≠ X → sid pv0 ≠ some id → blk? h id = blk? h0 id) → blk? h X = some ⟨false,[pl,pv,dv]⟩ → (∀ id,sid pv = some id → (B ≤ id ∨ sid pv0 = some id) ∧ id ≠ X) → B ≤ h.length → Ok tab R17 k #[K0,K1,K2,K3,K4,K5,K6,K7,K8,ptr M,ptr X0,Kb,sv,Kd,ptr e,ptr X,nv,Kh,Ki,Kj,Kk,Kl,Km,Kn,Ko,Kp,Kq,Kr,Ks,Kt,Ku,Kv,Kw,Kx,Ky,Kz,J0,J1,J2,J3,J4,J5,J6,J7,J8,J9,Ja,Jb,Jc,Jd,Je,Jf,Jg,gv,.int .i64 (gn : Nat),.int .i64 (gi : Nat),Jk,Jl,Jm,Jn,Jo,Jp,Jq,Jr,Js,Jt,Ju,Jv,Jw,Jx,Jy,Jz,Y0,Y1,Y2,Y3,Y4,Y5,Y6,Y7,Y8,Y9,Ya,Yb,Yc,Yd,Ye,Yf,Yg,Yh,Yi,Yj,Yk,Yl,Ym,Yn,Yo,Yp,Yq,Yr,Ys,Yt,Yu,Yv,Yw,Yx,Yy,Yz,Z0,Z1,Z2,Z3,Z4,Z5,Z6,Z7,Z8,Z9,Za,Zb,Zc,Zd,Ze,Zf,Zg,Zh,Zi,Zj,Zk,Zl,Zm,Zn,Zo,Zp,Zq,Zr,Zs,Zt,Zu,Zv,Zw,Zx,Zy,Zz,K0q,K1q,K2q,K3q] h R) :
  ∀ (d i : Nat) (h : Heap) (pv : Value) (P : List Nat) (K0 K1 K2 K3 K4 K5 K6 K7 K8 Kb Kd Kh Ki Kj Kk Kl Km Ko Kp Kq Kr Ks Kt Ku Kv Kw Kx Ky Kz J0 J1 J2 J3 J4 J5 J6 J7 J8 J9 Ja Jb Jc Jd Je Jf Jg Jk Jl Jm Jn Jo Jp Jq Jr Js Jt Ju Jv Jw Jx Jy Jz Y0 Y1 Y2 Y3 Y4 Y5 Y6 Y7 Y8 Y9 Ya Yb Yc Yd Ye Yf Yg Yh Yi Yj Yk Yl Ym Yn Yo Yp Yq Yr Ys Yt Yu Yv Yw Yx Yy Yz Z0 Z1 Z2 Z3 Z4 Z5 Z9 Za Zb Zc Zd Ze Zf Zg Zh Zi Zj Zk Zl Zm Zn Zo Zp Zq Zr Zs Zt Zu Zv Zw Zx Zy Zz K0q K1q K2q K3q : Value),i + d = zs.length → OwnS h 1 pv P.length (nI P) → P.length + d ≤ 1000 → (∀ id,id < B → id ≠ X → sid pv0 ≠ some id → blk? h id = blk? h0 id) → blk? h X = some ⟨false,[pl,pv,dv]⟩ → (∀ id,sid pv = some id → (B ≤ id ∨ sid pv0 = some id) ∧ id ≠ X) → B ≤ h.length →
   P ++ (zs.drop i).map (fun z => min (beg + z) D.length) = PF →
   Ok tab R17 (.inLoop L17_2 :: .inBlock 6 :: k) #[K0,K1,K2,K3,K4,K5,K6,K7,K8,ptr M,ptr X0,Kb,sv,Kd,ptr e,ptr X,nv,Kh,Ki,Kj,Kk,Kl,Km,.int .i64 (beg : Nat),Ko,Kp,Kq,Kr,Ks,Kt,Ku,Kv,Kw,Kx,Ky,Kz,J0,J1,J2,J3,J4,J5,J6,J7,J8,J9,Ja,Jb,Jc,Jd,Je,Jf,Jg,gv,.int .i64 (gn : Nat),.int .i64 (gi : Nat),Jk,Jl,Jm,Jn,Jo,Jp,Jq,Jr,Js,Jt,Ju,Jv,Jw,Jx,Jy,Jz,Y0,Y1,Y2,Y3,Y4,Y5,Y6,Y7,Y8,Y9,Ya,Yb,Yc,Yd,Ye,Yf,Yg,Yh,Yi,Yj,Yk,Yl,Ym,Yn,Yo,Yp,Yq,Yr,Ys,Yt,Yu,Yv,Yw,Yx,Yy,Yz,Z0,Z1,Z2,Z3,Z4,Z5,zv,.int .i64 (zs.length : Nat),.int .i64 (i : Nat),Z9,Za,Zb,Zc,Zd,Ze,Zf,Zg,Zh,Zi,Zj,Zk,Zl,Zm,Zn,Zo,Zp,Zq,Zr,Zs,Zt,Zu,Zv,Zw,Zx,Zy,Zz,K0q,K1q,K2q,K3q] h R := by
 obtain ⟨da,dc,rfl⟩ := hdshape
 intro d
 induction d with
 | zero =>
  intro i h pv P;intros;rename_i hid ho hP hl hX hpB hBh hPF
  obtain rfl : i = zs.length := by omega
  rw [List.drop_length,List.map_nil,List.append_nil] at hPF
  subst hPF
  rw [ok_round,l17_2,L17_2a,L17_2b]
  simp
  exact hk h pv _ _ _ _ _ _ _ _ _ _ _ _ _ _ _ _ _ _ _ _ _ _ _ _ _ _ _ _ _ _ _ _ _ _ _ _ _ _ _ _ _ _ _ _ _ _ _ _ _ _ _ _ _ _ _ _ _ _ _ _ _ _ _ _ _ _ _ _ _ _ _ _ _ _ _ _ _ _ _ _ _ _ _ _ _ _ _ _ _ _ _ _ _ _ _ _ _ _ _ _ _ _ _ _ _ _ _ _ _ _ _ _ _ _ _ _ _ _ _ _ _ _ _ _ _ _ _ _ _ _ _ _ _ _ _ _ _ _ _ ho hl hX hpB hBh
 | succ d ih =>
  intro i h pv P;intros;rename_i hid ho hP hl hX hpB hBh hPF
  have hi : i < zs.length := by omega
  have hlt : (i : Int) < (zs.length : Int) := by omega
  have hw : IntKind.i64.wrap ((i : Int) + 1) = ((i + 1 : Nat) : Int) := wrapN (n := i + 1) (by omega)
  obtain ⟨id,off,b,hzv,hb,hc⟩ := hz.get hi
  obtain ⟨hidB,hidX,hidP⟩ := hzB id (by rw [hzv]; rfl)
  have hbh : blk? h id = some b := by rw [hl id hidB hidX hidP]; exact hb
  have hg := hc 0 (by omega)
  rw [Nat.mul_one,Nat.add_zero,Nat.add_zero,nI_get hi] at hg
  have hzi : zs.getD i 0 = zs[i] := by rw [List.getD_eq_getElem?_getD,List.getElem?_eq_getElem hi]; rfl
  rw [hzi] at hg
  have hzlt := hzs zs[i] (List.getElem_mem hi)
  have hdrop : zs.drop i = zs[i] :: zs.drop (i + 1) := List.drop_eq_getElem_cons hi
  rw [hdrop,List.map_cons] at hPF
  have w1 : IntKind.i64.wrap ((beg : Int) + (zs[i] : Int)) = ((beg + zs[i] : Nat) : Int) := wrapN (n := beg + zs[i]) (by omega)
  have hmin : min ((beg + zs[i] : Nat) : Int) (D.length : Int) = ((min (beg + zs[i]) D.length : Nat) : Int) := by omega
  obtain ⟨H1,ha,ho1,hl1,hk1⟩ := app1n (v := min (beg + zs[i]) D.length) ho (by omega)
  have hXh : X < h.length := by omega
  have hXp : sid pv ≠ some X := fun x => (hpB X x).2 rfl
  have hX1 : blk? H1 X = some ⟨false,[pl,pv,.slice da D.length dc]⟩ := by rw [hk1 X hXh hXp]; exact hX
  have hX1l : X < H1.length := by omega
  have ho2 : OwnS (H1.set X (some ⟨false,[pl,.slice (some ⟨h.length + 1,0,none⟩) (P.length + 1) 1,.slice da D.length dc]⟩)) 1 (.slice (some ⟨h.length + 1,0,none⟩) (P.length + 1) 1) (P ++ [min (beg + zs[i]) D.length]).length (nI (P ++ [min (beg + zs[i]) D.length])) :=
   ho1.of_blk fun j hj hbj => by simp [sid] at hj; rw [blk?_set_ne (by omega)]; exact hbj
  have ih' := fun K0 K1 K2 K3 K4 K5 K6 K7 K8 Kb Kd Kh Ki Kj Kk Kl Km Ko Kp Kq Kr Ks Kt Ku Kv Kw Kx Ky Kz J0 J1 J2 J3 J4 J5 J6 J7 J8 J9 Ja Jb Jc Jd Je Jf Jg Jk Jl Jm Jn Jo Jp Jq Jr Js Jt Ju Jv Jw Jx Jy Jz Y0 Y1 Y2 Y3 Y4 Y5 Y6 Y7 Y8 Y9 Ya Yb Yc Yd Ye Yf Yg Yh Yi Yj Yk Yl Ym Yn Yo Yp Yq Yr Ys Yt Yu Yv Yw Yx Yy Yz Z0 Z1 Z2 Z3 Z4 Z5 Z9 Za Zb Zc Zd Ze Zf Zg Zh Zi Zj Zk Zl Zm Zn Zo Zp Zq Zr Zs Zt Zu Zv Zw Zx Zy Zz K0q K1q K2q K3q => ih (i + 1) _ _ _ K0 K1 K2 K3 K4 K5 K6 K7 K8 Kb Kd Kh Ki Kj Kk Kl Km Ko Kp Kq Kr Ks Kt Ku Kv Kw Kx Ky Kz J0 J1 J2 J3 J4 J5 J6 J7 J8 J9 Ja Jb Jc Jd Je Jf Jg Jk Jl Jm Jn Jo Jp Jq Jr Js Jt Ju Jv Jw Jx Jy Jz Y0 Y1 Y2 Y3 Y4 Y5 Y6 Y7 Y8 Y9 Ya Yb Yc Yd Ye Yf Yg Yh Yi Yj Yk Yl Ym Yn Yo Yp Yq Yr Ys Yt Yu Yv Yw Yx Yy Yz Z0 Z1 Z2 Z3 Z4 Z5 Z9 Za Zb Zc Zd Ze Zf Zg Zh Zi Zj Zk Zl Zm Zn Zo Zp Zq Zr Zs Zt Zu Zv Zw Zx Zy Zz K0q K1q K2q K3q (by omega) ho2 (by simp; omega) (fun j hj hjX hjP => by rw [blk?_set_ne (Ne.symm hjX),hk1 j (by omega) (fun x => by rcases (hpB j x).1 with hy | hy; omega; exact hjP hy)]; exact hl j hj hjX hjP)
   (blk?_set_eq hX1l) (fun j hj => by simp [sid] at hj; exact ⟨.inl (by omega),by omega⟩) (by rw [List.length_set]; omega) (by rw [List.append_assoc]; exact hPF)
  generalize zs[i] = z at *
  generalize hmm : ((min (beg + z) D.length : Nat) : Int) = mm at *
  generalize ((beg + z : Nat) : Int) = bz at *
  generalize ((i + 1 : Nat) : Int) = i1 at *
  subst hzv
  rw [ok_round,l17_2,L17_2a,L17_2b]
  simp [repL,hi,hbh,hg,hX,w1,fold1,foldO,mn2,hmin,ha,hX1,hw]
  exact ih' ..
end
set_option maxRecDepth 10000
def encSegs (m : MD) (ls : List (List (Int × Nat))) : List Nat → Nat → AE → List Nat → List Nat → List Nat × List Nat
 | [],_,_,P,D => (P,D)
 | c :: cs,n,a,P,D =>
  let r := segRun m n ((ls.drop n).take c) ⟨a,if rawOf m n = true then some [] else none⟩
  encSegs m ls cs (n + c) r.1.after (P ++ (r.2.take (c - 1)).map (fun z => min (D.length + z) (D ++ r.1.bytes).length) ++ [(D ++ r.1.bytes).length]) (D ++ r.1.bytes)
def SegOk (m : MD) : Nat → List Nat → Prop
 | _,[] => True
 | n,c :: cs => (rawOf m n = false → ∀ j,j < c → rawOf m (n + j) = false) ∧ SegOk m (n + c) cs
theorem totL_split : ∀ (l : List (List (Int × Nat))) (c : Nat),totL l = totL (l.take c) + totL (l.drop c)
 | [],c => by simp [totL]
 | x :: l,0 => by simp [totL]
 | x :: l,c + 1 => by rw [List.take_succ_cons,List.drop_succ_cons,totL,totL,totL_split l c]; omega
theorem segRun_len (m : MD) : ∀ (ls : List (List (Int × Nat))) (n : Nat) (st : S2),(segRun m n ls st).2.length = ls.length
 | [],_,_ => rfl
 | l :: r,n,st => by simp [segRun,segRun_len m r]
theorem sub_nI {h : Heap} {zv : Value} {zs : List Nat} {c : Nat} (ho : OwnS h 1 zv zs.length (nI zs)) (hc : c ≤ zs.length) :
  ∃ z2,sliceV 1 zv none (some (.int .i64 (c : Nat))) = some z2 ∧ Sl h 1 z2 (zs.take c).length (nI (zs.take c)) ∧ (∀ id,sid z2 = some id → sid zv = some id) ∧ ∃ za zc,z2 = .slice za (zs.take c).length zc := by
 have hl : (zs.take c).length = c := by simp; omega
 rcases ho.2 with ⟨rfl,h0⟩ | ⟨id,rfl,hb⟩
 ·have hz : zs = [] := List.eq_nil_of_length_eq_zero h0
  subst hz
  have : c = 0 := by simpa using hc
  subst this
  exact ⟨.slice none 0 0,by simp [sliceV,bndO,bnd],(OwnS.nil h 1).sl,fun id hid => hid,none,0,rfl⟩
 ·refine ⟨.slice (some ⟨id,0,none⟩) c 1,?_,?_,fun j hj => hj,?_⟩
  ·have : (c : Int) ≤ (zs.length : Int) := by omega
   simp [sliceV,bndO,bnd,this]
  ·rw [hl]
   refine ⟨by rw [nI_len,hl,Nat.mul_one],.inr ⟨id,0,rfl,.inr ⟨_,hb,by simp only [nI_len]; omega,?_⟩⟩⟩
   simp only [List.drop_zero,Nat.mul_one,nI,List.map_take]
  ·rw [hl]; exact ⟨_,_,rfl⟩
def inB : RCode → RCode
 | .block _ c => c
 | c => c
structure OI (hB h : Heap) (e X : Nat) (pl gv : Value) (gs : List Nat) (a : AE) (pv dv : Value) (P D : List Nat) (N : Nat) : Prop where
 ea : ∃ pb o out low,EA h e pb o out low a ∧ out.length ≤ N ∧ ∀ id,ownE e pb o id → hB.length ≤ id ∧ id ≠ X ∧ sid pv ≠ some id ∧ sid dv ≠ some id ∧ sid gv ≠ some id
 h19 : a.p.length = 19
 bx : blk? h X = some ⟨false,[pl,pv,dv]⟩
 op : OwnS h 1 pv P.length (nI P)
 od : OwnS h 1 dv D.length (nU D)
 gs : Sl h 1 gv gs.length (nI gs)
 gB : ∀ id,sid gv = some id → id ≠ X ∧ id < h.length
 xB : hB.length ≤ X
 pB : ∀ id,sid pv = some id → hB.length ≤ id ∧ id ≠ X ∧ sid dv ≠ some id ∧ sid gv ≠ some id
 dB : ∀ id,sid dv = some id → hB.length ≤ id ∧ id ≠ X ∧ sid gv ≠ some id
 low : ∀ id,id < hB.length → blk? h id = blk? hB id
 len : hB.length ≤ h.length
section
variable {R : Value → Heap → Prop} {k : List RItem} {e M X0 X : Nat} {sv gv pl : Value} {m : MD} {gs : List Nat}
set_option maxHeartbeats 4000000 in
theorem seg_loop_e {hB : Heap} {vs : List Value} {ls : List (List (Int × Nat))} {PF DF : List Nat} (hp : Pss hB sv vs ls) (hm : blk? hB M = some ⟨false,[.bool m.byp,.bool m.res,.bool m.rst,.bool m.cz,.bool m.sy]⟩) (hls : ls.length ≤ 178) (hgs : gs.length ≤ 178)
  (hsym : ∀ i (h1 : i < ls.length),∀ s ∈ ls[i],s.2 < 2 ∧ (rawOf m i = false → 0 ≤ s.1 ∧ s.1 < 19))
  (hk : ∀ (h : Heap) (a : AE) (pv dv : Value) (N : Nat) (K0 K1 K2 K3 K4 K5 K6 K7 K8 Kb Kc Kd Ke Kg Kh Ki Kj Kk Kl Km Kn Ko Kp Kq Kr Ks Kt Ku Kv Kw Kx Ky Kz J0 J1 J2 J3 J4 J5 J6 J7 J8 J9 Ja Jb Jc Jd Je Jf Jg Jh Ji Jj Jk Jl Jm Jn Jo Jp Jq Jr Js Jt Ju Jv Jw Jx Jy Jz Y0 Y1 Y2 Y3 Y4 Y5 Y6 Y7 Y8 Y9 Ya Yb Yc Yd Ye Yf Yg Yh Yi Yj Yk Yl Ym Yn Yo Yp Yq Yr Ys Yt Yu Yv Yw Yx Yy Yz Z0 Z1 Z2 Z3 Z4 Z5 Z6 Z7 Z8 Z9 Za Zb Zc Zd Ze Zf Zg Zh Zi Zj Zk Zl Zm Zn Zo Zp Zq Zr Zs Zt Zu Zv Zw Zx Zy Zz K0q K1q K2q K3q : Value),OI hB h e X pl gv gs a pv dv PF DF N → Ok tab R17 k #[K0,K1,K2,K3,K4,K5,K6,K7,K8,ptr M,ptr X0,Kb,Kc,Kd,Ke,ptr X,Kg,Kh,Ki,Kj,Kk,Kl,Km,Kn,Ko,Kp,Kq,Kr,Ks,Kt,Ku,Kv,Kw,Kx,Ky,Kz,J0,J1,J2,J3,J4,J5,J6,J7,J8,J9,Ja,Jb,Jc,Jd,Je,Jf,Jg,Jh,Ji,Jj,Jk,Jl,Jm,Jn,Jo,Jp,Jq,Jr,Js,Jt,Ju,Jv,Jw,Jx,Jy,Jz,Y0,Y1,Y2,Y3,Y4,Y5,Y6,Y7,Y8,Y9,Ya,Yb,Yc,Yd,Ye,Yf,Yg,Yh,Yi,Yj,Yk,Yl,Ym,Yn,Yo,Yp,Yq,Yr,Ys,Yt,Yu,Yv,Yw,Yx,Yy,Yz,Z0,Z1,Z2,Z3,Z4,Z5,Z6,Z7,Z8,Z9,Za,Zb,Zc,Zd,Ze,Zf,Zg,Zh,Zi,Zj,Zk,Zl,Zm,Zn,Zo,Zp,Zq,Zr,Zs,Zt,Zu,Zv,Zw,Zx,Zy,Zz,K0q,K1q,K2q,K3q] h R) :
  ∀ (d gi n : Nat) (h : Heap) (a : AE) (pv dv : Value) (P D : List Nat) (N : Nat) (K0 K1 K2 K3 K4 K5 K6 K7 K8 Kb Kd Kh Ki Kj Kk Kl Km Kn Ko Kp Kq Kr Ks Kt Ku Kv Kw Kx Ky Kz J0 J1 J2 J3 J4 J5 J6 J7 J8 J9 Ja Jb Jc Jd Je Jf Jg Jk Jl Jm Jn Jo Jp Jq Jr Js Jt Ju Jv Jw Jx Jy Jz Y0 Y1 Y2 Y3 Y4 Y5 Y6 Y7 Y8 Y9 Ya Yb Yc Yd Ye Yf Yg Yh Yi Yj Yk Yl Ym Yn Yo Yp Yq Yr Ys Yt Yu Yv Yw Yx Yy Yz Z0 Z1 Z2 Z3 Z4 Z5 Z6 Z7 Z8 Z9 Za Zb Zc Zd Ze Zf Zg Zh Zi Zj Zk Zl Zm Zn Zo Zp Zq Zr Zs Zt Zu Zv Zw Zx Zy Zz K0q K1q K2q K3q : Value),gi + d = gs.length → OI hB h e X pl gv gs a pv dv P D N → n + sumL (gs.drop gi) = ls.length → (∀ c ∈ gs,1 ≤ c) → SegOk m n (gs.drop gi) → N + totL (ls.drop n) ≤ 900000 → P.length = n → D.length + d * 1000000 ≤ 500000000 →
   encSegs m ls (gs.drop gi) n a P D = (PF,DF) →
   Ok tab R17 (.inLoop L17_3 :: .inBlock 0 :: k) #[K0,K1,K2,K3,K4,K5,K6,K7,K8,ptr M,ptr X0,Kb,sv,Kd,ptr e,ptr X,.int .i64 (n : Nat),Kh,Ki,Kj,Kk,Kl,Km,Kn,Ko,Kp,Kq,Kr,Ks,Kt,Ku,Kv,Kw,Kx,Ky,Kz,J0,J1,J2,J3,J4,J5,J6,J7,J8,J9,Ja,Jb,Jc,Jd,Je,Jf,Jg,gv,.int .i64 (gs.length : Nat),.int .i64 (gi : Nat),Jk,Jl,Jm,Jn,Jo,Jp,Jq,Jr,Js,Jt,Ju,Jv,Jw,Jx,Jy,Jz,Y0,Y1,Y2,Y3,Y4,Y5,Y6,Y7,Y8,Y9,Ya,Yb,Yc,Yd,Ye,Yf,Yg,Yh,Yi,Yj,Yk,Yl,Ym,Yn,Yo,Yp,Yq,Yr,Ys,Yt,Yu,Yv,Yw,Yx,Yy,Yz,Z0,Z1,Z2,Z3,Z4,Z5,Z6,Z7,Z8,Z9,Za,Zb,Zc,Zd,Ze,Zf,Zg,Zh,Zi,Zj,Zk,Zl,Zm,Zn,Zo,Zp,Zq,Zr,Zs,Zt,Zu,Zv,Zw,Zx,Zy,Zz,K0q,K1q,K2q,K3q] h R := by
 intro d
 induction d with
 | zero =>
  intro gi n h a pv dv P D N K0 K1 K2 K3 K4 K5 K6 K7 K8 Kb Kd Kh Ki Kj Kk Kl Km Kn Ko Kp Kq Kr Ks Kt Ku Kv Kw Kx Ky Kz J0 J1 J2 J3 J4 J5 J6 J7 J8 J9 Ja Jb Jc Jd Je Jf Jg Jk Jl Jm Jn Jo Jp Jq Jr Js Jt Ju Jv Jw Jx Jy Jz Y0 Y1 Y2 Y3 Y4 Y5 Y6 Y7 Y8 Y9 Ya Yb Yc Yd Ye Yf Yg Yh Yi Yj Yk Yl Ym Yn Yo Yp Yq Yr Ys Yt Yu Yv Yw Yx Yy Yz Z0 Z1 Z2 Z3 Z4 Z5 Z6 Z7 Z8 Z9 Za Zb Zc Zd Ze Zf Zg Zh Zi Zj Zk Zl Zm Zn Zo Zp Zq Zr Zs Zt Zu Zv Zw Zx Zy Zz K0q K1q K2q K3q hgd I hn hc1 hso hN hP hD hE
  obtain rfl : gi = gs.length := by omega
  rw [List.drop_length] at hE
  simp only [encSegs,Prod.mk.injEq] at hE
  obtain ⟨rfl,rfl⟩ := hE
  rw [ok_round,l17_3,L17_3a,L17_3b]
  simp
  exact hk h a pv dv N _ _ _ _ _ _ _ _ _ _ _ _ _ _ _ _ _ _ _ _ _ _ _ _ _ _ _ _ _ _ _ _ _ _ _ _ _ _ _ _ _ _ _ _ _ _ _ _ _ _ _ _ _ _ _ _ _ _ _ _ _ _ _ _ _ _ _ _ _ _ _ _ _ _ _ _ _ _ _ _ _ _ _ _ _ _ _ _ _ _ _ _ _ _ _ _ _ _ _ _ _ _ _ _ _ _ _ _ _ _ _ _ _ _ _ _ _ _ _ _ _ _ _ _ _ _ _ _ _ _ _ _ _ _ _ _ _ _ _ _ _ _ _ _ _ I
 | succ d ih =>
  intro gi n h a pv dv P D N K0 K1 K2 K3 K4 K5 K6 K7 K8 Kb Kd Kh Ki Kj Kk Kl Km Kn Ko Kp Kq Kr Ks Kt Ku Kv Kw Kx Ky Kz J0 J1 J2 J3 J4 J5 J6 J7 J8 J9 Ja Jb Jc Jd Je Jf Jg Jk Jl Jm Jn Jo Jp Jq Jr Js Jt Ju Jv Jw Jx Jy Jz Y0 Y1 Y2 Y3 Y4 Y5 Y6 Y7 Y8 Y9 Ya Yb Yc Yd Ye Yf Yg Yh Yi Yj Yk Yl Ym Yn Yo Yp Yq Yr Ys Yt Yu Yv Yw Yx Yy Yz Z0 Z1 Z2 Z3 Z4 Z5 Z6 Z7 Z8 Z9 Za Zb Zc Zd Ze Zf Zg Zh Zi Zj Zk Zl Zm Zn Zo Zp Zq Zr Zs Zt Zu Zv Zw Zx Zy Zz K0q K1q K2q K3q hgd I hn hc1 hso hN hP hD hE
  have hgi : gi < gs.length := by omega
  have hlt : (gi : Int) < (gs.length : Int) := by omega
  have hdrop : gs.drop gi = gs[gi] :: gs.drop (gi + 1) := List.drop_eq_getElem_cons hgi
  have hcpos := hc1 gs[gi] (List.getElem_mem hgi)
  rw [hdrop] at hn hso hE
  simp only [sumL] at hn
  obtain ⟨hso1,hso2⟩ := hso
  have hgd0 : gs.getD gi 0 = gs[gi] := by rw [List.getD_eq_getElem?_getD,List.getElem?_eq_getElem hgi]; rfl
  obtain ⟨gid,goff,gb,hgv,hgb,hgc⟩ := I.gs.get hgi
  have hgc' := hgc 0 (by omega)
  rw [Nat.mul_one,Nat.add_zero,Nat.add_zero,nI_get hgi,hgd0] at hgc'
  generalize hcc : gs[gi] = c at *
  simp only [encSegs] at hE
  obtain ⟨pb,o,out,low,hA,hon,hdis⟩ := I.ea
  have hsplit := totL_split (ls.drop n) c
  rw [List.drop_drop] at hsplit
  have hmB := blk?_lt hm
  have hmh : blk? h M = some ⟨false,[.bool m.byp,.bool m.res,.bool m.rst,.bool m.cz,.bool m.sy]⟩ := by rw [I.low M hmB]; exact hm
  have hXlt := blk?_lt I.bx
  have lenB := I.len
  have stepS : ∃ h2 v own,Snk h2 e v own ⟨a,if rawOf m n = true then some [] else none⟩ N ∧ (∀ id,id < h.length → blk? h2 id = blk? h id) ∧ h.length ≤ h2.length ∧ (∀ id,own id → ownE e pb o id ∨ h.length ≤ id) ∧
    ((rawOf m n = false → v = ifE e ∧ h2 = h) ∧ (rawOf m n = true → v = ifR h.length ∧ ∀ R,Ret tab 40 [] h R = R (ptr h.length) h2)) := by
   cases hrw : rawOf m n with
   | false => exact ⟨h,ifE e,ownE e pb o,.enc hA I.h19 hon,fun _ _ => rfl,Nat.le_refl _,fun id hid => .inl hid,fun _ => ⟨rfl,rfl⟩,fun x => by simp at x⟩
   | true =>
    obtain ⟨h2,e1,J,l1,k1⟩ := new15 h
    refine ⟨h2,ifR h.length,_,.raw (hA.keep fun id hid => k1 id (hA.own_lt hid)) I.h19 hon J (by simp) (fun id x y => ?_),k1,by omega,fun id hid => ?_,fun x => by simp at x,fun _ => ⟨rfl,e1⟩⟩
    ·have := hA.own_lt x
     rcases y with y | y
     ·omega
     ·simp [sid] at y
    ·rcases hid with hid | hid
     ·exact .inl hid
     ·rcases hid with hid | hid
      ·right; omega
      ·simp [sid] at hid
  obtain ⟨h2,v,own,hK,k2,l2,own2,hv⟩ := stepS
  have ownB : ∀ id,own id → hB.length ≤ id := fun id hid => by
   rcases own2 id hid with hx | hx
   ·exact (hdis id hx).1
   ·omega
  have hp2 : Pss h2 sv vs ls := hp.keep (by omega) (fun id hid => by rw [k2 id (by omega),I.low id hid])
  have ltB : ∀ {w : Value} {id : Nat} {s0 n0 : Nat} {cs0 : List Value},below hB.length w = true → Sl hB s0 w n0 cs0 → sid w = some id → id < hB.length := by
   intro w id s0 n0 cs0 hb hs hid
   obtain ⟨wa,wc,rfl⟩ := hs.shape
   cases wa with
   | none => simp [sid] at hid
   | some ad => simp [sid] at hid hb; omega
  have hm2 : blk? h2 M = some ⟨false,[.bool m.byp,.bool m.res,.bool m.rst,.bool m.cz,.bool m.sy]⟩ := by rw [k2 M (by omega)]; exact hmh
  have hrl := segRun_len m ((ls.drop n).take c) n ⟨a,if rawOf m n = true then some [] else none⟩
  have hcl : ((ls.drop n).take c).length = c := by rw [List.length_take,List.length_drop]; omega
  rw [hcl] at hrl
  generalize hr : segRun m n ((ls.drop n).take c) ⟨a,if rawOf m n = true then some [] else none⟩ = r at *
  obtain ⟨st3,zs3⟩ := r
  simp only at hE hrl
  have behind : ∀ (h3 : Heap) (own3 : Nat → Prop) (zv : Value) (K0 K1 K2 K3 K4 K5 K6 K7 K8 Kb Kd Kh Kl Km Kn Ko Kp Kq Kr Ks Kt Ku Kv Kw Kx Ky Kz J0 J1 J2 J3 J4 J5 J6 J7 J8 J9 Ja Jb Jc Jd Je Jf Jg Jk Jl Jm Jn Jo Jp Jq Jr Js Jt Ju Jv Jw Jx Jy Jz Y0 Y1 Y2 Y3 Y4 Y5 Y6 Y7 Y8 Y9 Ya Yb Yc Yd Ye Yf Yg Yh Yi Yj Yk Yl Ym Yn Yo Yp Yq Yr Ys Yt Yu Yv Yw Yx Yy Yz Z0 Z1 Z2 Z3 Z4 Z5 Z6 Z7 Z8 Z9 Za Zb Zc Zd Ze Zf Zg Zh Zi Zj Zk Zl Zm Zn Zo Zp Zq Zr Zs Zt Zu Zv Zw Zx Zy Zz K0q K1q K2q K3q : Value),Snk h3 e v own3 st3 (N + totL ((ls.drop n).take c)) →
    OwnS h3 1 zv zs3.length (nI zs3) → (∀ z ∈ zs3,z ≤ 900004) → (∀ id,own3 id → sid zv ≠ some id) → SF h2 h3 own (ownZ own3 zv) →
    Ok tab R17 (.code (tlC 5 (inB (nthC 1 L17_3b))) :: .inBlock 1 :: .code (tlC 2 L17_3b) :: .inLoop L17_3 :: .inBlock 0 :: k) #[K0,K1,K2,K3,K4,K5,K6,K7,K8,ptr M,ptr X0,Kb,sv,Kd,ptr e,ptr X,.int .i64 ((n + c : Nat) : Int),Kh,.int .i64 (c : Nat),v,zv,Kl,Km,Kn,Ko,Kp,Kq,Kr,Ks,Kt,Ku,Kv,Kw,Kx,Ky,Kz,J0,J1,J2,J3,J4,J5,J6,J7,J8,J9,Ja,Jb,Jc,Jd,Je,Jf,Jg,gv,.int .i64 (gs.length : Nat),.int .i64 (gi : Nat),Jk,Jl,Jm,Jn,Jo,Jp,Jq,Jr,Js,Jt,Ju,Jv,Jw,Jx,Jy,Jz,Y0,Y1,Y2,Y3,Y4,Y5,Y6,Y7,Y8,Y9,Ya,Yb,Yc,Yd,Ye,Yf,Yg,Yh,Yi,Yj,Yk,Yl,Ym,Yn,Yo,Yp,Yq,Yr,Ys,Yt,Yu,Yv,Yw,Yx,Yy,Yz,Z0,Z1,Z2,Z3,Z4,Z5,Z6,Z7,Z8,Z9,Za,Zb,Zc,Zd,Ze,Zf,Zg,Zh,Zi,Zj,Zk,Zl,Zm,Zn,Zo,Zp,Zq,Zr,Zs,Zt,Zu,Zv,Zw,Zx,Zy,Zz,K0q,K1q,K2q,K3q] h3 R := by
   intro h3 own3 zv K0 K1 K2 K3 K4 K5 K6 K7 K8 Kb Kd Kh Kl Km Kn Ko Kp Kq Kr Ks Kt Ku Kv Kw Kx Ky Kz J0 J1 J2 J3 J4 J5 J6 J7 J8 J9 Ja Jb Jc Jd Je Jf Jg Jk Jl Jm Jn Jo Jp Jq Jr Js Jt Ju Jv Jw Jx Jy Jz Y0 Y1 Y2 Y3 Y4 Y5 Y6 Y7 Y8 Y9 Ya Yb Yc Yd Ye Yf Yg Yh Yi Yj Yk Yl Ym Yn Yo Yp Yq Yr Ys Yt Yu Yv Yw Yx Yy Yz Z0 Z1 Z2 Z3 Z4 Z5 Z6 Z7 Z8 Z9 Za Zb Zc Zd Ze Zf Zg Zh Zi Zj Zk Zl Zm Zn Zo Zp Zq Zr Zs Zt Zu Zv Zw Zx Zy Zz K0q K1q K2q K3q hK3 hz3 hzb hd3 F3
   obtain ⟨h4,s,pb4,o4,out4,low4,eE,hA4,hout4,h194,F4,hs4,hsid4⟩ := snk_end hK3 (by omega)
   have hbl := snk_bytes hK3
   have len3 := F3.len
   have len4 := F4.len
   have other : ∀ id,id < h.length → ¬ ownE e pb o id → blk? h4 id = blk? h id ∧ ¬ own3 id ∧ sid zv ≠ some id ∧ ¬ ownE e pb4 o4 id := by
    intro id hid hno
    have n1 : ¬ own id := fun x => by
     rcases own2 id x with hx | hx
     ·exact hno hx
     ·omega
    have n2 : ¬ ownZ own3 zv id := fun x => by
     rcases F3.fresh id x with hx | hx
     ·exact n1 hx
     ·omega
    have n3 : ¬ own3 id := fun x => n2 (.inl x)
    refine ⟨by rw [F4.same id (by omega) n3,F3.same id (by omega) n1,k2 id hid],n3,fun x => n2 (.inr x),fun x => ?_⟩
    rcases F4.fresh id x with hx | hx
    ·exact n3 hx
    ·omega
   have oX := other X hXlt (fun x => (hdis X x).2.1 rfl)
   have oP : ∀ id,sid pv = some id → _ := fun id hid => other id (I.op.lt hid) (fun x => (hdis id x).2.2.1 hid)
   have oD : ∀ id,sid dv = some id → _ := fun id hid => other id (I.od.lt hid) (fun x => (hdis id x).2.2.2.1 hid)
   have oG : ∀ id,sid gv = some id → _ := fun id hid => other id (I.gB id hid).2 (fun x => (hdis id x).2.2.2.2 hid)
   have oL : ∀ id,id < hB.length → blk? h4 id = blk? hB id := fun id hid => by
    rw [(other id (by omega) (fun x => by have := (hdis id x).1; omega)).1,I.low id hid]
   have zB : ∀ id,sid zv = some id → hB.length ≤ id ∧ id ≠ X ∧ sid pv ≠ some id ∧ sid dv ≠ some id ∧ sid gv ≠ some id := fun id hid => by
    refine ⟨?_,fun x => oX.2.2.1 (by rw [← x]; exact hid),fun x => (oP id x).2.2.1 hid,fun x => (oD id x).2.2.1 hid,fun x => (oG id x).2.2.1 hid⟩
    rcases F3.fresh id (.inr hid) with hx | hx
    ·exact ownB id hx
    ·omega
   have op4 : OwnS h4 1 pv P.length (nI P) := I.op.of_blk fun id hid hb => by rw [(oP id hid).1]; exact hb
   have od4 : OwnS h4 1 dv D.length (nU D) := I.od.of_blk fun id hid hb => by rw [(oD id hid).1]; exact hb
   have hz4 : OwnS h4 1 zv zs3.length (nI zs3) := hz3.of_blk fun id hid hb => by rw [F4.same id (blk?_lt hb) (fun x => hd3 id x hid)]; exact hb
   have gs4 : Sl h4 1 gv gs.length (nI gs) := I.gs.of_sid fun id b hid hb => by rw [(oG id hid).1]; exact hb
   have bX4 : blk? h4 X = some ⟨false,[pl,pv,dv]⟩ := by rw [oX.1]; exact I.bx
   have hXl4 := blk?_lt bX4
   have nd : ∀ id,ownE e pb4 o4 id → id < h4.length ∧ hB.length ≤ id ∧ id ≠ X ∧ sid pv ≠ some id ∧ sid dv ≠ some id ∧ sid gv ≠ some id := fun id hid => by
    refine ⟨hA4.own_lt hid,?_,fun x => oX.2.2.2 (by rw [← x]; exact hid),fun x => (oP id x).2.2.2 hid,fun x => (oD id x).2.2.2 hid,fun x => (oG id x).2.2.2 hid⟩
    rcases F4.fresh id hid with hx | hx
    ·rcases F3.fresh id (.inl hx) with hy | hy
     ·exact ownB id hy
     ·omega
    ·omega
   obtain ⟨tv,h5,eA5,od5,l5,k5,g5⟩ := app_any (bytes := 1) od4 hs4 (by unfold roomCells; omega) (by omega)
   have happ : nU D ++ nU st3.bytes = nU (D ++ st3.bytes) := by simp [nU]
   have hDl : D.length + st3.bytes.length = (D ++ st3.bytes).length := by simp
   rw [happ,hDl] at od5
   have hdX : sid dv ≠ some X := fun x => (I.dB X x).2.1 rfl
   have bX5 : blk? h5 X = some ⟨false,[pl,pv,dv]⟩ := by rw [k5 X hXl4 hdX]; exact bX4
   have hXl5 := blk?_lt bX5
   generalize hh6 : h5.set X (some ⟨false,[pl,pv,tv]⟩) = h6
   have l6 : h6.length = h5.length := by rw [← hh6]; simp
   have bX6 : blk? h6 X = some ⟨false,[pl,pv,tv]⟩ := by rw [← hh6]; exact blk?_set_eq hXl5
   have k6 : ∀ id,id ≠ X → blk? h6 id = blk? h5 id := fun id hid => by rw [← hh6]; exact blk?_set_ne (Ne.symm hid)
   have k46 : ∀ id,id < h4.length → id ≠ X → sid dv ≠ some id → blk? h6 id = blk? h4 id := fun id h1 h2 h3 => by rw [k6 id h2,k5 id h1 h3]
   have hz6 : OwnS h6 1 zv zs3.length (nI zs3) := hz4.of_blk fun id hid hb => by rw [k46 id (blk?_lt hb) (zB id hid).2.1 (zB id hid).2.2.2.1]; exact hb
   have op6 : OwnS h6 1 pv P.length (nI P) := op4.of_blk fun id hid hb => by rw [k46 id (blk?_lt hb) (I.pB id hid).2.1 (I.pB id hid).2.2.1]; exact hb
   have od6 : OwnS h6 1 tv (D ++ st3.bytes).length (nU (D ++ st3.bytes)) := od5.of_blk fun id hid hb => by rw [k6 id (by have := g5 id hid; omega)]; exact hb
   have gs6 : Sl h6 1 gv gs.length (nI gs) := gs4.of_sid fun id b hid hb => by rw [k46 id (blk?_lt hb) (I.gB id hid).1 (fun x => (I.dB id x).2.2 hid)]; exact hb
   obtain ⟨z2,ez2,hz2,hz2s,zsh⟩ := sub_nI hz6 (c := c - 1) (by omega)
   obtain ⟨za,zc,hz2sh⟩ := zsh
   have hzl2 : (zs3.take (c - 1)).length = c - 1 := by rw [List.length_take]; omega
   obtain ⟨da,dc,rfl⟩ := od6.sl.shape
   have wc : IntKind.i64.wrap ((c : Int) - 1) = ((c - 1 : Nat) : Int) := by rw [wrapI (by omega) (by omega)]; omega
   have hSL := fun K0 K1 K2 K3 K4 K5 K6 K7 K8 Kb Kd Kh Ki Kj Kk Kl Km Ko Kp Kq Kr Ks Kt Ku Kv Kw Kx Ky Kz J0 J1 J2 J3 J4 J5 J6 J7 J8 J9 Ja Jb Jc Jd Je Jf Jg Jk Jl Jm Jn Jo Jp Jq Jr Js Jt Ju Jv Jw Jx Jy Jz Y0 Y1 Y2 Y3 Y4 Y5 Y6 Y7 Y8 Y9 Ya Yb Yc Yd Ye Yf Yg Yh Yi Yj Yk Yl Ym Yn Yo Yp Yq Yr Ys Yt Yu Yv Yw Yx Yy Yz Z0 Z1 Z2 Z3 Z4 Z5 Z9 Za Zb Zc Zd Ze Zf Zg Zh Zi Zj Zk Zl Zm Zn Zo Zp Zq Zr Zs Zt Zu Zv Zw Zx Zy Zz K0q K1q K2q K3q => size_loop (R := R) (k := .code (tlC 1 (tlC 7 (inB (nthC 1 L17_3b)))) :: .inBlock 1 :: .code (tlC 2 L17_3b) :: .inLoop L17_3 :: .inBlock 0 :: k) (B := h6.length) (h0 := h6) (pl := pl) (dv := .slice da (D ++ st3.bytes).length dc) (zv := z2) (pv0 := pv) (D := D ++ st3.bytes) (beg := D.length) (e := e) (M := M) (X0 := X0) (X := X) (gn := gs.length) (gi := gi) (sv := sv) (gv := gv) (nv := .int .i64 ((n + c : Nat) : Int)) hz2
    (fun id hid => by
     have hx := hz2s id hid
     exact ⟨hz6.lt hx,(zB id hx).2.1,(zB id hx).2.2.1⟩) (by omega) ⟨da,dc,rfl⟩ (by omega) (fun z hz => by have := hzb z (List.mem_of_mem_take hz); omega) (by omega) (by rw [← hDl]; omega) (PF := P ++ (zs3.take (c - 1)).map (fun z => min (D.length + z) (D ++ st3.bytes).length))
    (fun h7 pv7 K0 K1 K2 K3 K4 K5 K6 K7 K8 Kb Kd Kh Ki Kj Kk Kl Km Kn Ko Kp Kq Kr Ks Kt Ku Kv Kw Kx Ky Kz J0 J1 J2 J3 J4 J5 J6 J7 J8 J9 Ja Jb Jc Jd Je Jf Jg Jk Jl Jm Jn Jo Jp Jq Jr Js Jt Ju Jv Jw Jx Jy Jz Y0 Y1 Y2 Y3 Y4 Y5 Y6 Y7 Y8 Y9 Ya Yb Yc Yd Ye Yf Yg Yh Yi Yj Yk Yl Ym Yn Yo Yp Yq Yr Ys Yt Yu Yv Yw Yx Yy Yz Z0 Z1 Z2 Z3 Z4 Z5 Z6 Z7 Z8 Z9 Za Zb Zc Zd Ze Zf Zg Zh Zi Zj Zk Zl Zm Zn Zo Zp Zq Zr Zs Zt Zu Zv Zw Zx Zy Zz K0q K1q K2q K3q op7 k7 bX7 g7 l7 => by
     obtain ⟨h8,eA8,op8,l8,k8⟩ := app1n (v := (D ++ st3.bytes).length) op7 (by simp; omega)
     have pX7 : sid pv7 ≠ some X := fun x => (g7 X x).2 rfl
     have hXl7 := blk?_lt bX7
     have bX8 : blk? h8 X = some ⟨false,[pl,pv7,.slice da (D ++ st3.bytes).length dc]⟩ := by rw [k8 X hXl7 pX7]; exact bX7
     have hXl8 := blk?_lt bX8
     have keep9 : ∀ x : Option Blk,∀ id,id < h6.length → id ≠ X → sid pv ≠ some id → blk? (h8.set X x) id = blk? h6 id := fun x id h1 h2 h3 => by
      rw [blk?_set_ne (Ne.symm h2),k8 id (by omega) (fun y => by rcases (g7 id y).1 with hy | hy; omega; exact h3 hy),k7 id h1 h2 h3]
     have hE2 : OI hB (h8.set X (some ⟨false,[pl,.slice (some ⟨h7.length + 1,0,none⟩) ((P ++ (zs3.take (c - 1)).map (fun z => min (D.length + z) (D ++ st3.bytes).length)).length + 1) 1,.slice da (D ++ st3.bytes).length dc]⟩)) e X pl gv gs st3.after
       (.slice (some ⟨h7.length + 1,0,none⟩) ((P ++ (zs3.take (c - 1)).map (fun z => min (D.length + z) (D ++ st3.bytes).length)).length + 1) 1) (.slice da (D ++ st3.bytes).length dc) ((P ++ (zs3.take (c - 1)).map (fun z => min (D.length + z) (D ++ st3.bytes).length)) ++ [(D ++ st3.bytes).length]) (D ++ st3.bytes) (N + totL ((ls.drop n).take c)) := by
      refine ⟨⟨pb4,o4,out4,low4,hA4.keep fun id hid => ?_,hout4,fun id hid => ?_⟩,h194,blk?_set_eq hXl8,?_,?_,?_,fun id hid => ⟨(I.gB id hid).1,by rw [List.length_set]; have := (I.gB id hid).2; omega⟩,I.xB,fun id hid => ?_,fun id hid => ?_,fun id hid => ?_,by rw [List.length_set]; omega⟩
      ·obtain ⟨q1,q2,q3,q4,q5,q6⟩ := nd id hid
       rw [keep9 _ id (by omega) q3 q4,k46 id q1 q3 q5]
      ·obtain ⟨q1,q2,q3,q4,q5,q6⟩ := nd id hid
       refine ⟨q2,q3,by simp [sid]; omega,fun x => by have := g5 id x; omega,q6⟩
      ·exact op8.of_blk fun id hid hb => by simp [sid] at hid; rw [blk?_set_ne (by omega)]; exact hb
      ·exact od6.of_blk fun id hid hb => by
        have hx := g5 id hid
        rw [keep9 _ id (blk?_lt hb) (by omega) (fun y => by have := I.op.lt y; omega)]; exact hb
      ·exact gs6.of_sid fun id b hid hb => by
        rw [keep9 _ id (blk?_lt hb) (I.gB id hid).1 (fun y => (I.pB id y).2.2.2 hid)]; exact hb
      ·simp [sid] at hid
       subst hid
       exact ⟨by omega,by omega,fun x => by have := g5 _ x; omega,fun x => by have := (I.gB _ x).2; omega⟩
      ·have hx := g5 id hid
       exact ⟨by omega,by omega,fun x => by have := (I.gB _ x).2; omega⟩
      ·rw [keep9 _ id (by omega) (by have := I.xB; omega) (fun y => by have := (I.pB id y).1; omega),k46 id (by omega) (by have := I.xB; omega) (fun y => by have := (I.dB id y).1; omega),oL id hid]
     have ih' := fun K0 K1 K2 K3 K4 K5 K6 K7 K8 Kb Kd Kh Ki Kj Kk Kl Km Kn Ko Kp Kq Kr Ks Kt Ku Kv Kw Kx Ky Kz J0 J1 J2 J3 J4 J5 J6 J7 J8 J9 Ja Jb Jc Jd Je Jf Jg Jk Jl Jm Jn Jo Jp Jq Jr Js Jt Ju Jv Jw Jx Jy Jz Y0 Y1 Y2 Y3 Y4 Y5 Y6 Y7 Y8 Y9 Ya Yb Yc Yd Ye Yf Yg Yh Yi Yj Yk Yl Ym Yn Yo Yp Yq Yr Ys Yt Yu Yv Yw Yx Yy Yz Z0 Z1 Z2 Z3 Z4 Z5 Z6 Z7 Z8 Z9 Za Zb Zc Zd Ze Zf Zg Zh Zi Zj Zk Zl Zm Zn Zo Zp Zq Zr Zs Zt Zu Zv Zw Zx Zy Zz K0q K1q K2q K3q => ih (gi + 1) (n + c) _ st3.after _ _ _ _ _ K0 K1 K2 K3 K4 K5 K6 K7 K8 Kb Kd Kh Ki Kj Kk Kl Km Kn Ko Kp Kq Kr Ks Kt Ku Kv Kw Kx Ky Kz J0 J1 J2 J3 J4 J5 J6 J7 J8 J9 Ja Jb Jc Jd Je Jf Jg Jk Jl Jm Jn Jo Jp Jq Jr Js Jt Ju Jv Jw Jx Jy Jz Y0 Y1 Y2 Y3 Y4 Y5 Y6 Y7 Y8 Y9 Ya Yb Yc Yd Ye Yf Yg Yh Yi Yj Yk Yl Ym Yn Yo Yp Yq Yr Ys Yt Yu Yv Yw Yx Yy Yz Z0 Z1 Z2 Z3 Z4 Z5 Z6 Z7 Z8 Z9 Za Zb Zc Zd Ze Zf Zg Zh Zi Zj Zk Zl Zm Zn Zo Zp Zq Zr Zs Zt Zu Zv Zw Zx Zy Zz K0q K1q K2q K3q (by omega) hE2 (by omega) hc1 hso2 (by omega) (by simp only [List.length_append,List.length_map,List.length_cons,List.length_nil,hzl2]; omega) (by rw [← hDl]; omega) hE
     have wg : IntKind.i64.wrap ((gi : Int) + 1) = ((gi + 1 : Nat) : Int) := wrapN (n := gi + 1) (by omega)
     generalize ((gi + 1 : Nat) : Int) = gi1 at *
     generalize ((n + c : Nat) : Int) = nc at *
     generalize hDD : (D ++ st3.bytes).length = DD at *
     generalize hPP : (P ++ (zs3.take (c - 1)).map (fun z => min (D.length + z) DD)) = PP at *
     simp only [tlC,inB,nthC,fstC,L17_3b]
     simp [repL,bX7,eA8,bX8,wg]
     exact ih' ..) (zs3.take (c - 1)).length 0 h6 pv P K0 K1 K2 K3 K4 K5 K6 K7 K8 Kb Kd Kh Ki Kj Kk Kl Km Ko Kp Kq Kr Ks Kt Ku Kv Kw Kx Ky Kz J0 J1 J2 J3 J4 J5 J6 J7 J8 J9 Ja Jb Jc Jd Je Jf Jg Jk Jl Jm Jn Jo Jp Jq Jr Js Jt Ju Jv Jw Jx Jy Jz Y0 Y1 Y2 Y3 Y4 Y5 Y6 Y7 Y8 Y9 Ya Yb Yc Yd Ye Yf Yg Yh Yi Yj Yk Yl Ym Yn Yo Yp Yq Yr Ys Yt Yu Yv Yw Yx Yy Yz Z0 Z1 Z2 Z3 Z4 Z5 Z9 Za Zb Zc Zd Ze Zf Zg Zh Zi Zj Zk Zl Zm Zn Zo Zp Zq Zr Zs Zt Zu Zv Zw Zx Zy Zz K0q K1q K2q K3q (by omega) op6 (by omega) (fun _ _ _ _ => rfl) bX6 (fun id hid => ⟨.inr hid,(I.pB id hid).2.1⟩) (Nat.le_refl _) (by rw [List.drop_zero])
   rw [hz2sh] at hSL ez2
   obtain ⟨dva,dvc,hdv⟩ := I.od.sl.shape
   have bX3 : blk? h3 X = some ⟨false,[pl,pv,dv]⟩ := by rw [← F4.same X (by omega) oX.2.1]; exact bX4
   simp only [Int.cast_ofNat_Int] at hSL
   generalize ((n + c : Nat) : Int) = nc at *
   rw [hdv] at bX3 bX4 bX5 eA5
   simp only [nthC,inB,tlC,fstC,L17_3b]
   simp only [nthC,inB,tlC,fstC,L17_3b] at hSL
   generalize hDD : (D ++ st3.bytes).length = DD at hh6 eA5 hSL
   generalize hZZ : (zs3.take (c - 1)).length = ZZ at ez2 hSL
   simp [book,bookU,logOf,addLog,chk1,lookL,reload,bX3,bX4,bX5,eE,eA5,hh6,wc,ez2]
   exact hSL ..
  have hok : ∀ l ∈ (ls.drop (n + 0)).take c,∀ s ∈ l,SymOk (if rawOf m n = true then some [] else none : Option (List Nat)) s := by
   intro l hl s hs
   obtain ⟨j,hj,rfl⟩ := List.getElem_of_mem hl
   have hjc : j < c := by simp at hj; omega
   have hnj : n + j < ls.length := by omega
   have e1 : ((ls.drop (n + 0)).take c)[j] = ls[n + j] := by simp
   rw [e1] at hs
   obtain ⟨q1,q2⟩ := hsym (n + j) hnj s hs
   refine ⟨q1,fun hx => q2 ?_⟩
   cases hrw : rawOf m n with
   | true => rw [hrw] at hx; simp at hx
   | false => exact hso1 hrw j hjc
  have hmid := fun K0 K1 K2 K3 K4 K5 K6 K7 K8 Kb Kd Kh Kl Km Kn Ko Kp Kq Kr Ks Kt Ku Kv Kw Kx Ky Kz J0 J1 J2 J3 J4 J5 J6 J7 J8 J9 Ja Jb Jc Jd Je Jf Jg Jk Jl Jm Jn Jo Jp Jq Jr Js Jt Ju Jv Jy Jz Y0 Y1 Y2 Y3 Y4 Y5 Y6 Y7 Y8 Y9 Ya Yb Yc Yd Ye Yf Yg Yh Yi Yj Yk Yl Ym Yn Yo Yp Yq Yr Ys Yt Yu Yv Yw Yx Yy Yz Z0 Z1 Z2 Z3 Z4 Z5 Z6 Z7 Z8 Z9 Za Zb Zc Zd Ze Zf Zg Zh Zi Zj Zk Zl Zm Zn Zo Zp Zq Zr Zs Zt Zu Zv Zw Zx Zy Zz K0q K1q K2q K3q => mid_loop (R := R) (k := .code (tlC 5 (inB (nthC 1 L17_3b))) :: .inBlock 1 :: .code (tlC 2 L17_3b) :: .inLoop L17_3 :: .inBlock 0 :: k) (e := e) (M := M) (X0 := X0) (X := X) (cnt := c) (gn := gs.length) (gi := gi) (n0 := n) (sv := sv) (gv := gv) (v := v) (m := m) (h0 := h2) (own0 := own) (stF := st3) (zsF := zs3) (NF := N + totL ((ls.drop n).take c)) (by omega) hp2
   (fun id hid x => by have := ownB id x; have := ltB hp.sb hp.sl hid; omega) (fun i h1 id hid x => by have := ownB id x; have hx := hp.each i h1 (by rw [← hp.len]; exact h1); have := ltB hx.sb hx.sl hid; omega) hm2 (fun x => by have := ownB M x; omega) (by omega) hls
   behind c 0 h2 own ⟨a,if rawOf m n = true then some [] else none⟩ (.slice none 0 0) [] N K0 K1 K2 K3 K4 K5 K6 K7 K8 Kb Kd Kh Kl Km Kn Ko Kp Kq Kr Ks Kt Ku Kv Kw Kx Ky Kz J0 J1 J2 J3 J4 J5 J6 J7 J8 J9 Ja Jb Jc Jd Je Jf Jg Jk Jl Jm Jn Jo Jp Jq Jr Js Jt Ju Jv Jy Jz Y0 Y1 Y2 Y3 Y4 Y5 Y6 Y7 Y8 Y9 Ya Yb Yc Yd Ye Yf Yg Yh Yi Yj Yk Yl Ym Yn Yo Yp Yq Yr Ys Yt Yu Yv Yw Yx Yy Yz Z0 Z1 Z2 Z3 Z4 Z5 Z6 Z7 Z8 Z9 Za Zb Zc Zd Ze Zf Zg Zh Zi Zj Zk Zl Zm Zn Zo Zp Zq Zr Zs Zt Zu Zv Zw Zx Zy Zz K0q K1q K2q K3q (by omega) hK (by rw [Nat.add_zero]) hok (OwnS.nil _ _) (by simp) (by simp) (fun id _ => by simp [sid]) ⟨Nat.le_refl _,fun _ _ _ => rfl,fun id hid => by rcases hid with hx | hx; exact .inl hx; simp [sid] at hx⟩ (by rw [Nat.add_zero,hr]) (by rw [Nat.add_zero,hr]; rfl)
  clear behind ih
  simp only [Int.natCast_add,Int.cast_ofNat_Int,Int.add_zero] at hmid
  have hrc := fun H R => raw_c (h := H) (R := R) (n := n) (by omega) m
  simp only [MD.val] at hrc
  subst hgv
  simp only [nthC,inB,tlC,fstC,L17_3b] at hmid
  cases hrw : rawOf m n with
  | false =>
   obtain ⟨rfl,rfl⟩ := hv.1 hrw
   rw [hrw] at hrc
   rw [ok_round,l17_3,L17_3a,L17_3b]
   simp [hgi,hgb,hgc',hmh,hrc]
   exact hmid ..
  | true =>
   obtain ⟨rfl,eN⟩ := hv.2 hrw
   rw [hrw] at hrc
   rw [ok_round,l17_3,L17_3a,L17_3b]
   simp [hgi,hgb,hgc',hmh,hrc,eN]
   exact hmid ..
end
end Go.Proofs.YtjpjohchdfoeaaaGreat
