/-
  The passes of a block, plain: what Run and Symbols come to.
  The segments of a block, followed.
  The encoder's passes: bits; the significance and the refinement pass.
  The order of the coefficients: both Scan functions.
  The encoder's passes: the significance and the refinement pass.
  The encoder's passes: the refinement pass.
  The encoder's passes: the cleanup pass.
  The encoder's passes: the cleanup pass, whole; a pass as Run performs it.
  Run of the encoder's passes.
  Rows of numbers; the number of bit planes; new blocks; the program's and the reference's.
  The reference's numbers of passes.
  Rows of symbols, compared; the symbols of all passes.
  Lists of passes, compared and made.
  Symbols: the program's and the reference's come to the same.
  Symbols, on: the whole calls.
  The block encoder, followed: the symbols of a pass, the passes of a segment.
  The block encoder, followed: the passes of a segment.
  The block encoder, followed: the sizes of a segment's passes.
  The program's arithmetic decoder follows the plain one.
  The program's reader of raw bits.
  The decoder's passes, plain: what they ask for, as trees.
  A source of bits, and a pass of the decoder in progress.
-/
import Derived.Test.YtjpjohchdfoeaaaGreatSk
import Derived.Test.YtjpjohchdfoeaaaGreatTab
import Derived.Test.YtjpjohchdfoeaaaGreatSimZ
namespace Go.Proofs.YtjpjohchdfoeaaaGreat
open Go Go.Sim
set_option linter.unusedSimpArgs false
set_option linter.unusedVariables false
def ES.emits (P : PP) (σ : ES) (l : List Nat) : ES:=l.foldl (fun σ b=>σ.emit P 18 b) σ
theorem G5s (P : PP) (σ : ES) (on : Bool) (h : on = true) : σ.clean P on = ((σ.stripes P 0 (Gai σ.b.h)).clear (scan σ.b.w σ.b.h)).emits P [1,0,1,0]:=by
 subst h; rfl
structure MD where
 byp : Bool
 res : Bool
 rst : Bool
 cz : Bool
 sy : Bool
def MD.val (m : MD) : Value:=.agg #[.bool m.byp,.bool m.res,.bool m.rst,.bool m.cz,.bool m.sy]
def Gas (n : Nat) : Nat:=if n = 0 then 0 else (n - 1) / 3 + 1
def kindOf (n : Nat) : Nat:=if n = 0 then 2 else (n - 1) % 3
def Gaw (m : MD) (n : Nat) : Bool:=m.byp && decide (4≤Gas n) && decide (kindOf n ≠ 2)
def Gc9 (m : MD) (n planes o : Nat) : PP:=⟨planes - 1 - Gas n,o,m.cz,Gaw m n⟩
def Gb1 (m : MD) (b : BS) (n planes o : Nat) : ES :=
 if kindOf n = 0 then ES.sigs (Gc9 m n planes o) ⟨b,[]⟩ (scan b.w b.h)
 else if kindOf n = 1 then ES.refs (Gc9 m n planes o) ⟨b,[]⟩ (scan b.w b.h)
 else ES.clean (Gc9 m n planes o) ⟨b,[]⟩ m.sy
def Gbj (n planes o : Int) : Int:=if planes < 1∨60 < planes∨n < 0∨3 * planes - 3 < n then 2 else if o < 0∨3 < o then 3 else 0
def Gkn (m : MD) (b : BS) (n planes o : Int) : ES:=if Gbj n planes o = 0 then Gb1 m b n.toNat planes.toNat o.toNat else ⟨b,[]⟩
theorem Gdg {n planes : Nat} (h : n≤3 * planes - 3) (h1 : 1≤planes) : Gas n≤planes - 1:=by
 unfold Gas; split <;> omega
def Gi8 (n : Nat) : Nat:=if n = 0 then 0 else n.log2 + 1
theorem Gei {n k : Nat} : Gi8 n≤k ↔ n < 2 ^ k:=by
 unfold Gi8
 by_cases h : n = 0
 ·subst h; simp [Nat.two_pow_pos]
 ·rw [if_neg h]
  exact Nat.log2_lt h
theorem G1t {n k : Nat} : k < Gi8 n ↔ 2 ^ k≤n:=by
 have:=@Gei n k
 omega
theorem Gzc {n : Nat} (h : n ≠ 0) : Gi8 n = Gi8 (n / 2) + 1:=by
 apply Nat.le_antisymm
 ·rw [Gei]
  have:=(@Gei (n / 2) (Gi8 (n / 2))).1 (Nat.le_refl _)
  rw [Nat.pow_succ]; omega
 ·have h1 : Gi8 (n / 2) < Gi8 n:=by
   rw [G1t]
   by_cases h0 : n / 2 = 0
   ·rw [h0]
    show 2 ^ 0≤n
    omega
   ·have:=(@G1t (n / 2) (Gi8 (n / 2) - 1)).1 (by unfold Gi8; rw [if_neg h0]; omega)
    have h2 : Gi8 (n / 2) = Gi8 (n / 2) - 1 + 1:=by unfold Gi8; rw [if_neg h0]; omega
    rw [h2,Nat.pow_succ]; omega
  exact h1
theorem Qak (a b : Nat) : Gi8 (a ||| b) = max (Gi8 a) (Gi8 b):=by
 apply Nat.le_antisymm
 ·rw [Gei]
  apply Nat.or_lt_two_pow
  ·exact Gei.1 (Nat.le_max_left _ _)
  ·exact Gei.1 (Nat.le_max_right _ _)
 ·apply Nat.max_le.2
  constructor
  ·rw [Gei]
   exact Nat.lt_of_le_of_lt Nat.left_le_or (Gei.1 (Nat.le_refl _))
  ·rw [Gei]
   exact Nat.lt_of_le_of_lt Nat.right_le_or (Gei.1 (Nat.le_refl _))
def Gab (xs : List Int) : Nat:=xs.foldl (fun n v=>max n (Gi8 v.natAbs)) 0
theorem Gss (xs : List Int) : ∀ n,xs.foldl (fun n v=>max n (Gi8 v.natAbs)) n = max n (Gab xs):=by
 induction xs with
 | nil=>intro n; simp [Gab]
 | cons v xs ih =>
  intro n
  show List.foldl _ n (v :: xs) = max n (List.foldl _ 0 (v :: xs))
  rw [List.foldl_cons,List.foldl_cons,ih,ih (max 0 _)]
  omega
theorem Gf2 {xs : List Int} {n : Nat} : Gab xs≤n ↔ ∀ v ∈ xs,v.natAbs < 2 ^ n:=by
 induction xs with
 | nil=>simp [Gab]
 | cons v xs ih =>
  have : Gab (v :: xs) = max (Gi8 v.natAbs) (Gab xs):=by
   rw [Gab,List.foldl_cons,Gss]; omega
  rw [this,Nat.max_le,Gei,ih]; simp
def blank (n : Nat) : List Cell:=List.replicate n .zero
def Gcb (w h : Nat) : BS:=⟨w,h,blank (w * h)⟩
theorem Gcc {w h : Nat} (w1 : 1≤w) (w2 : w≤64) (h1 : 1≤h) (h2 : h≤64) : (Gcb w h).Good:=by
 refine ⟨⟨w1,w2,h1,h2,by simp [Gcb,blank]⟩,fun x y=>?_⟩
 have : (Gcb w h).get x y = .zero:=by
  unfold BS.get
  split
  ·simp only [Gcb,blank,List.getD_eq_getElem?_getD,List.getElem?_replicate]
   split <;> rfl
  ·rfl
 rw [this]; simp [Cell.zero]
def sized (w h : Int) : Bool:=decide (1≤w∧w≤64∧1≤h∧h≤64)
def cellOf (v : Int) : Cell:=⟨v,false,false,false⟩
def Ga2 (w h : Nat) (xs : List Int) (i : Nat) : BS:=⟨w,h,(xs.take i).map cellOf++blank (w * h - i)⟩
def setV (v : Int) (c : Cell) : Cell:={ c with v:=v }
theorem Gs4 (w h : Nat) (xs : List Int) : Ga2 w h xs 0 = Gcb w h:=by simp [Ga2,Gcb]
theorem Gmq {w h i : Nat} (hw : 0 < w) (cs : List Cell) : BS.idx ⟨w,h,cs⟩ ((i % w : Nat) : Int) ((i / w : Nat) : Int) = i:=by
 unfold BS.idx
 have : ((i / w : Nat) : Int) * (w : Int) + ((i % w : Nat) : Int) = ((i / w * w + i % w : Nat) : Int):=by simp
 simp only
 rw [this,Int.toNat_natCast,Nat.mul_comm]
 exact Nat.div_add_mod i w
theorem Gii {w h i : Nat} (hw : 0 < w) (hi : i < w * h) (cs : List Cell) : BS.inb ⟨w,h,cs⟩ ((i % w : Nat) : Int) ((i / w : Nat) : Int):=by
 have h1:=Nat.mod_lt i hw
 have h2 : i / w < h:=by rw [Nat.div_lt_iff_lt_mul hw]; rw [Nat.mul_comm]; exact hi
 exact ⟨Int.natCast_nonneg _,Int.ofNat_lt.2 h1,Int.natCast_nonneg _,Int.ofNat_lt.2 h2⟩
theorem Gr2 {w h : Nat} {xs : List Int} {i : Nat} (hw : 0 < w) (hi : i < xs.length) (hl : xs.length = w * h) :
  (Ga2 w h xs i).upd ((i % w : Nat) : Int) ((i / w : Nat) : Int) (setV xs[i]) = Ga2 w h xs (i + 1):=by
 have hlen : ((xs.take i).map cellOf).length = i:=by simp; omega
 have hidx:=Gmq (h:=h) (i:=i) hw ((xs.take i).map cellOf++blank (w * h - i))
 have hinb:=Gii (i:=i) (h:=h) hw (by omega) ((xs.take i).map cellOf++blank (w * h - i))
 have hget : (Ga2 w h xs i).get ((i % w : Nat) : Int) ((i / w : Nat) : Int) = .zero:=by
  unfold BS.get Ga2
  rw [if_pos hinb,hidx]
  simp only [List.getD_eq_getElem?_getD]
  rw [List.getElem?_append_right (by omega),hlen]
  simp only [blank,List.getElem?_replicate]
  split <;> rfl
 unfold BS.upd
 rw [hget]
 unfold Ga2 at *
 rw [hidx]
 congr 1
 rw [List.set_append_right _ _ (by omega),hlen,Nat.sub_self,List.take_succ_eq_append_getElem hi,List.map_append]
 rw [show w * h - i = (w * h - (i + 1)) + 1 by omega]
 simp [blank,List.replicate_succ,setV,cellOf,Cell.zero]
theorem Gfe {w h : Nat} {xs : List Int} (hn : (Gcb w h).Good) (hl : xs.length = w * h) : ∀ i,i≤xs.length→(∀ v ∈ xs.take i,-1152921504606846976 < v∧v < 1152921504606846976)→(Ga2 w h xs i).Good:=by
 intro i hi hr
 refine ⟨⟨hn.ok.w1,hn.ok.w2,hn.ok.h1,hn.ok.h2,by simp [Ga2,blank]; omega⟩,fun x y=>?_⟩
 unfold BS.get
 split
 ·simp only [Ga2,List.getD_eq_getElem?_getD]
  generalize BS.idx _ x y = j
  by_cases hj : j < i
  ·rw [List.getElem?_append_left (by simp; omega)]
   have : j < (xs.take i).length:=by simp; omega
   rw [List.getElem?_map,List.getElem?_eq_getElem this]
   exact hr _ (List.getElem_mem this)
  ·rw [List.getElem?_append_right (by simp; omega)]
   simp only [blank,List.getElem?_replicate]
   split <;> simp [Cell.zero]
 ·simp [Cell.zero]
def Gaf (m : MD) (planes o : Nat) : Nat→Nat→BS→List (List (Int × Nat))
 | 0,_,_=>[]
 | n + 1,k,b=>(Gb1 m b k planes o).out :: Gaf m planes o n (k + 1) (Gb1 m b k planes o).b
theorem Gbg (m : MD) (planes o : Nat) : ∀ n k b,(Gaf m planes o n k b).length = n
 | 0,_,_=>rfl
 | n + 1,k,b=>by rw [Gaf,List.length_cons,Gbg m planes o n]
def inR (v : Int) : Prop:=-1152921504606846976 < v∧v < 1152921504606846976
instance (v : Int) : Decidable (inR v):=by unfold inR; exact inferInstance
def Gaz (xs : List Int) (w h o : Int) (m : MD) : Int × List (List (Int × Nat)) :=
 if sized w h = false then (2,[])
 else if (xs.length : Int) ≠ w * h then (4,[])
 else if o < 0∨3 < o then (3,[])
 else if ∀ v ∈ xs,inR v then (0,Gaf m (Gab xs) o.toNat (3 * Gab xs - 2) 0 (Ga2 w.toNat h.toNat xs xs.length))
 else (2,[])
theorem Gge {xs : List Int} : (∀ v ∈ xs,inR v) ↔ Gab xs≤60:=by
 rw [Gf2]
 constructor
 ·intro h v hv; have:=h v hv; unfold inR at this; omega
 ·intro h v hv; have:=h v hv; unfold inR; omega
def Ge5 (m : MD) (sz : Nat) : Nat:=if m.byp = true∧m.res = false then (if sz = 2 then 1 else 2) else sz
def Ghv (m : MD) : Nat→Nat→Nat→List Nat
 | 0,_,_=>[]
 | f + 1,sz,left=>if left = 0 then [] else min sz left :: Ghv m f (Ge5 m sz) (left - min sz left)
def Gb6 (m : MD) (n : Nat) : Nat:=if m.res = true then 1 else if m.byp = true then 10 else n
def Gba (m : MD) (n : Nat) : List Nat:=if n < 1∨178 < n then [] else Ghv m n (Gb6 m n) n
def Gi4 : List Nat→Nat
 | []=>0
 | x :: l=>x + Gi4 l
theorem Gh7 {m : MD} {sz : Nat} (h : 1≤sz) : 1≤Ge5 m sz:=by unfold Ge5; split <;> (try split) <;> omega
theorem Guj {m : MD} : ∀ (f sz left : Nat),1≤sz→left≤f→Gi4 (Ghv m f sz left) = left∧(Ghv m f sz left).length≤left∧∀ x ∈ Ghv m f sz left,1≤x∧x≤left
 | 0,sz,left,_,h=>by
  have : left = 0:=by omega
  subst this; simp [Ghv,Gi4]
 | f + 1,sz,left,h1,h=>by
  unfold Ghv
  by_cases h0 : left = 0
  ·rw [if_pos h0]; subst h0; simp [Gi4]
  ·rw [if_neg h0]
   obtain ⟨a,b,c⟩:=Guj (m:=m) f (Ge5 m sz) (left - min sz left) (Gh7 h1) (by omega)
   refine ⟨by rw [Gi4,a]; omega,by simp only [List.length_cons]; omega,fun x hx=>?_⟩
   rcases List.mem_cons.1 hx with rfl | hx
   ·omega
   ·have:=c x hx; omega
theorem Ggh {m : MD} {n : Nat} (h : n≤178) : Gi4 (Gba m n) = n∧(Gba m n).length≤n∧∀ x ∈ Gba m n,1≤x∧x≤n:=by
 unfold Gba
 by_cases h0 : n < 1
 ·rw [if_pos (.inl h0)]
  have : n = 0:=by omega
  subst this; simp [Gi4]
 ·rw [if_neg (by omega)]
  refine Guj n _ n ?_ (Nat.le_refl _)
  unfold Gb6; split
  ·omega
  ·split <;> omega
theorem G4u {H : Gag} {s : Value} {xs : List Nat} {v : Nat} (ho : Ga7 H 1 s xs.length (nI xs)) (hn : xs.length < 1000000) :
  ∃ H1,Gb0 (H++[some ⟨false,[.int .i64 (v : Nat)]⟩]) 1 8 s (.slice (some ⟨H.length,0,none⟩) 1 1) = some (.slice (some ⟨H.length + 1,0,none⟩) (xs.length + 1) 1,H1) ∧
   Ga7 H1 1 (.slice (some ⟨H.length + 1,0,none⟩) (xs.length + 1) 1) (xs++[v]).length (nI (xs++[v]))∧H1.length = H.length + 2∧∀ id,id < H.length→sid s ≠ some id→blk? H1 id = blk? H id:=by
 have ho' : Ga7 (H++[some ⟨false,[.int .i64 (v : Nat)]⟩]) 1 s xs.length (nI xs):=ho.of_blk fun id hid hb=>by rw [blk?_push_lt (blk?_lt hb)]; exact hb
 have ht : Sl (H++[some ⟨false,[.int .i64 (v : Nat)]⟩]) 1 (.slice (some ⟨H.length,0,none⟩) 1 1) 1 [.int .i64 (v : Nat)]:=⟨rfl,.inr ⟨H.length,0,rfl,.inr ⟨_,blk?_push_eq,by simp,by simp⟩⟩⟩
 obtain ⟨H1,e,hb,hl,hk⟩:=Gbs ho' ht (bytes:=8) (by unfold Gaq; omega) (by omega) (by omega)
 have hlen : (H++[some (⟨false,[.int .i64 (v : Nat)]⟩ : Blk)]).length = H.length + 1:=by simp
 rw [hlen] at e hb hl hk
 refine ⟨H1,e,⟨by simp [nI],.inr ⟨H.length + 1,by simp,by rw [hb]; simp [nI]⟩⟩,hl,fun id hid hne=>by rw [hk id (by omega) hne,blk?_push_lt hid]⟩
theorem mn2 {k k' : IntKind} {x y : Int} : Gfo (.int k x) (.int k' y) = some (.int k (min x y)):=by
 have e : (if y < x then y else x) = min x y:=by split <;> omega
 rw [Gfo,e]
section
variable {h : Gag}
theorem G3r {B M : Nat} {h0 : Gag} {m : MD} {k : List Ga1} {R : RP} {zs : List Nat} (hMB : M < B) (hM : blk? h0 M = some ⟨false,[.bool m.byp,.bool m.res,.bool m.rst,.bool m.cz,.bool m.sy]⟩)
  (hk : ∀ (H : Gag) (s : Value) (K0 K1 K2 K4 K6 K7 K8 K9 Ka Kb Kc Kd Ke Kf Kg Kh Ki Kj Kk Kl Km Kn Ko Kp Kq Kr Ks Kt Ku Kv Kw Kx Ky Kz J0 J1 J2 J3 J4 J5 J6 : Value),Ga7 H 1 s zs.length (nI zs)→(∀ id,id < B→blk? H id = blk? h0 id)→B≤H.length→(∀ id,sid s = some id→B≤id) →
   Ok tab R38 k #[K0,K1,K2,ptr M,K4,s,K6,K7,K8,K9,Ka,Kb,Kc,Kd,Ke,Kf,Kg,Kh,Ki,Kj,Kk,Kl,Km,Kn,Ko,Kp,Kq,Kr,Ks,Kt,Ku,Kv,Kw,Kx,Ky,Kz,J0,J1,J2,J3,J4,J5,J6] H R) :
  ∀ (f sz left : Nat) (xs : List Nat) (s : Value) (H : Gag) (K0 K1 K2 K4 K8 K9 Ka Kb Kc Kd Ke Kf Kg Kh Ki Kj Kk Kl Km Kn Ko Kp Kq Kr Ks Kt Ku Kv Kw Kx Ky Kz J0 J1 J2 J3 J4 J5 J6 : Value),left≤f→1≤sz→sz≤1000→f≤1000→xs.length + f≤2000→xs++Ghv m f sz left = zs →
   Ga7 H 1 s xs.length (nI xs)→(∀ id,id < B→blk? H id = blk? h0 id)→B≤H.length→(∀ id,sid s = some id→B≤id) →
   Ok tab R38 (.inLoop G34 :: .inBlock 0 :: k) #[K0,K1,K2,ptr M,K4,s,.int .i64 (sz : Nat),.int .i64 (left : Nat),K8,K9,Ka,Kb,Kc,Kd,Ke,Kf,Kg,Kh,Ki,Kj,Kk,Kl,Km,Kn,Ko,Kp,Kq,Kr,Ks,Kt,Ku,Kv,Kw,Kx,Ky,Kz,J0,J1,J2,J3,J4,J5,J6] H R:=by
 intro f
 induction f with
 | zero =>
  intro sz left xs s H;intros;rename_i hf h1 _ _ _ hz ho hl hlen hs
  obtain rfl : left = 0:=by omega
  simp only [Ghv,List.append_nil] at hz
  subst hz
  rw [Gad,Qbt,Gpz,Gqz]
  simp
  exact hk _ _ _ _ _ _ _ _ _ _ _ _ _ _ _ _ _ _ _ _ _ _ _ _ _ _ _ _ _ _ _ _ _ _ _ _ _ _ _ _ _ _ _ ho hl hlen hs
 | succ f ih =>
  intro sz left xs s H;intros;rename_i hf h1 h2 h3 h4 hz ho hl hlen hs
  by_cases hz0 : left = 0
  ·subst hz0
   unfold Ghv at hz
   rw [if_pos rfl,List.append_nil] at hz
   subst hz
   rw [Gad,Qbt,Gpz,Gqz]
   simp
   exact hk _ _ _ _ _ _ _ _ _ _ _ _ _ _ _ _ _ _ _ _ _ _ _ _ _ _ _ _ _ _ _ _ _ _ _ _ _ _ _ _ _ _ _ ho hl hlen hs
  ·unfold Ghv at hz
   rw [if_neg hz0] at hz
   obtain ⟨H1,ha,ho1,hl1,hk1⟩:=G4u (v:=min sz left) ho (by omega)
   have hlow : ∀ id,id < B→blk? H1 id = blk? h0 id:=fun id hid=>by rw [hk1 id (by omega) (fun x=>by have:=hs id x; omega),hl id hid]
   have hb : blk? H M = some ⟨false,[.bool m.byp,.bool m.res,.bool m.rst,.bool m.cz,.bool m.sy]⟩:=by rw [hl M hMB]; exact hM
   have hb1 : blk? H1 M = some ⟨false,[.bool m.byp,.bool m.res,.bool m.rst,.bool m.cz,.bool m.sy]⟩:=by rw [hlow M hMB]; exact hM
   have hpos : 0 < left:=by omega
   have hmin : min (sz : Int) (left : Int) = ((min sz left : Nat) : Int):=by omega
   have hw : IntKind.i64.wrap ((left : Int) - ((min sz left : Nat) : Int)) = ((left - min sz left : Nat) : Int):=by rw [Gan (by omega) (by omega)]; omega
   have ih':=fun K0 K1 K2 K4 K8 K9 Ka Kb Kc Kd Ke Kf Kg Kh Ki Kj Kk Kl Km Kn Ko Kp Kq Kr Ks Kt Ku Kv Kw Kx Ky Kz J0 J1 J2 J3 J4 J5 J6=>ih (Ge5 m sz) (left - min sz left) (xs++[min sz left]) (.slice (some ⟨H.length + 1,0,none⟩) (xs.length + 1) 1) H1 K0 K1 K2 K4 K8 K9 Ka Kb Kc Kd Ke Kf Kg Kh Ki Kj Kk Kl Km Kn Ko Kp Kq Kr Ks Kt Ku Kv Kw Kx Ky Kz J0 J1 J2 J3 J4 J5 J6 (by omega) (Gh7 h1) (by unfold Ge5; split <;> (try split) <;> omega) (by omega) (by simp; omega)
    (by rw [List.append_assoc]; exact hz) ho1 hlow (by omega) (fun id hid=>by simp [sid] at hid; omega)
   unfold Ge5 at ih'
   generalize ((left - min sz left : Nat) : Int) = l2 at *
   generalize hmm : ((min sz left : Nat) : Int) = mm at *
   rw [Gad,Qbt,Gpz,Gqz]
   cases hbp : m.byp with
   | false =>
    rw [hbp] at hb hb1 ih'
    simp only [Bool.false_eq_true,false_and,if_false] at ih'
    simp [Gaa,Gd4,hb,hb1,hpos,Gci,Gcq,mn2,hmin,ha,hw]
    exact ih' ..
   | true =>
    rw [hbp] at hb hb1 ih'
    cases hrs : m.res with
    | true =>
     rw [hrs] at hb hb1 ih'
     simp only [Bool.true_eq_false,and_false,if_false] at ih'
     simp [Gaa,Gd4,hb,hb1,hpos,Gci,Gcq,mn2,hmin,ha,hw]
     exact ih' ..
    | false =>
     rw [hrs] at hb hb1 ih'
     simp only [and_self,if_true] at ih'
     by_cases h22 : sz = 2
     ·subst h22
      simp only [if_true] at ih'
      have hmin3 : min 2 (left : Int) = mm:=hmin
      simp [Gaa,Gd4,hb,hb1,hpos,Gci,Gcq,mn2,hmin3,ha,hw]
      exact ih' ..
     ·have h22' : ((sz : Int) == 2) = false:=beq_eq_false_iff_ne.2 (by omega)
      have h22'' : ¬ (sz : Int) = 2:=by omega
      rw [if_neg h22] at ih'
      simp [Gaa,Gd4,hb,hb1,hpos,Gci,Gcq,mn2,hmin,ha,hw,h22',h22'']
      exact ih' ..
theorem G7p (n : Nat) (m : MD) (hn : n < 9000000000) : ∃ h' s,(∀ R,Ret tab 38 [.int .i64 (n : Nat),m.val] h R = R s h')∧Ga7 h' 1 s (Gba m n).length (nI (Gba m n))∧(∀ id,id < h.length→blk? h' id = blk? h id)∧h.length≤h'.length∧(∀ id,sid s = some id→h.length≤id):=by
 have key : ∀ R0 : RP,(∀ h' s,Ga7 h' 1 s (Gba m n).length (nI (Gba m n))→(∀ id,id < h.length→blk? h' id = blk? h id)→h.length≤h'.length→(∀ id,sid s = some id→h.length≤id)→R0 s h') →
   Ret tab 38 [.int .i64 (n : Nat),m.val] h R0:=by
  intro R0 hR
  have hlow0 : ∀ x : Option Blk,∀ id,id < h.length→blk? (h++[x]) id = blk? h id:=fun x id hid=>blk?_push_lt hid
  have hempty : (n < 1∨178 < n)→R0 (.slice none 0 0) (h++[some ⟨false,[.bool m.byp,.bool m.res,.bool m.rst,.bool m.cz,.bool m.sy]⟩]):=fun hx=>by
   have e : Gba m n = []:=by unfold Gba; rw [if_pos hx]
   exact hR _ _ (by rw [e]; exact Ga7.nil _ _) (hlow0 _) (by simp) (fun id hid=>by simp [sid] at hid)
  rw [G9j,B38]
  by_cases h1 : n < 1
  ·have h1' : (n : Int) < 1:=by omega
   simp [Gaa,MD.val,h1',G91]
   exact hempty (.inl h1)
  have h1' : ¬ (n : Int) < 1:=by omega
  by_cases h2 : 178 < n
  ·have h2' : (178 : Int) < n:=by omega
   simp [Gaa,MD.val,h1',h2',G91]
   exact hempty (.inr h2)
  have h2' : ¬ (178 : Int) < n:=by omega
  have e : Gba m n = Ghv m n (Gb6 m n) n:=by unfold Gba; rw [if_neg (by omega)]
  rw [e] at hR
  generalize hH : h++[some (⟨false,[.bool m.byp,.bool m.res,.bool m.rst,.bool m.cz,.bool m.sy]⟩ : Blk)] = H
  have hbM : blk? H h.length = some ⟨false,[.bool m.byp,.bool m.res,.bool m.rst,.bool m.cz,.bool m.sy]⟩:=by rw [← hH]; exact blk?_push_eq
  have hHl : H.length = h.length + 1:=by rw [← hH]; simp
  have hfirst : 1≤Gb6 m n∧Gb6 m n≤1000:=by unfold Gb6; split <;> (try split) <;> omega
  have hL:=fun K0 K1 K2 K4 K8 K9 Ka Kb Kc Kd Ke Kf Kg Kh Ki Kj Kk Kl Km Kn Ko Kp Kq Kr Ks Kt Ku Kv Kw Kx Ky Kz J0 J1 J2 J3 J4 J5 J6=>G3r (R:=R0) (zs:=Ghv m n (Gb6 m n) n) (m:=m) (B:=h.length + 1) (M:=h.length) (h0:=H) (by omega) hbM (k:=[.code (tlC 7 B38)])
   (fun H' s K0 K1 K2 K4 K6 K7 K8 K9 Ka Kb Kc Kd Ke Kf Kg Kh Ki Kj Kk Kl Km Kn Ko Kp Kq Kr Ks Kt Ku Kv Kw Kx Ky Kz J0 J1 J2 J3 J4 J5 J6 ho hl hlen hs=>by
    show Ok tab R38 [.code (.seq (Gau 7 B38) (tlC 8 B38))] _ H' R0
    simp only [Gau,tlC,Gd5,B38]
    simp [G91]
    exact hR _ _ ho (fun id hid=>by rw [hl id (by omega),← hH]; exact blk?_push_lt hid) (by omega) (fun id hid=>by have:=hs id hid; omega))
   n (Gb6 m n) n [] (.slice none 0 0) H K0 K1 K2 K4 K8 K9 Ka Kb Kc Kd Ke Kf Kg Kh Ki Kj Kk Kl Km Kn Ko Kp Kq Kr Ks Kt Ku Kv Kw Kx Ky Kz J0 J1 J2 J3 J4 J5 J6 (Nat.le_refl _) hfirst.1 hfirst.2 (by omega) (by simp; omega) rfl (Ga7.nil _ _) (fun _ _=>rfl) (by omega) (fun id hid=>by simp [sid] at hid)
  unfold Gb6 at hL
  simp only [tlC,B38] at hL
  cases hbp : m.byp <;> cases hrs : m.res <;> rw [hbp,hrs] at hbM hH <;> simp only [hbp,hrs,Bool.false_eq_true,if_false,if_true] at hL <;> simp [Gaa,MD.val,h1',h2',hbp,hrs,hH,hbM]
  ·exact hL ..
  ·exact hL ..
  ·exact hL ..
  ·exact hL ..
 obtain ⟨v,h',ee,A,B,C,D⟩:=Gck (key (fun s h'=>Ga7 h' 1 s (Gba m n).length (nI (Gba m n))∧(∀ id,id < h.length→blk? h' id = blk? h id)∧h.length≤h'.length∧(∀ id,sid s = some id→h.length≤id)) (fun h' s A B C D=>⟨A,B,C,D⟩))
 exact ⟨h',v,ee,A,B,C,D⟩
end
def Gje : List (Int × Int)→List Value
 | []=>[]
 | p :: l=>.int .i64 p.1 :: .int .i64 p.2 :: Gje l
theorem Gol : ∀ a,(Gje a).length = a.length * 2
 | []=>rfl
 | p :: a=>by rw [Gje,List.length_cons,List.length_cons,Gol a,List.length_cons]; omega
theorem Glk : ∀ a b,Gje (a++b) = Gje a++Gje b
 | [],b=>rfl
 | p :: a,b=>by rw [List.cons_append,Gje,Gje,Glk a b]; rfl
theorem Gns : ∀ (l : List (Int × Int)) (i : Nat) (h : i < l.length),(Gje l)[i * 2]? = some (.int .i64 l[i].1)∧(Gje l)[i * 2 + 1]? = some (.int .i64 l[i].2)
 | [],i,h=>by simp at h
 | p :: l,0,_=>by simp [Gje]
 | p :: l,i + 1,h=>by
  obtain ⟨a,b⟩:=Gns l i (by simpa using h)
  rw [Gje,show (i + 1) * 2 + 1 = i * 2 + 1 + 1 + 1 by omega,show (i + 1) * 2 = i * 2 + 1 + 1 by omega]
  simpa using ⟨a,b⟩
structure Far (h : Gag) (s : Value) (l : List (Int × Int)) (c ob : Nat) (sv : Value) : Prop where
 sl : Sl h 2 s l.length (Gje l)
 far : ∀ id,sid s = some id→id < h.length∧id ≠ c∧id ≠ ob∧sid sv ≠ some id
theorem Far.stp {h h' : Gag} {s : Value} {l : List (Int × Int)} {c ob : Nat} {sv sv' : Value} (hf : Far h s l c ob sv) (hs : Stp h h' c ob sv sv') : Far h' s l c ob sv':=by
 refine ⟨hf.sl.of_sid fun id b hid hb=>?_,fun id hid=>?_⟩
 ·obtain ⟨a1,a2,a3,a4⟩:=hf.far id hid
  rw [hs.same id a1 a2 a3 a4]; exact hb
 ·obtain ⟨a1,a2,a3,a4⟩:=hf.far id hid
  refine ⟨Nat.lt_of_lt_of_le a1 hs.len,a2,a3,fun e=>?_⟩
  rcases hs.fresh id e with h | h
  ·exact a4 h
  ·omega
theorem two {l : List Value} {m : Nat} {x y : Value} (h1 : l[m]? = some x) (h2 : l[m + 1]? = some y) : (l.drop m).take 2 = [x,y]∧m + 2≤l.length:=by
 have hl:=(List.getElem?_eq_some_iff.1 h2).1
 refine ⟨?_,by omega⟩
 apply List.ext_getElem?
 intro j
 rw [List.getElem?_take]
 match j with
 | 0=>simpa using h1
 | 1=>simpa using h2
 | j + 2=>rw [if_neg (by omega)]; simp
theorem Far.get {h : Gag} {s : Value} {l : List (Int × Int)} {c ob : Nat} {sv : Value} (hf : Far h s l c ob sv) {i : Nat} (hi : i < l.length) :
  ∃ id off b,s = .slice (some ⟨id,off,none⟩) l.length 2∧blk? h id = some b∧(b.cells.drop (off + i * 2)).take 2 = [.int .i64 l[i].1,.int .i64 l[i].2]∧off + i * 2 + 2≤b.cells.length:=by
 obtain ⟨id,off,b,rfl,hb,hc⟩:=hf.sl.get hi
 obtain ⟨g0,g1⟩:=Gns l i hi
 have c0:=hc 0 (by omega)
 have c1:=hc 1 (by omega)
 rw [Nat.add_zero,Nat.add_zero,g0] at c0
 rw [g1] at c1
 obtain ⟨ht,hle⟩:=two c0 c1
 exact ⟨id,off,b,rfl,hb,ht,hle⟩
section
variable {h : Gag} {q p c pb ob : Nat} {P : PP} {sv : Value} {σ : ES}
theorem G8a (he : PE h q p c pb ob P sv σ) (hn : σ.out.length + 2 < 1000000) {x y : Int} (hi : σ.b.inb x y) :
  ∃ sv' h',(∀ R,Ret tab 163 [ptr q,.int .i64 x,.int .i64 y] h R = R (.tuple #[]) h')∧PE h' q p c pb ob P sv' (σ.code P x y)∧Stp h h' c ob sv sv':=by
 obtain ⟨sv1,h1,e1,p1,s1⟩:=Giu he (by omega) (Gf1 P σ.b x y) (Gbn (σ.b.get x y).v P.s)
 have hq:=he.pr.blk
 have hq1:=p1.pr.blk
 obtain ⟨n1,n2,n3⟩:=G08 σ.b x y P.cz
 have hnb:=fun R=>Gfg (R:=R) he.pr.cb hi P.cz
 have hbit:=fun R=>Qa9 (R:=R) (x:=x) (y:=y) he.pr
 have hsg:=fun R=>Ggq (h:=h) (R:=R) he.pr.pok.o1 n1 n2 n3
 change ∀ R,Ret tab _ _ h R = R (.int .i64 (Gf1 P σ.b x y)) h at hsg
 unfold ES.code
 by_cases hb : Gbn (σ.b.get x y).v P.s = 1
 ·obtain ⟨sv2,h2,e2,p2,s2⟩:=G8j p1 (by simp [ES.emit]; omega) hi
  rw [if_pos hb]
  refine ⟨sv2,h2,fun R=>?_,p2,s1.trans s2⟩
  rw [hb] at hbit e1
  rw [Gun,Qfa]
  simp at hbit e1
  simp [hq,hq1,hnb,hbit,hsg,e1,e2,G6r,book,Gd0,Gb5,Ghw,Gbq,Gcg]
 ·have hb0 : Gbn (σ.b.get x y).v P.s = 0:=by unfold Gbn at *; omega
  rw [if_neg hb]
  refine ⟨sv1,h1,fun R=>?_,p1,s1⟩
  rw [hb0] at hbit e1
  rw [Gun,Qfa]
  simp at hbit e1
  simp [hq,hq1,hnb,hbit,hsg,e1,G6r,book,Gd0,Gb5,Ghw,Gbq,Gcg]
end
structure Mk (B : Nat) (h0 h : Gag) (s : Value) (l : List (Int × Int)) : Prop where
 own : Ga7 h 2 s l.length (Gje l)
 low : ∀ id,id < B→blk? h id = blk? h0 id
 len : B≤h.length
 far : ∀ id,sid s = some id→B≤id
theorem Mk.push {B : Nat} {h0 h : Gag} {s : Value} {l : List (Int × Int)} (m : Mk B h0 h s l) (hl : l.length < 100000) (x y : Int) :
  ∃ s' H,Gb0 (h++[some ⟨false,[.int .i64 x,.int .i64 y]⟩]) 2 16 s (.slice (some ⟨h.length,0,none⟩) 1 2) = some (s',H)∧Mk B h0 H s' (l++[(x,y)]):=by
 have hsl : Sl (h++[some ⟨false,[.int .i64 x,.int .i64 y]⟩]) 2 (.slice (some ⟨h.length,0,none⟩) 1 2) 1 [.int .i64 x,.int .i64 y] :=
  ⟨by simp,.inr ⟨h.length,0,rfl,.inr ⟨_,blk?_push_eq,by simp,by simp⟩⟩⟩
 have ho : Ga7 (h++[some ⟨false,[.int .i64 x,.int .i64 y]⟩]) 2 s l.length (Gje l):=m.own.of_blk fun id _ hb=>blk?_push hb
 obtain ⟨H,ha,hK,hHl,hHs⟩:=Gbs (bytes:=16) ho hsl (by unfold Gaq; omega) (by omega) (by omega)
 simp only [List.length_append,List.length_singleton] at ha hK hHl hHs
 have hlen:=m.len
 refine ⟨_,H,ha,⟨⟨by rw [Gol],.inr ⟨h.length + 1,by simp,?_⟩⟩,fun id hid=>?_,by omega,fun id hid=>?_⟩⟩
 ·rw [hK,Glk]; rfl
 ·rw [hHs id (by omega) (fun e=>by have:=m.far id e; omega),blk?_push_lt (by omega)]
  exact m.low id hid
 ·simp [sid] at hid; omega
theorem Qbd {top : Int} {hh : Nat} (h0 : 0≤top) : (if (hh : Int) < top + 4 then (hh : Int) else top + 4) = min (top + 4) (hh : Int):=by split <;> omega
theorem Gyd {w hh : Nat} (w1 : 1≤w) (w2 : w≤64) (h1 : 1≤hh) (h2 : hh≤64) {h : Gag} {R : RP} : Ret tab 105 [.int .i64 w,.int .i64 hh] h R = R (.bool true) h:=by
 have a1 : (1 : Int)≤w:=by omega
 have a2 : (w : Int)≤64:=by omega
 have a3 : (1 : Int)≤hh:=by omega
 have a4 : (hh : Int)≤64:=by omega
 rw [Gt0,Qez]
 simp [Gaa,a1,a2,a3,a4,Gqy]
section
variable {B w hh : Nat} {h0 : Gag} {R : RP} {k : List Ga1} {v4 : Value}
theorem G8v (hh2 : hh≤64) {top x : Int} (ht : 0≤top∧top < 64) :
  ∀ (n : Nat) (y : Int) (h : Gag) (s : Value) (l : List (Int × Int)) (K2 K3 K9 Ka Kb Kc Kd Ke Kf Kg Kh Ki Kj Kk Kl Km Kn Ko Kp Kq Kr Ks Kt Ku Kv Kw Kx Ky Kz J0 J1 J2 J3 J4 J5 J6 : Value),y + n = min (top + 4) hh→top≤y→Mk B h0 h s l→l.length + n≤20000 →
   (∀ (h' : Gag) (s' : Value) (y' : Int) (K2 K3 K9 Ka Kb Kc Kd Ke Kf Kg Kh Ki Kj Kk Kl Km Kn Ko Kp Kq Kr Ks Kt Ku Kv Kw Kx Ky Kz J0 J1 J2 J3 J4 J5 J6 : Value),Mk B h0 h' s' (l++Gcz x y n)→Ok tab Gyq k #[.int .i64 w,.int .i64 hh,K2,K3,v4,s',.int .i64 top,.int .i64 x,.int .i64 y',K9,Ka,Kb,Kc,Kd,Ke,Kf,Kg,Kh,Ki,Kj,Kk,Kl,Km,Kn,Ko,Kp,Kq,Kr,Ks,Kt,Ku,Kv,Kw,Kx,Ky,Kz,J0,J1,J2,J3,J4,J5,J6] h' R) →
   Ok tab Gyq (.inLoop Gvz :: .inBlock 4 :: k) #[.int .i64 w,.int .i64 hh,K2,K3,v4,s,.int .i64 top,.int .i64 x,.int .i64 y,K9,Ka,Kb,Kc,Kd,Ke,Kf,Kg,Kh,Ki,Kj,Kk,Kl,Km,Kn,Ko,Kp,Kq,Kr,Ks,Kt,Ku,Kv,Kw,Kx,Ky,Kz,J0,J1,J2,J3,J4,J5,J6] h R:=by
 intro n
 induction n with
 | zero =>
  intro y h s l;intros;rename_i hy hty m hl hk
  have hw : IntKind.i64.wrap (top + 4) = top + 4:=Gan (by omega) (by omega)
  have hlt : ¬ y < min (top + 4) (hh : Int):=by omega
  have:=hk h s y
  rw [Gcz,List.append_nil] at this
  rw [Gad,G0j,Gll,Gk8]
  simp [hw,Gci,Gcq,Gfo,Qbd (hh:=hh) ht.1]
  simp [hlt]
  exact this _ _ _ _ _ _ _ _ _ _ _ _ _ _ _ _ _ _ _ _ _ _ _ _ _ _ _ _ _ _ _ _ _ _ _ _ m
 | succ n ih =>
  intro y h s l;intros;rename_i hy hty m hl hk
  have hw : IntKind.i64.wrap (top + 4) = top + 4:=Gan (by omega) (by omega)
  have hw1 : IntKind.i64.wrap (y + 1) = y + 1:=Gan (by omega) (by omega)
  have hlt : y < min (top + 4) (hh : Int):=by omega
  obtain ⟨s',H,ha,m'⟩:=m.push (by omega) x y
  rw [Gad,G0j,Gll,Gk8]
  simp [hw,Gci,Gcq,Gfo,Qbd (hh:=hh) ht.1]
  simp [hlt,hw1,Gd4,ha]
  refine ih (y + 1) H s' (l++[(x,y)]) _ _ _ _ _ _ _ _ _ _ _ _ _ _ _ _ _ _ _ _ _ _ _ _ _ _ _ _ _ _ _ _ _ _ _ _ (by omega) (by omega) m' (by simp; omega) ?_
  intro h' s'' y';intros;rename_i m2
  exact hk h' s'' y' _ _ _ _ _ _ _ _ _ _ _ _ _ _ _ _ _ _ _ _ _ _ _ _ _ _ _ _ _ _ _ _ _ _ _ _ (by rw [Gcz]; simpa using m2)
theorem Qav (hh2 : hh≤64) (hw2 : w≤64) {top : Int} (ht : 0≤top∧top < 64) :
  ∀ (n : Nat) (x : Int) (h : Gag) (s : Value) (l : List (Int × Int)) (K2 K3 K8 K9 Ka Kb Kc Kd Ke Kf Kg Kh Ki Kj Kk Kl Km Kn Ko Kp Kq Kr Ks Kt Ku Kv Kw Kx Ky Kz J0 J1 J2 J3 J4 J5 J6 : Value),x + n = w→0≤x→Mk B h0 h s l→l.length + 4 * n≤20000 →
   (∀ (h' : Gag) (s' : Value) (x' : Int) (K2 K3 K8 K9 Ka Kb Kc Kd Ke Kf Kg Kh Ki Kj Kk Kl Km Kn Ko Kp Kq Kr Ks Kt Ku Kv Kw Kx Ky Kz J0 J1 J2 J3 J4 J5 J6 : Value),Mk B h0 h' s' (l++Ga3 hh x top n)→Ok tab Gyq k #[.int .i64 w,.int .i64 hh,K2,K3,v4,s',.int .i64 top,.int .i64 x',K8,K9,Ka,Kb,Kc,Kd,Ke,Kf,Kg,Kh,Ki,Kj,Kk,Kl,Km,Kn,Ko,Kp,Kq,Kr,Ks,Kt,Ku,Kv,Kw,Kx,Ky,Kz,J0,J1,J2,J3,J4,J5,J6] h' R) →
   Ok tab Gyq (.inLoop Gwt :: .inBlock 2 :: k) #[.int .i64 w,.int .i64 hh,K2,K3,v4,s,.int .i64 top,.int .i64 x,K8,K9,Ka,Kb,Kc,Kd,Ke,Kf,Kg,Kh,Ki,Kj,Kk,Kl,Km,Kn,Ko,Kp,Kq,Kr,Ks,Kt,Ku,Kv,Kw,Kx,Ky,Kz,J0,J1,J2,J3,J4,J5,J6] h R:=by
 intro n
 induction n with
 | zero =>
  intro x h s l;intros;rename_i hx h0x m hl hk
  have hlt : ¬ x < (w : Int):=by omega
  have:=hk h s x
  rw [Ga3,List.append_nil] at this
  rw [Gad,G7k,Goh,Gpm]
  simp [hlt]
  exact this _ _ _ _ _ _ _ _ _ _ _ _ _ _ _ _ _ _ _ _ _ _ _ _ _ _ _ _ _ _ _ _ _ _ _ _ _ m
 | succ n ih =>
  intro x h s l;intros;rename_i hx h0x m hl hk
  have hw1 : IntKind.i64.wrap (x + 1) = x + 1:=Gan (by omega) (by omega)
  have hlt : x < (w : Int):=by omega
  rw [Gad,G7k,Goh,Gpm]
  simp [hlt]
  by_cases hth : top≤hh
  ·refine G8v hh2 ht (min (top + 4) (hh : Int) - top).toNat top h s l _ _ _ _ _ _ _ _ _ _ _ _ _ _ _ _ _ _ _ _ _ _ _ _ _ _ _ _ _ _ _ _ _ _ _ _ (by omega) (by omega) m (by omega) ?_
   intro h' s' y';intros;rename_i m1
   simp [hw1]
   refine ih (x + 1) h' s' _ _ _ _ _ _ _ _ _ _ _ _ _ _ _ _ _ _ _ _ _ _ _ _ _ _ _ _ _ _ _ _ _ _ _ _ _ _ (by omega) (by omega) m1 (by rw [List.length_append,Ggg]; omega) ?_
   intro h'' s'' x';intros;rename_i m2
   exact hk h'' s'' x' _ _ _ _ _ _ _ _ _ _ _ _ _ _ _ _ _ _ _ _ _ _ _ _ _ _ _ _ _ _ _ _ _ _ _ _ _ (by rw [Ga3]; simpa using m2)
  ·have hw : IntKind.i64.wrap (top + 4) = top + 4:=Gan (by omega) (by omega)
   have hlt2 : ¬ top < min (top + 4) (hh : Int):=by omega
   rw [Gad,G0j,Gll,Gk8]
   simp [hw,Gci,Gcq,Gfo,Qbd (hh:=hh) ht.1]
   simp [hlt2,hw1]
   refine ih (x + 1) h s _ _ _ _ _ _ _ _ _ _ _ _ _ _ _ _ _ _ _ _ _ _ _ _ _ _ _ _ _ _ _ _ _ _ _ _ _ _ (by omega) (by omega) m (by omega) ?_
   intro h'' s'' x';intros;rename_i m2
   refine hk h'' s'' x' _ _ _ _ _ _ _ _ _ _ _ _ _ _ _ _ _ _ _ _ _ _ _ _ _ _ _ _ _ _ _ _ _ _ _ _ _ ?_
   rw [Ga3,show (min (top + 4) (hh : Int) - top).toNat = 0 by omega]
   simpa [Gcz] using m2
theorem Qby (hh2 : hh≤64) (hw2 : w≤64) :
  ∀ (n : Nat) (top : Int) (h : Gag) (s : Value) (l : List (Int × Int)) (K2 K3 K7 K8 K9 Ka Kb Kc Kd Ke Kf Kg Kh Ki Kj Kk Kl Km Kn Ko Kp Kq Kr Ks Kt Ku Kv Kw Kx Ky Kz J0 J1 J2 J3 J4 J5 J6 : Value),(hh : Int)≤top + 4 * n→top + 4 * n≤hh + 3→0≤top→Mk B h0 h s l→l.length + 4 * w * n≤20000 →
   (∀ (h' : Gag) (s' : Value) (K2 K3 K6 K7 K8 K9 Ka Kb Kc Kd Ke Kf Kg Kh Ki Kj Kk Kl Km Kn Ko Kp Kq Kr Ks Kt Ku Kv Kw Kx Ky Kz J0 J1 J2 J3 J4 J5 J6 : Value),Mk B h0 h' s' (l++Gbw w hh top n)→Ok tab Gyq k #[.int .i64 w,.int .i64 hh,K2,K3,v4,s',K6,K7,K8,K9,Ka,Kb,Kc,Kd,Ke,Kf,Kg,Kh,Ki,Kj,Kk,Kl,Km,Kn,Ko,Kp,Kq,Kr,Ks,Kt,Ku,Kv,Kw,Kx,Ky,Kz,J0,J1,J2,J3,J4,J5,J6] h' R) →
   Ok tab Gyq (.inLoop Gw1 :: .inBlock 0 :: k) #[.int .i64 w,.int .i64 hh,K2,K3,v4,s,.int .i64 top,K7,K8,K9,Ka,Kb,Kc,Kd,Ke,Kf,Kg,Kh,Ki,Kj,Kk,Kl,Km,Kn,Ko,Kp,Kq,Kr,Ks,Kt,Ku,Kv,Kw,Kx,Ky,Kz,J0,J1,J2,J3,J4,J5,J6] h R:=by
 intro n
 induction n with
 | zero =>
  intro top h s l;intros;rename_i hx hx2 h0x m hl hk
  have hlt : ¬ top < (hh : Int):=by omega
  have:=hk h s
  rw [Gbw,List.append_nil] at this
  rw [Gad,G8h,Gor,Gnk]
  simp [hlt]
  exact this _ _ _ _ _ _ _ _ _ _ _ _ _ _ _ _ _ _ _ _ _ _ _ _ _ _ _ _ _ _ _ _ _ _ _ _ _ _ _ m
 | succ n ih =>
  intro top h s l;intros;rename_i hx hx2 h0x m hl hk
  have hw1 : IntKind.i64.wrap (top + 4) = top + 4:=Gan (by omega) (by omega)
  have hlt : top < (hh : Int):=by omega
  have hmul : 4 * w * (n + 1) = 4 * w * n + 4 * w:=by rw [Nat.mul_add]; omega
  rw [Gad,G8h,Gor,Gnk]
  simp [hlt]
  refine Qav hh2 hw2 ⟨h0x,by omega⟩ w 0 h s l _ _ _ _ _ _ _ _ _ _ _ _ _ _ _ _ _ _ _ _ _ _ _ _ _ _ _ _ _ _ _ _ _ _ _ _ _ (by omega) (by omega) m (by omega) ?_
  intro h' s' x';intros;rename_i m1
  simp [hw1]
  refine ih (top + 4) h' s' _ _ _ _ _ _ _ _ _ _ _ _ _ _ _ _ _ _ _ _ _ _ _ _ _ _ _ _ _ _ _ _ _ _ _ _ _ _ _ (by omega) (by omega) (by omega) m1 (by rw [List.length_append]; have:=Gfb hh w 0 top; omega) ?_
  intro h'' s'';intros;rename_i m2
  exact hk h'' s'' _ _ _ _ _ _ _ _ _ _ _ _ _ _ _ _ _ _ _ _ _ _ _ _ _ _ _ _ _ _ _ _ _ _ _ _ _ _ _ (by rw [Gbw]; simpa using m2)
end
theorem G7x {w hh : Nat} (w1 : 1≤w) (w2 : w≤64) (h1 : 1≤hh) (h2 : hh≤64) (h : Gag) :
  ∃ s h',(∀ R,Ret tab 139 [.int .i64 w,.int .i64 hh] h R = R s h')∧Mk h.length h h' s (scan w hh):=by
 have hs : ∀ h R,Ret tab 105 [.int .i64 w,.int .i64 hh] h R = R (.bool true) h:=fun h R=>Gyd w1 w2 h1 h2
 have key : Ret tab 139 [.int .i64 w,.int .i64 hh] h fun s h'=>Mk h.length h h' s (scan w hh):=by
  have hm : w * hh≤64 * 64:=Nat.mul_le_mul w2 h2
  have hst : 4 * w * Gai hh≤4 * 64 * 16:=Nat.mul_le_mul (by omega) (by unfold Gai; omega)
  have g1 : (hh : Int)≤0 + 4 * (Gai hh : Nat):=by unfold Gai; omega
  have g2 : 0 + 4 * ((Gai hh : Nat) : Int)≤hh + 3:=by unfold Gai; omega
  rw [G2j,B139]
  have hw : IntKind.i64.wrap ((w : Int) * hh) = ((w * hh : Nat) : Int):=by rw [← Int.natCast_mul]; exact Gbc (by omega)
  have hr : ((w * hh : Nat) : Int)≤(Gaq : Int):=by unfold Gaq; omega
  simp [-Int.natCast_mul,hs,hw,hr,Gd4]
  refine Qby h2 w2 (Gai hh) 0 _ _ [] _ _ _ _ _ _ _ _ _ _ _ _ _ _ _ _ _ _ _ _ _ _ _ _ _ _ _ _ _ _ _ _ _ _ _ _ _ _ g1 g2 (by omega) ⟨⟨rfl,.inr ⟨h.length,rfl,blk?_push_eq⟩⟩,fun id hid=>blk?_push_lt hid,by simp,fun id hid=>by simp [sid] at hid; omega⟩ (by simp; omega) ?_
  intro h' s';intros;rename_i m
  simp [fin139]
  simpa [scan] using m
 obtain ⟨v,h',e,m⟩:=Gck key
 exact ⟨v,h',e,m⟩
section
variable {B w hh : Nat} {h0 : Gag} {R : RP} {k : List Ga1} {v4 : Value}
end
theorem Stp.low {h h' : Gag} (hk : ∀ id,id < h.length→blk? h' id = blk? h id) (hl : h.length≤h'.length) (c ob : Nat) (sv : Value) : Stp h h' c ob sv sv:=⟨hl,fun id h1 _ _ _=>hk id h1,fun _ h=>.inl h⟩
section
variable {h : Gag} {q p c pb ob : Nat} {P : PP} {sv : Value} {σ : ES}
theorem PE.low (he : PE h q p c pb ob P sv σ) {h' : Gag} (hk : ∀ id,id < h.length→blk? h' id = blk? h id) (hl : h.length≤h'.length) : PE h' q p c pb ob P sv σ:=by
 obtain ⟨l1,l2,l3,l4,l5⟩:=he.lts
 refine ⟨he.pr.keep (fun id hid=>hk id ?_) (by simp; omega),by rw [hk _ l4]; exact he.pbk,by rw [hk _ l5]; exact he.obk,he.own.of_blk (fun id _ hb=>by rw [hk _ (blk?_lt hb)]; exact hb),he.n1,he.n2,he.n3⟩
 rcases hid with rfl | rfl | rfl <;> assumption
theorem PE.good (he : PE h q p c pb ob P sv σ) : σ.b.Good:=⟨he.pr.cb.ok,he.pr.rng⟩
theorem PE.scan (he : PE h q p c pb ob P sv σ) : ∃ s h',(∀ R,Ret tab 139 [.int .i64 σ.b.w,.int .i64 σ.b.h] h R = R s h')∧PE h' q p c pb ob P sv σ∧Stp h h' c ob sv sv∧Far h' s (scan σ.b.w σ.b.h) c ob sv:=by
 have ho:=he.pr.cb.ok
 obtain ⟨l1,l2,l3,l4,l5⟩:=he.lts
 obtain ⟨s,h',e,m⟩:=G7x ho.w1 ho.w2 ho.h1 ho.h2 h
 refine ⟨s,h',e,he.low m.low m.len,Stp.low m.low m.len c ob sv,⟨m.own.sl,fun id hid=>?_⟩⟩
 have h1:=m.far id hid
 refine ⟨?_,by omega,by omega,fun e=>by have:=he.own.lt e; omega⟩
 rcases m.own.2 with ⟨rfl,_⟩ | ⟨id',rfl,hb⟩
 ·simp [sid] at hid
 ·simp [sid] at hid; subst hid; exact blk?_lt hb
theorem G4b {s : Value} {pts : List (Int × Int)} {k : List Ga1} {R : RP} :
  ∀ (m i : Nat) (h : Gag) (sv : Value) (σ : ES) (K1 K2 K3 K4 K5 K6 K7 K8 K9 Ka Kb Kf Kg Kh Ki Kj Kk Kl Km Kn Ko Kp Kq Kr Ks Kt Ku Kv Kw Kx Ky Kz J0 J1 J2 J3 J4 J5 J6 J7 J8 J9 Ja Jb Jc Jd Je Jf : Value),m = pts.length - i→i≤pts.length→PE h q p c pb ob P sv σ→Far h s pts c ob sv→Gca σ.b pts→σ.out.length + 2 * m + 3 < 1000000→pts.length < 1000000 →
   (∀ (h' : Gag) (sv' : Value) (K1 K2 K3 K4 K5 K6 K7 K8 K9 Ka Kb Kc Kd Ke Kf Kg Kh Ki Kj Kk Kl Km Kn Ko Kp Kq Kr Ks Kt Ku Kv Kw Kx Ky Kz J0 J1 J2 J3 J4 J5 J6 J7 J8 J9 Ja Jb Jc Jd Je Jf : Value),PE h' q p c pb ob P sv' (σ.sigs P (pts.drop i))→Stp h h' c ob sv sv'→Ok tab G8x k #[ptr q,K1,K2,K3,K4,K5,K6,K7,K8,K9,Ka,Kb,Kc,Kd,Ke,Kf,Kg,Kh,Ki,Kj,Kk,Kl,Km,Kn,Ko,Kp,Kq,Kr,Ks,Kt,Ku,Kv,Kw,Kx,Ky,Kz,J0,J1,J2,J3,J4,J5,J6,J7,J8,J9,Ja,Jb,Jc,Jd,Je,Jf] h' R) →
   Ok tab G8x (.inLoop Gtr :: .inBlock 0 :: k) #[ptr q,K1,K2,K3,K4,K5,K6,K7,K8,K9,Ka,Kb,s,.int .i64 pts.length,.int .i64 i,Kf,Kg,Kh,Ki,Kj,Kk,Kl,Km,Kn,Ko,Kp,Kq,Kr,Ks,Kt,Ku,Kv,Kw,Kx,Ky,Kz,J0,J1,J2,J3,J4,J5,J6,J7,J8,J9,Ja,Jb,Jc,Jd,Je,Jf] h R:=by
 intro m
 induction m with
 | zero =>
  intro i h sv σ;intros;rename_i hm hi he hf ha hl hpl hk
  have hlt : ¬ ((i : Int) < pts.length):=by omega
  rw [Gad,G8k,Goo,Gos]
  simp [hlt]
  refine hk h sv _ _ _ _ _ _ _ _ _ _ _ _ _ _ _ _ _ _ _ _ _ _ _ _ _ _ _ _ _ _ _ _ _ _ _ _ _ _ _ _ _ _ _ _ _ _ _ _ _ _ _ ?_ (Stp.refl _ _ _ _)
  rw [List.drop_of_length_le (by omega)]; exact he
 | succ m ih =>
  intro i h sv σ;intros;rename_i hm hi he hf ha hl hpl hk
  have hlt : ((i : Int) < pts.length):=by omega
  have hw : IntKind.i64.wrap ((i : Int) + 1) = (i : Int) + 1:=Gbc (n:=i + 1) (by omega)
  have hil : i < pts.length:=by omega
  obtain ⟨id,off,blk,hs,hb,ht,hle⟩:=hf.get hil
  have hin:=ha _ (List.getElem_mem hil)
  have hsp : ∀ τ : ES,τ = σ.sig1 P pts[i].1 pts[i].2→σ.sigs P (pts.drop i) = τ.sigs P (pts.drop (i + 1)):=by
   intro τ hτ
   rw [List.drop_eq_getElem_cons hil,hτ]; rfl
  have hle1:=Gzg (P:=P) he.good hin
  generalize hx : pts[i].1 = x at *
  generalize hy : pts[i].2 = y at *
  have he2:=he.push (some ⟨false,[.int .i64 x,.int .i64 y]⟩)
  have hs2:=Stp.push h (some ⟨false,[.int .i64 x,.int .i64 y]⟩) c ob sv
  have hf2:=hf.stp hs2
  have hK : ∀ y : Blk,blk? (h++[some y]) h.length = some y:=fun y=>blk?_push_eq
  obtain ⟨l1,l2,l3,l4,l5⟩:=he.lts
  have hq2:=he2.pr.blk
  have hcb2:=he2.pr.cb
  have hsig:=fun R=>Gay (R:=R) (x:=x) (y:=y) hcb2
  have hnb:=fun R=>Gfm (R:=R) (x:=x) (y:=y) he2.pr hin
  rw [Gad,G8k,Goo,Gos]
  cases hsg : (σ.b.get x y).s
  ·cases hnr : Gg8 σ.b x y P.cz
   ·have h1 : σ.sig1 P x y = σ:=by unfold ES.sig1; rw [if_neg (by simp [hnr])]
    rw [hsg] at hsig; rw [hnr] at hnb
    simp [-List.cons_append,-List.append_assoc,Gaa,hlt,hw,hs,hb,ht,hle,hK,hq2,hsig,hnb]
    rw [← hs]
    refine ih (i + 1) _ sv σ _ _ _ _ _ _ _ _ _ _ _ _ _ _ _ _ _ _ _ _ _ _ _ _ _ _ _ _ _ _ _ _ _ _ _ _ _ _ _ _ _ _ _ _ _ _ _ _ (by omega) (by omega) he2 hf2 ha (by omega) hpl ?_
    intro h' sv';intros;rename_i pe st
    exact hk h' sv' _ _ _ _ _ _ _ _ _ _ _ _ _ _ _ _ _ _ _ _ _ _ _ _ _ _ _ _ _ _ _ _ _ _ _ _ _ _ _ _ _ _ _ _ _ _ _ _ _ _ _ (by rw [hsp σ h1.symm]; exact pe) (hs2.trans st)
   ·obtain ⟨sv3,h3,e3,p3,s3⟩:=G8a he2 (by omega) hin
    have hc1:=Gpn (P:=P) he.good hin
    have hq3:=p3.pr.blk
    have hv3 : blk? h3 h.length = some ⟨false,[.int .i64 x,.int .i64 y]⟩:=by
     rw [s3.same h.length (by simp) (by omega) (by omega) (fun e=>by have:=he.own.lt e; omega)]; exact blk?_push_eq
    have htc:=fun R=>Ghy (R:=R) (v:=true) p3.pr.cb (x:=x) (y:=y) (hc1.inb hin)
    obtain ⟨p4,s4⟩:=p3.map (x:=x) (y:=y) (hc1.inb hin) (Gbh true)
    have h1 : σ.sig1 P x y = (σ.code P x y).map x y (Gbz true):=by unfold ES.sig1; rw [if_pos ⟨hsg,hnr⟩]
    have hmm : (fun z : Cell=>({ z with t:=true } : Cell)) = Gbz true:=rfl
    rw [hmm] at htc
    have hle1':=hle1.len
    rw [h1] at hle1'
    rw [hsg] at hsig; rw [hnr] at hnb
    simp [-List.cons_append,-List.append_assoc,Gaa,hlt,hw,hs,hb,ht,hle,hK,hq2,hsig,hnb,e3,hq3,hv3,htc]
    rw [← hs]
    have st4:=(hs2.trans s3).trans s4
    refine ih (i + 1) _ sv3 _ _ _ _ _ _ _ _ _ _ _ _ _ _ _ _ _ _ _ _ _ _ _ _ _ _ _ _ _ _ _ _ _ _ _ _ _ _ _ _ _ _ _ _ _ _ _ _ _ (by omega) (by omega) p4 (hf.stp st4) (by rw [← h1]; exact ha.le hle1) (by omega) hpl ?_
    intro h' sv';intros;rename_i pe st
    exact hk h' sv' _ _ _ _ _ _ _ _ _ _ _ _ _ _ _ _ _ _ _ _ _ _ _ _ _ _ _ _ _ _ _ _ _ _ _ _ _ _ _ _ _ _ _ _ _ _ _ _ _ _ _ (by rw [hsp _ h1.symm]; exact pe) (st4.trans st)
  ·have h1 : σ.sig1 P x y = σ:=by unfold ES.sig1; rw [if_neg (by simp [hsg])]
   rw [hsg] at hsig
   simp [-List.cons_append,-List.append_assoc,Gaa,hlt,hw,hs,hb,ht,hle,hK,hq2,hsig]
   rw [← hs]
   refine ih (i + 1) _ sv σ _ _ _ _ _ _ _ _ _ _ _ _ _ _ _ _ _ _ _ _ _ _ _ _ _ _ _ _ _ _ _ _ _ _ _ _ _ _ _ _ _ _ _ _ _ _ _ _ (by omega) (by omega) he2 hf2 ha (by omega) hpl ?_
   intro h' sv';intros;rename_i pe st
   exact hk h' sv' _ _ _ _ _ _ _ _ _ _ _ _ _ _ _ _ _ _ _ _ _ _ _ _ _ _ _ _ _ _ _ _ _ _ _ _ _ _ _ _ _ _ _ _ _ _ _ _ _ _ _ (by rw [hsp σ h1.symm]; exact pe) (hs2.trans st)
theorem Ggk {w h : Nat} (hw : w≤64) (hh : h≤64) : (scan w h).length≤4096:=by
 have:=Gfn w h (Gai h) 0
 have h2 : 4 * w * Gai h≤4 * 64 * 16:=Nat.mul_le_mul (by omega) (by unfold Gai; omega)
 unfold scan; omega
theorem Gl2 (he : PE h q p c pb ob P sv σ) (hl : σ.out.length≤1000) :
  ∃ sv' h',(∀ R,Ret tab 124 [ptr q] h R = R (.tuple #[]) h')∧PE h' q p c pb ob P sv' (σ.sigs P (scan σ.b.w σ.b.h))∧Stp h h' c ob sv sv':=by
 have key : Ret tab 124 [ptr q] h fun v h'=>v = .tuple #[]∧∃ sv',PE h' q p c pb ob P sv' (σ.sigs P (scan σ.b.w σ.b.h))∧Stp h h' c ob sv sv':=by
  obtain ⟨s,h1,e1,p1,s1,f1⟩:=he.scan
  obtain ⟨a,cc,hs⟩:=f1.sl.shape
  have hsl:=Ggk he.pr.cb.ok.w2 he.pr.cb.ok.h2
  have hq:=he.pr.blk
  rw [G4s,B124]
  simp [hq,e1,hs]
  rw [← hs]
  refine G4b _ 0 h1 sv σ _ _ _ _ _ _ _ _ _ _ _ _ _ _ _ _ _ _ _ _ _ _ _ _ _ _ _ _ _ _ _ _ _ _ _ _ _ _ _ _ _ _ _ _ _ _ _ _ rfl (by omega) p1 f1 (Gc3 σ.b) (by omega) (by omega) ?_
  intro h' sv';intros;rename_i pe st
  simp [fin124]
  exact ⟨sv',by simpa using pe,s1.trans st⟩
 obtain ⟨v,h',e,rfl,sv',pe,st⟩:=Gck key
 exact ⟨sv',h',e,pe,st⟩
end
section
variable {h : Gag} {q p c pb ob : Nat} {P : PP} {sv : Value} {σ : ES}
theorem G31 {s : Value} {pts : List (Int × Int)} {k : List Ga1} {R : RP} :
  ∀ (m i : Nat) (h : Gag) (sv : Value) (σ : ES) (K1 K2 K3 K4 K5 K6 K7 K8 K9 Ka Kb Kf Kg Kh Ki Kj Kk Kl Km Kn Ko Kp Kq Kr Ks Kt Ku Kv Kw Kx Ky Kz J0 J1 J2 J3 J4 J5 J6 J7 J8 J9 Ja Jb Jc Jd Je Jf Jg Jh Ji Jj Jk Jl Jm Jn Jo Jp Jq Jr Js Jt Ju Jv Jw Jx Jy Jz Y0 Y1 Y2 Y3 Y4 Y5 Y6 Y7 Y8 Y9 Ya Yb Yc Yd : Value),m = pts.length - i→i≤pts.length→PE h q p c pb ob P sv σ→Far h s pts c ob sv→Gca σ.b pts→σ.out.length + 2 * m + 3 < 1000000→pts.length < 1000000 →
   (∀ (h' : Gag) (sv' : Value) (K1 K2 K3 K4 K5 K6 K7 K8 K9 Ka Kb Kc Kd Ke Kf Kg Kh Ki Kj Kk Kl Km Kn Ko Kp Kq Kr Ks Kt Ku Kv Kw Kx Ky Kz J0 J1 J2 J3 J4 J5 J6 J7 J8 J9 Ja Jb Jc Jd Je Jf Jg Jh Ji Jj Jk Jl Jm Jn Jo Jp Jq Jr Js Jt Ju Jv Jw Jx Jy Jz Y0 Y1 Y2 Y3 Y4 Y5 Y6 Y7 Y8 Y9 Ya Yb Yc Yd : Value),PE h' q p c pb ob P sv' (σ.refs P (pts.drop i))→Stp h h' c ob sv sv'→Ok tab G78 k #[ptr q,K1,K2,K3,K4,K5,K6,K7,K8,K9,Ka,Kb,Kc,Kd,Ke,Kf,Kg,Kh,Ki,Kj,Kk,Kl,Km,Kn,Ko,Kp,Kq,Kr,Ks,Kt,Ku,Kv,Kw,Kx,Ky,Kz,J0,J1,J2,J3,J4,J5,J6,J7,J8,J9,Ja,Jb,Jc,Jd,Je,Jf,Jg,Jh,Ji,Jj,Jk,Jl,Jm,Jn,Jo,Jp,Jq,Jr,Js,Jt,Ju,Jv,Jw,Jx,Jy,Jz,Y0,Y1,Y2,Y3,Y4,Y5,Y6,Y7,Y8,Y9,Ya,Yb,Yc,Yd] h' R) →
   Ok tab G78 (.inLoop Gq6 :: .inBlock 0 :: k) #[ptr q,K1,K2,K3,K4,K5,K6,K7,K8,K9,Ka,Kb,s,.int .i64 pts.length,.int .i64 i,Kf,Kg,Kh,Ki,Kj,Kk,Kl,Km,Kn,Ko,Kp,Kq,Kr,Ks,Kt,Ku,Kv,Kw,Kx,Ky,Kz,J0,J1,J2,J3,J4,J5,J6,J7,J8,J9,Ja,Jb,Jc,Jd,Je,Jf,Jg,Jh,Ji,Jj,Jk,Jl,Jm,Jn,Jo,Jp,Jq,Jr,Js,Jt,Ju,Jv,Jw,Jx,Jy,Jz,Y0,Y1,Y2,Y3,Y4,Y5,Y6,Y7,Y8,Y9,Ya,Yb,Yc,Yd] h R:=by
 intro m
 induction m with
 | zero =>
  intro i h sv σ;intros;rename_i hm hi he hf ha hl hpl hk
  have hlt : ¬ ((i : Int) < pts.length):=by omega
  rw [Gad,G7h,Gpa,Gpc]
  simp [hlt]
  refine hk h sv _ _ _ _ _ _ _ _ _ _ _ _ _ _ _ _ _ _ _ _ _ _ _ _ _ _ _ _ _ _ _ _ _ _ _ _ _ _ _ _ _ _ _ _ _ _ _ _ _ _ _ _ _ _ _ _ _ _ _ _ _ _ _ _ _ _ _ _ _ _ _ _ _ _ _ _ _ _ _ _ _ _ _ _ _ ?_ (Stp.refl _ _ _ _)
  rw [List.drop_of_length_le (by omega)]; exact he
 | succ m ih =>
  intro i h sv σ;intros;rename_i hm hi he hf ha hl hpl hk
  have hlt : ((i : Int) < pts.length):=by omega
  have hw : IntKind.i64.wrap ((i : Int) + 1) = (i : Int) + 1:=Gbc (n:=i + 1) (by omega)
  have hil : i < pts.length:=by omega
  obtain ⟨id,off,blk,hs,hb,ht,hle⟩:=hf.get hil
  have hin:=ha _ (List.getElem_mem hil)
  have hsp : ∀ τ : ES,τ = σ.ref1 P pts[i].1 pts[i].2→σ.refs P (pts.drop i) = τ.refs P (pts.drop (i + 1)):=by
   intro τ hτ
   rw [List.drop_eq_getElem_cons hil,hτ]; rfl
  have hle1:=Gsf (P:=P) he.good hin
  generalize hx : pts[i].1 = x at *
  generalize hy : pts[i].2 = y at *
  have he2:=he.push (some ⟨false,[.int .i64 x,.int .i64 y]⟩)
  have hs2:=Stp.push h (some ⟨false,[.int .i64 x,.int .i64 y]⟩) c ob sv
  have hf2:=hf.stp hs2
  have hK : ∀ y : Blk,blk? (h++[some y]) h.length = some y:=fun y=>blk?_push_eq
  obtain ⟨l1,l2,l3,l4,l5⟩:=he.lts
  have hq2:=he2.pr.blk
  have hcb2:=he2.pr.cb
  have hsig:=fun R=>Gay (R:=R) (x:=x) (y:=y) hcb2
  have htch:=fun R=>Gcf (R:=R) (x:=x) (y:=y) hcb2
  have hrfd:=fun R=>Gra (R:=R) (x:=x) (y:=y) hcb2
  have hnb:=fun R=>Gfm (R:=R) (x:=x) (y:=y) he2.pr hin
  have hbit:=fun R=>Qa9 (R:=R) (x:=x) (y:=y) he2.pr
  have hcx:=fun a b R=>Gk2 (h:=h++[some (⟨false,[.int .i64 x,.int .i64 y]⟩ : Blk)]) (R:=R) (a:=a) (b:=b)
  have hskip : σ.ref1 P x y = σ→∀ K1 K2 K3 K4 K5 K6 K7 K8 K9 Ka Kb Kf Kg Kh Ki Kj Kk Kl Km Kn Ko Kp Kq Kr Ks Kt Ku Kv Kw Kx Ky Kz J0 J1 J2 J3 J4 J5 J6 J7 J8 J9 Ja Jb Jc Jd Je Jf Jg Jh Ji Jj Jk Jl Jm Jn Jo Jp Jq Jr Js Jt Ju Jv Jw Jx Jy Jz Y0 Y1 Y2 Y3 Y4 Y5 Y6 Y7 Y8 Y9 Ya Yb Yc Yd : Value,Ok tab G78 (.inLoop Gq6 :: .inBlock 0 :: k) #[ptr q,K1,K2,K3,K4,K5,K6,K7,K8,K9,Ka,Kb,s,.int .i64 pts.length,.int .i64 ((i : Int) + 1),Kf,Kg,Kh,Ki,Kj,Kk,Kl,Km,Kn,Ko,Kp,Kq,Kr,Ks,Kt,Ku,Kv,Kw,Kx,Ky,Kz,J0,J1,J2,J3,J4,J5,J6,J7,J8,J9,Ja,Jb,Jc,Jd,Je,Jf,Jg,Jh,Ji,Jj,Jk,Jl,Jm,Jn,Jo,Jp,Jq,Jr,Js,Jt,Ju,Jv,Jw,Jx,Jy,Jz,Y0,Y1,Y2,Y3,Y4,Y5,Y6,Y7,Y8,Y9,Ya,Yb,Yc,Yd] (h++[some ⟨false,[.int .i64 x,.int .i64 y]⟩]) R:=by
   intro h1;intros
   refine ih (i + 1) _ sv σ _ _ _ _ _ _ _ _ _ _ _ _ _ _ _ _ _ _ _ _ _ _ _ _ _ _ _ _ _ _ _ _ _ _ _ _ _ _ _ _ _ _ _ _ _ _ _ _ _ _ _ _ _ _ _ _ _ _ _ _ _ _ _ _ _ _ _ _ _ _ _ _ _ _ _ _ _ _ _ _ _ _ (by omega) (by omega) he2 hf2 ha (by omega) hpl ?_
   intro h' sv';intros;rename_i pe st
   exact hk h' sv' _ _ _ _ _ _ _ _ _ _ _ _ _ _ _ _ _ _ _ _ _ _ _ _ _ _ _ _ _ _ _ _ _ _ _ _ _ _ _ _ _ _ _ _ _ _ _ _ _ _ _ _ _ _ _ _ _ _ _ _ _ _ _ _ _ _ _ _ _ _ _ _ _ _ _ _ _ _ _ _ _ _ _ _ _ (by rw [hsp σ h1.symm]; exact pe) (hs2.trans st)
  rw [Gad,G7h,Gpa,Gpc]
  cases hsg : (σ.b.get x y).s
  ·have h1 : σ.ref1 P x y = σ:=by unfold ES.ref1; rw [if_pos (.inl hsg)]
   rw [hsg] at hsig
   simp [-List.cons_append,-List.append_assoc,Gaa,hlt,hw,hs,hb,ht,hle,hK,hq2,hsig]
   rw [← hs]
   exact hskip h1 ..
  ·cases htc0 : (σ.b.get x y).t
   ·-- refined
    obtain ⟨sv3,h3,e3,p3,s3⟩:=Giu he2 (by omega) (Gd7 (!(σ.b.get x y).r) (Gg8 σ.b x y P.cz)) (Gbn (σ.b.get x y).v P.s)
    have hc1:=Gf5 (P:=P) he.good (Gd7 (!(σ.b.get x y).r) (Gg8 σ.b x y P.cz)) (Gbn (σ.b.get x y).v P.s)
    have hq3:=p3.pr.blk
    have hv3 : blk? h3 h.length = some ⟨false,[.int .i64 x,.int .i64 y]⟩:=by
     rw [s3.same h.length (by simp) (by omega) (by omega) (fun e=>by have:=he.own.lt e; omega)]; exact blk?_push_eq
    have hrf:=fun R=>Gvu (R:=R) p3.pr.cb (x:=x) (y:=y) (hc1.inb hin)
    obtain ⟨p4,s4⟩:=p3.map (x:=x) (y:=y) (hc1.inb hin) Gcr
    have hc2:=hc1.trans (Gis hc1.good (hc1.inb hin) Gcr)
    have hq4:=p4.pr.blk
    have hv4 : blk? (h3.set c (some ⟨false,Gco ((σ.emit P (Gd7 (!(σ.b.get x y).r) (Gg8 σ.b x y P.cz)) (Gbn (σ.b.get x y).v P.s)).b.upd x y Gbv).cs⟩)) h.length = some ⟨false,[.int .i64 x,.int .i64 y]⟩:=by
     rw [blk?_set_ne (by omega)]; exact hv3
    have htc:=fun R=>Ghy (R:=R) (v:=true) p4.pr.cb (x:=x) (y:=y) (hc2.inb hin)
    obtain ⟨p5,s5⟩:=p4.map (x:=x) (y:=y) (hc2.inb hin) (Gbh true)
    have h1 : σ.ref1 P x y = ((σ.emit P (Gd7 (!(σ.b.get x y).r) (Gg8 σ.b x y P.cz)) (Gbn (σ.b.get x y).v P.s)).map x y Gbv).map x y (Gbz true):=by unfold ES.ref1; rw [if_neg (by simp [hsg,htc0])]
    have hmm : (fun z : Cell=>({ z with t:=true } : Cell)) = Gbz true:=rfl
    have hmr : (fun z : Cell=>({ z with r:=true } : Cell)) = Gbv:=rfl
    rw [hmm] at htc
    rw [hmr] at hrf
    have hle1':=hle1.len
    rw [h1] at hle1'
    rw [hsg] at hsig; rw [htc0] at htch
    have st5:=((hs2.trans s3).trans s4).trans s5
    rw [List.set_set] at p5 st5
    simp only [ES.map_b,ES.emit_b] at hrf htc hv4 hq3 hq4
    simp [-List.cons_append,-List.append_assoc,Gaa,hlt,hw,hs,hb,ht,hle,hK,hq2,hsig,htch,hrfd,hnb,hbit,hcx,e3,hq3,hv3,hrf,hq4,hv4,htc,book,Gd0,Gb5,Ghw,Gbq,Gcg]
    rw [← hs]
    refine ih (i + 1) _ sv3 _ _ _ _ _ _ _ _ _ _ _ _ _ _ _ _ _ _ _ _ _ _ _ _ _ _ _ _ _ _ _ _ _ _ _ _ _ _ _ _ _ _ _ _ _ _ _ _ _ _ _ _ _ _ _ _ _ _ _ _ _ _ _ _ _ _ _ _ _ _ _ _ _ _ _ _ _ _ _ _ _ _ _ (by omega) (by omega) p5 (hf.stp st5) (by rw [← h1]; exact ha.le hle1) (by omega) hpl ?_
    intro h' sv';intros;rename_i pe st
    exact hk h' sv' _ _ _ _ _ _ _ _ _ _ _ _ _ _ _ _ _ _ _ _ _ _ _ _ _ _ _ _ _ _ _ _ _ _ _ _ _ _ _ _ _ _ _ _ _ _ _ _ _ _ _ _ _ _ _ _ _ _ _ _ _ _ _ _ _ _ _ _ _ _ _ _ _ _ _ _ _ _ _ _ _ _ _ _ _ (by rw [hsp _ h1.symm]; exact pe) (st5.trans st)
   ·have h1 : σ.ref1 P x y = σ:=by unfold ES.ref1; rw [if_pos (.inr htc0)]
    rw [hsg] at hsig; rw [htc0] at htch
    simp [-List.cons_append,-List.append_assoc,Gaa,hlt,hw,hs,hb,ht,hle,hK,hq2,hsig,htch]
    rw [← hs]
    exact hskip h1 ..
theorem Grp (he : PE h q p c pb ob P sv σ) (hl : σ.out.length≤1000) :
  ∃ sv' h',(∀ R,Ret tab 125 [ptr q] h R = R (.tuple #[]) h')∧PE h' q p c pb ob P sv' (σ.refs P (scan σ.b.w σ.b.h))∧Stp h h' c ob sv sv':=by
 have key : Ret tab 125 [ptr q] h fun v h'=>v = .tuple #[]∧∃ sv',PE h' q p c pb ob P sv' (σ.refs P (scan σ.b.w σ.b.h))∧Stp h h' c ob sv sv':=by
  obtain ⟨s,h1,e1,p1,s1,f1⟩:=he.scan
  obtain ⟨a,cc,hs⟩:=f1.sl.shape
  have hsl:=Ggk he.pr.cb.ok.w2 he.pr.cb.ok.h2
  have hq:=he.pr.blk
  rw [G58,B125]
  simp [hq,e1,hs]
  rw [← hs]
  refine G31 _ 0 h1 sv σ _ _ _ _ _ _ _ _ _ _ _ _ _ _ _ _ _ _ _ _ _ _ _ _ _ _ _ _ _ _ _ _ _ _ _ _ _ _ _ _ _ _ _ _ _ _ _ _ _ _ _ _ _ _ _ _ _ _ _ _ _ _ _ _ _ _ _ _ _ _ _ _ _ _ _ _ _ _ _ _ _ _ rfl (by omega) p1 f1 (Gc3 σ.b) (by omega) (by omega) ?_
  intro h' sv';intros;rename_i pe st
  simp [fin125]
  exact ⟨sv',by simpa using pe,s1.trans st⟩
 obtain ⟨v,h',e,rfl,sv',pe,st⟩:=Gck key
 exact ⟨sv',h',e,pe,st⟩
theorem half {k : Nat} (hk : k < 4) : Gxo .i64 (k : Int) 1 = ((k / 2 : Nat) : Int):=by
 have:=G8g (i:=.i64) (a:=k) (b:=1) (by decide)
 simpa using this
theorem G4x {x top : Int} {k : List Ga1} {v6 : Value} (R : RP) (he : PE h q p c pb ob P sv σ) (hn : σ.out.length + 5 < 1000000) (hx : 0≤x∧x < σ.b.w) (ht : 0≤top∧top + 4≤σ.b.h)
  (hnone : Gbo σ.b P.s x top 4 = none→∀ K3 K4 K5 K7 K8 K9 Ka Kb Kc Kd Ke Kf Kg Kh Ki Kj Kk Kl Km Kn Ko Kp Kq Kr Ks Kt Ku Kv Kw Kx Ky Kz J0 J1 J2 J3 J4 J5 J6 J7 J8 J9 Ja Jb Jc Jd Je Jf Jg Jh Ji : Value,Ok tab Qbw k #[ptr q,.int .i64 x,.int .i64 top,K3,K4,K5,v6,K7,K8,K9,Ka,Kb,Kc,Kd,Ke,Kf,Kg,Kh,Ki,Kj,Kk,Kl,Km,Kn,Ko,Kp,Kq,Kr,Ks,Kt,Ku,Kv,Kw,Kx,Ky,Kz,J0,J1,J2,J3,J4,J5,J6,J7,J8,J9,Ja,Jb,Jc,Jd,Je,Jf,Jg,Jh,Ji] h R)
  (hsome : ∀ j,Gbo σ.b P.s x top 4 = some j→∀ sv' h',PE h' q p c pb ob P sv' ((((σ.emit P 17 1).emit P 18 (j / 2)).emit P 18 (j % 2)).sign P x (top + j))→Stp h h' c ob sv sv'→R (.int .i64 (top + j + 1)) h') :
  ∀ (n i : Nat) (K3 K4 K5 K7 K9 Ka Kb Kc Kd Ke Kf Kg Kh Ki Kj Kk Kl Km Kn Ko Kp Kq Kr Ks Kt Ku Kv Kw Kx Ky Kz J0 J1 J2 J3 J4 J5 J6 J7 J8 J9 Ja Jb Jc Jd Je Jf Jg Jh Ji : Value),i + n = 4→Gbo σ.b P.s x top 4 = (Gbo σ.b P.s x (top + i) n).map (· + i) →
   Ok tab Qbw (.inLoop Gvn :: .inBlock 0 :: k) #[ptr q,.int .i64 x,.int .i64 top,K3,K4,K5,v6,K7,.int .i64 i,K9,Ka,Kb,Kc,Kd,Ke,Kf,Kg,Kh,Ki,Kj,Kk,Kl,Km,Kn,Ko,Kp,Kq,Kr,Ks,Kt,Ku,Kv,Kw,Kx,Ky,Kz,J0,J1,J2,J3,J4,J5,J6,J7,J8,J9,Ja,Jb,Jc,Jd,Je,Jf,Jg,Jh,Ji] h R:=by
 intro n
 induction n with
 | zero =>
  intro i;intros;rename_i hi hfb
  obtain rfl : i = 4:=by omega
  rw [Gad,G7j,Goc,Gow]
  simp
  exact hnone (by rw [hfb]; simp [Gbo]) ..
 | succ n ih =>
  intro i;intros;rename_i hi hfb
  have hb2:=he.pr.cb.ok.h2
  have hlt : (i : Int) < 4:=by omega
  have hw1 : IntKind.i64.wrap ((i : Int) + 1) = (i : Int) + 1:=Gbc (n:=i + 1) (by omega)
  have hw2 : IntKind.i64.wrap (top + (i : Int)) = top + (i : Int):=Gan (by omega) (by omega)
  have hw3 : IntKind.i64.wrap (top + (i : Int) + 1) = top + (i : Int) + 1:=Gan (by omega) (by omega)
  have hbit:=fun R=>Qa9 (R:=R) (x:=x) (y:=top + i) he.pr
  have hq:=he.pr.blk
  rw [Gad,G7j,Goc,Gow]
  by_cases hb : Gbn (σ.b.get x (top + i)).v P.s = 1
  ·have hfb' : Gbo σ.b P.s x top 4 = some i:=by rw [hfb]; simp [Gbo,hb]
   obtain ⟨sv1,h1,e1,p1,s1⟩:=Giu he (by omega) 17 1
   obtain ⟨sv2,h2,e2,p2,s2⟩:=Giu p1 (by simp [ES.emit]; omega) 18 (i / 2)
   obtain ⟨sv3,h3,e3,p3,s3⟩:=Giu p2 (by simp [ES.emit]; omega) 18 (i % 2)
   obtain ⟨sv4,h4,e4,p4,s4⟩:=G8j p3 (by simp [ES.emit]; omega) (x:=x) (y:=top + i) ⟨hx.1,hx.2,by omega,by show top + (i : Int) < σ.b.h; omega⟩
   have hq1:=p1.pr.blk
   have hq2:=p2.pr.blk
   have hq3:=p3.pr.blk
   rw [hb] at hbit
   have hsh:=half (k:=i) (by omega)
   have han:=and1 (a:=i) (by omega)
   simp only [Int.natCast_one] at e1 hbit
   simp [-Int.natCast_ediv,-Int.natCast_emod,hlt,hw1,hw2,hw3,hbit,hq,e1,hq1,hsh,e2,hq2,han,e3,hq3,e4,G7t]
   exact hsome i hfb' sv4 h4 p4 (((s1.trans s2).trans s3).trans s4)
  ·have hb0 : Gbn (σ.b.get x (top + i)).v P.s = 0:=by unfold Gbn at *; omega
   rw [hb0] at hbit
   simp only [Int.natCast_zero] at hbit
   simp [hlt,hw1,hw2,hbit]
   refine ih (i + 1) _ _ _ _ _ _ _ _ _ _ _ _ _ _ _ _ _ _ _ _ _ _ _ _ _ _ _ _ _ _ _ _ _ _ _ _ _ _ _ _ _ _ _ _ _ _ _ _ _ _ (by omega) ?_
   rw [hfb,Gbo,if_neg hb]
   rw [show top + ((i + 1 : Nat) : Int) = top + i + 1 by omega]
   cases Gbo σ.b P.s x (top + i + 1) n with
   | none=>rfl
   | some j=>simp; omega
theorem run_p (he : PE h q p c pb ob P sv σ) (hn : σ.out.length + 5 < 1000000) {x top : Int} (hx : 0≤x∧x < σ.b.w) (ht : 0≤top∧top + 4≤σ.b.h) :
  ∃ sv' h',(∀ R,Ret tab 166 [ptr q,.int .i64 x,.int .i64 top] h R = R (.int .i64 (σ.run P x top).2) h')∧PE h' q p c pb ob P sv' (σ.run P x top).1∧Stp h h' c ob sv sv':=by
 have key : Ret tab 166 [ptr q,.int .i64 x,.int .i64 top] h fun v h'=>v = .int .i64 (σ.run P x top).2∧∃ sv',PE h' q p c pb ob P sv' (σ.run P x top).1∧Stp h h' c ob sv sv':=by
  have hb2:=he.pr.cb.ok.h2
  rw [G5f,B166]
  simp
  refine G4x _ he hn hx ht ?_ ?_ 4 0 _ _ _ _ _ _ _ _ _ _ _ _ _ _ _ _ _ _ _ _ _ _ _ _ _ _ _ _ _ _ _ _ _ _ _ _ _ _ _ _ _ _ _ _ _ _ _ _ _ _ (by omega) ?_
  ·intro hnone;intros
   obtain ⟨sv1,h1,e1,p1,s1⟩:=Giu he (by omega) 17 0
   have hq:=he.pr.blk
   have hw : IntKind.i64.wrap (top + 4) = top + 4:=Gan (by omega) (by omega)
   have hr : σ.run P x top = (σ.emit P 17 0,top + 4):=by unfold ES.run; rw [hnone]
   rw [hr]
   simp only [Int.natCast_zero] at e1
   simp [hq,e1,hw,G7t]
   exact ⟨sv1,p1,s1⟩
  ·intro j hj sv' h' pe st
   have hr : σ.run P x top = ((((σ.emit P 17 1).emit P 18 (j / 2)).emit P 18 (j % 2)).sign P x (top + j),top + j + 1):=by unfold ES.run; rw [hj]
   rw [hr]
   exact ⟨rfl,sv',pe,st⟩
  ·simp
 obtain ⟨v,h',e,rfl,sv',pe,st⟩:=Gck key
 exact ⟨sv',h',e,pe,st⟩
end
section
variable {h : Gag} {q p c pb ob : Nat} {P : PP} {sv : Value} {σ : ES} {k : List Ga1} {R : RP} {v1 : Value}
theorem Gq9 {w hh : Nat} (hw2 : w≤64) (hh2 : hh≤64) {x top : Int} {v22 v23 : Value} (hx : 0≤x∧x < w) (ht : 0≤top∧top < hh) :
  ∀ (n : Nat) (y : Int) (h : Gag) (sv : Value) (σ : ES) (K2 K3 K7 K8 K9 Ka Kb Kc Kd Ke Kf Kg Kh Ki Kj Kk Kl Ko Kp Kq Kr Ks Kt Ku Kv Kw Kx Ky Kz J0 J1 J2 J3 J4 J5 J6 J7 J8 J9 Ja Jb Jc Jd Je Jf Jg Jh Ji Jj Jk Jl Jm Jn Jo Jp Jq Jr Js Jt Ju Jv Jw Jx Jy Jz Y0 Y1 Y2 Y3 Y4 Y5 Y6 Y7 Y8 Y9 Ya Yb Yc Yd Ye Yf Yg Yh Yi Yj Yk Yl Ym Yn Yo Yp Yq Yr Ys Yt Yu Yv Yw Yx Yy Yz Z0 Z1 Z2 : Value),y + n = min (top + 4) hh→0≤y→σ.b.w = w→σ.b.h = hh→PE h q p c pb ob P sv σ→σ.out.length + 2 * n + 3 < 1000000 →
   (∀ (h' : Gag) (sv' : Value) (y' : Int) (K2 K3 K7 K8 K9 Ka Kb Kc Kd Ke Kf Kg Kh Ki Kj Kk Kl Ko Kp Kq Kr Ks Kt Ku Kv Kw Kx Ky Kz J0 J1 J2 J3 J4 J5 J6 J7 J8 J9 Ja Jb Jc Jd Je Jf Jg Jh Ji Jj Jk Jl Jm Jn Jo Jp Jq Jr Js Jt Ju Jv Jw Jx Jy Jz Y0 Y1 Y2 Y3 Y4 Y5 Y6 Y7 Y8 Y9 Ya Yb Yc Yd Ye Yf Yg Yh Yi Yj Yk Yl Ym Yn Yo Yp Yq Yr Ys Yt Yu Yv Yw Yx Yy Yz Z0 Z1 Z2 : Value),PE h' q p c pb ob P sv' (σ.rows P x y n)→Stp h h' c ob sv sv' →
    Ok tab Gq7 k #[ptr q,v1,K2,K3,.int .i64 top,.int .i64 x,.int .i64 y',K7,K8,K9,Ka,Kb,Kc,Kd,Ke,Kf,Kg,Kh,Ki,Kj,Kk,Kl,v22,v23,Ko,Kp,Kq,Kr,Ks,Kt,Ku,Kv,Kw,Kx,Ky,Kz,J0,J1,J2,J3,J4,J5,J6,J7,J8,J9,Ja,Jb,Jc,Jd,Je,Jf,Jg,Jh,Ji,Jj,Jk,Jl,Jm,Jn,Jo,Jp,Jq,Jr,Js,Jt,Ju,Jv,Jw,Jx,Jy,Jz,Y0,Y1,Y2,Y3,Y4,Y5,Y6,Y7,Y8,Y9,Ya,Yb,Yc,Yd,Ye,Yf,Yg,Yh,Yi,Yj,Yk,Yl,Ym,Yn,Yo,Yp,Yq,Yr,Ys,Yt,Yu,Yv,Yw,Yx,Yy,Yz,Z0,Z1,Z2] h' R) →
   Ok tab Gq7 (.inLoop Gre :: .inBlock 4 :: k) #[ptr q,v1,K2,K3,.int .i64 top,.int .i64 x,.int .i64 y,K7,K8,K9,Ka,Kb,Kc,Kd,Ke,Kf,Kg,Kh,Ki,Kj,Kk,Kl,v22,v23,Ko,Kp,Kq,Kr,Ks,Kt,Ku,Kv,Kw,Kx,Ky,Kz,J0,J1,J2,J3,J4,J5,J6,J7,J8,J9,Ja,Jb,Jc,Jd,Je,Jf,Jg,Jh,Ji,Jj,Jk,Jl,Jm,Jn,Jo,Jp,Jq,Jr,Js,Jt,Ju,Jv,Jw,Jx,Jy,Jz,Y0,Y1,Y2,Y3,Y4,Y5,Y6,Y7,Y8,Y9,Ya,Yb,Yc,Yd,Ye,Yf,Yg,Yh,Yi,Yj,Yk,Yl,Ym,Yn,Yo,Yp,Yq,Yr,Ys,Yt,Yu,Yv,Yw,Yx,Yy,Yz,Z0,Z1,Z2] h R:=by
 intro n
 induction n with
 | zero =>
  intro y h sv σ;intros;rename_i hy h0 hw hh' he hl hk
  have hq:=he.pr.blk
  rw [hw,hh'] at hq
  have hw4 : IntKind.i64.wrap (top + 4) = top + 4:=Gan (by omega) (by omega)
  have hlt : ¬ y < min (top + 4) (hh : Int):=by omega
  rw [Gad,G71,Gnz,Gpl]
  simp [hq,hw4,Gci,Gcq,Gfo,Qbd (hh:=hh) ht.1]
  simp [hlt]
  exact hk h sv y _ _ _ _ _ _ _ _ _ _ _ _ _ _ _ _ _ _ _ _ _ _ _ _ _ _ _ _ _ _ _ _ _ _ _ _ _ _ _ _ _ _ _ _ _ _ _ _ _ _ _ _ _ _ _ _ _ _ _ _ _ _ _ _ _ _ _ _ _ _ _ _ _ _ _ _ _ _ _ _ _ _ _ _ _ _ _ _ _ _ _ _ _ _ _ _ _ _ _ _ _ _ _ _ he (Stp.refl _ _ _ _)
 | succ n ih =>
  intro y h sv σ;intros;rename_i hy h0 hw hh' he hl hk
  have hq:=he.pr.blk
  rw [hw,hh'] at hq
  have hw4 : IntKind.i64.wrap (top + 4) = top + 4:=Gan (by omega) (by omega)
  have hw1 : IntKind.i64.wrap (y + 1) = y + 1:=Gan (by omega) (by omega)
  have hlt : y < min (top + 4) (hh : Int):=by omega
  have hin : σ.b.inb x y:=⟨hx.1,by rw [hw]; exact hx.2,h0,by rw [hh']; omega⟩
  have hsig:=fun R=>Gay (R:=R) (x:=x) (y:=y) he.pr.cb
  have htch:=fun R=>Gcf (R:=R) (x:=x) (y:=y) he.pr.cb
  have hle:=Gzr (P:=P) he.good hin
  have hskip : σ.cln1 P x y = σ→∀ K2 K3 K7 K8 K9 Ka Kb Kc Kd Ke Kf Kg Kh Ki Kj Kk Kl Ko Kp Kq Kr Ks Kt Ku Kv Kw Kx Ky Kz J0 J1 J2 J3 J4 J5 J6 J7 J8 J9 Ja Jb Jc Jd Je Jf Jg Jh Ji Jj Jk Jl Jm Jn Jo Jp Jq Jr Js Jt Ju Jv Jw Jx Jy Jz Y0 Y1 Y2 Y3 Y4 Y5 Y6 Y7 Y8 Y9 Ya Yb Yc Yd Ye Yf Yg Yh Yi Yj Yk Yl Ym Yn Yo Yp Yq Yr Ys Yt Yu Yv Yw Yx Yy Yz Z0 Z1 Z2 : Value,Ok tab Gq7 (.inLoop Gre :: .inBlock 4 :: k) #[ptr q,v1,K2,K3,.int .i64 top,.int .i64 x,.int .i64 (y + 1),K7,K8,K9,Ka,Kb,Kc,Kd,Ke,Kf,Kg,Kh,Ki,Kj,Kk,Kl,v22,v23,Ko,Kp,Kq,Kr,Ks,Kt,Ku,Kv,Kw,Kx,Ky,Kz,J0,J1,J2,J3,J4,J5,J6,J7,J8,J9,Ja,Jb,Jc,Jd,Je,Jf,Jg,Jh,Ji,Jj,Jk,Jl,Jm,Jn,Jo,Jp,Jq,Jr,Js,Jt,Ju,Jv,Jw,Jx,Jy,Jz,Y0,Y1,Y2,Y3,Y4,Y5,Y6,Y7,Y8,Y9,Ya,Yb,Yc,Yd,Ye,Yf,Yg,Yh,Yi,Yj,Yk,Yl,Ym,Yn,Yo,Yp,Yq,Yr,Ys,Yt,Yu,Yv,Yw,Yx,Yy,Yz,Z0,Z1,Z2] h R:=by
   intro h1;intros
   refine ih (y + 1) h sv σ _ _ _ _ _ _ _ _ _ _ _ _ _ _ _ _ _ _ _ _ _ _ _ _ _ _ _ _ _ _ _ _ _ _ _ _ _ _ _ _ _ _ _ _ _ _ _ _ _ _ _ _ _ _ _ _ _ _ _ _ _ _ _ _ _ _ _ _ _ _ _ _ _ _ _ _ _ _ _ _ _ _ _ _ _ _ _ _ _ _ _ _ _ _ _ _ _ _ _ _ _ _ _ _ (by omega) (by omega) hw hh' he (by omega) ?_
   intro h' sv' y';intros;rename_i pe st
   exact hk h' sv' y' _ _ _ _ _ _ _ _ _ _ _ _ _ _ _ _ _ _ _ _ _ _ _ _ _ _ _ _ _ _ _ _ _ _ _ _ _ _ _ _ _ _ _ _ _ _ _ _ _ _ _ _ _ _ _ _ _ _ _ _ _ _ _ _ _ _ _ _ _ _ _ _ _ _ _ _ _ _ _ _ _ _ _ _ _ _ _ _ _ _ _ _ _ _ _ _ _ _ _ _ _ _ _ _ (by rw [ES.rows,h1]; exact pe) st
  rw [Gad,G71,Gnz,Gpl]
  simp [hq,hw4,Gci,Gcq,Gfo,Qbd (hh:=hh) ht.1]
  cases hsg : (σ.b.get x y).s
  ·cases htc : (σ.b.get x y).t
   ·have h1 : σ.cln1 P x y = σ.code P x y:=by unfold ES.cln1; rw [if_pos ⟨hsg,htc⟩]
    obtain ⟨sv1,h2,e1,p1,s1⟩:=G8a he (by omega) hin
    rw [hsg] at hsig; rw [htc] at htch
    simp [Gaa,hlt,hw1,hq,hsig,htch,e1]
    rw [← h1] at p1
    refine ih (y + 1) h2 sv1 _ _ _ _ _ _ _ _ _ _ _ _ _ _ _ _ _ _ _ _ _ _ _ _ _ _ _ _ _ _ _ _ _ _ _ _ _ _ _ _ _ _ _ _ _ _ _ _ _ _ _ _ _ _ _ _ _ _ _ _ _ _ _ _ _ _ _ _ _ _ _ _ _ _ _ _ _ _ _ _ _ _ _ _ _ _ _ _ _ _ _ _ _ _ _ _ _ _ _ _ _ _ _ _ _ (by omega) (by omega) (by rw [hle.w]; exact hw) (by rw [hle.h]; exact hh') p1 (by have:=hle.len; omega) ?_
    intro h' sv' y';intros;rename_i pe st
    exact hk h' sv' y' _ _ _ _ _ _ _ _ _ _ _ _ _ _ _ _ _ _ _ _ _ _ _ _ _ _ _ _ _ _ _ _ _ _ _ _ _ _ _ _ _ _ _ _ _ _ _ _ _ _ _ _ _ _ _ _ _ _ _ _ _ _ _ _ _ _ _ _ _ _ _ _ _ _ _ _ _ _ _ _ _ _ _ _ _ _ _ _ _ _ _ _ _ _ _ _ _ _ _ _ _ _ _ _ (by rw [ES.rows]; exact pe) (s1.trans st)
   ·have h1 : σ.cln1 P x y = σ:=by unfold ES.cln1; rw [if_neg (by simp [htc])]
    rw [hsg] at hsig; rw [htc] at htch
    simp [Gaa,hlt,hw1,hq,hsig,htch]
    exact hskip h1 ..
  ·have h1 : σ.cln1 P x y = σ:=by unfold ES.cln1; rw [if_neg (by simp [hsg])]
   rw [hsg] at hsig
   simp [Gaa,Gah,hlt,hw1,hq,hsig]
   exact hskip h1 ..
theorem Gyw {w hh : Nat} (hw2 : w≤64) (hh2 : hh≤64) {top : Int} (ht : 0≤top∧top < hh) :
  ∀ (n : Nat) (x : Int) (h : Gag) (sv : Value) (σ : ES) (K2 K3 K5 K6 K7 K8 K9 Ka Kb Kc Kd Ke Kf Kg Kh Ki Kj Kk Kl Ko Kp Kq Kr Ks Kt Ku Kv Kw Kx Ky Kz J0 J1 J2 J3 J4 J5 J6 J7 J8 J9 Ja Jb Jc Jd Je Jf Jg Jh Ji Jj Jk Jl Jm Jn Jo Jp Jq Jr Js Jt Ju Jv Jw Jx Jy Jz Y0 Y1 Y2 Y3 Y4 Y5 Y6 Y7 Y8 Y9 Ya Yb Yc Yd Ye Yf Yg Yh Yi Yj Yk Yl Ym Yn Yo Yp Yq Yr Ys Yt Yu Yv Yw Yx Yy Yz Z0 Z1 Z2 : Value),x + n = w→0≤x→σ.b.w = w→σ.b.h = hh→PE h q p c pb ob P sv σ→σ.out.length + 12 * n + 20 < 1000000 →
   (∀ (h' : Gag) (sv' : Value) (K2 K3 K5 K6 K7 K8 K9 Ka Kb Kc Kd Ke Kf Kg Kh Ki Kj Kk Kl Km Kn Ko Kp Kq Kr Ks Kt Ku Kv Kw Kx Ky Kz J0 J1 J2 J3 J4 J5 J6 J7 J8 J9 Ja Jb Jc Jd Je Jf Jg Jh Ji Jj Jk Jl Jm Jn Jo Jp Jq Jr Js Jt Ju Jv Jw Jx Jy Jz Y0 Y1 Y2 Y3 Y4 Y5 Y6 Y7 Y8 Y9 Ya Yb Yc Yd Ye Yf Yg Yh Yi Yj Yk Yl Ym Yn Yo Yp Yq Yr Ys Yt Yu Yv Yw Yx Yy Yz Z0 Z1 Z2 : Value),PE h' q p c pb ob P sv' (σ.cols P x top n)→Stp h h' c ob sv sv' →
    Ok tab Gq7 k #[ptr q,v1,K2,K3,.int .i64 top,K5,K6,K7,K8,K9,Ka,Kb,Kc,Kd,Ke,Kf,Kg,Kh,Ki,Kj,Kk,Kl,Km,Kn,Ko,Kp,Kq,Kr,Ks,Kt,Ku,Kv,Kw,Kx,Ky,Kz,J0,J1,J2,J3,J4,J5,J6,J7,J8,J9,Ja,Jb,Jc,Jd,Je,Jf,Jg,Jh,Ji,Jj,Jk,Jl,Jm,Jn,Jo,Jp,Jq,Jr,Js,Jt,Ju,Jv,Jw,Jx,Jy,Jz,Y0,Y1,Y2,Y3,Y4,Y5,Y6,Y7,Y8,Y9,Ya,Yb,Yc,Yd,Ye,Yf,Yg,Yh,Yi,Yj,Yk,Yl,Ym,Yn,Yo,Yp,Yq,Yr,Ys,Yt,Yu,Yv,Yw,Yx,Yy,Yz,Z0,Z1,Z2] h' R) →
   Ok tab Gq7 (.inLoop Gqd :: .inBlock 2 :: k) #[ptr q,v1,K2,K3,.int .i64 top,K5,K6,K7,K8,K9,Ka,Kb,Kc,Kd,Ke,Kf,Kg,Kh,Ki,Kj,Kk,Kl,.int .i64 w,.int .i64 x,Ko,Kp,Kq,Kr,Ks,Kt,Ku,Kv,Kw,Kx,Ky,Kz,J0,J1,J2,J3,J4,J5,J6,J7,J8,J9,Ja,Jb,Jc,Jd,Je,Jf,Jg,Jh,Ji,Jj,Jk,Jl,Jm,Jn,Jo,Jp,Jq,Jr,Js,Jt,Ju,Jv,Jw,Jx,Jy,Jz,Y0,Y1,Y2,Y3,Y4,Y5,Y6,Y7,Y8,Y9,Ya,Yb,Yc,Yd,Ye,Yf,Yg,Yh,Yi,Yj,Yk,Yl,Ym,Yn,Yo,Yp,Yq,Yr,Ys,Yt,Yu,Yv,Yw,Yx,Yy,Yz,Z0,Z1,Z2] h R:=by
 intro n
 induction n with
 | zero =>
  intro x h sv σ;intros;rename_i hx h0 hw hh' he hl hk
  have hlt : ¬ x < (w : Int):=by omega
  rw [Gad,G7u,Gn5,Gnf]
  simp [hlt]
  exact hk h sv _ _ _ _ _ _ _ _ _ _ _ _ _ _ _ _ _ _ _ _ _ _ _ _ _ _ _ _ _ _ _ _ _ _ _ _ _ _ _ _ _ _ _ _ _ _ _ _ _ _ _ _ _ _ _ _ _ _ _ _ _ _ _ _ _ _ _ _ _ _ _ _ _ _ _ _ _ _ _ _ _ _ _ _ _ _ _ _ _ _ _ _ _ _ _ _ _ _ _ _ _ _ _ _ _ _ _ _ he (Stp.refl _ _ _ _)
 | succ n ih =>
  intro x h sv σ;intros;rename_i hx h0 hw hh' he hl hk
  have hlt : x < (w : Int):=by omega
  have hw1 : IntKind.i64.wrap (x + 1) = x + 1:=Gan (by omega) (by omega)
  have hw4 : IntKind.i64.wrap (top + 4) = top + 4:=Gan (by omega) (by omega)
  have hq:=he.pr.blk
  have hin : σ.b.inb x top:=⟨h0,by rw [hw]; exact hlt,ht.1,by rw [hh']; exact ht.2⟩
  have hqt:=fun R=>G9l (R:=R) (x:=x) (top:=top) he.pr ⟨h0,by rw [hw]; exact hlt⟩ ⟨ht.1,by rw [hh']; exact ht.2⟩
  have hle:=G7o (P:=P) he.good hin
  have hnext : ∀ (h' : Gag) (sv' : Value) (K2 K3 K5 K6 K7 K8 K9 Ka Kb Kc Kd Ke Kf Kg Kh Ki Kj Kk Kl Ko Kp Kq Kr Ks Kt Ku Kv Kw Kx Ky Kz J0 J1 J2 J3 J4 J5 J6 J7 J8 J9 Ja Jb Jc Jd Je Jf Jg Jh Ji Jj Jk Jl Jm Jn Jo Jp Jq Jr Js Jt Ju Jv Jw Jx Jy Jz Y0 Y1 Y2 Y3 Y4 Y5 Y6 Y7 Y8 Y9 Ya Yb Yc Yd Ye Yf Yg Yh Yi Yj Yk Yl Ym Yn Yo Yp Yq Yr Ys Yt Yu Yv Yw Yx Yy Yz Z0 Z1 Z2 : Value),PE h' q p c pb ob P sv' (σ.col P x top)→Stp h h' c ob sv sv' →
    Ok tab Gq7 (.inLoop Gqd :: .inBlock 2 :: k) #[ptr q,v1,K2,K3,.int .i64 top,K5,K6,K7,K8,K9,Ka,Kb,Kc,Kd,Ke,Kf,Kg,Kh,Ki,Kj,Kk,Kl,.int .i64 w,.int .i64 (x + 1),Ko,Kp,Kq,Kr,Ks,Kt,Ku,Kv,Kw,Kx,Ky,Kz,J0,J1,J2,J3,J4,J5,J6,J7,J8,J9,Ja,Jb,Jc,Jd,Je,Jf,Jg,Jh,Ji,Jj,Jk,Jl,Jm,Jn,Jo,Jp,Jq,Jr,Js,Jt,Ju,Jv,Jw,Jx,Jy,Jz,Y0,Y1,Y2,Y3,Y4,Y5,Y6,Y7,Y8,Y9,Ya,Yb,Yc,Yd,Ye,Yf,Yg,Yh,Yi,Yj,Yk,Yl,Ym,Yn,Yo,Yp,Yq,Yr,Ys,Yt,Yu,Yv,Yw,Yx,Yy,Yz,Z0,Z1,Z2] h' R:=by
   intro h' sv';intros;rename_i pe st
   refine ih (x + 1) h' sv' _ _ _ _ _ _ _ _ _ _ _ _ _ _ _ _ _ _ _ _ _ _ _ _ _ _ _ _ _ _ _ _ _ _ _ _ _ _ _ _ _ _ _ _ _ _ _ _ _ _ _ _ _ _ _ _ _ _ _ _ _ _ _ _ _ _ _ _ _ _ _ _ _ _ _ _ _ _ _ _ _ _ _ _ _ _ _ _ _ _ _ _ _ _ _ _ _ _ _ _ _ _ _ _ _ _ _ (by omega) (by omega) (by rw [hle.w]; exact hw) (by rw [hle.h]; exact hh') pe (by have:=hle.len; omega) ?_
   intro h'' sv'';intros;rename_i pe2 st2
   exact hk h'' sv'' _ _ _ _ _ _ _ _ _ _ _ _ _ _ _ _ _ _ _ _ _ _ _ _ _ _ _ _ _ _ _ _ _ _ _ _ _ _ _ _ _ _ _ _ _ _ _ _ _ _ _ _ _ _ _ _ _ _ _ _ _ _ _ _ _ _ _ _ _ _ _ _ _ _ _ _ _ _ _ _ _ _ _ _ _ _ _ _ _ _ _ _ _ _ _ _ _ _ _ _ _ _ _ _ _ _ _ _ (by rw [ES.cols]; exact pe2) (st.trans st2)
  rw [Gad,G7u,Gn5,Gnf]
  cases hqq : quiet σ.b x top P.cz
  ·-- no run length
   have hcol : σ.col P x top = σ.rows P x top (min (top + 4) σ.b.h - top).toNat:=by unfold ES.col; rw [if_neg (by simp [hqq])]
   rw [hqq] at hqt
   simp [hlt,hqt]
   refine Gq9 hw2 hh2 ⟨h0,hlt⟩ ht (min (top + 4) (hh : Int) - top).toNat top h sv σ _ _ _ _ _ _ _ _ _ _ _ _ _ _ _ _ _ _ _ _ _ _ _ _ _ _ _ _ _ _ _ _ _ _ _ _ _ _ _ _ _ _ _ _ _ _ _ _ _ _ _ _ _ _ _ _ _ _ _ _ _ _ _ _ _ _ _ _ _ _ _ _ _ _ _ _ _ _ _ _ _ _ _ _ _ _ _ _ _ _ _ _ _ _ _ _ _ _ _ _ _ _ _ _ (by omega) ht.1 hw hh' he (by omega) ?_
   intro h' sv' y';intros;rename_i pe st
   simp [hw1]
   exact hnext h' sv' _ _ _ _ _ _ _ _ _ _ _ _ _ _ _ _ _ _ _ _ _ _ _ _ _ _ _ _ _ _ _ _ _ _ _ _ _ _ _ _ _ _ _ _ _ _ _ _ _ _ _ _ _ _ _ _ _ _ _ _ _ _ _ _ _ _ _ _ _ _ _ _ _ _ _ _ _ _ _ _ _ _ _ _ _ _ _ _ _ _ _ _ _ _ _ _ _ _ _ _ _ _ _ _ _ _ (by rw [hcol,hh']; exact pe) st
  ·-- a run length
   have htop : top + 4≤σ.b.h:=by
    simp only [quiet,Bool.and_eq_true,decide_eq_true_eq] at hqq; exact hqq.1
   obtain ⟨sv1,h1,e1,p1,s1⟩:=run_p he (by omega) (x:=x) (top:=top) ⟨h0,by rw [hw]; exact hlt⟩ ⟨ht.1,htop⟩
   obtain ⟨l1,l2,l3⟩:=G6y (P:=P) he.good (x:=x) (top:=top) hin htop
   have hcol : σ.col P x top = ((σ.run P x top).1).rows P x (σ.run P x top).2 (min (top + 4) σ.b.h - (σ.run P x top).2).toNat:=by unfold ES.col; rw [if_pos hqq]
   rw [hqq] at hqt
   by_cases hend : (σ.run P x top).2 = top + 4
   ·rw [hend,show (min (top + 4) (σ.b.h : Int) - (top + 4)).toNat = 0 by omega,ES.rows] at hcol
    rw [hend] at e1
    simp [hlt,hqt,e1,hw4,hw1]
    exact hnext h1 sv1 _ _ _ _ _ _ _ _ _ _ _ _ _ _ _ _ _ _ _ _ _ _ _ _ _ _ _ _ _ _ _ _ _ _ _ _ _ _ _ _ _ _ _ _ _ _ _ _ _ _ _ _ _ _ _ _ _ _ _ _ _ _ _ _ _ _ _ _ _ _ _ _ _ _ _ _ _ _ _ _ _ _ _ _ _ _ _ _ _ _ _ _ _ _ _ _ _ _ _ _ _ _ _ _ _ _ (by rw [hcol]; exact p1) s1
   ·have hend' : ((σ.run P x top).2 == top + 4) = false:=by simp [hend]
    simp [hlt,hqt,e1,hw4,hend']
    refine Gq9 hw2 hh2 ⟨h0,hlt⟩ ht (min (top + 4) (hh : Int) - (σ.run P x top).2).toNat (σ.run P x top).2 h1 sv1 _ _ _ _ _ _ _ _ _ _ _ _ _ _ _ _ _ _ _ _ _ _ _ _ _ _ _ _ _ _ _ _ _ _ _ _ _ _ _ _ _ _ _ _ _ _ _ _ _ _ _ _ _ _ _ _ _ _ _ _ _ _ _ _ _ _ _ _ _ _ _ _ _ _ _ _ _ _ _ _ _ _ _ _ _ _ _ _ _ _ _ _ _ _ _ _ _ _ _ _ _ _ _ _ _ (by omega) (by omega) (by rw [l1.w]; exact hw) (by rw [l1.h]; exact hh') p1 (by have:=l1.len; omega) ?_
    intro h' sv' y';intros;rename_i pe st
    simp [hw1]
    exact hnext h' sv' _ _ _ _ _ _ _ _ _ _ _ _ _ _ _ _ _ _ _ _ _ _ _ _ _ _ _ _ _ _ _ _ _ _ _ _ _ _ _ _ _ _ _ _ _ _ _ _ _ _ _ _ _ _ _ _ _ _ _ _ _ _ _ _ _ _ _ _ _ _ _ _ _ _ _ _ _ _ _ _ _ _ _ _ _ _ _ _ _ _ _ _ _ _ _ _ _ _ _ _ _ _ _ _ _ _ (by rw [hcol,hh']; exact pe) (s1.trans st)
theorem Gqm {w hh : Nat} (hw2 : w≤64) (hh2 : hh≤64) :
  ∀ (n : Nat) (top : Int) (h : Gag) (sv : Value) (σ : ES) (K2 K3 K5 K6 K7 K8 K9 Ka Kb Kc Kd Ke Kf Kg Kh Ki Kj Kk Kl Km Kn Ko Kp Kq Kr Ks Kt Ku Kv Kw Kx Ky Kz J0 J1 J2 J3 J4 J5 J6 J7 J8 J9 Ja Jb Jc Jd Je Jf Jg Jh Ji Jj Jk Jl Jm Jn Jo Jp Jq Jr Js Jt Ju Jv Jw Jx Jy Jz Y0 Y1 Y2 Y3 Y4 Y5 Y6 Y7 Y8 Y9 Ya Yb Yc Yd Ye Yf Yg Yh Yi Yj Yk Yl Ym Yn Yo Yp Yq Yr Ys Yt Yu Yv Yw Yx Yy Yz Z0 Z1 Z2 : Value),(hh : Int)≤top + 4 * n→top + 4 * n≤hh + 3→0≤top→σ.b.w = w→σ.b.h = hh→PE h q p c pb ob P sv σ→σ.out.length + 12 * w * n + 20 < 1000000 →
   (∀ (h' : Gag) (sv' : Value) (K2 K3 K4 K5 K6 K7 K8 K9 Ka Kb Kc Kd Ke Kf Kg Kh Ki Kj Kk Kl Km Kn Ko Kp Kq Kr Ks Kt Ku Kv Kw Kx Ky Kz J0 J1 J2 J3 J4 J5 J6 J7 J8 J9 Ja Jb Jc Jd Je Jf Jg Jh Ji Jj Jk Jl Jm Jn Jo Jp Jq Jr Js Jt Ju Jv Jw Jx Jy Jz Y0 Y1 Y2 Y3 Y4 Y5 Y6 Y7 Y8 Y9 Ya Yb Yc Yd Ye Yf Yg Yh Yi Yj Yk Yl Ym Yn Yo Yp Yq Yr Ys Yt Yu Yv Yw Yx Yy Yz Z0 Z1 Z2 : Value),PE h' q p c pb ob P sv' (σ.stripes P top n)→Stp h h' c ob sv sv' →
    Ok tab Gq7 k #[ptr q,v1,K2,K3,K4,K5,K6,K7,K8,K9,Ka,Kb,Kc,Kd,Ke,Kf,Kg,Kh,Ki,Kj,Kk,Kl,Km,Kn,Ko,Kp,Kq,Kr,Ks,Kt,Ku,Kv,Kw,Kx,Ky,Kz,J0,J1,J2,J3,J4,J5,J6,J7,J8,J9,Ja,Jb,Jc,Jd,Je,Jf,Jg,Jh,Ji,Jj,Jk,Jl,Jm,Jn,Jo,Jp,Jq,Jr,Js,Jt,Ju,Jv,Jw,Jx,Jy,Jz,Y0,Y1,Y2,Y3,Y4,Y5,Y6,Y7,Y8,Y9,Ya,Yb,Yc,Yd,Ye,Yf,Yg,Yh,Yi,Yj,Yk,Yl,Ym,Yn,Yo,Yp,Yq,Yr,Ys,Yt,Yu,Yv,Yw,Yx,Yy,Yz,Z0,Z1,Z2] h' R) →
   Ok tab Gq7 (.inLoop Gut :: .inBlock 0 :: k) #[ptr q,v1,K2,K3,.int .i64 top,K5,K6,K7,K8,K9,Ka,Kb,Kc,Kd,Ke,Kf,Kg,Kh,Ki,Kj,Kk,Kl,Km,Kn,Ko,Kp,Kq,Kr,Ks,Kt,Ku,Kv,Kw,Kx,Ky,Kz,J0,J1,J2,J3,J4,J5,J6,J7,J8,J9,Ja,Jb,Jc,Jd,Je,Jf,Jg,Jh,Ji,Jj,Jk,Jl,Jm,Jn,Jo,Jp,Jq,Jr,Js,Jt,Ju,Jv,Jw,Jx,Jy,Jz,Y0,Y1,Y2,Y3,Y4,Y5,Y6,Y7,Y8,Y9,Ya,Yb,Yc,Yd,Ye,Yf,Yg,Yh,Yi,Yj,Yk,Yl,Ym,Yn,Yo,Yp,Yq,Yr,Ys,Yt,Yu,Yv,Yw,Yx,Yy,Yz,Z0,Z1,Z2] h R:=by
 intro n
 induction n with
 | zero =>
  intro top h sv σ;intros;rename_i ha hb h0 hw hh' he hl hk
  have hq:=he.pr.blk
  rw [hw,hh'] at hq
  have hlt : ¬ top < (hh : Int):=by omega
  rw [Gad,G79,Go4,Gpb]
  simp [hq,hlt]
  exact hk h sv _ _ _ _ _ _ _ _ _ _ _ _ _ _ _ _ _ _ _ _ _ _ _ _ _ _ _ _ _ _ _ _ _ _ _ _ _ _ _ _ _ _ _ _ _ _ _ _ _ _ _ _ _ _ _ _ _ _ _ _ _ _ _ _ _ _ _ _ _ _ _ _ _ _ _ _ _ _ _ _ _ _ _ _ _ _ _ _ _ _ _ _ _ _ _ _ _ _ _ _ _ _ _ _ _ _ _ _ _ he (Stp.refl _ _ _ _)
 | succ n ih =>
  intro top h sv σ;intros;rename_i ha hb h0 hw hh' he hl hk
  have hq:=he.pr.blk
  rw [hw,hh'] at hq
  have hlt : top < (hh : Int):=by omega
  have hw4 : IntKind.i64.wrap (top + 4) = top + 4:=Gan (by omega) (by omega)
  have hle:=Gsq (P:=P) (n:=w) he.good (x:=0) (top:=top) (by omega) (by rw [hw]; omega) h0 (by rw [hh']; exact hlt)
  have hmul : 12 * w * (n + 1) = 12 * w * n + 12 * w:=by rw [Nat.mul_add]; omega
  rw [Gad,G79,Go4,Gpb]
  simp [hq,hlt]
  refine Gyw hw2 hh2 ⟨h0,hlt⟩ w 0 h sv σ _ _ _ _ _ _ _ _ _ _ _ _ _ _ _ _ _ _ _ _ _ _ _ _ _ _ _ _ _ _ _ _ _ _ _ _ _ _ _ _ _ _ _ _ _ _ _ _ _ _ _ _ _ _ _ _ _ _ _ _ _ _ _ _ _ _ _ _ _ _ _ _ _ _ _ _ _ _ _ _ _ _ _ _ _ _ _ _ _ _ _ _ _ _ _ _ _ _ _ _ _ _ _ _ _ _ (by omega) (by omega) hw hh' he (by omega) ?_
  intro h' sv';intros;rename_i pe st
  simp [hw4]
  refine ih (top + 4) h' sv' _ _ _ _ _ _ _ _ _ _ _ _ _ _ _ _ _ _ _ _ _ _ _ _ _ _ _ _ _ _ _ _ _ _ _ _ _ _ _ _ _ _ _ _ _ _ _ _ _ _ _ _ _ _ _ _ _ _ _ _ _ _ _ _ _ _ _ _ _ _ _ _ _ _ _ _ _ _ _ _ _ _ _ _ _ _ _ _ _ _ _ _ _ _ _ _ _ _ _ _ _ _ _ _ _ _ _ _ _ (by omega) (by omega) (by omega) (by rw [hle.w]; exact hw) (by rw [hle.h]; exact hh') pe (by have:=hle.len; omega) ?_
  intro h'' sv'';intros;rename_i pe2 st2
  exact hk h'' sv'' _ _ _ _ _ _ _ _ _ _ _ _ _ _ _ _ _ _ _ _ _ _ _ _ _ _ _ _ _ _ _ _ _ _ _ _ _ _ _ _ _ _ _ _ _ _ _ _ _ _ _ _ _ _ _ _ _ _ _ _ _ _ _ _ _ _ _ _ _ _ _ _ _ _ _ _ _ _ _ _ _ _ _ _ _ _ _ _ _ _ _ _ _ _ _ _ _ _ _ _ _ _ _ _ _ _ _ _ _ (by rw [ES.stripes,hw]; exact pe2) (st.trans st2)
theorem Gxc {s : Value} {pts : List (Int × Int)} :
  ∀ (m i : Nat) (h : Gag) (sv : Value) (σ : ES) (K2 K3 K4 K5 K6 K7 K8 K9 Ka Kb Kc Kd Ke Kf Kg Kh Ki Kj Kk Kl Km Kn Ko Kp Kq Kr Ks Kt Ku Kv Kw Kx Ky Kz J0 J1 J2 J3 J4 J5 J6 J7 J8 J9 Ja Jb Jc Jd Je Jf Jg Jh Ji Jj Jk Jl Jm Jn Jo Jp Jq Jr Js Jt Ju Jv Jw Jx Jy Jz Y0 Y1 Y2 Y3 Y4 Y5 Y6 Y7 Y8 Yc Yd Ye Yf Yg Yh Yi Yj Yk Yl Ym Yn Yo Yp Yq Yr Ys Yt Yu Yv Yw Yx Yy Yz Z0 Z1 Z2 : Value),m = pts.length - i→i≤pts.length→PE h q p c pb ob P sv σ→Far h s pts c ob sv→Gca σ.b pts→pts.length < 1000000 →
   (∀ (h' : Gag) (sv' : Value) (K2 K3 K4 K5 K6 K7 K8 K9 Ka Kb Kc Kd Ke Kf Kg Kh Ki Kj Kk Kl Km Kn Ko Kp Kq Kr Ks Kt Ku Kv Kw Kx Ky Kz J0 J1 J2 J3 J4 J5 J6 J7 J8 J9 Ja Jb Jc Jd Je Jf Jg Jh Ji Jj Jk Jl Jm Jn Jo Jp Jq Jr Js Jt Ju Jv Jw Jx Jy Jz Y0 Y1 Y2 Y3 Y4 Y5 Y6 Y7 Y8 Y9 Ya Yb Yc Yd Ye Yf Yg Yh Yi Yj Yk Yl Ym Yn Yo Yp Yq Yr Ys Yt Yu Yv Yw Yx Yy Yz Z0 Z1 Z2 : Value),PE h' q p c pb ob P sv' (σ.clear (pts.drop i))→Stp h h' c ob sv sv'→Ok tab Gq7 k #[ptr q,v1,K2,K3,K4,K5,K6,K7,K8,K9,Ka,Kb,Kc,Kd,Ke,Kf,Kg,Kh,Ki,Kj,Kk,Kl,Km,Kn,Ko,Kp,Kq,Kr,Ks,Kt,Ku,Kv,Kw,Kx,Ky,Kz,J0,J1,J2,J3,J4,J5,J6,J7,J8,J9,Ja,Jb,Jc,Jd,Je,Jf,Jg,Jh,Ji,Jj,Jk,Jl,Jm,Jn,Jo,Jp,Jq,Jr,Js,Jt,Ju,Jv,Jw,Jx,Jy,Jz,Y0,Y1,Y2,Y3,Y4,Y5,Y6,Y7,Y8,Y9,Ya,Yb,Yc,Yd,Ye,Yf,Yg,Yh,Yi,Yj,Yk,Yl,Ym,Yn,Yo,Yp,Yq,Yr,Ys,Yt,Yu,Yv,Yw,Yx,Yy,Yz,Z0,Z1,Z2] h' R) →
   Ok tab Gq7 (.inLoop Gtw :: .inBlock 6 :: k) #[ptr q,v1,K2,K3,K4,K5,K6,K7,K8,K9,Ka,Kb,Kc,Kd,Ke,Kf,Kg,Kh,Ki,Kj,Kk,Kl,Km,Kn,Ko,Kp,Kq,Kr,Ks,Kt,Ku,Kv,Kw,Kx,Ky,Kz,J0,J1,J2,J3,J4,J5,J6,J7,J8,J9,Ja,Jb,Jc,Jd,Je,Jf,Jg,Jh,Ji,Jj,Jk,Jl,Jm,Jn,Jo,Jp,Jq,Jr,Js,Jt,Ju,Jv,Jw,Jx,Jy,Jz,Y0,Y1,Y2,Y3,Y4,Y5,Y6,Y7,Y8,s,.int .i64 pts.length,.int .i64 i,Yc,Yd,Ye,Yf,Yg,Yh,Yi,Yj,Yk,Yl,Ym,Yn,Yo,Yp,Yq,Yr,Ys,Yt,Yu,Yv,Yw,Yx,Yy,Yz,Z0,Z1,Z2] h R:=by
 intro m
 induction m with
 | zero =>
  intro i h sv σ;intros;rename_i hm hi he hf ha hpl hk
  have hlt : ¬ ((i : Int) < pts.length):=by omega
  rw [Gad,G72,Gom,Gnn]
  simp [hlt]
  refine hk h sv _ _ _ _ _ _ _ _ _ _ _ _ _ _ _ _ _ _ _ _ _ _ _ _ _ _ _ _ _ _ _ _ _ _ _ _ _ _ _ _ _ _ _ _ _ _ _ _ _ _ _ _ _ _ _ _ _ _ _ _ _ _ _ _ _ _ _ _ _ _ _ _ _ _ _ _ _ _ _ _ _ _ _ _ _ _ _ _ _ _ _ _ _ _ _ _ _ _ _ _ _ _ _ _ _ _ _ _ _ ?_ (Stp.refl _ _ _ _)
  rw [List.drop_of_length_le (by omega)]; exact he
 | succ m ih =>
  intro i h sv σ;intros;rename_i hm hi he hf ha hpl hk
  have hlt : ((i : Int) < pts.length):=by omega
  have hw : IntKind.i64.wrap ((i : Int) + 1) = (i : Int) + 1:=Gbc (n:=i + 1) (by omega)
  have hil : i < pts.length:=by omega
  obtain ⟨id,off,blk,hs,hb,ht,hle⟩:=hf.get hil
  have hin:=ha _ (List.getElem_mem hil)
  have hsp : σ.clear (pts.drop i) = (σ.map pts[i].1 pts[i].2 (Gbz false)).clear (pts.drop (i + 1)):=by
   rw [List.drop_eq_getElem_cons hil]; rfl
  generalize hx : pts[i].1 = x at *
  generalize hy : pts[i].2 = y at *
  have he2:=he.push (some ⟨false,[.int .i64 x,.int .i64 y]⟩)
  have hs2:=Stp.push h (some ⟨false,[.int .i64 x,.int .i64 y]⟩) c ob sv
  have hf2:=hf.stp hs2
  have hK : ∀ y : Blk,blk? (h++[some y]) h.length = some y:=fun y=>blk?_push_eq
  have hq2:=he2.pr.blk
  have htc:=fun R=>Ghy (R:=R) (v:=false) he2.pr.cb (x:=x) (y:=y) hin
  obtain ⟨p4,s4⟩:=he2.map (x:=x) (y:=y) hin (Gbh false)
  have hmm : (fun z : Cell=>({ z with t:=false } : Cell)) = Gbz false:=rfl
  rw [hmm] at htc
  have hls : (h++[some (⟨false,[.int .i64 x,.int .i64 y]⟩ : Blk)]).set c (some ⟨false,Gco (σ.b.upd x y (Gbz false)).cs⟩) = h.set c (some ⟨false,Gco (σ.b.upd x y (Gbz false)).cs⟩)++[some ⟨false,[.int .i64 x,.int .i64 y]⟩] :=
   List.set_append_left _ _ he.lts.2.2.1
  rw [Gad,G72,Gom,Gnn]
  rw [hls] at htc p4 s4
  simp [-List.cons_append,-List.append_assoc,hlt,hw,hs,hb,ht,hle,hK,hq2,htc]
  rw [← hs]
  have st4:=hs2.trans s4
  refine ih (i + 1) _ sv _ _ _ _ _ _ _ _ _ _ _ _ _ _ _ _ _ _ _ _ _ _ _ _ _ _ _ _ _ _ _ _ _ _ _ _ _ _ _ _ _ _ _ _ _ _ _ _ _ _ _ _ _ _ _ _ _ _ _ _ _ _ _ _ _ _ _ _ _ _ _ _ _ _ _ _ _ _ _ _ _ _ _ _ _ _ _ _ _ _ _ _ _ _ _ _ _ _ _ _ _ _ _ _ _ _ _ (by omega) (by omega) p4 (hf.stp st4) (ha.le (Gis he.good hin (Gbh false))) hpl ?_
  intro h' sv';intros;rename_i pe st
  exact hk h' sv' _ _ _ _ _ _ _ _ _ _ _ _ _ _ _ _ _ _ _ _ _ _ _ _ _ _ _ _ _ _ _ _ _ _ _ _ _ _ _ _ _ _ _ _ _ _ _ _ _ _ _ _ _ _ _ _ _ _ _ _ _ _ _ _ _ _ _ _ _ _ _ _ _ _ _ _ _ _ _ _ _ _ _ _ _ _ _ _ _ _ _ _ _ _ _ _ _ _ _ _ _ _ _ _ _ _ _ _ _ (by rw [hsp]; exact pe) (st4.trans st)
end
section
variable {h : Gag} {q p c pb ob : Nat} {P : PP} {sv : Value} {σ : ES} {k : List Ga1} {R : RP} {v1 : Value}
theorem Gxb {z : Nat} {bits : List Nat} (hbl : bits.length≤4) :
  ∀ (m i : Nat) (h : Gag) (sv : Value) (σ : ES) (K1 K2 K3 K4 K5 K6 K7 K8 K9 Ka Kb Kc Kd Ke Kf Kg Kh Ki Kj Kk Kl Km Kn Ko Kp Kq Kr Ks Kt Ku Kv Kw Kx Ky Kz J0 J1 J2 J3 J4 J5 J6 J7 J8 J9 Ja Jb Jc Jd Je Jf Jg Jh Ji Jj Jk Jl Jm Jn Jo Jp Jq Jr Js Jt Ju Jv Jw Jx Jy Jz Y0 Y1 Y2 Y3 Y4 Y5 Y6 Y7 Y8 Y9 Ya Yb Yc Yd Ye Yf Yg Yh Yi Yj Yk Yl Ym Yn Yo Yp Yt Yu Yv Yw Yx Yy Yz Z0 Z1 Z2 : Value),m = bits.length - i→i≤bits.length→PE h q p c pb ob P sv σ →
   blk? h z = some ⟨false,bits.map fun (n : Nat)=>.int .i64 n⟩→(z ≠ c∧z ≠ ob∧sid sv ≠ some z)→σ.out.length + 10 < 1000000 + i →
   (∀ (h' : Gag) (sv' : Value) (K1 K2 K3 K4 K5 K6 K7 K8 K9 Ka Kb Kc Kd Ke Kf Kg Kh Ki Kj Kk Kl Km Kn Ko Kp Kq Kr Ks Kt Ku Kv Kw Kx Ky Kz J0 J1 J2 J3 J4 J5 J6 J7 J8 J9 Ja Jb Jc Jd Je Jf Jg Jh Ji Jj Jk Jl Jm Jn Jo Jp Jq Jr Js Jt Ju Jv Jw Jx Jy Jz Y0 Y1 Y2 Y3 Y4 Y5 Y6 Y7 Y8 Y9 Ya Yb Yc Yd Ye Yf Yg Yh Yi Yj Yk Yl Ym Yn Yo Yp Yq Yr Ys Yt Yu Yv Yw Yx Yy Yz Z0 Z1 Z2 : Value),PE h' q p c pb ob P sv' (σ.emits P (bits.drop i))→Stp h h' c ob sv sv'→Ok tab Gq7 k #[ptr q,K1,K2,K3,K4,K5,K6,K7,K8,K9,Ka,Kb,Kc,Kd,Ke,Kf,Kg,Kh,Ki,Kj,Kk,Kl,Km,Kn,Ko,Kp,Kq,Kr,Ks,Kt,Ku,Kv,Kw,Kx,Ky,Kz,J0,J1,J2,J3,J4,J5,J6,J7,J8,J9,Ja,Jb,Jc,Jd,Je,Jf,Jg,Jh,Ji,Jj,Jk,Jl,Jm,Jn,Jo,Jp,Jq,Jr,Js,Jt,Ju,Jv,Jw,Jx,Jy,Jz,Y0,Y1,Y2,Y3,Y4,Y5,Y6,Y7,Y8,Y9,Ya,Yb,Yc,Yd,Ye,Yf,Yg,Yh,Yi,Yj,Yk,Yl,Ym,Yn,Yo,Yp,Yq,Yr,Ys,Yt,Yu,Yv,Yw,Yx,Yy,Yz,Z0,Z1,Z2] h' R) →
   Ok tab Gq7 (.inLoop Gv4 :: .inBlock 8 :: k) #[ptr q,K1,K2,K3,K4,K5,K6,K7,K8,K9,Ka,Kb,Kc,Kd,Ke,Kf,Kg,Kh,Ki,Kj,Kk,Kl,Km,Kn,Ko,Kp,Kq,Kr,Ks,Kt,Ku,Kv,Kw,Kx,Ky,Kz,J0,J1,J2,J3,J4,J5,J6,J7,J8,J9,Ja,Jb,Jc,Jd,Je,Jf,Jg,Jh,Ji,Jj,Jk,Jl,Jm,Jn,Jo,Jp,Jq,Jr,Js,Jt,Ju,Jv,Jw,Jx,Jy,Jz,Y0,Y1,Y2,Y3,Y4,Y5,Y6,Y7,Y8,Y9,Ya,Yb,Yc,Yd,Ye,Yf,Yg,Yh,Yi,Yj,Yk,Yl,Ym,Yn,Yo,Yp,.slice (some ⟨z,0,none⟩) bits.length 1,.int .i64 bits.length,.int .i64 i,Yt,Yu,Yv,Yw,Yx,Yy,Yz,Z0,Z1,Z2] h R:=by
 intro m
 induction m with
 | zero =>
  intro i h sv σ;intros;rename_i hm hi he hz hn hl hk
  have hlt : ¬ ((i : Int) < bits.length):=by omega
  rw [Gad,G8b,Gni,Goy]
  simp [hlt]
  refine hk h sv _ _ _ _ _ _ _ _ _ _ _ _ _ _ _ _ _ _ _ _ _ _ _ _ _ _ _ _ _ _ _ _ _ _ _ _ _ _ _ _ _ _ _ _ _ _ _ _ _ _ _ _ _ _ _ _ _ _ _ _ _ _ _ _ _ _ _ _ _ _ _ _ _ _ _ _ _ _ _ _ _ _ _ _ _ _ _ _ _ _ _ _ _ _ _ _ _ _ _ _ _ _ _ _ _ _ _ _ _ _ ?_ (Stp.refl _ _ _ _)
  rw [List.drop_of_length_le (by omega)]; exact he
 | succ m ih =>
  intro i h sv σ;intros;rename_i hm hi he hz hn hl hk
  have hlt : ((i : Int) < bits.length):=by omega
  have hw : IntKind.i64.wrap ((i : Int) + 1) = (i : Int) + 1:=Gbc (n:=i + 1) (by omega)
  have hil : i < bits.length:=by omega
  have hq:=he.pr.blk
  have hsp : σ.emits P (bits.drop i) = (σ.emit P 18 bits[i]).emits P (bits.drop (i + 1)):=by
   rw [List.drop_eq_getElem_cons hil]; rfl
  obtain ⟨sv1,h1,e1,p1,s1⟩:=Giu he (by omega) 18 bits[i]
  have hz1 : blk? h1 z = some ⟨false,bits.map fun (n : Nat)=>.int .i64 n⟩:=by rw [s1.same z (blk?_lt hz) hn.1 hn.2.1 hn.2.2]; exact hz
  have hn1 : z ≠ c∧z ≠ ob∧sid sv1 ≠ some z:=⟨hn.1,hn.2.1,fun e=>by
   rcases s1.fresh z e with h | h
   ·exact hn.2.2 h
   ·have:=blk?_lt hz; omega⟩
  rw [Gad,G8b,Gni,Goy]
  simp [hlt,hw,hz,hil,hq,e1]
  refine ih (i + 1) h1 sv1 _ _ _ _ _ _ _ _ _ _ _ _ _ _ _ _ _ _ _ _ _ _ _ _ _ _ _ _ _ _ _ _ _ _ _ _ _ _ _ _ _ _ _ _ _ _ _ _ _ _ _ _ _ _ _ _ _ _ _ _ _ _ _ _ _ _ _ _ _ _ _ _ _ _ _ _ _ _ _ _ _ _ _ _ _ _ _ _ _ _ _ _ _ _ _ _ _ _ _ _ _ _ _ _ _ _ _ _ (by omega) (by omega) p1 hz1 hn1 (by simp [ES.emit]; omega) ?_
  intro h' sv';intros;rename_i pe st
  exact hk h' sv' _ _ _ _ _ _ _ _ _ _ _ _ _ _ _ _ _ _ _ _ _ _ _ _ _ _ _ _ _ _ _ _ _ _ _ _ _ _ _ _ _ _ _ _ _ _ _ _ _ _ _ _ _ _ _ _ _ _ _ _ _ _ _ _ _ _ _ _ _ _ _ _ _ _ _ _ _ _ _ _ _ _ _ _ _ _ _ _ _ _ _ _ _ _ _ _ _ _ _ _ _ _ _ _ _ _ _ _ _ _ (by rw [hsp]; exact pe) (s1.trans st)
theorem Gzy (he : PE h q p c pb ob P sv σ) (hl : σ.out.length≤1000) (on : Bool) :
  ∃ sv' h',(∀ R,Ret tab 126 [ptr q,.bool on] h R = R (.tuple #[]) h')∧PE h' q p c pb ob P sv' (σ.clean P on)∧Stp h h' c ob sv sv':=by
 have key : Ret tab 126 [ptr q,.bool on] h fun v h'=>v = .tuple #[]∧∃ sv',PE h' q p c pb ob P sv' (σ.clean P on)∧Stp h h' c ob sv sv':=by
  have hsl:=Ggk he.pr.cb.ok.w2 he.pr.cb.ok.h2
  have hw2:=he.pr.cb.ok.w2
  have hh2:=he.pr.cb.ok.h2
  have hst : 12 * σ.b.w * Gai σ.b.h≤12 * 64 * 16:=Nat.mul_le_mul (by omega) (by unfold Gai; omega)
  have g1 : (σ.b.h : Int)≤0 + 4 * (Gai σ.b.h : Nat):=by unfold Gai; omega
  have g2 : 0 + 4 * ((Gai σ.b.h : Nat) : Int)≤σ.b.h + 3:=by unfold Gai; omega
  have hls:=Ggn (P:=P) (n:=Gai σ.b.h) he.good (top:=0) (by omega) g2
  rw [G4p,show G2z = .seq (Gau 0 G2z) (.seq (Gau 1 G2z) (tlC 2 G2z)) from rfl]
  generalize hT : tlC 2 G2z = tl
  simp only [Gau,tlC,Gd5,G2z]
  simp
  refine Gqm hw2 hh2 (Gai σ.b.h) 0 h sv σ _ _ _ _ _ _ _ _ _ _ _ _ _ _ _ _ _ _ _ _ _ _ _ _ _ _ _ _ _ _ _ _ _ _ _ _ _ _ _ _ _ _ _ _ _ _ _ _ _ _ _ _ _ _ _ _ _ _ _ _ _ _ _ _ _ _ _ _ _ _ _ _ _ _ _ _ _ _ _ _ _ _ _ _ _ _ _ _ _ _ _ _ _ _ _ _ _ _ _ _ _ _ _ _ _ _ _ _ g1 g2 (by omega) rfl rfl he (by omega) ?_
  intro h1 sv1;intros;rename_i p1 s1
  obtain ⟨s,h2,e2,p2,s2,f2⟩:=p1.scan
  obtain ⟨a,cc,hs⟩:=f2.sl.shape
  have hq1:=p1.pr.blk
  rw [hls.w,hls.h] at e2 f2 hs hq1
  simp [hq1,e2,hs]
  rw [← hs]
  have hall : Gca (σ.stripes P 0 (Gai σ.b.h)).b (scan σ.b.w σ.b.h):=by have:=Gc3 (σ.stripes P 0 (Gai σ.b.h)).b; rwa [hls.w,hls.h] at this
  refine Gxc _ 0 h2 sv1 _ _ _ _ _ _ _ _ _ _ _ _ _ _ _ _ _ _ _ _ _ _ _ _ _ _ _ _ _ _ _ _ _ _ _ _ _ _ _ _ _ _ _ _ _ _ _ _ _ _ _ _ _ _ _ _ _ _ _ _ _ _ _ _ _ _ _ _ _ _ _ _ _ _ _ _ _ _ _ _ _ _ _ _ _ _ _ _ _ _ _ _ _ _ _ _ _ _ _ _ _ _ _ _ _ _ _ rfl (by omega) p2 f2 hall (by omega) ?_
  intro h3 sv3;intros;rename_i p3 s3
  rw [List.drop_zero] at p3
  have hcl:=Gn1 hls.good hall
  rw [← hT]
  simp only [tlC,G2z]
  cases on
  ·simp [G75]
   exact ⟨sv3,p3,(s1.trans s2).trans s3⟩
  ·have p4:=p3.push (some ⟨false,[.int .i64 1,.int .i64 0,.int .i64 1,.int .i64 0]⟩)
   have s4:=Stp.push h3 (some ⟨false,[.int .i64 1,.int .i64 0,.int .i64 1,.int .i64 0]⟩) c ob sv3
   obtain ⟨l1,l2,l3,l4,l5⟩:=p3.lts
   simp [Gd4]
   refine Gxb (z:=h3.length) (bits:=[1,0,1,0]) (by simp) 4 0 _ sv3 _ _ _ _ _ _ _ _ _ _ _ _ _ _ _ _ _ _ _ _ _ _ _ _ _ _ _ _ _ _ _ _ _ _ _ _ _ _ _ _ _ _ _ _ _ _ _ _ _ _ _ _ _ _ _ _ _ _ _ _ _ _ _ _ _ _ _ _ _ _ _ _ _ _ _ _ _ _ _ _ _ _ _ _ _ _ _ _ _ _ _ _ _ _ _ _ _ _ _ _ _ _ _ _ _ _ _ _ (by simp) (by simp) p4 ?_ ⟨by omega,by omega,fun e=>by have:=p3.own.lt e; omega⟩ (by have:=hls.len; have:=hcl.len; omega) ?_
   ·simpa using blk?_push_eq (h:=h3) (x:=some (⟨false,[.int .i64 1,.int .i64 0,.int .i64 1,.int .i64 0]⟩ : Blk))
   ·intro h5 sv5;intros;rename_i p5 s5
    simp [G75]
    exact ⟨sv5,by rw [G5s P σ true rfl]; exact p5,(((s1.trans s2).trans s3).trans s4).trans s5⟩
 obtain ⟨v,h',e,rfl,sv',pe,st⟩:=Gck key
 exact ⟨sv',h',e,pe,st⟩
end
section
variable {h : Gag} {R : RP}
theorem Grq {n : Nat} (hn : n < 100000) : Ret tab 62 [.int .i64 n] h R = R (.tuple #[.int .i64 (Gas n),.int .i64 (kindOf n)]) h:=by
 have h1 : ¬ ((n : Int) < 0):=by omega
 rw [Gzf,B62]
 by_cases h0 : n = 0
 ·subst h0; simp [Qay,Gas,kindOf]
 ·have hn0 : ((n : Int) == 0) = false:=by simp [h0]
  have e1 : IntKind.i64.wrap ((n : Int) - 1) = ((n - 1 : Nat) : Int):=by rw [Gan (by omega) (by omega)]; omega
  have e2 : ((n - 1 : Nat) : Int).tdiv 3 = (((n - 1) / 3 : Nat) : Int):=rfl
  have e3 : ((n - 1 : Nat) : Int).tmod 3 = (((n - 1) % 3 : Nat) : Int):=rfl
  have e4 : IntKind.i64.wrap ((((n - 1) / 3 : Nat) : Int)) = (((n - 1) / 3 : Nat) : Int):=Gbc (by omega)
  have e5 : IntKind.i64.wrap ((((n - 1) / 3 : Nat) : Int) + 1) = (((n - 1) / 3 + 1 : Nat) : Int):=Gbc (n:=(n - 1) / 3 + 1) (by omega)
  have hp : Gas n = (n - 1) / 3 + 1:=by unfold Gas; rw [if_neg h0]
  have hk : kindOf n = (n - 1) % 3:=by unfold kindOf; rw [if_neg h0]
  rw [hp,hk]
  generalize hm : n - 1 = m at *
  generalize hd : m / 3 = d at *
  generalize hr : m % 3 = r at *
  simp [-Int.natCast_add,h1,hn0,e1,e2,e3,e4,e5,Qay]
theorem Gxi {n : Nat} (hn : n < 100000) (m : MD) : Ret tab 39 [.int .i64 n,m.val] h R = R (.bool (Gaw m n)) h:=by
 have hK : ∀ y : Blk,blk? (frz h++[some y]) h.length = some y:=fun y=>by
  have:=blk?_push_eq (h:=frz h) (x:=some y)
  rwa [Ghx] at this
 have hp:=fun h R=>Grq (h:=h) (R:=R) hn
 have hk : kindOf n = 0∨kindOf n = 1∨kindOf n = 2:=by unfold kindOf; split <;> omega
 have h4 : decide ((4 : Int)≤(Gas n : Int)) = decide (4≤Gas n):=by congr 1; exact propext (by omega)
 rw [G9u,B39]
 obtain ⟨b1,b2,b3,b4,b5⟩:=m
 rcases hk with hk | hk | hk
 ·cases b1 <;> simp [Gaa,MD.val,hp,hk,hK,h4,G98,Gaw]
 ·cases b1 <;> simp [Gaa,MD.val,hp,hk,hK,h4,G98,Gaw]
 ·simp [Gaa,MD.val,hp,hk,hK,G98,Gaw]
end
structure Git (h h' : Gag) (p c : Nat) (sv : Value) (σ : ES) : Prop where
 cb : CB h' false p c σ.b
 good : σ.b.Good
 own : Ga7 h' 2 sv σ.out.length (Ggt σ.out)
 fresh : ∀ id,sid sv = some id→h.length≤id
 same : ∀ id,id < h.length→id ≠ c→blk? h' id = blk? h id
 len : h.length≤h'.length
section
variable {h : Gag} {p c : Nat} {b : BS}
theorem Git.nothing {h h' : Gag} (hb : CB h false p c b) (hr : b.Rng) (hk : ∀ id,id < h.length→blk? h' id = blk? h id) (hl : h.length≤h'.length) : Git h h' p c (.slice none 0 0) ⟨b,[]⟩ :=
 ⟨⟨by rw [hk _ (blk?_lt hb.blkp)]; exact hb.blkp,by rw [hk _ (blk?_lt hb.blkc)]; exact hb.blkc,hb.ok⟩,⟨hb.ok,hr⟩,Ga7.nil _ _,fun id h=>by simp [sid] at h,fun id h1 _=>hk id h1,hl⟩
theorem Gdu {n planes o : Int} (h : planes < 1∨60 < planes∨n < 0∨3 * planes - 3 < n) : Gbj n planes o = 2:=by unfold Gbj; rw [if_pos h]
theorem run_c (hb : CB h false p c b) (hr : b.Rng) (n planes o : Int) (m : MD) :
  ∃ sv h',(∀ R,Ret tab 80 [ptr p,.int .i64 n,.int .i64 planes,.int .i64 o,m.val] h R = R (.tuple #[sv,.int .i64 (Gbj n planes o)]) h')∧Git h h' p c sv (Gkn m b n planes o):=by
 have key : Ret tab 80 [ptr p,.int .i64 n,.int .i64 planes,.int .i64 o,m.val] h fun v h'=>∃ sv,v = .tuple #[sv,.int .i64 (Gbj n planes o)]∧Git h h' p c sv (Gkn m b n planes o):=by
  have hb1 : CB (h++[some ⟨false,[.bool m.byp,.bool m.res,.bool m.rst,.bool m.cz,.bool m.sy]⟩]) false p c b:=⟨blk?_push hb.blkp,blk?_push hb.blkc,hb.ok⟩
  have hsz:=fun R=>G63 (R:=R) hb1
  have hw0:=hb.ok.w1
  have hw0' : ((b.w : Int) == 0) = false:=by simp; omega
  have hnone : Gbj n planes o ≠ 0→∀ h',(∀ id,id < h.length→blk? h' id = blk? h id)→h.length≤h'.length→Git h h' p c (.slice none 0 0) (Gkn m b n planes o):=by
   intro he h' hk hl
   unfold Gkn
   rw [if_neg he]
   exact Git.nothing hb hr hk hl
  have hkp : ∀ x : Option Blk,∀ id,id < h.length→blk? (h++[x]) id = blk? h id:=fun x id hid=>blk?_push_lt hid
  rw [G9z,show B80 = .seq (Gau 0 B80) (.seq (Gau 1 B80) (.seq (Gau 2 B80) (.seq (Gau 3 B80) (.seq (Gau 4 B80) (tlC 5 B80))))) from rfl]
  generalize hT : tlC 5 B80 = tl
  simp only [Gau,tlC,Gd5,B80]
  obtain ⟨byp,res,rst,cz,sy⟩:=m
  simp only [MD.val] at *
  by_cases h1 : planes < 1
  ·have he:=Gdu (n:=n) (o:=o) (.inl h1 : planes < 1∨60 < planes∨n < 0∨3 * planes - 3 < n)
   simp [Gaa,Gah,hsz,hw0',h1,Glw]
   exact ⟨_,⟨rfl,he.symm⟩,hnone (by rw [he]; decide) _ (hkp _) (by simp)⟩
  by_cases h2 : 60 < planes
  ·have he:=Gdu (n:=n) (o:=o) (.inr (.inl h2) : planes < 1∨60 < planes∨n < 0∨3 * planes - 3 < n)
   simp [Gaa,Gah,hsz,hw0',h1,h2,Glw]
   exact ⟨_,⟨rfl,he.symm⟩,hnone (by rw [he]; decide) _ (hkp _) (by simp)⟩
  by_cases h3 : n < 0
  ·have he:=Gdu (n:=n) (o:=o) (.inr (.inr (.inl h3)) : planes < 1∨60 < planes∨n < 0∨3 * planes - 3 < n)
   simp [Gaa,Gah,hsz,hw0',h1,h2,h3,Glw]
   exact ⟨_,⟨rfl,he.symm⟩,hnone (by rw [he]; decide) _ (hkp _) (by simp)⟩
  have hm1 : IntKind.i64.wrap (3 * planes) = 3 * planes:=Gan (by omega) (by omega)
  have hm2 : IntKind.i64.wrap (3 * planes - 3) = 3 * planes - 3:=Gan (by omega) (by omega)
  by_cases h4 : 3 * planes - 3 < n
  ·have he:=Gdu (n:=n) (o:=o) (.inr (.inr (.inr h4)) : planes < 1∨60 < planes∨n < 0∨3 * planes - 3 < n)
   simp [Gaa,Gah,hsz,hw0',h1,h2,h3,hm1,hm2,h4,Glw]
   exact ⟨_,⟨rfl,he.symm⟩,hnone (by rw [he]; decide) _ (hkp _) (by simp)⟩
  by_cases h5 : o < 0
  ·have he : Gbj n planes o = 3:=by unfold Gbj; rw [if_neg (by omega),if_pos (.inl h5)]
   simp [Gaa,Gah,hsz,hw0',h1,h2,h3,hm1,hm2,h4,h5,Glw]
   exact ⟨_,⟨rfl,he.symm⟩,hnone (by rw [he]; decide) _ (hkp _) (by simp)⟩
  by_cases h6 : 3 < o
  ·have he : Gbj n planes o = 3:=by unfold Gbj; rw [if_neg (by omega),if_pos (.inr h6)]
   simp [Gaa,Gah,hsz,hw0',h1,h2,h3,hm1,hm2,h4,h5,h6,Glw]
   exact ⟨_,⟨rfl,he.symm⟩,hnone (by rw [he]; decide) _ (hkp _) (by simp)⟩
  simp [Gaa,Gah,hsz,hw0',h1,h2,h3,hm1,hm2,h4,h5,h6,Glw]
  have he : Gbj n planes o = 0:=by unfold Gbj; rw [if_neg (by omega),if_neg (by omega)]
  rw [he]
  unfold Gkn
  rw [if_pos he]
  obtain ⟨n,rfl⟩:=Int.eq_ofNat_of_zero_le (show 0≤n by omega)
  obtain ⟨planes,rfl⟩:=Int.eq_ofNat_of_zero_le (show 0≤planes by omega)
  obtain ⟨o,rfl⟩:=Int.eq_ofNat_of_zero_le (show 0≤o by omega)
  have hp:=fun h R=>Grq (h:=h) (R:=R) (n:=n) (by omega)
  have hrw:=fun h R=>Gxi (h:=h) (R:=R) (n:=n) (by omega) ⟨byp,res,rst,cz,sy⟩
  have hpl:=Gdg (n:=n) (planes:=planes) (by omega) (by omega)
  have e1 : IntKind.i64.wrap ((planes : Int) - 1) = ((planes - 1 : Nat) : Int):=by rw [Gan (by omega) (by omega)]; omega
  have e2 : IntKind.i64.wrap (((planes - 1 : Nat) : Int) - (Gas n : Int)) = ((planes - 1 - Gas n : Nat) : Int):=by rw [Gan (by omega) (by omega)]; omega
  rw [← hT,show tlC 5 B80 = .seq (Gau 5 B80) (.seq (Gau 6 B80) (.seq (Gau 7 B80) (.seq (Gau 8 B80) (tlC 9 B80)))) from rfl]
  generalize hT2 : tlC 9 B80 = tl2
  simp only [Gau,tlC,Gd5,B80]
  simp only [MD.val] at hrw
  have hlp:=blk?_lt hb.blkp
  have hlc:=blk?_lt hb.blkc
  have hblk:=hb.blkp
  simp [hp,hrw,e1,e2,Gbe,Ga0,Gb8,Gc4,Gou,Gnj,book,Gd0,Gb5,Ghw,Gbq,Gcg]
  generalize hP : Gc9 ⟨byp,res,rst,cz,sy⟩ n planes o = P
  have hPs : P.s = planes - 1 - Gas n:=by rw [← hP]; rfl
  have hPo : P.o = o:=by rw [← hP]; rfl
  have hPc : P.cz = cz:=by rw [← hP]; rfl
  have hPr : P.rw = Gaw ⟨byp,res,rst,cz,sy⟩ n:=by rw [← hP]; rfl
  have hrs : Gb1 ⟨byp,res,rst,cz,sy⟩ b n planes o = if kindOf n = 0 then ES.sigs P ⟨b,[]⟩ (scan b.w b.h) else if kindOf n = 1 then ES.refs P ⟨b,[]⟩ (scan b.w b.h) else ES.clean P ⟨b,[]⟩ sy:=by
   unfold Gb1; rw [hP]
  rw [hrs]
  rw [← hPr,← hPs,← hPo,← hPc]
  generalize hH : h++[some (⟨false,[.bool byp,.bool res,.bool rst,.bool P.cz,.bool sy]⟩ : Blk),some ⟨false,[.slice none 0 0]⟩,
   some ⟨false,[ptr p,.int .i64 b.w,.int .i64 b.h,.int .i64 P.s,.int .i64 P.o,.bool P.cz,.bool P.rw,.func (.func 123) #[] #[ptr (h.length + 3),ptr (h.length + 1)]]⟩,some ⟨false,[ptr (h.length + 2)]⟩] = H
  have hlow : ∀ id,id < h.length→blk? H id = blk? h id:=fun id hid=>by rw [← hH]; exact Gbf hid
  have hHl : H.length = h.length + 4:=by rw [← hH]; simp
  have hm0 : blk? H h.length = some ⟨false,[.bool byp,.bool res,.bool rst,.bool P.cz,.bool sy]⟩:=by rw [← hH,Gbe]; rfl
  have he : PE H (h.length + 2) p c (h.length + 3) (h.length + 1) P (.slice none 0 0) ⟨b,[]⟩:=by
   refine ⟨⟨by rw [← hH,Ga0]; rfl,⟨by rw [hlow _ hlp]; exact hb.blkp,by rw [hlow _ hlc]; exact hb.blkc,hb.ok⟩,by simp; omega,⟨by rw [hPs]; omega,by rw [hPo]; omega⟩,hr⟩,by rw [← hH,Ga0]; rfl,by rw [← hH,Ga0]; rfl,Ga7.nil _ _,?_,?_,?_⟩
   ·have:=hb.ne; omega
   ·omega
   ·simp [sid]
  have hq:=he.pr.blk
  have hob:=he.obk
  have hpb:=he.pbk
  have fin : ∀ (σ : ES) (sv' : Value) (H' : Gag),PE H' (h.length + 2) p c (h.length + 3) (h.length + 1) P sv' σ→Stp H H' c (h.length + 1) (.slice none 0 0) sv'→Git h H' p c sv' σ:=by
   intro σ sv' H' pe st
   refine ⟨pe.pr.cb,pe.good,pe.own,fun id hid=>?_,fun id hid hc=>?_,by have:=st.len; omega⟩
   ·rcases st.fresh id hid with h | h
    ·simp [sid] at h
    ·omega
   ·rw [st.same id (by omega) hc (by omega) (by simp [sid]),hlow id hid]
  rw [← hT2]
  simp only [tlC,B80]
  have hk : kindOf n = 0∨kindOf n = 1∨kindOf n = 2:=by unfold kindOf; split <;> omega
  rcases hk with hk | hk | hk
  ·obtain ⟨sv',H',e,pe,st⟩:=Gl2 he (by simp)
   have hob':=pe.obk
   simp [hk,hpb,e,hob',Glw]
   exact fin _ _ _ pe st
  ·obtain ⟨sv',H',e,pe,st⟩:=Grp he (by simp)
   have hob':=pe.obk
   simp [hk,hpb,e,hob',Glw]
   exact fin _ _ _ pe st
  ·obtain ⟨sv',H',e,pe,st⟩:=Gzy he (by simp) sy
   have hob':=pe.obk
   simp [hk,hpb,hm0,e,hob',Glw]
   exact fin _ _ _ pe st
 obtain ⟨v,h',e,sv,rfl,rs⟩:=Gck key
 exact ⟨sv,h',e,rs⟩
end
theorem Gkp {h : Gag} {esz n : Nat} {s : Value} {cs : List Value} (ho : Ga7 h esz s n cs) {N : Nat} (hl : h.length≤N) : below N s = true:=by
 rcases ho.2 with ⟨rfl,_⟩ | ⟨id,rfl,hb⟩
 ·simp
 ·have:=blk?_lt hb; simp; omega
section
variable {h : Gag} {R : RP}
end
theorem Gr4 {h h' : Gag} {esz n : Nat} {s : Value} {cs : List Value} (hs : Sl h esz s n cs) (hk : ∀ id b,sid s = some id→blk? h id = some b→∃ b',blk? h' id = some b'∧b'.cells = b.cells) : Sl h' esz s n cs:=by
 obtain ⟨hl,hs⟩:=hs
 refine ⟨hl,?_⟩
 rcases hs with hs | ⟨id,off,rfl,h0 | ⟨b,hb,hle,hc⟩⟩
 ·exact .inl hs
 ·exact .inr ⟨id,off,rfl,.inl h0⟩
 ·obtain ⟨b',h1,h2⟩:=hk id b rfl hb
  exact .inr ⟨id,off,rfl,.inr ⟨b',h1,by rw [h2]; exact hle,by rw [h2]; exact hc⟩⟩
def Gcj (xs : List Int) : List Value:=xs.map fun v=>.int .i64 v
structure Go1 (h : Gag) (s : Value) (xs : List Int) : Prop where
 sl : Sl h 1 s xs.length (Gcj xs)
 sb : below h.length s = true
 bl : ∀ id b,sid s = some id→blk? h id = some b→∀ n,Gat n b.cells = true
 rng : ∀ v ∈ xs,-9223372036854775808≤v∧v < 9223372036854775808
theorem Go1.frz {h : Gag} {s : Value} {xs : List Int} (hi : Go1 h s xs) : Go1 (frz h) s xs:=by
 refine ⟨Gr4 hi.sl fun id b hid hb=>⟨_,Glf hb (hi.bl id b hid hb _),rfl⟩,by rw [Ghx]; exact hi.sb,fun id b hid hb=>?_,hi.rng⟩
 obtain ⟨b0,h0,rfl,_⟩:=Gjm hb
 exact hi.bl id b0 hid h0
theorem Gj1 {h h' : Gag} {s : Value} (hl : h.length≤h'.length) {a : Option Addr} {n c : Nat} (hs : s = .slice a n c) (hb : below h.length s = true) : below h'.length s = true:=by
 subst hs
 cases a with
 | none=>simp
 | some a=>simp at hb ⊢; omega
theorem Go1.keep {h h' : Gag} {s : Value} {xs : List Int} (hi : Go1 h s xs) (hl : h.length≤h'.length) (hk : ∀ id,id < h.length→sid s = some id→blk? h' id = blk? h id) : Go1 h' s xs:=by
 obtain ⟨a,c,hs⟩:=hi.sl.shape
 have hlt : ∀ id,sid s = some id→id < h.length:=by
  intro id hid
  have:=hi.sb
  rw [hs] at this hid
  cases a with
  | none=>simp [sid] at hid
  | some a=>simp [sid] at hid; simp at this; omega
 refine ⟨hi.sl.of_sid fun id b hid hb=>by rw [hk id (blk?_lt hb) hid]; exact hb,Gj1 hl hs hi.sb,fun id b hid hb=>?_,hi.rng⟩
 rw [hk id (hlt id hid) hid] at hb
 exact hi.bl id b hid hb
theorem Go1.get {h : Gag} {s : Value} {xs : List Int} (hi : Go1 h s xs) {i : Nat} (hil : i < xs.length) :
  ∃ id off b,s = .slice (some ⟨id,off,none⟩) xs.length 1∧blk? h id = some b∧b.cells[off + i]? = some (.int .i64 xs[i]):=by
 obtain ⟨id,off,b,hs,hb,hc⟩:=hi.sl.get hil
 refine ⟨id,off,b,hs,hb,?_⟩
 have:=hc 0 (by omega)
 simp only [Nat.mul_one,Nat.add_zero] at this
 rw [this]
 simp [Gcj,hil]
section
variable {h : Gag} {R : RP}
theorem G2t {k : List Ga1} {v0 v2 : Value} (m : Nat)
  (hk : ∀ K1 K3 K4 K5 K7 K8 K9 Ka Kb Kc Kd Ke Kf Kg Kh Ki Kj Kk Kl Km Kn Ko : Value,Ok tab R37 k #[v0,K1,v2,K3,K4,K5,.int .i64 m,K7,K8,K9,Ka,Kb,Kc,Kd,Ke,Kf,Kg,Kh,Ki,Kj,Kk,Kl,Km,Kn,Ko] h R) :
  ∀ (n a c : Nat) (K1 K4 K5 K7 K8 K9 Ka Kb Kc Kd Ke Kf Kg Kh Ki Kj Kk Kl Km Kn Ko : Value),n = a→c + Gi8 a = m→m≤64→a < 18446744073709551616 →
   Ok tab R37 (.inLoop G2v :: .inBlock 2 :: k) #[v0,K1,v2,.int .u64 a,K4,K5,.int .i64 c,K7,K8,K9,Ka,Kb,Kc,Kd,Ke,Kf,Kg,Kh,Ki,Kj,Kk,Kl,Km,Kn,Ko] h R:=by
 intro n
 induction n using Nat.strongRecOn with
 | _ n ih =>
  intro a c;intros;rename_i hn hc hm ha
  rw [Gad,l37_1,Gzq,Gz8]
  by_cases h0 : a = 0
  ·subst h0
   simp [Gi8] at hc
   subst hc
   simp
   exact hk ..
  ·have hlt : (0 : Int) < a:=by omega
   have hb:=Gzc h0
   have hsh : Gxo .u64 (a : Int) 1 = ((a / 2 : Nat) : Int):=by
    have:=G8g (i:=.u64) (a:=a) (b:=1) (by decide)
    simpa using this
   have hw : IntKind.i64.wrap ((c : Int) + 1) = ((c + 1 : Nat) : Int):=Gbc (n:=c + 1) (by omega)
   have ih':=ih (a / 2) (by omega) (a / 2) (c + 1)
   generalize hq : ((c + 1 : Nat) : Int) = q at *
   generalize hq2 : ((a / 2 : Nat) : Int) = q2 at *
   simp [show 0 < a by omega,hsh,hw]
   exact ih' _ _ _ _ _ _ _ _ _ _ _ _ _ _ _ _ _ _ _ _ _ rfl (by omega) hm (by omega)
theorem Qap {k : List Ga1} {s v0 v2 : Value} {xs : List Int} (hi : Go1 h s xs)
  (hk : ∀ (a : Nat) (K1 K4 K5 K6 K7 K8 K9 Ka Kb Kc Kd Ke Kf Kg Kh Ki Kj Kk Kl Km Kn Ko : Value),Gi8 a = Gab xs→a < 18446744073709551616→Ok tab R37 k #[v0,K1,v2,.int .u64 a,K4,K5,K6,K7,K8,K9,Ka,Kb,Kc,Kd,Ke,Kf,Kg,Kh,Ki,Kj,Kk,Kl,Km,Kn,Ko] h R) :
  ∀ (n i a : Nat) (K1 K4 K5 K6 Ka Kb Kc Kd Ke Kf Kg Kh Ki Kj Kk Kl Km Kn Ko : Value),n = xs.length - i→i≤xs.length→Gi8 a = Gab (xs.take i)→a < 18446744073709551616→xs.length < 9000000000 →
   Ok tab R37 (.inLoop G4m :: .inBlock 0 :: k) #[v0,K1,v2,.int .u64 a,K4,K5,K6,s,.int .i64 xs.length,.int .i64 i,Ka,Kb,Kc,Kd,Ke,Kf,Kg,Kh,Ki,Kj,Kk,Kl,Km,Kn,Ko] h R:=by
 intro n
 induction n with
 | zero =>
  intro i a;intros;rename_i hn hi' hb ha hl
  have hlt : ¬ ((i : Int) < xs.length):=by omega
  rw [Gad,Qc8,Gww,Gwo]
  simp [hlt]
  exact hk a _ _ _ _ _ _ _ _ _ _ _ _ _ _ _ _ _ _ _ _ _ _ (by rw [hb,List.take_of_length_le (by omega)]) ha
 | succ n ih =>
  intro i a;intros;rename_i hn hi' hb ha hl
  have hlt : ((i : Int) < xs.length):=by omega
  have hil : i < xs.length:=by omega
  have hw : IntKind.i64.wrap ((i : Int) + 1) = ((i + 1 : Nat) : Int):=Gbc (n:=i + 1) (by omega)
  obtain ⟨id,off,b,hs,hbk,hc⟩:=hi.get hil
  obtain ⟨r1,r2⟩:=hi.rng xs[i] (List.getElem_mem hil)
  have hm:=fun R=>Gkm (h:=h) (R:=R) r1 r2
  have ho : orI .u64 (a : Int) (xs[i].natAbs : Int) = ((a ||| xs[i].natAbs : Nat) : Int):=u64_or_nat a xs[i].natAbs ha (by omega)
  have hlt64 : a ||| xs[i].natAbs < 2 ^ 64:=Nat.or_lt_two_pow ha (by omega)
  have hb' : Gi8 (a ||| xs[i].natAbs) = Gab (xs.take (i + 1)):=by
   rw [Qak,hb,List.take_succ_eq_append_getElem hil,Gab,Gab,List.foldl_append]; rfl
  have ih':=ih (i + 1) (a ||| xs[i].natAbs)
  rw [Gad,Qc8,Gww,Gwo]
  generalize hq : ((i + 1 : Nat) : Int) = q at *
  generalize hq2 : ((a ||| xs[i].natAbs : Nat) : Int) = q2 at *
  simp [hlt,hs,hbk,hc,hm,ho,hw]
  rw [← hs]
  exact ih' _ _ _ _ _ _ _ _ _ _ _ _ _ _ _ _ _ _ _ (by omega) (by omega) hb' hlt64 hl
theorem Gy4 {h : Gag} {s : Value} {xs : List Int} (hi : Go1 h s xs) : Gab xs≤64:=by
 rw [Gf2]
 intro v hv
 have:=hi.rng v hv
 omega
theorem Guy {s : Value} {xs : List Int} (hi : Go1 h s xs) (hl : xs.length < 9000000000) : Ret tab 37 [s] h R = R (.int .i64 (Gab xs)) h:=by
 obtain ⟨a,cc,hs⟩:=hi.sl.shape
 have key : Ret tab 37 [s] h fun v h'=>v = .int .i64 (Gab xs)∧h' = h:=by
  rw [G8u,B37]
  refine ⟨by simp [hi.sb],?_⟩
  simp [hs]
  rw [← hs]
  refine Qap hi.frz ?_ _ 0 0 _ _ _ _ _ _ _ _ _ _ _ _ _ _ _ _ _ _ _ rfl (by omega) (by simp [Gab,Gi8]) (by omega) hl
  intro a;intros;rename_i hb ha
  simp
  refine G2t (Gab xs) ?_ a a 0 _ _ _ _ _ _ _ _ _ _ _ _ _ _ _ _ _ _ _ _ _ rfl (by omega) (Gy4 hi) ha
  intros
  simp [fin37]
 obtain ⟨v,h',e,rfl,rfl⟩:=Gck key
 exact e R
end
theorem Gmg : ∀ n,Gd4 [.int .i64 0,.bool false,.bool false,.bool false] n = Gco (blank n)
 | 0=>rfl
 | n + 1=>by rw [Gd4,Gmg n,blank,blank,List.replicate_succ,Gco]; rfl
section
variable {h : Gag} {R : RP}
theorem G6i {w hh : Int} : Ret tab 105 [.int .i64 w,.int .i64 hh] h R = R (.bool (sized w hh)) h:=by
 rw [Gt0,Qez]
 by_cases a1 : 1≤w
 ·by_cases a2 : w≤64
  ·by_cases a3 : 1≤hh
   ·by_cases a4 : hh≤64 <;> simp [Gaa,a1,a2,a3,a4,Gqy,sized]
   ·simp [Gaa,a1,a2,a3,Gqy,sized]
  ·simp [Gaa,a1,a2,Gqy,sized]
 ·simp [Gaa,a1,Gqy,sized]
def Gdc (h : Gag) (w hh : Nat) : Gag:=h++[some ⟨false,Gco (blank (w * hh))⟩,some ⟨false,[.int .i64 w,.int .i64 hh,.slice (some ⟨h.length,0,none⟩) (w * hh) 4]⟩]
theorem Gib (h : Gag) {w hh : Nat} (w1 : 1≤w) (w2 : w≤64) (h1 : 1≤hh) (h2 : hh≤64) : CB (Gdc h w hh) false (h.length + 1) h.length (Gcb w hh) :=
 ⟨by unfold Gdc; rw [Ga0]; rfl,by unfold Gdc; rw [Gbe]; rfl,(Gcc w1 w2 h1 h2).ok⟩
theorem Gee (h : Gag) (w hh : Nat) : ∀ id,id < h.length→blk? (Gdc h w hh) id = blk? h id:=fun id hid=>Gbf hid
theorem Gg1 (h : Gag) (w hh : Nat) : (Gdc h w hh).length = h.length + 2:=by simp [Gdc]
theorem Qbi {w hh : Nat} (w1 : 1≤w) (w2 : w≤64) (h1 : 1≤hh) (h2 : hh≤64) : Ret tab 55 [.int .i64 w,.int .i64 hh] h R = R (.tuple #[ptr (h.length + 1),.int .i64 0]) (Gdc h w hh):=by
 have hm : w * hh≤64 * 64:=Nat.mul_le_mul w2 h2
 have hs:=fun R=>Gyd (h:=h) (R:=R) w1 w2 h1 h2
 have hw : IntKind.i64.wrap ((w : Int) * hh) = ((w * hh : Nat) : Int):=by rw [← Int.natCast_mul]; exact Gbc (by omega)
 have hr : ((w * hh : Nat) : Int)≤(Gaq : Int):=by unfold Gaq; omega
 rw [G1c,B55]
 simp [-Int.natCast_mul,hs,hw,hr,Gmg,Qdb,Gdc]
theorem G10 {w hh : Int} (hs : sized w hh = false) : Ret tab 55 [.int .i64 w,.int .i64 hh] h R = R (.tuple #[.pointer none,.int .i64 2]) h:=by
 rw [G1c,B55]
 simp [G6i,hs,Qdb]
end
section
variable {h : Gag} {R : RP}
end
structure Qe2 (h : Gag) (s : Value) (l : List (Int × Nat)) : Prop where
 sl : Sl h 2 s l.length (Ggt l)
 sb : below h.length s = true
 bl : ∀ id b,sid s = some id→blk? h id = some b→∀ n,Gat n b.cells = true
theorem Gl6 (n : Nat) : ∀ l,Gat n (Ggt l) = true
 | []=>by simp [Ggt]
 | p :: l=>by simp [Ggt,Gl6 n l]
theorem G5m {h : Gag} {s : Value} {l : List (Int × Nat)} (ho : Ga7 h 2 s l.length (Ggt l)) : Qe2 h s l:=by
 refine ⟨ho.sl,Gkp ho (Nat.le_refl _),fun id b hid hb n=>?_⟩
 rcases ho.2 with ⟨rfl,_⟩ | ⟨id',rfl,hb'⟩
 ·simp [sid] at hid
 ·simp [sid] at hid; subst hid
  rw [hb'] at hb; injection hb with hb; subst hb
  exact Gl6 n l
section
variable {h : Gag} {R : RP}
end
structure Pss (h : Gag) (s : Value) (vs : List Value) (ls : List (List (Int × Nat))) : Prop where
 sl : Sl h 1 s vs.length vs
 sb : below h.length s = true
 bl : ∀ id b,sid s = some id→blk? h id = some b→Gat h.length b.cells = true
 len : vs.length = ls.length
 each : ∀ i (h1 : i < vs.length) (h2 : i < ls.length),Qe2 h vs[i] ls[i]
theorem Pss.get {h : Gag} {s : Value} {vs : List Value} {ls : List (List (Int × Nat))} (hp : Pss h s vs ls) {i : Nat} (hi : i < vs.length) :
  ∃ id off b,s = .slice (some ⟨id,off,none⟩) vs.length 1∧blk? h id = some b∧b.cells[off + i]? = some vs[i]:=by
 obtain ⟨id,off,b,hs,hb,hc⟩:=hp.sl.get hi
 refine ⟨id,off,b,hs,hb,?_⟩
 have:=hc 0 (by omega)
 simp only [Nat.mul_one,Nat.add_zero] at this
 rw [this,List.getElem?_eq_getElem hi]
section
variable {h : Gag} {R : RP}
end
structure SL (B : Nat) (h0 h : Gag) (p c : Nat) (b : BS) (s : Value) (vs : List Value) (ls : List (List (Int × Nat))) : Prop where
 cb : CB h false p c b
 good : b.Good
 bp : B≤p∧B≤c
 own : Ga7 h 1 s vs.length vs
 len : vs.length = ls.length
 each : ∀ (i : Nat) (v : Value) (l : List (Int × Nat)),vs[i]? = some v→ls[i]? = some l→Ga7 h 2 v l.length (Ggt l)∧∀ id,sid v = some id→B≤id∧id ≠ c∧id ≠ p∧sid s ≠ some id
 far : ∀ id,sid s = some id→B≤id∧id ≠ c∧id ≠ p
 low : ∀ id,id < B→blk? h id = blk? h0 id
 lenB : B≤h.length
theorem SL.start {B : Nat} {h0 h : Gag} {p c : Nat} {b : BS} (cb : CB h false p c b) (good : b.Good) (bp : B≤p∧B≤c) (low : ∀ id,id < B→blk? h id = blk? h0 id) (lenB : B≤h.length) : SL B h0 h p c b (.slice none 0 0) [] [] :=
 ⟨cb,good,bp,Ga7.nil _ _,rfl,fun i v l hv=>by simp at hv,fun id hid=>by simp [sid] at hid,low,lenB⟩
theorem SL.step {B : Nat} {h0 h h1 : Gag} {p c : Nat} {b : BS} {s sv : Value} {vs : List Value} {ls : List (List (Int × Nat))} {σ : ES} (w : SL B h0 h p c b s vs ls) (hr : Git h h1 p c sv σ) (hl : vs.length < 100000) :
  ∃ s' H,Gb0 (h1++[some ⟨false,[sv]⟩]) 1 24 s (.slice (some ⟨h1.length,0,none⟩) 1 1) = some (s',H)∧SL B h0 H p c σ.b s' (vs++[sv]) (ls++[σ.out]):=by
 have hlt:=fun id (hid : sid s = some id)=>w.own.lt hid
 have own1 : Ga7 h1 1 s vs.length vs:=w.own.of_blk fun id hid hb=>by rw [hr.same id (blk?_lt hb) (w.far id hid).2.1]; exact hb
 have hsl : Sl (h1++[some ⟨false,[sv]⟩]) 1 (.slice (some ⟨h1.length,0,none⟩) 1 1) 1 [sv]:=⟨by simp,.inr ⟨h1.length,0,rfl,.inr ⟨_,blk?_push_eq,by simp,by simp⟩⟩⟩
 have own2 : Ga7 (h1++[some ⟨false,[sv]⟩]) 1 s vs.length vs:=own1.of_blk fun id _ hb=>blk?_push hb
 obtain ⟨H,ha,hK,hHl,hHs⟩:=Gbs (bytes:=24) own2 hsl (by unfold Gaq; omega) (by omega) (by omega)
 simp only [List.length_append,List.length_singleton] at ha hK hHl hHs
 have hk : ∀ id,id < h1.length→sid s ≠ some id→blk? H id = blk? h1 id:=fun id hid hne=>by rw [hHs id (by omega) hne,blk?_push_lt hid]
 have hlen:=hr.len
 have hlB:=w.lenB
 have hpc:=w.bp
 refine ⟨_,H,ha,⟨⟨?_,?_,hr.good.ok⟩,hr.good,w.bp,⟨by simp,.inr ⟨h1.length + 1,by simp,hK⟩⟩,by simp [w.len],fun i v l hv hl'=>?_,fun id hid=>?_,fun id hid=>?_,by omega⟩⟩
 ·rw [hk p (blk?_lt hr.cb.blkp) (fun e=>(w.far p e).2.2 rfl)]; exact hr.cb.blkp
 ·rw [hk c (blk?_lt hr.cb.blkc) (fun e=>(w.far c e).2.1 rfl)]; exact hr.cb.blkc
 ·by_cases hi : i < vs.length
  ·rw [List.getElem?_append_left hi] at hv
   rw [List.getElem?_append_left (by rw [← w.len]; exact hi)] at hl'
   obtain ⟨o,f⟩:=w.each i v l hv hl'
   refine ⟨o.of_blk fun id hid hb=>?_,fun id hid=>?_⟩
   ·obtain ⟨f1,f2,f3,f4⟩:=f id hid
    rw [hk id (Nat.lt_of_lt_of_le (blk?_lt hb) hlen) f4,hr.same id (blk?_lt hb) f2]; exact hb
   ·obtain ⟨f1,f2,f3,f4⟩:=f id hid
    refine ⟨f1,f2,f3,?_⟩
    have:=o.lt hid
    simp [sid]; omega
  ·have hi' : i = vs.length:=by
    have:=(List.getElem?_eq_some_iff.1 hv).1
    simp at this; omega
   subst hi'
   rw [List.getElem?_append_right (Nat.le_refl _)] at hv
   rw [w.len,List.getElem?_append_right (Nat.le_refl _)] at hl'
   simp at hv hl'
   subst hv; subst hl'
   have hsv:=hr.fresh
   refine ⟨hr.own.of_blk fun id hid hb=>?_,fun id hid=>?_⟩
   ·rw [hk id (blk?_lt hb) (fun e=>by have:=hlt id e; have:=hsv id hid; omega)]; exact hb
   ·have h2:=hsv id hid
    have h3:=hr.own.lt hid
    have:=blk?_lt w.cb.blkp
    have:=blk?_lt w.cb.blkc
    refine ⟨by omega,by omega,by omega,?_⟩
    simp [sid]; omega
 ·simp [sid] at hid
  have:=blk?_lt hr.cb.blkp
  have:=blk?_lt hr.cb.blkc
  exact ⟨by omega,by omega,by omega⟩
 ·have:=w.low id hid
  rw [hk id (by omega) (fun e=>by have:=(w.far id e).1; omega),hr.same id (by omega) (by omega)]; exact this
theorem SL.pss {B : Nat} {h0 h : Gag} {p c : Nat} {b : BS} {s : Value} {vs : List Value} {ls : List (List (Int × Nat))} (w : SL B h0 h p c b s vs ls) : Pss h s vs ls:=by
 refine ⟨w.own.sl,Gkp w.own (Nat.le_refl _),fun id bk hid hb=>?_,w.len,fun i h1 h2=>?_⟩
 ·rcases w.own.2 with ⟨rfl,_⟩ | ⟨id',rfl,hb'⟩
  ·simp [sid] at hid
  ·simp [sid] at hid; subst hid
   rw [hb'] at hb; injection hb with hb; subst hb
   rw [Gh3]
   intro v hv
   obtain ⟨i,hi,rfl⟩:=List.getElem_of_mem hv
   exact Gkp (w.each i vs[i] (ls[i]'(by rw [← w.len]; exact hi)) (List.getElem?_eq_getElem hi) (List.getElem?_eq_getElem _)).1 (Nat.le_refl _)
 ·exact G5m (w.each i vs[i] ls[i] (List.getElem?_eq_getElem h1) (List.getElem?_eq_getElem h2)).1
theorem Pss.keep {h h' : Gag} {s : Value} {vs : List Value} {ls : List (List (Int × Nat))} (hp : Pss h s vs ls) (hl : h.length≤h'.length) (hk : ∀ id,id < h.length→blk? h' id = blk? h id) : Pss h' s vs ls:=by
 obtain ⟨a,cc,hs⟩:=hp.sl.shape
 have hlt : ∀ id,sid s = some id→id < h.length:=by
  intro id hid
  have:=hp.sb
  rw [hs] at this hid
  cases a with
  | none=>simp [sid] at hid
  | some a=>simp [sid] at hid; simp at this; omega
 have hsy : ∀ {v : Value} {l : List (Int × Nat)},Qe2 h v l→Qe2 h' v l:=by
  intro v l y
  obtain ⟨a',c',hv⟩:=y.sl.shape
  refine ⟨y.sl.of_sid fun id b _ hb=>by rw [hk id (blk?_lt hb)]; exact hb,Gj1 hl hv y.sb,fun id b hid hb=>?_⟩
  have hlt' : id < h.length:=by
   have:=y.sb
   rw [hv] at this hid
   cases a' with
   | none=>simp [sid] at hid
   | some a'=>simp [sid] at hid; simp at this; omega
  rw [hk id hlt'] at hb
  exact y.bl id b hid hb
 refine ⟨hp.sl.of_sid fun id b _ hb=>by rw [hk id (blk?_lt hb)]; exact hb,Gj1 hl hs hp.sb,fun id b hid hb=>?_,hp.len,fun i h1 h2=>hsy (hp.each i h1 h2)⟩
 rw [hk id (hlt id hid)] at hb
 exact Gdn hl _ (hp.bl id b hid hb)
structure Ghu (h h' : Gag) (s : Value) (r : Int × List (List (Int × Nat))) : Prop where
 pss : ∃ vs,Pss h' s vs r.2
 low : ∀ id,id < h.length→blk? h' id = blk? h id
 len : h.length≤h'.length
theorem Ghu.nil {h h' : Gag} (low : ∀ id,id < h.length→blk? h' id = blk? h id) (len : h.length≤h'.length) (e : Int) : Ghu h h' (.slice none 0 0) (e,[]) :=
 ⟨⟨[],(Ga7.nil _ _).sl,by simp,fun id b hid=>by simp [sid] at hid,rfl,fun i h1=>by simp at h1⟩,low,len⟩
section
variable {h : Gag} {R : RP} {k : List Ga1}
theorem Gs9 {B : Nat} {h0 : Gag} {b0 : BS} {p c M : Nat} {m : MD} {planes o : Nat} {v10 v11 : Value} (hM : blk? h0 M = some ⟨false,[.bool m.byp,.bool m.res,.bool m.rst,.bool m.cz,.bool m.sy]⟩) (hMB : M < B) (hp1 : planes≤60) (ho : o≤3)
  (hk : ∀ (h' : Gag) (s : Value) (vs : List Value) (b : BS) (ls : List (List (Int × Nat))) (K0 K1 K2 K3 K4 K5 K6 K7 K8 K9 Kc Kd Ke Kf Kg Ki Kj Kk Kl Km Kn Ko Kp Kq Kr Ks Kt Ku Kv Kw Kx Ky Kz J0 J1 J2 J3 J4 J5 J6 J7 J8 J9 Ja Jb Jc Jd Je Jf Jg Jh Ji Jj Jk Jl Jm Jn Jo Jp Jq Jr Js Jt Ju Jv Jw Jx Jy Jz Y0 Y1 Y2 Y3 Y4 Y5 Y6 Y7 Y8 Y9 Ya Yb Yc Yd Ye Yf Yg Yh Yi : Value),SL B h0 h' p c b s vs ls→ls = Gaf m planes o (3 * planes - 2) 0 b0→Ok tab R35 k #[K0,K1,K2,K3,K4,K5,K6,K7,K8,K9,v10,v11,Kc,Kd,Ke,Kf,Kg,s,Ki,Kj,Kk,Kl,Km,Kn,Ko,Kp,Kq,Kr,Ks,Kt,Ku,Kv,Kw,Kx,Ky,Kz,J0,J1,J2,J3,J4,J5,J6,J7,J8,J9,Ja,Jb,Jc,Jd,Je,Jf,Jg,Jh,Ji,Jj,Jk,Jl,Jm,Jn,Jo,Jp,Jq,Jr,Js,Jt,Ju,Jv,Jw,Jx,Jy,Jz,Y0,Y1,Y2,Y3,Y4,Y5,Y6,Y7,Y8,Y9,Ya,Yb,Yc,Yd,Ye,Yf,Yg,Yh,Yi] h' R) :
  ∀ (n i : Nat) (h : Gag) (b : BS) (s : Value) (vs : List Value) (ls : List (List (Int × Nat))) (K0 K1 K2 K4 K5 K6 K7 K8 Kd Ke Kf Ki Kj Kk Kl Km Kn Ko Kp Kq Kr Ks Kt Ku Kv Kw Kx Ky Kz J0 J1 J2 J3 J4 J5 J6 J7 J8 J9 Ja Jb Jc Jd Je Jf Jg Jh Ji Jj Jk Jl Jm Jn Jo Jp Jq Jr Js Jt Ju Jv Jw Jz Y0 Y1 Y2 Y3 Y4 Y5 Y6 Y7 Y8 Y9 Ya Yb Yc Yd Ye Yf Yg Yh Yi : Value),i + n = 3 * planes - 2→ls.length = i→ls++Gaf m planes o n i b = Gaf m planes o (3 * planes - 2) 0 b0→SL B h0 h p c b s vs ls →
   Ok tab R35 (.inLoop G5t :: .inBlock 2 :: k) #[K0,K1,K2,.int .i64 o,K4,K5,K6,K7,K8,ptr M,v10,v11,ptr p,Kd,Ke,Kf,.int .i64 planes,s,Ki,Kj,Kk,Kl,Km,Kn,Ko,Kp,Kq,Kr,Ks,Kt,Ku,Kv,Kw,Kx,Ky,Kz,J0,J1,J2,J3,J4,J5,J6,J7,J8,J9,Ja,Jb,Jc,Jd,Je,Jf,Jg,Jh,Ji,Jj,Jk,Jl,Jm,Jn,Jo,Jp,Jq,Jr,Js,Jt,Ju,Jv,Jw,.int .i64 (3 * planes - 2 : Nat),.int .i64 i,Jz,Y0,Y1,Y2,Y3,Y4,Y5,Y6,Y7,Y8,Y9,Ya,Yb,Yc,Yd,Ye,Yf,Yg,Yh,Yi] h R:=by
 intro n
 induction n with
 | zero =>
  intro i h b s vs ls;intros;rename_i hi hls hpa w
  have hlt : ¬ ((i : Int) < ((3 * planes - 2 : Nat) : Int)):=by omega
  generalize ((3 * planes - 2 : Nat) : Int) = np at *
  rw [Gad,Qcy,Gvs,Gva]
  simp [hlt]
  exact hk h s vs b ls _ _ _ _ _ _ _ _ _ _ _ _ _ _ _ _ _ _ _ _ _ _ _ _ _ _ _ _ _ _ _ _ _ _ _ _ _ _ _ _ _ _ _ _ _ _ _ _ _ _ _ _ _ _ _ _ _ _ _ _ _ _ _ _ _ _ _ _ _ _ _ _ _ _ _ _ _ _ _ _ _ _ _ _ _ _ _ _ w (by simpa [Gaf] using hpa)
 | succ n ih =>
  intro i h b s vs ls;intros;rename_i hi hls hpa w
  have hlt : (i : Int) < ((3 * planes - 2 : Nat) : Int):=by omega
  have hw : IntKind.i64.wrap ((i : Int) + 1) = ((i + 1 : Nat) : Int):=Gbc (n:=i + 1) (by omega)
  have hM1 : blk? h M = some ⟨false,[.bool m.byp,.bool m.res,.bool m.rst,.bool m.cz,.bool m.sy]⟩:=by rw [w.low M hMB]; exact hM
  obtain ⟨sv,h1,e1,r1⟩:=run_c w.cb w.good.rng i planes o m
  have herr : Gbj i planes o = 0:=by unfold Gbj; rw [if_neg (by omega),if_neg (by omega)]
  have hro : Gkn m b i planes o = Gb1 m b i planes o:=by unfold Gkn; rw [if_pos herr]; simp
  rw [herr] at e1
  rw [hro] at r1
  obtain ⟨s',H,ha,w'⟩:=w.step r1 (by rw [w.len]; omega)
  simp only [MD.val] at e1
  have ih':=ih (i + 1)
  generalize hq : ((i + 1 : Nat) : Int) = q at *
  generalize hnp : ((3 * planes - 2 : Nat) : Int) = np at *
  have e9:=w'
  rw [Gad,Qcy,Gvs,Gva]
  cases sv with
  | slice a sl cp =>
   simp [hlt,hM1,e1,Gd4,ha,hw]
   exact ih' H _ s' _ _ _ _ _ _ _ _ _ _ _ _ _ _ _ _ _ _ _ _ _ _ _ _ _ _ _ _ _ _ _ _ _ _ _ _ _ _ _ _ _ _ _ _ _ _ _ _ _ _ _ _ _ _ _ _ _ _ _ _ _ _ _ _ _ _ _ _ _ _ _ _ _ _ _ _ _ _ _ _ _ _ _ _ (by omega) (by simp; omega) (by rw [← hpa,Gaf]; simp) w'
  | _=>exact absurd r1.own.sl.shape (by simp)
theorem Gs7 {B : Nat} {h0 : Gag} {s : Value} {xs : List Int} {w hh : Nat} {p c : Nat} {v2 v3 v9 v10 v11 v13 : Value} (hi : Go1 h0 s xs) (hsB : ∀ id,sid s = some id→id < B) (w1 : 1≤w) (w2 : w≤64) (h1 : 1≤hh) (h2 : hh≤64) (hl : xs.length = w * hh)
  (hbad : ∀ h',(∀ id,id < B→blk? h' id = blk? h0 id)→B≤h'.length→¬ (∀ v ∈ xs,inR v)→R (.tuple #[.slice none 0 0,.int .i64 2]) h')
  (hk : ∀ (h' : Gag) (K1 K4 K5 K6 K7 K8 Ke Kf Kg Kh Ki Kj Kk Kl Km Kn Ko Kp Kq Kr Ks Kt Ku Kv Kw Kx Ky Kz J0 J1 J2 J3 J4 J5 J6 J7 J8 J9 Ja Jb Jc Jd Je Jf Jg Jh Ji Jj Jk Jl Jm Jn Jo Jp Jq Jr Js Jt Ju Jv Jw Jx Jy Jz Y0 Y1 Y2 Y3 Y4 Y5 Y6 Y7 Y8 Y9 Ya Yb Yc Yd Ye Yf Yg Yh Yi : Value),(∀ v ∈ xs,inR v)→CB h' false p c (Ga2 w hh xs xs.length)→(∀ id,id < B→blk? h' id = blk? h0 id)→B≤h'.length →
   Ok tab R35 k #[s,K1,v2,v3,K4,K5,K6,K7,K8,v9,v10,v11,ptr p,v13,Ke,Kf,Kg,Kh,Ki,Kj,Kk,Kl,Km,Kn,Ko,Kp,Kq,Kr,Ks,Kt,Ku,Kv,Kw,Kx,Ky,Kz,J0,J1,J2,J3,J4,J5,J6,J7,J8,J9,Ja,Jb,Jc,Jd,Je,Jf,Jg,Jh,Ji,Jj,Jk,Jl,Jm,Jn,Jo,Jp,Jq,Jr,Js,Jt,Ju,Jv,Jw,Jx,Jy,Jz,Y0,Y1,Y2,Y3,Y4,Y5,Y6,Y7,Y8,Y9,Ya,Yb,Yc,Yd,Ye,Yf,Yg,Yh,Yi] h' R) :
  ∀ (n i : Nat) (h : Gag) (K4 K5 K6 K7 K8 Ke Kf Kg Kh Ki Kj Kk Kl Km Kn Ko Kp Kq Kr Ks Kt Ku Kv Kw Kx Ky Kz J0 J1 J2 J3 J4 J8 J9 Ja Jb Jc Jd Je Jf Jg Jh Ji Jj Jk Jl Jm Jn Jo Jp Jq Jr Js Jt Ju Jv Jw Jx Jy Jz Y0 Y1 Y2 Y3 Y4 Y5 Y6 Y7 Y8 Y9 Ya Yb Yc Yd Ye Yf Yg Yh Yi : Value),n = xs.length - i→i≤xs.length→(∀ v ∈ xs.take i,inR v)→CB h false p c (Ga2 w hh xs i)→B≤p∧B≤c→(∀ id,id < B→blk? h id = blk? h0 id)→B≤h.length →
   Ok tab R35 (.inLoop G5x :: .inBlock 0 :: k) #[s,.int .i64 w,v2,v3,K4,K5,K6,K7,K8,v9,v10,v11,ptr p,v13,Ke,Kf,Kg,Kh,Ki,Kj,Kk,Kl,Km,Kn,Ko,Kp,Kq,Kr,Ks,Kt,Ku,Kv,Kw,Kx,Ky,Kz,J0,J1,J2,J3,J4,s,.int .i64 xs.length,.int .i64 i,J8,J9,Ja,Jb,Jc,Jd,Je,Jf,Jg,Jh,Ji,Jj,Jk,Jl,Jm,Jn,Jo,Jp,Jq,Jr,Js,Jt,Ju,Jv,Jw,Jx,Jy,Jz,Y0,Y1,Y2,Y3,Y4,Y5,Y6,Y7,Y8,Y9,Ya,Yb,Yc,Yd,Ye,Yf,Yg,Yh,Yi] h R:=by
 intro n
 have hm : w * hh≤64 * 64:=Nat.mul_le_mul w2 h2
 induction n with
 | zero =>
  intro i h;intros;rename_i hn hi' hr hcb hB low len
  have hlt : ¬ ((i : Int) < xs.length):=by omega
  have : i = xs.length:=by omega
  subst this
  rw [Gad,Qcf,Gum,Gua]
  simp [hlt]
  exact hk h _ _ _ _ _ _ _ _ _ _ _ _ _ _ _ _ _ _ _ _ _ _ _ _ _ _ _ _ _ _ _ _ _ _ _ _ _ _ _ _ _ _ _ _ _ _ _ _ _ _ _ _ _ _ _ _ _ _ _ _ _ _ _ _ _ _ _ _ _ _ _ _ _ _ _ _ _ _ _ _ _ _ _ (by rw [List.take_of_length_le (Nat.le_refl _)] at hr; exact hr) hcb low len
 | succ n ih =>
  intro i h;intros;rename_i hn hi' hr hcb hB low len
  have hlt : ((i : Int) < xs.length):=by omega
  have hil : i < xs.length:=by omega
  have hw : IntKind.i64.wrap ((i : Int) + 1) = ((i + 1 : Nat) : Int):=Gbc (n:=i + 1) (by omega)
  obtain ⟨id,off,b,hs,hbk,hc⟩:=hi.get hil
  have hbk' : blk? h id = some b:=by rw [low id (hsB id (by rw [hs]; rfl))]; exact hbk
  have hmod : (i : Int).tmod (w : Int) = ((i % w : Nat) : Int):=rfl
  have hdiv : (i : Int).tdiv (w : Int) = ((i / w : Nat) : Int):=rfl
  have hdw : IntKind.i64.wrap ((i / w : Nat) : Int) = ((i / w : Nat) : Int):=Gbc (by have:=Nat.div_le_self i w; omega)
  have hw0 : ¬ w = 0:=by omega
  have hinb:=Gii (i:=i) (h:=hh) (w:=w) (by omega) (by omega) (Ga2 w hh xs i).cs
  have ih':=ih (i + 1)
  have hmem:=List.getElem_mem hil
  have hstep:=Gr2 (i:=i) (w:=w) (by omega) hil hl
  have htk : ∀ v ∈ xs.take (i + 1),inR xs[i]→inR v:=by
   intro v hv hx
   rw [List.take_succ_eq_append_getElem hil] at hv
   rw [List.mem_append,List.mem_singleton] at hv
   rcases hv with hv | hv
   ·exact hr v hv
   ·rw [hv]; exact hx
  rw [Gad,Qcf,Gum,Gua]
  by_cases hin : inR xs[i]
  ·have hst:=fun R=>Qab (R:=R) (v:=xs[i]) hcb (x:=((i % w : Nat) : Int)) (y:=((i / w : Nat) : Int)) hinb hin
   have hmm : (fun z : Cell=>({ z with v:=xs[i] } : Cell)) = setV xs[i]:=rfl
   rw [hmm,hstep] at hst
   have hgood:=Gfe (Gcc w1 w2 h1 h2) hl (i + 1) (by omega) (fun v hv=>htk v hv hin)
   have hcb':=hcb.set (b':=Ga2 w hh xs (i + 1)) rfl rfl hgood.ok
   have n1 : ¬ xs[i]≤-1152921504606846976:=by unfold inR at hin; omega
   have n2 : ¬ 1152921504606846976≤xs[i]:=by unfold inR at hin; omega
   generalize hq : ((i + 1 : Nat) : Int) = q at *
   generalize hq2 : ((i % w : Nat) : Int) = q2 at *
   generalize hq3 : ((i / w : Nat) : Int) = q3 at *
   simp [Gaa,hlt,hs,hbk',hc,n1,n2,hmod,hdiv,hdw,hw0,hst,hw]
   rw [← hs]
   refine ih' _ _ _ _ _ _ _ _ _ _ _ _ _ _ _ _ _ _ _ _ _ _ _ _ _ _ _ _ _ _ _ _ _ _ _ _ _ _ _ _ _ _ _ _ _ _ _ _ _ _ _ _ _ _ _ _ _ _ _ _ _ _ _ _ _ _ _ _ _ _ _ _ _ _ _ _ _ _ _ _ (by omega) (by omega) (fun v hv=>htk v hv hin) hcb' hB (fun id hid=>?_) (by simp; omega)
   rw [blk?_set_ne (by omega)]; exact low id hid
  ·have hfin:=hbad h low len (fun hall=>hin (hall _ hmem))
   by_cases n1 : xs[i]≤-1152921504606846976
   ·simp [Gaa,Gah,hlt,hs,hbk',hc,n1,Gsb]
    exact hfin
   ·have n2 : 1152921504606846976≤xs[i]:=by unfold inR at hin; omega
    simp [Gaa,hlt,hs,hbk',hc,n1,n2,Gsb]
    exact hfin
end
section
variable {h : Gag} {R : RP} {k : List Ga1}
theorem G07 {s : Value} {xs : List Int} (hi : Go1 h s xs) (hl : xs.length < 9000000000) (w hh o : Int) (m : MD) :
  ∃ sv h',(∀ R,Ret tab 35 [s,.int .i64 w,.int .i64 hh,.int .i64 o,m.val] h R = R (.tuple #[sv,.int .i64 (Gaz xs w hh o m).1]) h')∧Ghu h h' sv (Gaz xs w hh o m):=by
 have key : Ret tab 35 [s,.int .i64 w,.int .i64 hh,.int .i64 o,m.val] h fun v h'=>∃ sv,v = .tuple #[sv,.int .i64 (Gaz xs w hh o m).1]∧Ghu h h' sv (Gaz xs w hh o m):=by
  obtain ⟨a,cc,hs⟩:=hi.sl.shape
  rw [G9b,show B35 = .seq (Gau 0 B35) (.seq (Gau 1 B35) (.seq (Gau 2 B35) (.seq (Gau 3 B35) (.seq (Gau 4 B35) (.seq (Gau 5 B35) (tlC 6 B35)))))) from rfl]
  generalize hT : tlC 6 B35 = tl
  simp only [Gau,tlC,Gd5,B35]
  have hkp : ∀ x : Option Blk,∀ id,id < h.length→blk? (h++[x]) id = blk? h id:=fun x id hid=>blk?_push_lt hid
  cases hsz : sized w hh
  ·have hr : Gaz xs w hh o m = (2,[]):=by unfold Gaz; rw [if_pos hsz]
   rw [hr]
   simp [MD.val,G10 hsz,Gsb]
   exact Ghu.nil (hkp _) (by simp) _
  have hsz':=hsz
  simp only [sized,decide_eq_true_eq] at hsz'
  obtain ⟨w,rfl⟩:=Int.eq_ofNat_of_zero_le (show 0≤w by omega)
  obtain ⟨hh,rfl⟩:=Int.eq_ofNat_of_zero_le (show 0≤hh by omega)
  have w1 : 1≤w:=by omega
  have w2 : w≤64:=by omega
  have h1 : 1≤hh:=by omega
  have h2 : hh≤64:=by omega
  have hm : w * hh≤64 * 64:=Nat.mul_le_mul w2 h2
  have hmw : IntKind.i64.wrap ((w : Int) * (hh : Int)) = ((w * hh : Nat) : Int):=by rw [← Int.natCast_mul]; exact Gbc (by omega)
  have hnew:=fun H R=>Qbi (h:=H) (R:=R) w1 w2 h1 h2
  have hls : ∀ H : Gag,(Gdc H w hh).length = H.length + 2:=fun H=>Gg1 H w hh
  have hlow : ∀ x : Option Blk,∀ id,id < h.length→blk? (Gdc (h++[x]) w hh) id = blk? h id:=fun x id hid=>by
   rw [Gee _ _ _ id (by simp; omega)]; exact hkp x id hid
  by_cases hln : xs.length = w * hh
  case neg =>
   have hr : Gaz xs w hh o m = (4,[]):=by
    unfold Gaz; rw [if_neg (by rw [hsz]; simp),if_pos (by rw [← Int.natCast_mul]; omega)]
   have hne : ((xs.length : Int) != ((w * hh : Nat) : Int)) = true:=by simp only [bne_iff_ne,ne_eq]; omega
   rw [hr]
   simp [-Int.natCast_mul,MD.val,hnew,hs,hmw,hne,Gsb]
   exact Ghu.nil (hlow _) (by rw [hls]; simp; omega) _
  have hne : ((xs.length : Int) != ((w * hh : Nat) : Int)) = false:=by rw [hln]; simp
  have hsq : (xs.length : Int) = (w : Int) * (hh : Int):=by rw [hln,Int.natCast_mul]
  by_cases ho1 : o < 0
  ·have hr : Gaz xs w hh o m = (3,[]):=by
    unfold Gaz; rw [if_neg (by rw [hsz]; simp),if_neg (by rw [hsq]; simp),if_pos (.inl ho1)]
   rw [hr]
   simp [-Int.natCast_mul,Gaa,Gah,MD.val,hnew,hs,hmw,hne,ho1,Gsb]
   exact Ghu.nil (hlow _) (by rw [hls]; simp; omega) _
  by_cases ho2 : 3 < o
  ·have hr : Gaz xs w hh o m = (3,[]):=by
    unfold Gaz; rw [if_neg (by rw [hsz]; simp),if_neg (by rw [hsq]; simp),if_pos (.inr ho2)]
   rw [hr]
   simp [-Int.natCast_mul,Gaa,Gah,MD.val,hnew,hs,hmw,hne,ho1,ho2,Gsb]
   exact Ghu.nil (hlow _) (by rw [hls]; simp; omega) _
  obtain ⟨o,rfl⟩:=Int.eq_ofNat_of_zero_le (show 0≤o by omega)
  have hbadr : ¬ (∀ v ∈ xs,inR v)→Gaz xs w hh o m = (2,[]):=fun hb=>by
   unfold Gaz; rw [if_neg (by rw [hsz]; simp),if_neg (by rw [hsq]; simp),if_neg (by omega),if_neg hb]
  have hokr : (∀ v ∈ xs,inR v)→Gaz xs w hh o m = (0,Gaf m (Gab xs) o (3 * Gab xs - 2) 0 (Ga2 w hh xs xs.length)):=fun hb=>by
   unfold Gaz; rw [if_neg (by rw [hsz]; simp),if_neg (by rw [hsq]; simp),if_neg (by omega),if_pos hb]; rfl
  simp [-Int.natCast_mul,Gaa,Gah,MD.val,hnew,hs,hmw,hne,ho1,ho2]
  rw [← hs]
  generalize hH0 : h++[some (⟨false,[.bool m.byp,.bool m.res,.bool m.rst,.bool m.cz,.bool m.sy]⟩ : Blk)] = H0
  have hH0l : H0.length = h.length + 1:=by rw [← hH0]; simp
  have hM : blk? H0 h.length = some ⟨false,[.bool m.byp,.bool m.res,.bool m.rst,.bool m.cz,.bool m.sy]⟩:=by rw [← hH0]; exact blk?_push_eq
  have hk0 : ∀ id,id < h.length→blk? H0 id = blk? h id:=fun id hid=>by rw [← hH0]; exact hkp _ id hid
  have hi0 : Go1 H0 s xs:=hi.keep (by omega) (fun id hid _=>hk0 id hid)
  have hsB : ∀ id,sid s = some id→id < H0.length:=by
   intro id hid
   have:=hi0.sb
   rw [hs] at this hid
   cases a with
   | none=>simp [sid] at hid
   | some a=>simp [sid] at hid; simp at this; omega
  have hcb:=Gib H0 w1 w2 h1 h2
  rw [← Gs4 w hh xs,hH0l] at hcb
  refine Gs7 hi0 hsB w1 w2 h1 h2 hln ?_ ?_ _ 0 _ _ _ _ _ _ _ _ _ _ _ _ _ _ _ _ _ _ _ _ _ _ _ _ _ _ _ _ _ _ _ _ _ _ _ _ _ _ _ _ _ _ _ _ _ _ _ _ _ _ _ _ _ _ _ _ _ _ _ _ _ _ _ _ _ _ _ _ _ _ _ _ _ _ _ _ _ _ _ _ rfl (by omega) (by simp) hcb ⟨by omega,by omega⟩ (Gee H0 w hh) (by rw [hls]; omega)
  ·intro h' low len hb
   rw [hbadr hb]
   exact ⟨_,rfl,Ghu.nil (fun id hid=>by rw [low id (by omega),hk0 id hid]) (by omega) _⟩
  ·intro h2';intros;rename_i hb hcb2 low2 len2
   rw [hokr hb]
   have hp60:=Gge.1 hb
   have hi2 : Go1 h2' s xs:=hi0.keep (by omega) (fun id hid _=>low2 id hid)
   have hpl:=fun R=>Guy (R:=R) hi2 hl
   have hmx : (if 2 < 3 * (Gab xs : Int) then (3 * (Gab xs : Int) - 2) else 0) = ((3 * Gab xs - 2 : Nat) : Int):=by split <;> omega
   have hw3 : IntKind.i64.wrap (3 * (Gab xs : Int)) = 3 * (Gab xs : Int):=Gan (by omega) (by omega)
   have hw4 : IntKind.i64.wrap (3 * (Gab xs : Int) - 2) = 3 * (Gab xs : Int) - 2:=Gan (by omega) (by omega)
   rw [← hT]
   simp only [tlC,B35]
   generalize hmg : ((3 * Gab xs - 2 : Nat) : Int) = mg at *
   simp [hpl,hw3,hw4,Gci,Gcq,Gh1]
   rw [hmx,← hmg]
   have hgood:=Gfe (Gcc w1 w2 h1 h2) hln xs.length (Nat.le_refl _) (by rw [List.take_of_length_le (Nat.le_refl _)]; exact hb)
   have w0:=SL.start (B:=H0.length) (h0:=H0) hcb2 hgood ⟨by omega,by omega⟩ low2 len2
   refine Gs9 (b0:=Ga2 w hh xs xs.length) hM (by omega) hp60 (by omega) ?_ (3 * Gab xs - 2) 0 _ _ _ _ _ _ _ _ _ _ _ _ _ _ _ _ _ _ _ _ _ _ _ _ _ _ _ _ _ _ _ _ _ _ _ _ _ _ _ _ _ _ _ _ _ _ _ _ _ _ _ _ _ _ _ _ _ _ _ _ _ _ _ _ _ _ _ _ _ _ _ _ _ _ _ _ _ _ _ _ _ _ _ _ _ _ _ (by omega) rfl rfl w0
   intro h' s' vs b' ls;intros;rename_i w hls
   simp [Gsb]
   refine ⟨⟨vs,?_⟩,fun id hid=>by rw [w.low id (by omega),hk0 id hid],by have:=w.lenB; omega⟩
   rw [← hls]; exact w.pss
 obtain ⟨v,h',e,sv,rfl,rs⟩:=Gck key
 exact ⟨sv,h',e,rs⟩
end
set_option maxRecDepth 10000
theorem Guh : ∀ (l : List (Int × Nat)) (i : Nat) (h : i < l.length),((Ggt l).drop (i * 2)).take 2 = [.int .i64 l[i].1,.int .i64 l[i].2]
 | [],i,h=>by simp at h
 | p :: l,0,_=>by simp [Ggt]
 | p :: l,i + 1,h=>by
  rw [Ggt,show (i + 1) * 2 = i * 2 + 1 + 1 by omega,List.drop_succ_cons,List.drop_succ_cons]
  simpa using Guh l i (by simpa using h)
theorem G8y {h : Gag} {s : Value} {l : List (Int × Nat)} (hs : Sl h 2 s l.length (Ggt l)) {i : Nat} (hi : i < l.length) :
  ∃ id off b,s = .slice (some ⟨id,off,none⟩) l.length 2∧blk? h id = some b∧off + i * 2 + 2≤b.cells.length∧((b.cells.drop (off + i * 2)).take 2) = [.int .i64 l[i].1,.int .i64 l[i].2]:=by
 obtain ⟨hl,hs⟩:=hs
 rcases hs with ⟨rfl,h0⟩ | ⟨id,off,rfl,h0 | ⟨b,hb,hle,hc⟩⟩
 ·omega
 ·omega
 ·refine ⟨id,off,b,rfl,hb,by omega,?_⟩
  have h2:=Guh l i hi
  rw [← hc,List.drop_take,List.take_take,List.drop_drop,Nat.min_eq_left (by omega)] at h2
  exact h2
def S2.puts (st : S2) (l : List (Int × Nat)) : S2:=l.foldl S2.put st
theorem Geq : ∀ (l : List (Int × Nat)) (st : S2),(st.raw = none ↔ (st.puts l).raw = none)
 | [],st=>Iff.rfl
 | s :: l,st=>by
  have h1 : (st.put s).raw = none ↔ st.raw = none:=by unfold S2.put; cases st.raw <;> simp
  exact h1.symm.trans (Geq l (st.put s))
section
variable {R : RP} {k : List Ga1} {e M X0 X cnt gn gi n j : Nat} {sv zv gv v : Value}
theorem G4f {h0 : Gag} {own0 : Nat→Prop} {st0 : S2} {N0 : Nat} {l : List (Int × Nat)} {yv : Value} (hy : Sl h0 2 yv l.length (Ggt l)) (hno : ∀ id,sid yv = some id→¬ own0 id) (hok : ∀ s ∈ l,Gem st0.raw s) (hN : N0 + l.length≤900000)
  (hk : ∀ (h : Gag) (own : Nat→Prop) (K0 K1 K2 K3 K4 K5 K6 K7 K8 Kb Kd Kh Kl Km Kn Ko Kp Kq Kr Ks Kt Ku Kv Kw Kx Ky Kz J0 J1 J2 J3 J4 J5 J6 J7 J8 J9 Ja Jb Jc Jd Je Jf Jg Jk Jl Jm Jn Jo Jp Jq Jr Js Jt Ju Jv Jy Jz Y0 Y1 Y2 Y3 Y4 Y5 Y6 Y7 Y8 Y9 Ya Yb Yc Yd Ye Yf Yg Yh Yi Yj Yk Yl Ym Yn Yo Yp Yq Yr Ys Yt Yu Yv Yw Yx Yy Yz Z0 Z1 Z2 Z3 Z4 Z5 Z6 Z7 Z8 Z9 Za Zb Zc Zd Ze Zf Zg Zh Zi Zj Zk Zl Zm Zn Zo Zp Zq Zr Zs Zt Zu Zv Zw Zx Zy Zz K0q K1q K2q K3q : Value),Snk h e v own (st0.puts l) (N0 + l.length)→SF h0 h own0 own→Ok tab R17 k #[K0,K1,K2,K3,K4,K5,K6,K7,K8,ptr M,ptr X0,Kb,sv,Kd,ptr e,ptr X,.int .i64 (n : Nat),Kh,.int .i64 (cnt : Nat),v,zv,Kl,Km,Kn,Ko,Kp,Kq,Kr,Ks,Kt,Ku,Kv,Kw,Kx,Ky,Kz,J0,J1,J2,J3,J4,J5,J6,J7,J8,J9,Ja,Jb,Jc,Jd,Je,Jf,Jg,gv,.int .i64 (gn : Nat),.int .i64 (gi : Nat),Jk,Jl,Jm,Jn,Jo,Jp,Jq,Jr,Js,Jt,Ju,Jv,.int .i64 (cnt : Nat),.int .i64 (j : Nat),Jy,Jz,Y0,Y1,Y2,Y3,Y4,Y5,Y6,Y7,Y8,Y9,Ya,Yb,Yc,Yd,Ye,Yf,Yg,Yh,Yi,Yj,Yk,Yl,Ym,Yn,Yo,Yp,Yq,Yr,Ys,Yt,Yu,Yv,Yw,Yx,Yy,Yz,Z0,Z1,Z2,Z3,Z4,Z5,Z6,Z7,Z8,Z9,Za,Zb,Zc,Zd,Ze,Zf,Zg,Zh,Zi,Zj,Zk,Zl,Zm,Zn,Zo,Zp,Zq,Zr,Zs,Zt,Zu,Zv,Zw,Zx,Zy,Zz,K0q,K1q,K2q,K3q] h R) :
  ∀ (m i : Nat) (h : Gag) (own : Nat→Prop) (st : S2) (K0 K1 K2 K3 K4 K5 K6 K7 K8 Kb Kd Kh Kl Km Kn Ko Kp Kq Kr Ks Kt Ku Kv Kw Kx Ky Kz J0 J1 J2 J3 J4 J5 J6 J7 J8 J9 Ja Jb Jc Jd Je Jf Jg Jk Jl Jm Jn Jo Jp Jq Jr Js Jt Ju Jv Jy Jz Y0 Y1 Y2 Y3 Y4 Y5 Y6 Y7 Y8 Y9 Ya Yb Yf Yg Yh Yi Yj Yk Yl Ym Yn Yo Yp Yq Yr Ys Yt Yu Yv Yw Yx Yy Yz Z0 Z1 Z2 Z3 Z4 Z5 Z6 Z7 Z8 Z9 Za Zb Zc Zd Ze Zf Zg Zh Zi Zj Zk Zl Zm Zn Zo Zp Zq Zr Zs Zt Zu Zv Zw Zx Zy Zz K0q K1q K2q K3q : Value),i + m = l.length→st = st0.puts (l.take i)→Snk h e v own st (N0 + i)→SF h0 h own0 own →
   Ok tab R17 (.inLoop G28 :: .inBlock 4 :: k) #[K0,K1,K2,K3,K4,K5,K6,K7,K8,ptr M,ptr X0,Kb,sv,Kd,ptr e,ptr X,.int .i64 (n : Nat),Kh,.int .i64 (cnt : Nat),v,zv,Kl,Km,Kn,Ko,Kp,Kq,Kr,Ks,Kt,Ku,Kv,Kw,Kx,Ky,Kz,J0,J1,J2,J3,J4,J5,J6,J7,J8,J9,Ja,Jb,Jc,Jd,Je,Jf,Jg,gv,.int .i64 (gn : Nat),.int .i64 (gi : Nat),Jk,Jl,Jm,Jn,Jo,Jp,Jq,Jr,Js,Jt,Ju,Jv,.int .i64 (cnt : Nat),.int .i64 (j : Nat),Jy,Jz,Y0,Y1,Y2,Y3,Y4,Y5,Y6,Y7,Y8,Y9,Ya,Yb,yv,.int .i64 (l.length : Nat),.int .i64 (i : Nat),Yf,Yg,Yh,Yi,Yj,Yk,Yl,Ym,Yn,Yo,Yp,Yq,Yr,Ys,Yt,Yu,Yv,Yw,Yx,Yy,Yz,Z0,Z1,Z2,Z3,Z4,Z5,Z6,Z7,Z8,Z9,Za,Zb,Zc,Zd,Ze,Zf,Zg,Zh,Zi,Zj,Zk,Zl,Zm,Zn,Zo,Zp,Zq,Zr,Zs,Zt,Zu,Zv,Zw,Zx,Zy,Zz,K0q,K1q,K2q,K3q] h R:=by
 intro m
 induction m with
 | zero =>
  intro i h own st;intros;rename_i him hst hK F
  obtain rfl : i = l.length:=by omega
  rw [List.take_length] at hst
  subst hst
  rw [Gad,Qc0,Gtq,Gu7]
  simp
  exact hk _ _ _ _ _ _ _ _ _ _ _ _ _ _ _ _ _ _ _ _ _ _ _ _ _ _ _ _ _ _ _ _ _ _ _ _ _ _ _ _ _ _ _ _ _ _ _ _ _ _ _ _ _ _ _ _ _ _ _ _ _ _ _ _ _ _ _ _ _ _ _ _ _ _ _ _ _ _ _ _ _ _ _ _ _ _ _ _ _ _ _ _ _ _ _ _ _ _ _ _ _ _ _ _ _ _ _ _ _ _ _ _ _ _ _ _ _ _ _ _ _ _ _ _ _ _ _ _ _ _ _ _ _ _ _ _ hK F
 | succ m ih =>
  intro i h own st;intros;rename_i him hst hK F
  have hi : i < l.length:=by omega
  have hlt : (i : Int) < (l.length : Int):=by omega
  have hw : IntKind.i64.wrap ((i : Int) + 1) = ((i + 1 : Nat) : Int):=Gbc (n:=i + 1) (by omega)
  obtain ⟨id,off,b,rfl,hb,hle,htw⟩:=G8y hy hi
  have hbh : blk? h id = some b:=by rw [F.same id (blk?_lt hb) (hno id rfl)]; exact hb
  have hraw : st.raw = none ↔ st0.raw = none:=by rw [hst]; exact (Geq _ _).symm
  have hsok : Gem st.raw (l[i].1,l[i].2):=by
   have:=hok l[i] (List.getElem_mem hi)
   exact ⟨this.1,fun x=>this.2 (hraw.1 x)⟩
  have hK1 : Snk (h++[some ⟨false,[.int .i64 l[i].1,.int .i64 (l[i].2 : Nat)]⟩]) e v own st (N0 + i):=hK.keep fun id hid=>blk?_push_lt (hK.own_lt hid)
  obtain ⟨h',own',e1,hK2,F2⟩:=G9w hK1 (by omega) hsok
  have F3 : SF h (h++[some ⟨false,[.int .i64 l[i].1,.int .i64 (l[i].2 : Nat)]⟩]) own own:=⟨by simp,fun id hid _=>blk?_push_lt hid,fun id hid=>.inl hid⟩
  have htk : l.take (i + 1) = l.take i++[l[i]]:=by rw [List.take_add_one,List.getElem?_eq_getElem hi]; rfl
  have hst' : st.put (l[i].1,l[i].2) = st0.puts (l.take (i + 1)):=by rw [htk,hst]; unfold S2.puts; rw [List.foldl_append]; rfl
  have ih':=fun K0 K1 K2 K3 K4 K5 K6 K7 K8 Kb Kd Kh Kl Km Kn Ko Kp Kq Kr Ks Kt Ku Kv Kw Kx Ky Kz J0 J1 J2 J3 J4 J5 J6 J7 J8 J9 Ja Jb Jc Jd Je Jf Jg Jk Jl Jm Jn Jo Jp Jq Jr Js Jt Ju Jv Jy Jz Y0 Y1 Y2 Y3 Y4 Y5 Y6 Y7 Y8 Y9 Ya Yb Yf Yg Yh Yi Yj Yk Yl Ym Yn Yo Yp Yq Yr Ys Yt Yu Yv Yw Yx Yy Yz Z0 Z1 Z2 Z3 Z4 Z5 Z6 Z7 Z8 Z9 Za Zb Zc Zd Ze Zf Zg Zh Zi Zj Zk Zl Zm Zn Zo Zp Zq Zr Zs Zt Zu Zv Zw Zx Zy Zz K0q K1q K2q K3q=>ih (i + 1) h' own' _ K0 K1 K2 K3 K4 K5 K6 K7 K8 Kb Kd Kh Kl Km Kn Ko Kp Kq Kr Ks Kt Ku Kv Kw Kx Ky Kz J0 J1 J2 J3 J4 J5 J6 J7 J8 J9 Ja Jb Jc Jd Je Jf Jg Jk Jl Jm Jn Jo Jp Jq Jr Js Jt Ju Jv Jy Jz Y0 Y1 Y2 Y3 Y4 Y5 Y6 Y7 Y8 Y9 Ya Yb Yf Yg Yh Yi Yj Yk Yl Ym Yn Yo Yp Yq Yr Ys Yt Yu Yv Yw Yx Yy Yz Z0 Z1 Z2 Z3 Z4 Z5 Z6 Z7 Z8 Z9 Za Zb Zc Zd Ze Zf Zg Zh Zi Zj Zk Zl Zm Zn Zo Zp Zq Zr Zs Zt Zu Zv Zw Zx Zy Zz K0q K1q K2q K3q (by omega) hst' hK2 ((F.trans F3).trans F2)
  generalize l[i].1 = c at *
  generalize l[i].2 = bt at *
  generalize ((i + 1 : Nat) : Int) = i1 at *
  have hset : ∀ x : Option Blk,(h++[x]).set h.length (some ⟨false,[.int .i64 c,.int .i64 (bt : Nat)]⟩) = h++[some ⟨false,[.int .i64 c,.int .i64 (bt : Nat)]⟩]:=fun x=>by rw [Gou]; rfl
  have hpe : ∀ x : Option Blk,blk? (h++[x]) h.length = x:=fun x=>blk?_push_eq
  rw [Gad,Qc0,Gtq,Gu7]
  simp [hi,hbh,hle,htw,hpe,hset,e1,hw]
  exact ih' ..
end
def Gap (m : MD) : Nat→List (List (Int × Nat))→S2→S2 × List Nat
 | _,[],st=>(st,[])
 | n,l :: r,st =>
  let st1:=(if m.rst = true∧Gaw m n = false then st.back else st).puts l
  ((Gap m (n + 1) r st1).1,st1.size :: (Gap m (n + 1) r st1).2)
def Gl3 : List (List (Int × Nat))→Nat
 | []=>0
 | l :: r=>l.length + Gl3 r
def Qb6 (own : Nat→Prop) (zv : Value) (id : Nat) : Prop:=own id∨sid zv = some id
section
variable {R : RP} {k : List Ga1} {e M X0 X cnt gn gi n0 : Nat} {sv gv v : Value} {m : MD}
theorem G6n {h0 : Gag} {own0 : Nat→Prop} {vs : List Value} {ls : List (List (Int × Nat))} {stF : S2} {zsF : List Nat} {NF : Nat} (hNF : NF≤900000) (hp : Pss h0 sv vs ls) (hpn : ∀ id,sid sv = some id→¬ own0 id) (hen : ∀ i (h1 : i < vs.length) id,sid vs[i] = some id→¬ own0 id)
  (hm : blk? h0 M = some ⟨false,[.bool m.byp,.bool m.res,.bool m.rst,.bool m.cz,.bool m.sy]⟩) (hMn : ¬ own0 M) (hcnt : n0 + cnt≤ls.length) (hls : ls.length≤178)
  (hk : ∀ (h : Gag) (own : Nat→Prop) (zv : Value) (K0 K1 K2 K3 K4 K5 K6 K7 K8 Kb Kd Kh Kl Km Kn Ko Kp Kq Kr Ks Kt Ku Kv Kw Kx Ky Kz J0 J1 J2 J3 J4 J5 J6 J7 J8 J9 Ja Jb Jc Jd Je Jf Jg Jk Jl Jm Jn Jo Jp Jq Jr Js Jt Ju Jv Jw Jx Jy Jz Y0 Y1 Y2 Y3 Y4 Y5 Y6 Y7 Y8 Y9 Ya Yb Yc Yd Ye Yf Yg Yh Yi Yj Yk Yl Ym Yn Yo Yp Yq Yr Ys Yt Yu Yv Yw Yx Yy Yz Z0 Z1 Z2 Z3 Z4 Z5 Z6 Z7 Z8 Z9 Za Zb Zc Zd Ze Zf Zg Zh Zi Zj Zk Zl Zm Zn Zo Zp Zq Zr Zs Zt Zu Zv Zw Zx Zy Zz K0q K1q K2q K3q : Value),Snk h e v own stF NF→Ga7 h 1 zv zsF.length (nI zsF)→(∀ z ∈ zsF,z≤900004)→(∀ id,own id→sid zv ≠ some id)→SF h0 h own0 (Qb6 own zv)→Ok tab R17 k #[K0,K1,K2,K3,K4,K5,K6,K7,K8,ptr M,ptr X0,Kb,sv,Kd,ptr e,ptr X,.int .i64 ((n0 + cnt : Nat) : Int),Kh,.int .i64 (cnt : Nat),v,zv,Kl,Km,Kn,Ko,Kp,Kq,Kr,Ks,Kt,Ku,Kv,Kw,Kx,Ky,Kz,J0,J1,J2,J3,J4,J5,J6,J7,J8,J9,Ja,Jb,Jc,Jd,Je,Jf,Jg,gv,.int .i64 (gn : Nat),.int .i64 (gi : Nat),Jk,Jl,Jm,Jn,Jo,Jp,Jq,Jr,Js,Jt,Ju,Jv,Jw,Jx,Jy,Jz,Y0,Y1,Y2,Y3,Y4,Y5,Y6,Y7,Y8,Y9,Ya,Yb,Yc,Yd,Ye,Yf,Yg,Yh,Yi,Yj,Yk,Yl,Ym,Yn,Yo,Yp,Yq,Yr,Ys,Yt,Yu,Yv,Yw,Yx,Yy,Yz,Z0,Z1,Z2,Z3,Z4,Z5,Z6,Z7,Z8,Z9,Za,Zb,Zc,Zd,Ze,Zf,Zg,Zh,Zi,Zj,Zk,Zl,Zm,Zn,Zo,Zp,Zq,Zr,Zs,Zt,Zu,Zv,Zw,Zx,Zy,Zz,K0q,K1q,K2q,K3q] h R) :
  ∀ (d j : Nat) (h : Gag) (own : Nat→Prop) (st : S2) (zv : Value) (zs : List Nat) (N : Nat) (K0 K1 K2 K3 K4 K5 K6 K7 K8 Kb Kd Kh Kl Km Kn Ko Kp Kq Kr Ks Kt Ku Kv Kw Kx Ky Kz J0 J1 J2 J3 J4 J5 J6 J7 J8 J9 Ja Jb Jc Jd Je Jf Jg Jk Jl Jm Jn Jo Jp Jq Jr Js Jt Ju Jv Jy Jz Y0 Y1 Y2 Y3 Y4 Y5 Y6 Y7 Y8 Y9 Ya Yb Yc Yd Ye Yf Yg Yh Yi Yj Yk Yl Ym Yn Yo Yp Yq Yr Ys Yt Yu Yv Yw Yx Yy Yz Z0 Z1 Z2 Z3 Z4 Z5 Z6 Z7 Z8 Z9 Za Zb Zc Zd Ze Zf Zg Zh Zi Zj Zk Zl Zm Zn Zo Zp Zq Zr Zs Zt Zu Zv Zw Zx Zy Zz K0q K1q K2q K3q : Value),j + d = cnt→Snk h e v own st N→N + Gl3 ((ls.drop (n0 + j)).take d) = NF→(∀ l ∈ (ls.drop (n0 + j)).take d,∀ s ∈ l,Gem st.raw s) →
   Ga7 h 1 zv zs.length (nI zs)→(∀ z ∈ zs,z≤900004)→zs.length≤178 + j→(∀ id,own id→sid zv ≠ some id)→SF h0 h own0 (Qb6 own zv)→(Gap m (n0 + j) ((ls.drop (n0 + j)).take d) st).1 = stF→zs++(Gap m (n0 + j) ((ls.drop (n0 + j)).take d) st).2 = zsF →
   Ok tab R17 (.inLoop Gy3 :: .inBlock 2 :: k) #[K0,K1,K2,K3,K4,K5,K6,K7,K8,ptr M,ptr X0,Kb,sv,Kd,ptr e,ptr X,.int .i64 ((n0 + j : Nat) : Int),Kh,.int .i64 (cnt : Nat),v,zv,Kl,Km,Kn,Ko,Kp,Kq,Kr,Ks,Kt,Ku,Kv,Kw,Kx,Ky,Kz,J0,J1,J2,J3,J4,J5,J6,J7,J8,J9,Ja,Jb,Jc,Jd,Je,Jf,Jg,gv,.int .i64 (gn : Nat),.int .i64 (gi : Nat),Jk,Jl,Jm,Jn,Jo,Jp,Jq,Jr,Js,Jt,Ju,Jv,.int .i64 (cnt : Nat),.int .i64 (j : Nat),Jy,Jz,Y0,Y1,Y2,Y3,Y4,Y5,Y6,Y7,Y8,Y9,Ya,Yb,Yc,Yd,Ye,Yf,Yg,Yh,Yi,Yj,Yk,Yl,Ym,Yn,Yo,Yp,Yq,Yr,Ys,Yt,Yu,Yv,Yw,Yx,Yy,Yz,Z0,Z1,Z2,Z3,Z4,Z5,Z6,Z7,Z8,Z9,Za,Zb,Zc,Zd,Ze,Zf,Zg,Zh,Zi,Zj,Zk,Zl,Zm,Zn,Zo,Zp,Zq,Zr,Zs,Zt,Zu,Zv,Zw,Zx,Zy,Zz,K0q,K1q,K2q,K3q] h R:=by
 intro d
 induction d with
 | zero =>
  intro j h own st zv zs N;intros;rename_i hjd hK hN _ hz hzb _ hd hF h1 h2
  obtain rfl : j = cnt:=by omega
  simp only [List.take_zero,Gap,List.append_nil] at h1 h2
  subst h1 h2
  rw [Gad,Qd0,Gvl,Gvm]
  simp
  have:=hk h own zv
  simp only [Int.natCast_add] at this
  exact this _ _ _ _ _ _ _ _ _ _ _ _ _ _ _ _ _ _ _ _ _ _ _ _ _ _ _ _ _ _ _ _ _ _ _ _ _ _ _ _ _ _ _ _ _ _ _ _ _ _ _ _ _ _ _ _ _ _ _ _ _ _ _ _ _ _ _ _ _ _ _ _ _ _ _ _ _ _ _ _ _ _ _ _ _ _ _ _ _ _ _ _ _ _ _ _ _ _ _ _ _ _ _ _ _ _ _ _ _ _ _ _ _ _ _ _ _ _ _ _ _ _ _ _ _ _ _ _ _ _ _ _ _ _ _ _ (by simp [Gl3] at hN; rw [← hN]; exact hK) hz hzb hd hF
 | succ d ih =>
  intro j h own st zv zs N;intros;rename_i hjd hK hN hok hz hzb hzl hd hF h1 h2
  have hi : n0 + j < ls.length:=by omega
  have hiv : n0 + j < vs.length:=by rw [hp.len]; omega
  have htk : (ls.drop (n0 + j)).take (d + 1) = ls[n0 + j] :: (ls.drop (n0 + j + 1)).take d:=by rw [List.drop_eq_getElem_cons hi,List.take_succ_cons]
  rw [htk] at hN hok h1 h2
  simp only [Gl3,Gap] at hN h1 h2
  have hlt : (j : Int) < (cnt : Int):=by omega
  have hjc : j < cnt:=by omega
  have lt0 : ∀ id b,blk? h0 id = some b→¬ own0 id→blk? h id = some b:=fun id b hb hn=>by rw [hF.same id (blk?_lt hb) hn]; exact hb
  obtain ⟨pid,poff,pbk,hsv,hpb,hpc⟩:=hp.get hiv
  have hpb':=lt0 _ _ hpb (hpn pid (by rw [hsv]; rfl))
  have hm':=lt0 _ _ hm hMn
  have hmo : ¬ own M:=fun x=>by
   rcases hF.fresh M (.inl x) with hx | hx
   ·exact hMn hx
   ·have:=blk?_lt hm; omega
  have hyS:=hp.each (n0 + j) hiv hi
  obtain ⟨ya,yc,hyv⟩:=hyS.sl.shape
  have hyno : ∀ id,sid vs[n0 + j] = some id→¬ own id:=fun id hid x=>by
   rcases hF.fresh id (.inl x) with hx | hx
   ·exact hen _ hiv id hid hx
   ·have hsb:=hyS.sb
    rw [hyv] at hid hsb
    cases ya with
    | none=>simp [sid] at hid
    | some ad=>simp [sid] at hid hsb; omega
  have hrc:=fun H R=>Gxi (h:=H) (R:=R) (n:=n0 + j) (by omega) m
  have stepA : ∃ h1 st1,Snk h1 e v own st1 N∧SF h h1 own own∧st1 = (if m.rst = true∧Gaw m (n0 + j) = false then st.back else st)∧(m.rst = true→Gaw m (n0 + j) = false→∀ R,Ret tab 41 [ptr e] h R = R (.tuple #[]) h1)∧(¬ (m.rst = true∧Gaw m (n0 + j) = false)→h1 = h):=by
   by_cases hc : m.rst = true∧Gaw m (n0 + j) = false
   ·obtain ⟨h1,e1,hK1,F1⟩:=G45 hK
    exact ⟨h1,_,hK1,F1,by rw [if_pos hc],fun _ _=>e1,fun x=>absurd hc x⟩
   ·exact ⟨h,_,hK,SF.refl _ _,by rw [if_neg hc],fun a b=>absurd ⟨a,b⟩ hc,fun _=>rfl⟩
  obtain ⟨hA,stA,hKA,FA,hstA,eA,eA'⟩:=stepA
  rw [← hstA] at h1 h2
  have hrawA : stA.raw = st.raw:=by rw [hstA]; split <;> rfl
  have sameA : ∀ id b,blk? h0 id = some b→¬ own0 id→¬ own id→blk? hA id = some b:=fun id b hb hn hn2=>by
   have hx:=lt0 id b hb hn
   rw [FA.same id (blk?_lt hx) hn2]; exact hx
  have hpo : ¬ own pid:=fun x=>by
   rcases hF.fresh pid (.inl x) with hx | hx
   ·exact hpn pid (by rw [hsv]; rfl) hx
   ·have:=blk?_lt hpb; omega
  have hpbA:=sameA _ _ hpb (hpn pid (by rw [hsv]; rfl)) hpo
  have hyA : Sl hA 2 vs[n0 + j] ls[n0 + j].length (Ggt ls[n0 + j]):=hyS.sl.of_sid fun id b hid hb=>sameA id b hb (hen _ hiv id hid) (hyno id hid)
  have tail : ∀ (hB : Gag) (own' : Nat→Prop) (K0 K1 K2 K3 K4 K5 K6 K7 K8 Kb Kd Kh Kl Km Kn Ko Kp Kq Kr Ks Kt Ku Kv Kw Kx Ky Kz J0 J1 J2 J3 J4 J5 J6 J7 J8 J9 Ja Jb Jc Jd Je Jf Jg Jk Jl Jm Jn Jo Jp Jq Jr Js Jt Ju Jv Jy Jz Y0 Y1 Y2 Y3 Y4 Y5 Y6 Y7 Y8 Y9 Ya Yb Yc Yd Ye Yf Yg Yh Yi Yj Yk Yl Ym Yn Yo Yp Yq Yr Ys Yt Yu Yv Yw Yx Yy Yz Z0 Z1 Z2 Z3 Z4 Z5 Z6 Z7 Z8 Z9 Za Zb Zc Zd Ze Zf Zg Zh Zi Zj Zk Zl Zm Zn Zo Zp Zq Zr Zs Zt Zu Zv Zw Zx Zy Zz K0q K1q K2q K3q : Value),Snk hB e v own' (stA.puts ls[n0 + j]) (N + ls[n0 + j].length)→SF hA hB own own' →
    Ok tab R17 (.code (.seq (.region [⟨some 94,.mov (.tmp 20),none⟩,⟨some 95,.mov (.tmp 19),none⟩,⟨some 96,.call (.const (.tuple tbS)) [.tmp 95],none⟩,⟨some 97,.buildSlice 1 1 [.int .i64 0] [(0,.tmp 96)],none⟩,⟨some 98,.append 1 8 (.tmp 94) (.tmp 97),none⟩,⟨some 20,.mov (.tmp 98),none⟩] [])
     (.region [⟨some 99,.mov (.tmp 16),none⟩,⟨some 100,.bin .add (.tmp 99) (.const (.int .i64 1)),none⟩,⟨some 16,.mov (.tmp 100),none⟩] [])) :: .inBlock 3 :: .code (.region [⟨some 101,.bin .add (.tmp 69) (.const (.int .i64 1)),none⟩,⟨some 69,.mov (.tmp 101),none⟩] []) :: .inLoop Gy3 :: .inBlock 2 :: k) #[K0,K1,K2,K3,K4,K5,K6,K7,K8,ptr M,ptr X0,Kb,sv,Kd,ptr e,ptr X,.int .i64 ((n0 + j : Nat) : Int),Kh,.int .i64 (cnt : Nat),v,zv,Kl,Km,Kn,Ko,Kp,Kq,Kr,Ks,Kt,Ku,Kv,Kw,Kx,Ky,Kz,J0,J1,J2,J3,J4,J5,J6,J7,J8,J9,Ja,Jb,Jc,Jd,Je,Jf,Jg,gv,.int .i64 (gn : Nat),.int .i64 (gi : Nat),Jk,Jl,Jm,Jn,Jo,Jp,Jq,Jr,Js,Jt,Ju,Jv,.int .i64 (cnt : Nat),.int .i64 (j : Nat),Jy,Jz,Y0,Y1,Y2,Y3,Y4,Y5,Y6,Y7,Y8,Y9,Ya,Yb,Yc,Yd,Ye,Yf,Yg,Yh,Yi,Yj,Yk,Yl,Ym,Yn,Yo,Yp,Yq,Yr,Ys,Yt,Yu,Yv,Yw,Yx,Yy,Yz,Z0,Z1,Z2,Z3,Z4,Z5,Z6,Z7,Z8,Z9,Za,Zb,Zc,Zd,Ze,Zf,Zg,Zh,Zi,Zj,Zk,Zl,Zm,Zn,Zo,Zp,Zq,Zr,Zs,Zt,Zu,Zv,Zw,Zx,Zy,Zz,K0q,K1q,K2q,K3q] hB R:=by
   intro hB own';intros;rename_i hKB FB
   have FAB:=FA.trans FB
   have hzid : ∀ id,sid zv = some id→¬ own' id:=fun id hid x=>by
    rcases FAB.fresh id x with hx | hx
    ·exact hd id hx hid
    ·have:=hz.lt hid; omega
   have hzB : Ga7 hB 1 zv zs.length (nI zs):=hz.of_blk fun id hid hb=>by rw [FAB.same id (blk?_lt hb) (fun x=>hd id x hid)]; exact hb
   obtain ⟨hC,eC,hKC,FC⟩:=G3n hKB (by omega)
   have hzC : Ga7 hC 1 zv zs.length (nI zs):=hzB.of_blk fun id hid hb=>by rw [FC.same id (blk?_lt hb) (hzid id hid)]; exact hb
   obtain ⟨hD,eD,hzD,lD,kD⟩:=G4u (v:=(stA.puts ls[n0 + j]).size) hzC (by omega)
   have hKD : Snk hD e v own' (stA.puts ls[n0 + j]) (N + ls[n0 + j].length):=hKC.keep fun id hid=>kD id (hKC.own_lt hid) (fun x=>hzid id x hid)
   have FD : SF h0 hD own0 (Qb6 own' (.slice (some ⟨hC.length + 1,0,none⟩) (zs.length + 1) 1)):=by
    have l1:=hF.len; have l2:=FAB.len; have l3:=FC.len
    refine ⟨by omega,fun id hid hn=>?_,fun id hid=>?_⟩
    ·have hno : ¬ Qb6 own zv id:=fun x=>by
      rcases hF.fresh id x with hx | hx
      ·exact hn hx
      ·omega
     have hno' : ¬ own' id:=fun x=>by
      rcases FAB.fresh id x with hx | hx
      ·exact hno (.inl hx)
      ·omega
     rw [kD id (by omega) (fun x=>hno (.inr x)),FC.same id (by omega) hno',FAB.same id (by omega) (fun x=>hno (.inl x)),hF.same id hid hn]
    ·rcases hid with hid | hid
     ·rcases FAB.fresh id hid with hx | hx
      ·rcases hF.fresh id (.inl hx) with hy | hy
       ·exact .inl hy
       ·right; omega
      ·right; omega
     ·simp [sid] at hid; right; omega
   have hd' : ∀ id,own' id→sid (.slice (some ⟨hC.length + 1,0,none⟩) (zs.length + 1) 1) ≠ some id:=fun id hid x=>by
    have:=hKC.own_lt hid
    simp [sid] at x; omega
   have ih':=fun K0 K1 K2 K3 K4 K5 K6 K7 K8 Kb Kd Kh Kl Km Kn Ko Kp Kq Kr Ks Kt Ku Kv Kw Kx Ky Kz J0 J1 J2 J3 J4 J5 J6 J7 J8 J9 Ja Jb Jc Jd Je Jf Jg Jk Jl Jm Jn Jo Jp Jq Jr Js Jt Ju Jv Jy Jz Y0 Y1 Y2 Y3 Y4 Y5 Y6 Y7 Y8 Y9 Ya Yb Yc Yd Ye Yf Yg Yh Yi Yj Yk Yl Ym Yn Yo Yp Yq Yr Ys Yt Yu Yv Yw Yx Yy Yz Z0 Z1 Z2 Z3 Z4 Z5 Z6 Z7 Z8 Z9 Za Zb Zc Zd Ze Zf Zg Zh Zi Zj Zk Zl Zm Zn Zo Zp Zq Zr Zs Zt Zu Zv Zw Zx Zy Zz K0q K1q K2q K3q=>ih (j + 1) hD own' _ _ (zs++[(stA.puts ls[n0 + j]).size]) _ K0 K1 K2 K3 K4 K5 K6 K7 K8 Kb Kd Kh Kl Km Kn Ko Kp Kq Kr Ks Kt Ku Kv Kw Kx Ky Kz J0 J1 J2 J3 J4 J5 J6 J7 J8 J9 Ja Jb Jc Jd Je Jf Jg Jk Jl Jm Jn Jo Jp Jq Jr Js Jt Ju Jv Jy Jz Y0 Y1 Y2 Y3 Y4 Y5 Y6 Y7 Y8 Y9 Ya Yb Yc Yd Ye Yf Yg Yh Yi Yj Yk Yl Ym Yn Yo Yp Yq Yr Ys Yt Yu Yv Yw Yx Yy Yz Z0 Z1 Z2 Z3 Z4 Z5 Z6 Z7 Z8 Z9 Za Zb Zc Zd Ze Zf Zg Zh Zi Zj Zk Zl Zm Zn Zo Zp Zq Zr Zs Zt Zu Zv Zw Zx Zy Zz K0q K1q K2q K3q (by omega) hKD (by rw [← Nat.add_assoc]; omega)
    (fun l hl s hs=>by
     have:=hok l (by rw [← Nat.add_assoc] at hl; exact List.mem_cons_of_mem _ hl) s hs
     have hr:=Geq ls[n0 + j] stA
     rw [hrawA] at hr
     exact ⟨this.1,fun x=>this.2 (hr.2 x)⟩)
    hzD (fun z hz'=>by
     rcases List.mem_append.1 hz' with hx | hx
     ·exact hzb z hx
     ·have:=Gso hKB
      rw [List.mem_singleton.1 hx]; omega) (by simp; omega) hd' FD (by rw [← Nat.add_assoc]; exact h1) (by rw [← Nat.add_assoc,List.append_assoc]; exact h2)
   have w1 : IntKind.i64.wrap ((n0 : Int) + (j : Int) + 1) = (n0 : Int) + (j : Int) + 1:=Gan (by omega) (by omega)
   have w2 : IntKind.i64.wrap ((j : Int) + 1) = (j : Int) + 1:=Gan (by omega) (by omega)
   simp only [Int.natCast_add,Int.cast_ofNat_Int,← Int.add_assoc] at ih'
   generalize (stA.puts ls[n0 + j]).size = z at *
   simp [Gd4,eC,eD,w1,w2]
   exact ih' ..
  have hsymok : ∀ s ∈ ls[n0 + j],Gem stA.raw s:=fun s hs=>by rw [hrawA]; exact hok _ (List.mem_cons_self ..) s hs
  have hSL:=fun K0 K1 K2 K3 K4 K5 K6 K7 K8 Kb Kd Kh Kl Km Kn Ko Kp Kq Kr Ks Kt Ku Kv Kw Kx Ky Kz J0 J1 J2 J3 J4 J5 J6 J7 J8 J9 Ja Jb Jc Jd Je Jf Jg Jk Jl Jm Jn Jo Jp Jq Jr Js Jt Ju Jv Jy Jz Y0 Y1 Y2 Y3 Y4 Y5 Y6 Y7 Y8 Y9 Ya Yb Yf Yg Yh Yi Yj Yk Yl Ym Yn Yo Yp Yq Yr Ys Yt Yu Yv Yw Yx Yy Yz Z0 Z1 Z2 Z3 Z4 Z5 Z6 Z7 Z8 Z9 Za Zb Zc Zd Ze Zf Zg Zh Zi Zj Zk Zl Zm Zn Zo Zp Zq Zr Zs Zt Zu Zv Zw Zx Zy Zz K0q K1q K2q K3q=>G4f (R:=R) (e:=e) (M:=M) (X0:=X0) (X:=X) (cnt:=cnt) (gn:=gn) (gi:=gi) (n:=n0 + j) (j:=j) (sv:=sv) (zv:=zv) (gv:=gv) (v:=v) hyA hyno hsymok (by omega) (N0:=N) (fun hB own' K0 K1 K2 K3 K4 K5 K6 K7 K8 Kb Kd Kh Kl Km Kn Ko Kp Kq Kr Ks Kt Ku Kv Kw Kx Ky Kz J0 J1 J2 J3 J4 J5 J6 J7 J8 J9 Ja Jb Jc Jd Je Jf Jg Jk Jl Jm Jn Jo Jp Jq Jr Js Jt Ju Jv Jy Jz Y0 Y1 Y2 Y3 Y4 Y5 Y6 Y7 Y8 Y9 Ya Yb Yc Yd Ye Yf Yg Yh Yi Yj Yk Yl Ym Yn Yo Yp Yq Yr Ys Yt Yu Yv Yw Yx Yy Yz Z0 Z1 Z2 Z3 Z4 Z5 Z6 Z7 Z8 Z9 Za Zb Zc Zd Ze Zf Zg Zh Zi Zj Zk Zl Zm Zn Zo Zp Zq Zr Zs Zt Zu Zv Zw Zx Zy Zz K0q K1q K2q K3q a b=>tail hB own' K0 K1 K2 K3 K4 K5 K6 K7 K8 Kb Kd Kh Kl Km Kn Ko Kp Kq Kr Ks Kt Ku Kv Kw Kx Ky Kz J0 J1 J2 J3 J4 J5 J6 J7 J8 J9 Ja Jb Jc Jd Je Jf Jg Jk Jl Jm Jn Jo Jp Jq Jr Js Jt Ju Jv Jy Jz Y0 Y1 Y2 Y3 Y4 Y5 Y6 Y7 Y8 Y9 Ya Yb Yc Yd Ye Yf Yg Yh Yi Yj Yk Yl Ym Yn Yo Yp Yq Yr Ys Yt Yu Yv Yw Yx Yy Yz Z0 Z1 Z2 Z3 Z4 Z5 Z6 Z7 Z8 Z9 Za Zb Zc Zd Ze Zf Zg Zh Zi Zj Zk Zl Zm Zn Zo Zp Zq Zr Zs Zt Zu Zv Zw Zx Zy Zz K0q K1q K2q K3q a b) ls[n0 + j].length 0 hA own stA K0 K1 K2 K3 K4 K5 K6 K7 K8 Kb Kd Kh Kl Km Kn Ko Kp Kq Kr Ks Kt Ku Kv Kw Kx Ky Kz J0 J1 J2 J3 J4 J5 J6 J7 J8 J9 Ja Jb Jc Jd Je Jf Jg Jk Jl Jm Jn Jo Jp Jq Jr Js Jt Ju Jv Jy Jz Y0 Y1 Y2 Y3 Y4 Y5 Y6 Y7 Y8 Y9 Ya Yb Yf Yg Yh Yi Yj Yk Yl Ym Yn Yo Yp Yq Yr Ys Yt Yu Yv Yw Yx Yy Yz Z0 Z1 Z2 Z3 Z4 Z5 Z6 Z7 Z8 Z9 Za Zb Zc Zd Ze Zf Zg Zh Zi Zj Zk Zl Zm Zn Zo Zp Zq Zr Zs Zt Zu Zv Zw Zx Zy Zz K0q K1q K2q K3q (by omega) rfl hKA (SF.refl _ _)
  clear tail ih
  have c1 : ((n0 + j : Nat) : Int) < (vs.length : Int):=by omega
  rw [hyv] at hpc hSL
  simp only [Int.natCast_add,Int.cast_ofNat_Int] at hSL hrc c1
  have hge : (0 : Int)≤(n0 : Int) + (j : Int):=by omega
  have htn : ((n0 : Int) + (j : Int)).toNat = n0 + j:=by omega
  subst hsv
  rw [Gad,Qd0,Gvl,Gvm]
  simp only [MD.val] at hrc
  cases hrs : m.rst with
  | false =>
   have hAh:=eA' (by rw [hrs]; simp)
   subst hAh
   rw [hrs] at hm' hrc
   simp [Gaa,hlt,hjc,hm',hpbA,hpc,c1,hge,htn]
   exact hSL ..
  | true =>
   rw [hrs] at hm' hrc
   cases hrw : Gaw m (n0 + j) with
   | true =>
    have hAh:=eA' (by rw [hrw]; simp)
    subst hAh
    rw [hrw] at hrc
    simp [Gaa,hlt,hjc,hm',hrc,hpbA,hpc,c1,hge,htn]
    exact hSL ..
   | false =>
    have eA1:=fun R=>eA hrs hrw R
    rw [hrw] at hrc
    simp [Gaa,hlt,hjc,hm',hrc,eA1,hpbA,hpc,c1,hge,htn]
    exact hSL ..
end
theorem Gtj {h : Gag} {t s : Value} {n m bytes : Nat} {cs new : List Value} (ho : Ga7 h 1 t n cs) (hs : Sl h 1 s m new) (hr : n + m≤Gaq) (hb : bytes≤4096) :
  ∃ t' H,Gb0 h 1 bytes t s = some (t',H)∧Ga7 H 1 t' (n + m) (cs++new)∧h.length≤H.length∧(∀ id,id < h.length→sid t ≠ some id→blk? H id = blk? h id)∧(∀ id,sid t' = some id→h.length≤id∧id < H.length):=by
 by_cases hm : m = 0
 ·subst hm
  have hn : new = []:=List.eq_nil_of_length_eq_zero (by have:=hs.1; omega)
  subst hn
  rcases ho.2 with ⟨rfl,h0⟩ | ⟨id,rfl,hbk⟩
  ·subst h0
   have hc : cs = []:=List.eq_nil_of_length_eq_zero (by have:=ho.1; omega)
   subst hc
   refine ⟨.slice none 0 0,h,?_,Ga7.nil _ _,Nat.le_refl _,fun _ _ _=>rfl,fun id hid=>by simp [sid] at hid⟩
   unfold Gb0
   simp [hs.lenV,hs.firstC]
  ·have hl:=ho.1
   refine ⟨.slice (some ⟨h.length,0,none⟩) n 1,h.set id none++[some ⟨false,cs⟩],?_,⟨by simpa using hl,.inr ⟨h.length,rfl,?_⟩⟩,by simp,fun j hj hne=>?_,fun j hj=>by simp [sid] at hj; subst hj; simp⟩
   ·simp only [Gb0,hs.lenV,hs.firstC,hbk]
    rw [if_pos ⟨trivial,trivial,by simp; omega,hr,hb⟩]
    simp only [List.drop_zero,List.append_nil,Nat.add_zero]
    rw [List.take_of_length_le (by omega)]
   ·have:=blk?_push_eq (h:=h.set id none) (x:=some ⟨false,cs⟩)
    simpa using this
   ·rw [blk?_push_lt (by simpa using hj),blk?_set_ne (fun e=>hne (by rw [e]; rfl))]
 ·obtain ⟨H,e,hbk,hl,hk⟩:=Gbs ho hs hr hb hm
  refine ⟨_,H,e,⟨by have h1:=ho.1; have h2:=hs.1; simp only [List.length_append]; omega,.inr ⟨_,rfl,hbk⟩⟩,by omega,hk,fun id hid=>by simp [sid] at hid; omega⟩
section
variable {R : RP} {k : List Ga1} {e M X0 X gn gi : Nat} {sv gv nv : Value}
theorem G1q {B : Nat} {h0 : Gag} {pl : Value} {dv zv pv0 : Value} {zs D : List Nat} {beg : Nat} (hz : Sl h0 1 zv zs.length (nI zs)) (hzB : ∀ id,sid zv = some id→id < B∧id ≠ X∧sid pv0 ≠ some id) (hXB : X < B) (hdshape : ∃ da dc,dv = .slice da D.length dc) (hbeg : beg < 1000000000) (hzs : ∀ z ∈ zs,z < 1000000000) (hzl : zs.length≤1000) (hD : D.length < 1000000000) {PF : List Nat}
  (hk : ∀ (h : Gag) (pv : Value) (K0 K1 K2 K3 K4 K5 K6 K7 K8 Kb Kd Kh Ki Kj Kk Kl Km Kn Ko Kp Kq Kr Ks Kt Ku Kv Kw Kx Ky Kz J0 J1 J2 J3 J4 J5 J6 J7 J8 J9 Ja Jb Jc Jd Je Jf Jg Jk Jl Jm Jn Jo Jp Jq Jr Js Jt Ju Jv Jw Jx Jy Jz Y0 Y1 Y2 Y3 Y4 Y5 Y6 Y7 Y8 Y9 Ya Yb Yc Yd Ye Yf Yg Yh Yi Yj Yk Yl Ym Yn Yo Yp Yq Yr Ys Yt Yu Yv Yw Yx Yy Yz Z0 Z1 Z2 Z3 Z4 Z5 Z6 Z7 Z8 Z9 Za Zb Zc Zd Ze Zf Zg Zh Zi Zj Zk Zl Zm Zn Zo Zp Zq Zr Zs Zt Zu Zv Zw Zx Zy Zz K0q K1q K2q K3q : Value),Ga7 h 1 pv PF.length (nI PF)→(∀ id,id < B→id ≠ X→sid pv0 ≠ some id→blk? h id = blk? h0 id)→blk? h X = some ⟨false,[pl,pv,dv]⟩→(∀ id,sid pv = some id→(B≤id∨sid pv0 = some id)∧id ≠ X)→B≤h.length→Ok tab R17 k #[K0,K1,K2,K3,K4,K5,K6,K7,K8,ptr M,ptr X0,Kb,sv,Kd,ptr e,ptr X,nv,Kh,Ki,Kj,Kk,Kl,Km,Kn,Ko,Kp,Kq,Kr,Ks,Kt,Ku,Kv,Kw,Kx,Ky,Kz,J0,J1,J2,J3,J4,J5,J6,J7,J8,J9,Ja,Jb,Jc,Jd,Je,Jf,Jg,gv,.int .i64 (gn : Nat),.int .i64 (gi : Nat),Jk,Jl,Jm,Jn,Jo,Jp,Jq,Jr,Js,Jt,Ju,Jv,Jw,Jx,Jy,Jz,Y0,Y1,Y2,Y3,Y4,Y5,Y6,Y7,Y8,Y9,Ya,Yb,Yc,Yd,Ye,Yf,Yg,Yh,Yi,Yj,Yk,Yl,Ym,Yn,Yo,Yp,Yq,Yr,Ys,Yt,Yu,Yv,Yw,Yx,Yy,Yz,Z0,Z1,Z2,Z3,Z4,Z5,Z6,Z7,Z8,Z9,Za,Zb,Zc,Zd,Ze,Zf,Zg,Zh,Zi,Zj,Zk,Zl,Zm,Zn,Zo,Zp,Zq,Zr,Zs,Zt,Zu,Zv,Zw,Zx,Zy,Zz,K0q,K1q,K2q,K3q] h R) :
  ∀ (d i : Nat) (h : Gag) (pv : Value) (P : List Nat) (K0 K1 K2 K3 K4 K5 K6 K7 K8 Kb Kd Kh Ki Kj Kk Kl Km Ko Kp Kq Kr Ks Kt Ku Kv Kw Kx Ky Kz J0 J1 J2 J3 J4 J5 J6 J7 J8 J9 Ja Jb Jc Jd Je Jf Jg Jk Jl Jm Jn Jo Jp Jq Jr Js Jt Ju Jv Jw Jx Jy Jz Y0 Y1 Y2 Y3 Y4 Y5 Y6 Y7 Y8 Y9 Ya Yb Yc Yd Ye Yf Yg Yh Yi Yj Yk Yl Ym Yn Yo Yp Yq Yr Ys Yt Yu Yv Yw Yx Yy Yz Z0 Z1 Z2 Z3 Z4 Z5 Z9 Za Zb Zc Zd Ze Zf Zg Zh Zi Zj Zk Zl Zm Zn Zo Zp Zq Zr Zs Zt Zu Zv Zw Zx Zy Zz K0q K1q K2q K3q : Value),i + d = zs.length→Ga7 h 1 pv P.length (nI P)→P.length + d≤1000→(∀ id,id < B→id ≠ X→sid pv0 ≠ some id→blk? h id = blk? h0 id)→blk? h X = some ⟨false,[pl,pv,dv]⟩→(∀ id,sid pv = some id→(B≤id∨sid pv0 = some id)∧id ≠ X)→B≤h.length →
   P++(zs.drop i).map (fun z=>min (beg + z) D.length) = PF →
   Ok tab R17 (.inLoop G5l :: .inBlock 6 :: k) #[K0,K1,K2,K3,K4,K5,K6,K7,K8,ptr M,ptr X0,Kb,sv,Kd,ptr e,ptr X,nv,Kh,Ki,Kj,Kk,Kl,Km,.int .i64 (beg : Nat),Ko,Kp,Kq,Kr,Ks,Kt,Ku,Kv,Kw,Kx,Ky,Kz,J0,J1,J2,J3,J4,J5,J6,J7,J8,J9,Ja,Jb,Jc,Jd,Je,Jf,Jg,gv,.int .i64 (gn : Nat),.int .i64 (gi : Nat),Jk,Jl,Jm,Jn,Jo,Jp,Jq,Jr,Js,Jt,Ju,Jv,Jw,Jx,Jy,Jz,Y0,Y1,Y2,Y3,Y4,Y5,Y6,Y7,Y8,Y9,Ya,Yb,Yc,Yd,Ye,Yf,Yg,Yh,Yi,Yj,Yk,Yl,Ym,Yn,Yo,Yp,Yq,Yr,Ys,Yt,Yu,Yv,Yw,Yx,Yy,Yz,Z0,Z1,Z2,Z3,Z4,Z5,zv,.int .i64 (zs.length : Nat),.int .i64 (i : Nat),Z9,Za,Zb,Zc,Zd,Ze,Zf,Zg,Zh,Zi,Zj,Zk,Zl,Zm,Zn,Zo,Zp,Zq,Zr,Zs,Zt,Zu,Zv,Zw,Zx,Zy,Zz,K0q,K1q,K2q,K3q] h R:=by
 obtain ⟨da,dc,rfl⟩:=hdshape
 intro d
 induction d with
 | zero =>
  intro i h pv P;intros;rename_i hid ho hP hl hX hpB hBh hPF
  obtain rfl : i = zs.length:=by omega
  rw [List.drop_length,List.map_nil,List.append_nil] at hPF
  subst hPF
  rw [Gad,Qdj,Gwi,Gug]
  simp
  exact hk h pv _ _ _ _ _ _ _ _ _ _ _ _ _ _ _ _ _ _ _ _ _ _ _ _ _ _ _ _ _ _ _ _ _ _ _ _ _ _ _ _ _ _ _ _ _ _ _ _ _ _ _ _ _ _ _ _ _ _ _ _ _ _ _ _ _ _ _ _ _ _ _ _ _ _ _ _ _ _ _ _ _ _ _ _ _ _ _ _ _ _ _ _ _ _ _ _ _ _ _ _ _ _ _ _ _ _ _ _ _ _ _ _ _ _ _ _ _ _ _ _ _ _ _ _ _ _ _ _ _ _ _ _ _ _ _ _ _ _ _ ho hl hX hpB hBh
 | succ d ih =>
  intro i h pv P;intros;rename_i hid ho hP hl hX hpB hBh hPF
  have hi : i < zs.length:=by omega
  have hlt : (i : Int) < (zs.length : Int):=by omega
  have hw : IntKind.i64.wrap ((i : Int) + 1) = ((i + 1 : Nat) : Int):=Gbc (n:=i + 1) (by omega)
  obtain ⟨id,off,b,hzv,hb,hc⟩:=hz.get hi
  obtain ⟨hidB,hidX,hidP⟩:=hzB id (by rw [hzv]; rfl)
  have hbh : blk? h id = some b:=by rw [hl id hidB hidX hidP]; exact hb
  have hg:=hc 0 (by omega)
  rw [Nat.mul_one,Nat.add_zero,Nat.add_zero,Gpx hi] at hg
  have hzi : zs.getD i 0 = zs[i]:=by rw [List.getD_eq_getElem?_getD,List.getElem?_eq_getElem hi]; rfl
  rw [hzi] at hg
  have hzlt:=hzs zs[i] (List.getElem_mem hi)
  have hdrop : zs.drop i = zs[i] :: zs.drop (i + 1):=List.drop_eq_getElem_cons hi
  rw [hdrop,List.map_cons] at hPF
  have w1 : IntKind.i64.wrap ((beg : Int) + (zs[i] : Int)) = ((beg + zs[i] : Nat) : Int):=Gbc (n:=beg + zs[i]) (by omega)
  have hmin : min ((beg + zs[i] : Nat) : Int) (D.length : Int) = ((min (beg + zs[i]) D.length : Nat) : Int):=by omega
  obtain ⟨H1,ha,ho1,hl1,hk1⟩:=G4u (v:=min (beg + zs[i]) D.length) ho (by omega)
  have hXh : X < h.length:=by omega
  have hXp : sid pv ≠ some X:=fun x=>(hpB X x).2 rfl
  have hX1 : blk? H1 X = some ⟨false,[pl,pv,.slice da D.length dc]⟩:=by rw [hk1 X hXh hXp]; exact hX
  have hX1l : X < H1.length:=by omega
  have ho2 : Ga7 (H1.set X (some ⟨false,[pl,.slice (some ⟨h.length + 1,0,none⟩) (P.length + 1) 1,.slice da D.length dc]⟩)) 1 (.slice (some ⟨h.length + 1,0,none⟩) (P.length + 1) 1) (P++[min (beg + zs[i]) D.length]).length (nI (P++[min (beg + zs[i]) D.length])) :=
   ho1.of_blk fun j hj hbj=>by simp [sid] at hj; rw [blk?_set_ne (by omega)]; exact hbj
  have ih':=fun K0 K1 K2 K3 K4 K5 K6 K7 K8 Kb Kd Kh Ki Kj Kk Kl Km Ko Kp Kq Kr Ks Kt Ku Kv Kw Kx Ky Kz J0 J1 J2 J3 J4 J5 J6 J7 J8 J9 Ja Jb Jc Jd Je Jf Jg Jk Jl Jm Jn Jo Jp Jq Jr Js Jt Ju Jv Jw Jx Jy Jz Y0 Y1 Y2 Y3 Y4 Y5 Y6 Y7 Y8 Y9 Ya Yb Yc Yd Ye Yf Yg Yh Yi Yj Yk Yl Ym Yn Yo Yp Yq Yr Ys Yt Yu Yv Yw Yx Yy Yz Z0 Z1 Z2 Z3 Z4 Z5 Z9 Za Zb Zc Zd Ze Zf Zg Zh Zi Zj Zk Zl Zm Zn Zo Zp Zq Zr Zs Zt Zu Zv Zw Zx Zy Zz K0q K1q K2q K3q=>ih (i + 1) _ _ _ K0 K1 K2 K3 K4 K5 K6 K7 K8 Kb Kd Kh Ki Kj Kk Kl Km Ko Kp Kq Kr Ks Kt Ku Kv Kw Kx Ky Kz J0 J1 J2 J3 J4 J5 J6 J7 J8 J9 Ja Jb Jc Jd Je Jf Jg Jk Jl Jm Jn Jo Jp Jq Jr Js Jt Ju Jv Jw Jx Jy Jz Y0 Y1 Y2 Y3 Y4 Y5 Y6 Y7 Y8 Y9 Ya Yb Yc Yd Ye Yf Yg Yh Yi Yj Yk Yl Ym Yn Yo Yp Yq Yr Ys Yt Yu Yv Yw Yx Yy Yz Z0 Z1 Z2 Z3 Z4 Z5 Z9 Za Zb Zc Zd Ze Zf Zg Zh Zi Zj Zk Zl Zm Zn Zo Zp Zq Zr Zs Zt Zu Zv Zw Zx Zy Zz K0q K1q K2q K3q (by omega) ho2 (by simp; omega) (fun j hj hjX hjP=>by rw [blk?_set_ne (Ne.symm hjX),hk1 j (by omega) (fun x=>by rcases (hpB j x).1 with hy | hy; omega; exact hjP hy)]; exact hl j hj hjX hjP)
   (blk?_set_eq hX1l) (fun j hj=>by simp [sid] at hj; exact ⟨.inl (by omega),by omega⟩) (by rw [List.length_set]; omega) (by rw [List.append_assoc]; exact hPF)
  generalize zs[i] = z at *
  generalize hmm : ((min (beg + z) D.length : Nat) : Int) = mm at *
  generalize ((beg + z : Nat) : Int) = bz at *
  generalize ((i + 1 : Nat) : Int) = i1 at *
  subst hzv
  rw [Gad,Qdj,Gwi,Gug]
  simp [Gd4,hi,hbh,hg,hX,w1,Gci,Gcq,mn2,hmin,ha,hX1,hw]
  exact ih' ..
end
structure DP (h : Gag) (d pb : Nat) (dv : Value) (D : List Nat) (n : Nat) (p : List Nat) (value size : Nat) (st : Bool) : Prop where
 blk : blk? h d = some ⟨false,[.slice (some ⟨pb,0,none⟩) p.length 1,dv,.int .i64 (n : Nat),.int .i64 (value : Nat),.int .i64 (size : Nat),.bool st]⟩
 pblk : blk? h pb = some ⟨false,nI p⟩
 own : Ga7 h 1 dv D.length (nU D)
 ne1 : d ≠ pb
 ne2 : sid dv ≠ some d
 ne3 : sid dv ≠ some pb
structure DA (h : Gag) (d pb : Nat) (dv : Value) (D : List Nat) (n : Nat) (a : AD) : Prop where
 dp : DP h d pb dv D n a.p a.value a.size true
 rest : D.drop n = a.rest
 ok : a.Ok
 pos : 0 < a.p.length
theorem Gnt {h : Gag} {d : Nat} {b : Blk} (hb : blk? h d = some b) : h.set d (some b) = h:=by
 unfold blk? at hb
 split at hb
 ·rename_i b' hx
  injection hb with hb
  subst hb
  obtain ⟨hlt,hg⟩:=List.getElem?_eq_some_iff.1 hx
  rw [← hg,List.set_getElem_self]
 ·cases hb
section
variable {h : Gag} {R : RP} {d pb n value size : Nat} {dv : Value} {D p : List Nat} {st : Bool} {a : AD}
theorem DP.set (I : DP h d pb dv D n p value size st) (n' value' size' : Nat) (st' : Bool) :
  DP (h.set d (some ⟨false,[.slice (some ⟨pb,0,none⟩) p.length 1,dv,.int .i64 (n' : Nat),.int .i64 (value' : Nat),.int .i64 (size' : Nat),.bool st']⟩)) d pb dv D n' p value' size' st':=by
 have he:=blk?_lt I.blk
 exact ⟨blk?_set_eq he,by rw [blk?_set_ne I.ne1]; exact I.pblk,I.own.of_blk fun id hid hb=>by rw [blk?_set_ne (fun x=>I.ne2 (by rw [x]; exact hid))]; exact hb,I.ne1,I.ne2,I.ne3⟩
theorem DP.keep {h' : Gag} (I : DP h d pb dv D n p value size st) (hk : ∀ id,Gf6 d pb dv id→blk? h' id = blk? h id) : DP h' d pb dv D n p value size st :=
 ⟨by rw [hk d (.inl rfl)]; exact I.blk,by rw [hk pb (.inr (.inl rfl))]; exact I.pblk,I.own.of_blk fun id hid hb=>by rw [hk id (.inr (.inr hid))]; exact hb,I.ne1,I.ne2,I.ne3⟩
theorem DP.own_lt (I : DP h d pb dv D n p value size st) {id : Nat} (hid : Gf6 d pb dv id) : id < h.length:=by
 rcases hid with rfl | rfl | hid
 ·exact blk?_lt I.blk
 ·exact blk?_lt I.pblk
 ·exact I.own.lt hid
theorem Gjv (I : DP h d pb dv D n p value size st) (hp : 0 < p.length) : Ret tab 106 [ptr d] h R = R (.bool true) h:=by
 have h1:=I.blk
 rw [G6b,B106]
 simp [Gaa,h1,hp,fin106]
theorem G1z (I : DP h d pb dv D n p value size st) (hD : Dig D) (hl : D.length < 1000000000) : ∃ n' : Nat,D.drop n' = (D.drop n).tail ∧
  ∀ R : RP,Ret tab 107 [ptr d] h R = R (.int .i64 ((D.drop n).headD 0 : Nat)) (h.set d (some ⟨false,[.slice (some ⟨pb,0,none⟩) p.length 1,dv,.int .i64 (n' : Nat),.int .i64 (value : Nat),.int .i64 (size : Nat),.bool st]⟩)):=by
 have hb:=I.blk
 obtain ⟨da,dc,hdv⟩:=I.own.sl.shape
 by_cases hn : n < D.length
 ·refine ⟨n + 1,by rw [List.tail_drop],fun R=>?_⟩
  obtain ⟨id,off,b,e,hbk,hc⟩:=I.own.sl.get hn
  have hc0:=hc 0 (by omega)
  rw [Nat.mul_one,Nat.add_zero,Nat.add_zero,Gmw hn] at hc0
  have hgd : D.getD n 0 = (D.drop n).headD 0:=by
   rw [List.drop_eq_getElem_cons hn]; simp [hn]
  rw [hgd] at hc0
  have hx : (D.drop n).headD 0 < 256:=Ghs (hD.drop n)
  generalize (D.drop n).headD 0 = x at *
  have hlt : ¬ (D.length : Int)≤(n : Int):=by omega
  have hlt2 : ¬ D.length≤n:=by omega
  have hltn : (n : Int) < (D.length : Int):=by omega
  have w1 : IntKind.i64.wrap ((n : Int) + 1) = ((n + 1 : Nat) : Int):=Gbc (n:=n + 1) (by omega)
  have w2 : IntKind.i64.wrap (((n + 1 : Nat) : Int) - 1) = (n : Int):=by rw [Gan (by omega) (by omega)]; omega
  have w3 : IntKind.i64.wrap (x : Int) = (x : Int):=Gbc (by omega)
  have hne : id ≠ d:=fun x=>I.ne2 (by rw [e]; simp [sid,x])
  have hs : ∀ x,blk? (h.set d x) d = x:=fun x=>blk?_set_eq (blk?_lt hb)
  have hs2 : ∀ x,blk? (h.set d x) id = some b:=fun x=>by rw [blk?_set_ne (Ne.symm hne)]; exact hbk
  generalize ((n + 1 : Nat) : Int) = n1 at *
  rw [e] at hb ⊢
  rw [Gv2,Qe6]
  simp [hb,hlt,hlt2,w1,hs,w2,hltn,hs2,hc0,w3,G7c]
 ·have hdr : D.drop n = []:=List.drop_eq_nil_of_le (by omega)
  refine ⟨n,by rw [hdr]; rfl,fun R=>?_⟩
  rw [hdr,Gnt hb]
  have hlt : (D.length : Int)≤(n : Int):=by omega
  have hlt2 : D.length≤n:=by omega
  rw [hdv] at hb
  rw [Gv2,Qe6]
  simp [hb,hlt,hlt2,G7c]
theorem Gxu {v1 : Value} {k : List Ga1} (hD : Dig D) (hl : D.length < 1000000000)
  (hk : ∀ (h' : Gag) (n' : Nat) (K1 K2 K3 K5 K6 K7 K8 K9 Ka Kb Kc Kd Ke Kf Kg Kh Ki Kj Kk Kl Km Kn Ko Kp Kq Kr Ks Kt Ku Kv Kw Kx Ky Kz J0 J1 J2 J3 J4 J5 J6 J7 J8 J9 Ja : Value),DP h' d pb dv D n' p (val (pad D 4)) size st→D.drop n' = D.drop 4→(∀ id,id ≠ d→blk? h' id = blk? h id)→h'.length = h.length→Ok tab R58 k #[ptr d,K1,K2,K3,.int .i64 0,K5,K6,K7,K8,K9,Ka,Kb,Kc,Kd,Ke,Kf,Kg,Kh,Ki,Kj,Kk,Kl,Km,Kn,Ko,Kp,Kq,Kr,Ks,Kt,Ku,Kv,Kw,Kx,Ky,Kz,J0,J1,J2,J3,J4,J5,J6,J7,J8,J9,Ja] h' R) :
  ∀ (q j : Nat) (H : Gag) (n : Nat) (K1 K2 K3 K5 K6 K7 K8 K9 Ka Kb Kc Kd Ke Kf Kg Kh Ki Kk Kl Km Kn Ko Kp Kq Kr Ks Kt Ku Kv Kw Kx Ky Kz J0 J1 J2 J3 J4 J5 J6 J7 J8 J9 Ja : Value),j + q = 4→DP H d pb dv D n p (val (pad D j)) size st→D.drop n = D.drop j→(∀ id,id ≠ d→blk? H id = blk? h id)→H.length = h.length →
   Ok tab R58 (.inLoop G3e :: .inBlock 0 :: k) #[ptr d,K1,K2,K3,.int .i64 0,K5,K6,K7,K8,K9,Ka,Kb,Kc,Kd,Ke,Kf,Kg,Kh,Ki,.int .i64 (j : Nat),Kk,Kl,Km,Kn,Ko,Kp,Kq,Kr,Ks,Kt,Ku,Kv,Kw,Kx,Ky,Kz,J0,J1,J2,J3,J4,J5,J6,J7,J8,J9,Ja] H R:=by
 intro q
 induction q with
 | zero =>
  intro j H n;intros;rename_i hj I hd hk1 hl1
  obtain rfl : j = 4:=by omega
  rw [Gad,Qcx,Gtp,Gvh]
  simp
  exact hk H n _ _ _ _ _ _ _ _ _ _ _ _ _ _ _ _ _ _ _ _ _ _ _ _ _ _ _ _ _ _ _ _ _ _ _ _ _ _ _ _ _ _ _ _ _ I hd hk1 hl1
 | succ q ih =>
  intro j H n;intros;rename_i hj I hd hk1 hl1
  obtain ⟨n',hn',e⟩:=G1z I hD hl
  have hb:=I.blk
  have hs : ∀ x,blk? (H.set d x) d = x:=fun x=>blk?_set_eq (blk?_lt hb)
  have hlt : (j : Int) < 4:=by omega
  have hw : IntKind.i64.wrap ((j : Int) + 1) = ((j + 1 : Nat) : Int):=Gbc (n:=j + 1) (by omega)
  have hv:=Gle (Gs3 j hD)
  rw [G1x] at hv
  have hpw : (256 : Nat) ^ j≤16777216:=by
   have : j = 0∨j = 1∨j = 2∨j = 3:=by omega
   rcases this with rfl | rfl | rfl | rfl <;> decide
  have hx : (D.drop n).headD 0 < 256:=Ghs (hD.drop n)
  have hval : val (pad D (j + 1)) = val (pad D j) * 256 + (D.drop n).headD 0:=by
   rw [Gji,val_append,← hd]; simp [val]
  have I2:=I.set n' (val (pad D (j + 1))) size st
  rw [hval] at I2
  generalize (D.drop n).headD 0 = x at *
  generalize hq : val (pad D j) = v at *
  have hS:=Qdd (q:=v) (k:=8) (by omega) (by omega)
  simp only [Int.cast_ofNat_Int] at hS
  have hS' : Gmf .i64 (v : Int) 8 = ((v * 256 : Nat) : Int):=hS
  have ha : IntKind.i64.wrap (((v * 256 : Nat) : Int) + (x : Int)) = ((v * 256 + x : Nat) : Int):=by rw [Gan (by omega) (by omega)]; omega
  have ih':=fun K1 K2 K3 K5 K6 K7 K8 K9 Ka Kb Kc Kd Ke Kf Kg Kh Ki Kk Kl Km Kn Ko Kp Kq Kr Ks Kt Ku Kv Kw Kx Ky Kz J0 J1 J2 J3 J4 J5 J6 J7 J8 J9 Ja=>ih (j + 1) _ n' K1 K2 K3 K5 K6 K7 K8 K9 Ka Kb Kc Kd Ke Kf Kg Kh Ki Kk Kl Km Kn Ko Kp Kq Kr Ks Kt Ku Kv Kw Kx Ky Kz J0 J1 J2 J3 J4 J5 J6 J7 J8 J9 Ja (by omega) (by rw [hval]; exact I2) (by rw [hn',hd,List.tail_drop]) (fun id hid=>by rw [blk?_set_ne (Ne.symm hid)]; exact hk1 id hid) (by simpa using hl1)
  generalize ((j + 1 : Nat) : Int) = j1 at *
  generalize ((v * 256 : Nat) : Int) = y at *
  generalize ((v * 256 + x : Nat) : Int) = z at *
  rw [Gad,Qcx,Gtp,Gvh]
  simp [book,Ghq,Gd0,Gb5,Ghw,Gbq,Gcg,veq,hlt,hb,hS',e,ha,hs,hw]
  exact ih' ..
theorem G5i {tv : Value} {D' : List Nat} (I : DP h d pb dv D n p value size st) (hp : 0 < p.length) (ht : Sl h 1 tv D'.length (nU D')) (hD : Dig D') (hl : D'.length < 100000000) :
  ∃ h' dv' n',(∀ R : RP,Ret tab 58 [ptr d,tv] h R = R (.int .i64 0) h')∧DP h' d pb dv' D' n' p (AD.start p D').value 4294967295 true∧D'.drop n' = D'.drop 4∧EF h h' d pb dv dv':=by
 have key : ∀ R0 : RP,(∀ h' dv' n',DP h' d pb dv' D' n' p (AD.start p D').value 4294967295 true→D'.drop n' = D'.drop 4→EF h h' d pb dv dv'→R0 (.int .i64 0) h')→Ret tab 58 [ptr d,tv] h R0:=by
  intro R0 hR
  have hv:=fun R=>Gjv (R:=R) I hp
  obtain ⟨t1,H1,a1,o1,l1,k1,g1⟩:=Gtj (bytes:=1) (Ga7.nil h 1) ht (by unfold Gaq; omega) (by omega)
  rw [Nat.zero_add,List.nil_append] at o1
  have k1' : ∀ id,id < h.length→blk? H1 id = blk? h id:=fun id hid=>k1 id hid (by simp [sid])
  have hd:=blk?_lt I.blk
  have hpb:=blk?_lt I.pblk
  have hb1 : blk? H1 d = some ⟨false,[.slice (some ⟨pb,0,none⟩) p.length 1,dv,.int .i64 (n : Nat),.int .i64 (value : Nat),.int .i64 (size : Nat),.bool st]⟩:=by rw [k1' d hd]; exact I.blk
  have hd1:=blk?_lt hb1
  have hs : ∀ x,blk? (H1.set d x) d = x:=fun x=>blk?_set_eq hd1
  have I1 : DP (H1.set d (some ⟨false,[.slice (some ⟨pb,0,none⟩) p.length 1,t1,.int .i64 ((0 : Nat) : Int),.int .i64 ((0 : Nat) : Int),.int .i64 (size : Nat),.bool st]⟩)) d pb t1 D' 0 p (val (pad D' 0)) size st :=
   ⟨hs _,by rw [blk?_set_ne I.ne1,k1' pb hpb]; exact I.pblk,o1.of_blk fun id hid hb=>by rw [blk?_set_ne (by have:=g1 id hid; omega)]; exact hb,I.ne1,fun x=>by have:=g1 d x; omega,fun x=>by have:=g1 pb x; omega⟩
  obtain ⟨ta,tc,ht1⟩:=o1.sl.shape
  have hL:=fun K1 K2 K3 K5 K6 K7 K8 K9 Ka Kb Kc Kd Ke Kf Kg Kh Ki Kk Kl Km Kn Ko Kp Kq Kr Ks Kt Ku Kv Kw Kx Ky Kz J0 J1 J2 J3 J4 J5 J6 J7 J8 J9 Ja=>Gxu (h:=H1.set d (some ⟨false,[.slice (some ⟨pb,0,none⟩) p.length 1,t1,.int .i64 ((0 : Nat) : Int),.int .i64 ((0 : Nat) : Int),.int .i64 (size : Nat),.bool st]⟩)) (R:=R0) (v1:=.bool true) (k:=[.code (tlC 4 B58)]) hD (by omega)
   (fun H2 n2 K1 K2 K3 K5 K6 K7 K8 K9 Ka Kb Kc Kd Ke Kf Kg Kh Ki Kj Kk Kl Km Kn Ko Kp Kq Kr Ks Kt Ku Kv Kw Kx Ky Kz J0 J1 J2 J3 J4 J5 J6 J7 J8 J9 Ja I2 hd2 k2 l2=>by
    have hb2:=I2.blk
    have hs2 : ∀ x,blk? (H2.set d x) d = x:=fun x=>blk?_set_eq (blk?_lt hb2)
    have hmn : min (val (pad D' 4) : Int) 4294967294 = ((AD.start p D').value : Nat):=by simp only [AD.start]; omega
    have I3:=I2.set n2 (AD.start p D').value 4294967295 true
    have F3 : EF h (H2.set d (some ⟨false,[.slice (some ⟨pb,0,none⟩) p.length 1,t1,.int .i64 (n2 : Nat),.int .i64 ((AD.start p D').value : Nat),.int .i64 ((4294967295 : Nat) : Int),.bool true]⟩)) d pb dv t1:=by
     refine ⟨by rw [List.length_set]; simp at l2; omega,fun id h1 h2 h3 h4=>?_,fun id hid=>.inr ?_⟩
     ·rw [blk?_set_ne (Ne.symm h2),k2 id h2,blk?_set_ne (Ne.symm h2),k1' id h1]
     ·have:=g1 id hid
      rw [List.length_set]; simp at l2; omega
    have hR':=hR _ t1 n2 I3 hd2 F3
    simp only [Int.cast_ofNat_Int] at hR'
    generalize (((AD.start p D').value : Nat) : Int) = z at *
    simp only [Gau,tlC,Gd5,B58]
    simp [hb2,Gci,Gcq,mn2,hmn,hs2,fin58]
    exact hR') 4 0 _ 0 K1 K2 K3 K5 K6 K7 K8 K9 Ka Kb Kc Kd Ke Kf Kg Kh Ki Kk Kl Km Kn Ko Kp Kq Kr Ks Kt Ku Kv Kw Kx Ky Kz J0 J1 J2 J3 J4 J5 J6 J7 J8 J9 Ja (by omega) I1 rfl (fun _ _=>rfl) rfl
  simp only [Int.cast_ofNat_Int] at hL
  rw [ht1] at hL a1
  rw [Qaz,show B58 = .seq (Gau 0 B58) (.seq (Gau 1 B58) (.seq (Gau 2 B58) (.seq (Gau 3 B58) (tlC 4 B58)))) from rfl]
  generalize tlC 4 B58 = tl at *
  simp only [Gau,tlC,Gd5,B58]
  simp [hv,a1,hb1,hs]
  exact hL ..
 obtain ⟨v,h',e,rfl,dv',n',a,b,c⟩:=Gck (key (fun v h'=>v = .int .i64 0∧∃ dv' n',DP h' d pb dv' D' n' p (AD.start p D').value 4294967295 true∧D'.drop n' = D'.drop 4∧EF h h' d pb dv dv') fun h' dv' n' a b c=>⟨rfl,dv',n',a,b,c⟩)
 exact ⟨h',dv',n',e,a,b,c⟩
theorem G8s {v1 v6 : Value} (I : DP h d pb dv D n p value size st) (hD : Dig D) (hl : D.length < 1000000000) (hv : value < size) (h1 : 65536≤size) (h2 : size < 4294967296) :
  ∃ h' n' value' size',DP h' d pb dv D n' p value' size' st∧(∀ id,id ≠ d→blk? h' id = blk? h id)∧h'.length = h.length∧D.drop n' = (if size < 16777216 then (D.drop n).tail else D.drop n) ∧
   value' = (if size < 16777216 then value * 256 + (D.drop n).headD 0 else value)∧size' = (if size < 16777216 then size * 256 else size) ∧
   ∀ (k : List Ga1) (K2 K3 K4 K5 K7 K8 K9 Ka Kb Kc Kd Ke Kf Kg Kh Ki Kj Kk Kl Km Kn Ko Kp Kq Kr Ks Kt Ku Kv Kw Kx Ky Kz J0 J1 J2 J3 J4 J5 J6 J7 J8 J9 Ja Jb Jc Jd Je Jf Jg Jh Ji Jj Jk Jl Jm Jn Jo Jp Jq Jr Js Jt Ju Jv Jw Jx Jy Jz Y0 Y1 Y2 Y3 Y4 Y5 Y6 Y7 Y8 Y9 Ya Yb Yc Yd Ye Yf Yg : Value),(∀ K2 K3 K4 K5 K7 K8 K9 Ka Kb Kc Kd Ke Kf Kg Kh Ki Kj Kk Kl Km Kn Ko Kp Kq Kr Ks Kt Ku Kv Kw Kx Ky Kz J0 J1 J2 J3 J4 J5 J6 J7 J8 J9 Ja Jb Jc Jd Je Jf Jg Jh Ji Jj Jk Jl Jm Jn Jo Jp Jq Jr Js Jt Ju Jv Jw Jx Jy Jz Y0 Y1 Y2 Y3 Y4 Y5 Y6 Y7 Y8 Y9 Ya Yb Yc Yd Ye Yf Yg : Value,Ok tab G7q k #[ptr d,v1,K2,K3,K4,K5,v6,K7,K8,K9,Ka,Kb,Kc,Kd,Ke,Kf,Kg,Kh,Ki,Kj,Kk,Kl,Km,Kn,Ko,Kp,Kq,Kr,Ks,Kt,Ku,Kv,Kw,Kx,Ky,Kz,J0,J1,J2,J3,J4,J5,J6,J7,J8,J9,Ja,Jb,Jc,Jd,Je,Jf,Jg,Jh,Ji,Jj,Jk,Jl,Jm,Jn,Jo,Jp,Jq,Jr,Js,Jt,Ju,Jv,Jw,Jx,Jy,Jz,Y0,Y1,Y2,Y3,Y4,Y5,Y6,Y7,Y8,Y9,Ya,Yb,Yc,Yd,Ye,Yf,Yg] h' R) →
    Ok tab G7q (.inLoop Gqc :: .inBlock 0 :: k) #[ptr d,v1,K2,K3,K4,K5,v6,K7,K8,K9,Ka,Kb,Kc,Kd,Ke,Kf,Kg,Kh,Ki,Kj,Kk,Kl,Km,Kn,Ko,Kp,Kq,Kr,Ks,Kt,Ku,Kv,Kw,Kx,Ky,Kz,J0,J1,J2,J3,J4,J5,J6,J7,J8,J9,Ja,Jb,Jc,Jd,Je,Jf,Jg,Jh,Ji,Jj,Jk,Jl,Jm,Jn,Jo,Jp,Jq,Jr,Js,Jt,Ju,Jv,Jw,Jx,Jy,Jz,Y0,Y1,Y2,Y3,Y4,Y5,Y6,Y7,Y8,Y9,Ya,Yb,Yc,Yd,Ye,Yf,Yg] h R:=by
 have hb:=I.blk
 have hd:=blk?_lt hb
 by_cases hs : size < 16777216
 ·obtain ⟨n',hn',e⟩:=G1z I hD hl
  have hx : (D.drop n).headD 0 < 256:=Ghs (hD.drop n)
  have I2:=I.set n' (value * 256 + (D.drop n).headD 0) (size * 256) st
  refine ⟨_,n',_,_,I2,fun id hid=>by rw [blk?_set_ne (Ne.symm hid)],by simp,by rw [if_pos hs]; exact hn',by rw [if_pos hs],by rw [if_pos hs],?_⟩
  intro k;intros;rename_i hk
  generalize (D.drop n).headD 0 = x at *
  have hS:=Qdd (q:=value) (k:=8) (by omega) (by omega)
  simp only [Int.cast_ofNat_Int] at hS
  have hS' : Gmf .i64 (value : Int) 8 = ((value * 256 : Nat) : Int):=hS
  have hT:=Qdd (q:=size) (k:=8) (by omega) (by omega)
  simp only [Int.cast_ofNat_Int] at hT
  have hT' : Gmf .i64 (size : Int) 8 = ((size * 256 : Nat) : Int):=hT
  have ha : IntKind.i64.wrap (((value * 256 : Nat) : Int) + (x : Int)) = ((value * 256 + x : Nat) : Int):=by rw [Gan (by omega) (by omega)]; omega
  have hlt : (size : Int) < 16777216:=by omega
  have hge : ¬ ((size * 256 : Nat) : Int) < 16777216:=by omega
  have hss : ∀ x,blk? (h.set d x) d = x:=fun x=>blk?_set_eq hd
  generalize ((value * 256 : Nat) : Int) = y at *
  generalize ((value * 256 + x : Nat) : Int) = z at *
  generalize ((size * 256 : Nat) : Int) = u at *
  rw [Gad,G1l,Glj,Glp]
  simp [book,Ghq,Gd0,Gb5,Ghw,Gbq,Gcg,veq,hlt,hb,hS',e,ha,hss,hT']
  rw [Gad,G1l,Glj,Glp]
  simp [hss,hge]
  exact hk ..
 ·have hlt : ¬ (size : Int) < 16777216:=by omega
  refine ⟨h,n,value,size,I,fun _ _=>rfl,rfl,by rw [if_neg hs],by rw [if_neg hs],by rw [if_neg hs],?_⟩
  intro k;intros;rename_i hk
  rw [Gad,G1l,Glj,Glp]
  simp [hb,hlt]
  exact hk ..
theorem DP.setp (I : DP h d pb dv D n p value size st) (p' : List Nat) (hl : p'.length = p.length) : DP (h.set pb (some ⟨false,nI p'⟩)) d pb dv D n p' value size st:=by
 have hp:=blk?_lt I.pblk
 exact ⟨by rw [blk?_set_ne (Ne.symm I.ne1),hl]; exact I.blk,blk?_set_eq hp,I.own.of_blk fun id hid hb=>by rw [blk?_set_ne (fun x=>I.ne3 (by rw [x]; exact hid))]; exact hb,I.ne1,I.ne2,I.ne3⟩
theorem G0f {c : Nat} (I : DA h d pb dv D n a) (hc : c < a.p.length) (hD : Dig D) (hl : D.length < 1000000000) :
  ∃ h' n',(∀ R : RP,Ret tab 246 [ptr d,.int .i64 (c : Nat)] h R = R (.tuple #[.int .i64 (a.bit c : Nat),.int .i64 0]) h')∧DA h' d pb dv D n' (a.next c)∧(∀ id,id ≠ d→id ≠ pb→blk? h' id = blk? h id)∧h'.length = h.length:=by
 have key : ∀ R0 : RP,(∀ h' n',DA h' d pb dv D n' (a.next c)→(∀ id,id ≠ d→id ≠ pb→blk? h' id = blk? h id)→h'.length = h.length→R0 (.tuple #[.int .i64 (a.bit c : Nat),.int .i64 0]) h')→Ret tab 246 [ptr d,.int .i64 (c : Nat)] h R0:=by
  intro R0 hR
  have hP:=I.dp
  obtain ⟨r1,r2⟩:=AD.split_rng I.ok hc
  have s2:=I.ok.s2
  have hv:=I.ok.v
  have hok:=AD.next_ok I.ok hc
  have hval:=fun R=>Gjv (R:=R) hP I.pos
  have hh:=fun R=>Qd9 (R:=R) (c:=c) hP.blk
  rw [decide_eq_true hc] at hh
  have hpo:=I.ok.ps.getD hc
  have hsp:=fun R=>Gyz (R:=R) hP.blk hP.pblk hc (by have:=hpo.2; omega) s2
  have hS : a.size / 4096 * a.p.getD c 0 = a.split c:=rfl
  rw [hS] at hsp
  have hb:=hP.blk
  have hd:=blk?_lt hb
  have hss : ∀ x,blk? (h.set d x) d = x:=fun x=>blk?_set_eq hd
  have hbl : a.bit c < 2:=by unfold AD.bit; split <;> omega
  have rest : ∀ (H : Gag) (v1 s1 : Nat),DP H d pb dv D n a.p v1 s1 true→(∀ id,id ≠ d→blk? H id = blk? h id)→H.length = h.length→v1 < s1→65536≤s1→s1 < 4294967296→(a.next c).rest = (if s1 < 16777216 then (D.drop n).tail else D.drop n) →
    (a.next c).value = (if s1 < 16777216 then v1 * 256 + (D.drop n).headD 0 else v1)→(a.next c).size = (if s1 < 16777216 then s1 * 256 else s1) →
    ∀ K2 K3 K4 K5 K7 K8 K9 Ka Kb Kc Kd Ke Kf Kg Kh Ki Kj Kk Kl Km Kn Ko Kp Kq Kr Ks Kt Ku Kv Kw Kx Ky Kz J0 J1 J2 J3 J4 J5 J6 J7 J8 J9 Ja Jb Jc Jd Je Jf Jg Jh Ji Jj Jk Jl Jm Jn Jo Jp Jq Jr Js Jt Ju Jv Jw Jx Jy Jz Y0 Y1 Y2 Y3 Y4 Y5 Y6 Y7 Y8 Y9 Ya Yb Yc Yd Ye Yf Yg : Value,Ok tab G7q [.inLoop Gqc,.inBlock 0,.code (tlC 6 Gs6)] #[ptr d,.int .i64 (c : Nat),K2,K3,K4,K5,.int .i64 (a.bit c : Nat),K7,K8,K9,Ka,Kb,Kc,Kd,Ke,Kf,Kg,Kh,Ki,Kj,Kk,Kl,Km,Kn,Ko,Kp,Kq,Kr,Ks,Kt,Ku,Kv,Kw,Kx,Ky,Kz,J0,J1,J2,J3,J4,J5,J6,J7,J8,J9,Ja,Jb,Jc,Jd,Je,Jf,Jg,Jh,Ji,Jj,Jk,Jl,Jm,Jn,Jo,Jp,Jq,Jr,Js,Jt,Ju,Jv,Jw,Jx,Jy,Jz,Y0,Y1,Y2,Y3,Y4,Y5,Y6,Y7,Y8,Y9,Ya,Yb,Yc,Yd,Ye,Yf,Yg] H R0:=by
   intro H v1 s1 I1 k1 l1 hv1 hs1 hs2 q1 q2 q3;intros
   obtain ⟨h2,n2,v2,s2,I2,k2,l2,e1,e2,e3,hL⟩:=G8s (v1:=.int .i64 (c : Nat)) (v6:=.int .i64 (a.bit c : Nat)) I1 hD hl hv1 hs1 hs2
   refine hL _ _ _ _ _ _ _ _ _ _ _ _ _ _ _ _ _ _ _ _ _ _ _ _ _ _ _ _ _ _ _ _ _ _ _ _ _ _ _ _ _ _ _ _ _ _ _ _ _ _ _ _ _ _ _ _ _ _ _ _ _ _ _ _ _ _ _ _ _ _ _ _ _ _ _ _ _ _ _ _ _ _ _ _ _ _ _ fun K2 K3 K4 K5 K7 K8 K9 Ka Kb Kc Kd Ke Kf Kg Kh Ki Kj Kk Kl Km Kn Ko Kp Kq Kr Ks Kt Ku Kv Kw Kx Ky Kz J0 J1 J2 J3 J4 J5 J6 J7 J8 J9 Ja Jb Jc Jd Je Jf Jg Jh Ji Jj Jk Jl Jm Jn Jo Jp Jq Jr Js Jt Ju Jv Jw Jx Jy Jz Y0 Y1 Y2 Y3 Y4 Y5 Y6 Y7 Y8 Y9 Ya Yb Yc Yd Ye Yf Yg=>?_
   have I3:=I2.setp (a.p.set c (Gcw (a.p.getD c 0) (a.bit c))) (by simp)
   have hA:=fun R=>Gza (R:=R) I2.blk I2.pblk I2.ne1 hc I.ok.ps hbl
   have hb2:=I2.blk
   have hpn : (a.next c).p = a.p.set c (Gcw (a.p.getD c 0) (a.bit c)):=rfl
   have hR':=hR _ n2 ⟨by rw [hpn,q2,q3,← e2,← e3]; exact I3,by rw [q1,e1],hok,by rw [hpn]; simpa using I.pos⟩ (fun id h1 h2=>by rw [blk?_set_ne (Ne.symm h2),k2 id h1,k1 id h1]) (by simp [l2,l1])
   generalize nI (a.p.set c (Gcw (a.p.getD c 0) (a.bit c))) = C at *
   generalize a.bit c = bt at *
   simp only [Gau,tlC,Gd5,Gs6]
   simp [hb2,hA,G74]
   exact hR'
  rw [Gvc,show Gs6 = .seq (Gau 0 Gs6) (.seq (Gau 1 Gs6) (.seq (Gau 2 Gs6) (.seq (Gau 3 Gs6) (.seq (Gau 4 Gs6) (.seq (Gau 5 Gs6) (tlC 6 Gs6)))))) from rfl]
  generalize hT6 : tlC 6 Gs6 = T6 at *
  simp only [Gau,tlC,Gd5,Gs6]
  by_cases hlt : a.value < a.split c
  ·have hbit : a.bit c = 0:=by unfold AD.bit; rw [if_pos hlt]
   have hlt' : (a.value : Int) < (a.split c : Int):=by omega
   have I1:=hP.set n a.value (a.split c) true
   have hfin:=rest _ a.value (a.split c) I1 (fun id hid=>by rw [blk?_set_ne (Ne.symm hid)]) (by simp) hlt r1 (by omega)
    (by unfold AD.next AD.norm; simp only [hlt,if_true]; rw [I.rest]; split <;> rfl)
    (by unfold AD.next AD.norm; simp only [hlt,if_true]; rw [I.rest]; split <;> rfl)
    (by unfold AD.next AD.norm; simp only [hlt,if_true]; split <;> rfl)
   rw [hbit] at hfin
   simp only [Int.cast_ofNat_Int] at hfin
   generalize a.split c = S at *
   simp [Gaa,Gah,hval,hb,hh,hsp,hlt',hlt,hss]
   exact hfin ..
  ·have hbit : a.bit c = 1:=by unfold AD.bit; rw [if_neg hlt]
   have hlt' : ¬ (a.value : Int) < (a.split c : Int):=by omega
   have I1:=hP.set n (a.value - a.split c) (a.size - a.split c) true
   have hfin:=rest _ (a.value - a.split c) (a.size - a.split c) I1 (fun id hid=>by rw [blk?_set_ne (Ne.symm hid)]) (by simp) (by omega) (by omega) (by omega)
    (by unfold AD.next AD.norm; simp only [hlt,if_false]; rw [I.rest]; split <;> rfl)
    (by unfold AD.next AD.norm; simp only [hlt,if_false]; rw [I.rest]; split <;> rfl)
    (by unfold AD.next AD.norm; simp only [hlt,if_false]; split <;> rfl)
   rw [hbit] at hfin
   simp only [Int.cast_ofNat_Int] at hfin
   have w1 : IntKind.i64.wrap ((a.value : Int) - (a.split c : Int)) = ((a.value - a.split c : Nat) : Int):=by rw [Gan (by omega) (by omega)]; omega
   have w2 : IntKind.i64.wrap ((a.size : Int) - (a.split c : Int)) = ((a.size - a.split c : Nat) : Int):=by rw [Gan (by omega) (by omega)]; omega
   generalize ((a.value - a.split c : Nat) : Int) = y1 at *
   generalize ((a.size - a.split c : Nat) : Int) = y2 at *
   generalize a.split c = S at *
   simp [Gaa,Gah,hval,hb,hh,hsp,hlt',hlt,hss,w1,w2]
   exact hfin ..
 obtain ⟨v,h',e,rfl,n',x,y,z⟩:=Gck (key (fun v h'=>v = .tuple #[.int .i64 (a.bit c : Nat),.int .i64 0]∧∃ n',DA h' d pb dv D n' (a.next c)∧(∀ id,id ≠ d→id ≠ pb→blk? h' id = blk? h id)∧h'.length = h.length) fun h' n' x y z=>⟨rfl,n',x,y,z⟩)
 exact ⟨h',n',e,x,y,z⟩
theorem Gxe {x : Int} (I : DA h d pb dv D n a) (hx : x < 0∨(a.p.length : Int)≤x) : Ret tab 246 [ptr d,.int .i64 x] h R = R (.tuple #[.int .i64 0,.int .i64 2]) h:=by
 have hP:=I.dp
 have hval:=fun R=>Gjv (R:=R) hP I.pos
 have hb:=hP.blk
 have hh : ∀ R,Ret tab 234 [ptr d,.int .i64 x] h R = R (.bool false) h:=fun R=>by
  rw [Gur,Qe8]
  by_cases h0 : x < 0
  ·have h0' : ¬ (0 : Int)≤x:=by omega
   simp [Gaa,Gah,hb,h0,h0',Gwv]
  ·have h0' : (0 : Int)≤x:=by omega
   have h1 : ¬ x < (a.p.length : Int):=by omega
   simp [Gaa,Gah,hb,h0,h0',h1,Gwv]
 rw [Gvc,Gs6]
 simp [Gaa,Gah,hval,hb,hh,G74]
theorem Gwe (I : DP h d pb dv D n p value size st) (hp : 0 < p.length) (hn : p.length < 1000000) :
  ∃ h',(∀ R : RP,Ret tab 59 [ptr d] h R = R (.tuple #[]) h')∧DP h' d pb dv D n (AE.base p.length) value size st∧(∀ id,id ≠ pb→blk? h' id = blk? h id)∧h'.length = h.length:=by
 have I1:=I.setp (AE.base p.length) (by simp [AE.base])
 refine ⟨_,fun R=>?_,I1,fun id hid=>by rw [blk?_set_ne (Ne.symm hid)],by simp⟩
 have hv:=fun R=>Gjv (R:=R) I hp
 have hr:=fun R=>Glq (R:=R) I.blk I.pblk I.ne1 hn
 have hb:=I.blk
 rw [Qax,B59]
 simp [hv,hb,hr,fin59,AE.base]
theorem G6l {m : Nat} (h1 : 1≤m) (h2 : m≤64) : ∃ h' d pb,(∀ R : RP,Ret tab 56 [.int .i64 (m : Nat)] h R = R (.tuple #[ptr d,.int .i64 0]) h')∧DP h' d pb (.slice none 0 0) [] 0 (AE.base m) 0 0 false∧h.length≤d∧h.length≤pb ∧
  h.length≤h'.length∧∀ id,id < h.length→blk? h' id = blk? h id:=by
 obtain ⟨H,hm,hb,hl,hk⟩:=Glo (h:=h) h1 h2
 refine ⟨H++[some ⟨false,[.slice (some ⟨h.length + 1,0,none⟩) m 1,.slice none 0 0,.int .i64 0,.int .i64 0,.int .i64 0,.bool false]⟩],H.length,h.length + 1,fun R=>?_,⟨?_,?_,Ga7.nil _ _,by omega,by simp [sid],by simp [sid]⟩,by omega,by omega,by simp; omega,fun id hid=>by rw [blk?_push_lt (by omega)]; exact hk id hid⟩
 ·have n1 : ¬ ((m : Int) < 1):=by omega
  have n2 : ¬ ((64 : Int) < m):=by omega
  rw [G9a,B56]
  simp [Gaa,n1,n2,hm,fin56]
 ·rw [blk?_push_eq]; simp [AE.base]
 ·rw [blk?_push_lt (by omega)]; exact hb
end
structure RB (h : Gag) (p : Nat) (s : Value) (xs : List Nat) (n : Nat) : Prop where
 blk : blk? h p = some ⟨false,[.bool true,s,.int .i64 (n : Nat)]⟩
 own : Ga7 h 1 s xs.length (nU xs)
 ne : sid s ≠ some p
 lt : ∀ x ∈ xs,x < 256
theorem G29 : ∀ (x : Fin 256) (j : Fin 8),Qa7 .i64 (Gxo .i64 (IntKind.i64.wrap (x.1 : Int)) ((j.1 : Int))) 1 = ((x.1 / 2 ^ j.1 % 2 : Nat) : Int):=by decide +kernel
section
variable {h : Gag} {R : RP} {p n : Nat} {s : Value} {xs : List Nat}
theorem RB.keep {h' : Gag} (J : RB h p s xs n) (hk : ∀ id,Gvt p s id→blk? h' id = blk? h id) : RB h' p s xs n :=
 ⟨by rw [hk p (.inl rfl)]; exact J.blk,J.own.of_blk fun id hid hb=>by rw [hk id (.inr hid)]; exact hb,J.ne,J.lt⟩
theorem RB.own_lt (J : RB h p s xs n) {id : Nat} (hid : Gvt p s id) : id < h.length:=by
 rcases hid with rfl | hid
 ·exact blk?_lt J.blk
 ·exact J.own.lt hid
theorem RB.next (J : RB h p s xs n) : RB (h.set p (some ⟨false,[.bool true,s,.int .i64 ((n + 1 : Nat) : Int)]⟩)) p s xs (n + 1) :=
 ⟨blk?_set_eq (blk?_lt J.blk),J.own.of_blk fun id hid hb=>by rw [blk?_set_ne (fun x=>J.ne (by rw [x]; exact hid))]; exact hb,J.ne,J.lt⟩
theorem bget_c (J : RB h p s xs n) (hn : n < 100000000) : Ret tab 250 [ptr p] h R = R (.int .i64 (Gft xs n : Nat)) (h.set p (some ⟨false,[.bool true,s,.int .i64 ((n + 1 : Nat) : Int)]⟩)):=by
 have hp:=J.blk
 have hw : IntKind.i64.wrap ((n : Int) + 1) = (n : Int) + 1:=Gbc (n:=n + 1) (by omega)
 have hq : IntKind.i64.wrap ((n : Int) / 8) = (n : Int) / 8:=Gbc (n:=n / 8) (by omega)
 have hlt:=blk?_lt hp
 have hc1 : ((n + 1 : Nat) : Int) = (n : Int) + 1:=by omega
 rw [hc1,G2u,B250]
 by_cases hi : n / 8 < xs.length
 ·obtain ⟨id,off,b,e,hbk,hcell⟩:=J.own.sl.get hi
  have hid : p ≠ id:=fun x=>J.ne (by rw [e,x]; rfl)
  subst e
  have h1 : ¬ ((xs.length : Int)≤(n : Int) / 8):=by omega
  have h2 : (0 : Int)≤(n : Int) / 8∧(n : Int) / 8 < xs.length:=by omega
  have h3 : ((n : Int) / 8).toNat = n / 8:=by omega
  have h4:=hcell 0 (by omega)
  simp [nU,hi] at h4
  have h5 : IntKind.u64.wrap (IntKind.i64.wrap (7 - (n : Int).tmod 8)) = ((7 - n % 8 : Nat) : Int):=by
   rw [show (n : Int).tmod 8 = ((n % 8 : Nat) : Int) from rfl,Gan (by omega) (by omega),IntKind.wrap_u64]; omega
  have h6 : ¬ ((7 - n % 8 : Nat) : Int) < 0:=by omega
  have hx8 : xs[n / 8] < 256:=J.lt _ (by simp)
  have hb : Gft xs n = xs[n / 8] / 2 ^ (7 - n % 8) % 2:=by simp [Gft,hi]
  have h7:=G29 ⟨xs[n / 8],hx8⟩ ⟨7 - n % 8,by omega⟩
  simp only at h7
  simp [hp,hw,hq,hlt,blk?_set_eq,blk?_set_ne hid,h1,h2,h3,h4,hbk,h5,h6,h7,G06,hb]
 ·have hl:=J.own.sl.2
  have h1 : (xs.length : Int)≤(n : Int) / 8:=by omega
  have h0 : Gft xs n = 0:=by simp [Gft,List.getElem?_eq_none (Nat.le_of_not_lt hi)]
  rcases hl with ⟨rfl,hl⟩ | ⟨id,off,rfl,hl⟩
  ·have h1 : (0 : Int)≤(n : Int) / 8:=by omega
   simp [hp,hw,hq,hlt,blk?_set_eq,h0,h1,G06]
  ·simp [hp,hw,hq,hlt,blk?_set_eq,h1,h0,G06]
theorem rget_c (J : RB h p s xs n) (hn : n < 100000000) : Ret tab 249 [ptr p] h R = R (.int .i64 (Gft xs n : Nat)) (h.set p (some ⟨false,[.bool true,s,.int .i64 ((n + 1 : Nat) : Int)]⟩)):=by
 have hp:=J.blk
 have hg:=fun R=>bget_c (R:=R) J hn
 generalize ((n + 1 : Nat) : Int) = n1 at *
 rw [G4t,B249]
 simp [Gaa,hp,fin249,hg]
theorem Gth {tv : Value} {D : List Nat} (ht : Sl h 1 tv D.length (nU D)) (hD : ∀ x ∈ D,x < 256) (hl : D.length < 100000000) :
  ∃ h' q s,(∀ R : RP,Ret tab 57 [tv] h R = R (ptr q) h')∧RB h' q s D 0∧(∀ id,id < h.length→blk? h' id = blk? h id)∧h.length≤h'.length∧(∀ id,Gvt q s id→h.length≤id):=by
 obtain ⟨t1,H1,a1,o1,l1,k1,g1⟩:=Gtj (bytes:=1) (Ga7.nil h 1) ht (by unfold Gaq; omega) (by omega)
 rw [Nat.zero_add,List.nil_append] at o1
 have k1' : ∀ id,id < h.length→blk? H1 id = blk? h id:=fun id hid=>k1 id hid (by simp [sid])
 refine ⟨H1++[some ⟨false,[.bool true,t1,.int .i64 ((0 : Nat) : Int)]⟩],H1.length,t1,fun R=>?_,⟨blk?_push_eq,o1.of_blk fun id hid hb=>by rw [blk?_push_lt (blk?_lt hb)]; exact hb,fun x=>by have:=g1 _ x; omega,hD⟩,fun id hid=>by rw [blk?_push_lt (by omega),k1' id hid],by simp; omega,fun id hid=>?_⟩
 ·obtain ⟨ta,tc,ht1⟩:=o1.sl.shape
  rw [ht1] at a1 ⊢
  rw [Qbg,B57]
  simp [a1,writeAt,fin57]
 ·rcases hid with rfl | hid
  ·exact l1
  ·exact (g1 id hid).1
end
inductive Tr (α : Type) where
 | ret (a : α)
 | ask (c : Int) (k : Bool→Tr α)
def Tr.bind {α β : Type} : Tr α→(α→Tr β)→Tr β
 | .ret a,f=>f a
 | .ask c k,f=>.ask c fun b=>(k b).bind f
def Tr.run {α S : Type} (A : S→Int→Bool × S) : Tr α→S→α × S
 | .ret a,s=>(a,s)
 | .ask c k,s=>(k (A s c).1).run A (A s c).2
theorem Tr.run_ret {α S : Type} (A : S→Int→Bool × S) (a : α) (s : S) : (Tr.ret a).run A s = (a,s):=rfl
theorem Tr.run_ask {α S : Type} (A : S→Int→Bool × S) (c : Int) (k : Bool→Tr α) (s : S) : (Tr.ask c k).run A s = (k (A s c).1).run A (A s c).2:=rfl
theorem Tr.run_bind {α β S : Type} (A : S→Int→Bool × S) (f : α→Tr β) : ∀ (t : Tr α) (s : S),(t.bind f).run A s = (f (t.run A s).1).run A (t.run A s).2
 | .ret a,s=>rfl
 | .ask c k,s=>by rw [Tr.bind,Tr.run_ask,Tr.run_ask]; exact Tr.run_bind A f (k (A s c).1) (A s c).2
def Tr.Lv {α : Type} (Q : α→Prop) : Tr α→Nat→Prop
 | .ret a,_=>Q a
 | .ask _ _,0=>False
 | .ask _ k,n + 1=>∀ b,(k b).Lv Q n
theorem Tr.Lv.mono {α : Type} {Q Q' : α→Prop} (hq : ∀ a,Q a→Q' a) : ∀ {t : Tr α} {n m : Nat},t.Lv Q n→n≤m→t.Lv Q' m
 | .ret a,n,m,h,_=>by unfold Tr.Lv at h ⊢; exact hq a h
 | .ask c k,0,m,h,_=>by simp [Tr.Lv] at h
 | .ask c k,n + 1,0,h,hm=>by omega
 | .ask c k,n + 1,m + 1,h,hm=>by
  unfold Tr.Lv at h ⊢
  exact fun b=>Tr.Lv.mono hq (h b) (by omega)
theorem Tr.Lv.bind {α β : Type} {Q : α→Prop} {Q' : β→Prop} {f : α→Tr β} {m : Nat} (hf : ∀ a,Q a→(f a).Lv Q' m) : ∀ {t : Tr α} {n : Nat},t.Lv Q n→(t.bind f).Lv Q' (n + m)
 | .ret a,n,h=>by
  unfold Tr.Lv at h
  exact (hf a h).mono (fun _ h=>h) (by omega)
 | .ask c k,0,h=>by simp [Tr.Lv] at h
 | .ask c k,n + 1,h=>by
  unfold Tr.Lv at h
  rw [Tr.bind,show n + 1 + m = (n + m) + 1 by omega,Tr.Lv]
  exact fun b=>Tr.Lv.bind hf (h b)
theorem Tr.Lv.out {α S : Type} {Q : α→Prop} {A : S→Int→Bool × S} {size : S→Nat} (ha : ∀ s c,size (A s c).2≤size s + 1) : ∀ {t : Tr α} {n : Nat} (s : S),t.Lv Q n→Q (t.run A s).1∧size (t.run A s).2≤size s + n
 | .ret a,n,s,h=>by
  unfold Tr.Lv at h
  exact ⟨h,by simp [Tr.run_ret]⟩
 | .ask c k,0,s,h=>by simp [Tr.Lv] at h
 | .ask c k,n + 1,s,h=>by
  unfold Tr.Lv at h
  have:=Tr.Lv.out ha (A s c).2 (h (A s c).1)
  have h2:=ha s c
  rw [Tr.run_ask]
  exact ⟨this.1,by omega⟩
def PP.cx (P : PP) (c : Int) : Int:=if P.rw = true then -1 else c
def G2e (v : Int) (c : Cell) : Cell:={ c with v:=v }
def pw (s : Nat) : Int:=((2 ^ s : Nat) : Int)
def Qcd (P : PP) (b : BS) (x y : Int) : Bool:=!P.rw && Gce (sgH b x y) (sgV b x y P.cz) == 1
def Gw2 (P : PP) (b : BS) (x y : Int) (bit : Bool) : Int:=if (bit != Qcd P b x y) = true then -pw P.s else pw P.s
def Qc1 (P : PP) (b : BS) (x y : Int) (bit : Bool) : BS:=(b.upd x y (G2e (Gw2 P b x y bit))).upd x y mark
def Gi0 (P : PP) (b : BS) (x y : Int) : Tr BS:=.ask (P.cx (Gct (sgH b x y) (sgV b x y P.cz))) fun bit=>.ret (Qc1 P b x y bit)
def Gig (P : PP) (b : BS) (x y : Int) : Tr BS:=.ask (P.cx (Gf1 P b x y)) fun bit=>if bit = true then Gi0 P b x y else .ret b
def Gh0 (P : PP) (b : BS) (x y : Int) : Tr BS :=
 if (b.get x y).s = false∧Gg8 b x y P.cz = true then (Gig P b x y).bind fun b=>.ret (b.upd x y (Gbz true)) else .ret b
def Glu (s : Nat) (v : Int) : Int:=v + if v < 0 then -pw s else pw s
def grow (s : Nat) (b : BS) (x y : Int) : BS :=
 if -1152921504606846976 < Glu s (b.get x y).v∧Glu s (b.get x y).v < 1152921504606846976 then b.upd x y (G2e (Glu s (b.get x y).v)) else b
def Gks (s : Nat) (b : BS) (x y : Int) (bit : Bool) : BS:=if bit = true then grow s b x y else b
def Gid (P : PP) (b : BS) (x y : Int) : Tr BS :=
 if (b.get x y).s = false∨(b.get x y).t = true then .ret b
 else .ask (P.cx (Gd7 (!(b.get x y).r) (Gg8 b x y P.cz))) fun bit=>.ret (((Gks P.s b x y bit).upd x y Gbv).upd x y (Gbz true))
def Gjd (P : PP) (b : BS) (x y : Int) : Tr BS:=if (b.get x y).s = false∧(b.get x y).t = false then Gig P b x y else .ret b
def Gja (P : PP) (b : BS) (x y : Int) : Nat→Tr BS
 | 0=>.ret b
 | n + 1=>(Gjd P b x y).bind fun b=>Gja P b x (y + 1) n
def Gsn (a b : Bool) : Nat:=2 * a.toNat + b.toNat
def Qb5 (P : PP) (b : BS) (x top : Int) : Tr (BS × Int) :=
 .ask (P.cx 17) fun r=>if r = true then .ask (P.cx 18) fun k1=>.ask (P.cx 18) fun k0=>(Gi0 P b x (top + Gsn k1 k0)).bind fun b=>.ret (b,top + Gsn k1 k0 + 1) else .ret (b,top + 4)
def Gy2 (P : PP) (b : BS) (x top : Int) : Tr BS :=
 if quiet b x top P.cz = true then (Qb5 P b x top).bind fun r=>Gja P r.1 x r.2 (min (top + 4) r.1.h - r.2).toNat
 else Gja P b x top (min (top + 4) b.h - top).toNat
def Gp9 (P : PP) (b : BS) (x top : Int) : Nat→Tr BS
 | 0=>.ret b
 | n + 1=>(Gy2 P b x top).bind fun b=>Gp9 P b (x + 1) top n
def Gb9 (P : PP) (b : BS) (top : Int) : Nat→Tr BS
 | 0=>.ret b
 | n + 1=>(Gp9 P b 0 top b.w).bind fun b=>Gb9 P b (top + 4) n
def Ggx (P : PP) (b : BS) : List (Int × Int)→Tr BS
 | []=>.ret b
 | p :: l=>(Gh0 P b p.1 p.2).bind fun b=>Ggx P b l
def Ggy (P : PP) (b : BS) : List (Int × Int)→Tr BS
 | []=>.ret b
 | p :: l=>(Gid P b p.1 p.2).bind fun b=>Ggy P b l
def BS.clr (b : BS) (l : List (Int × Int)) : BS:=l.foldl (fun b p=>b.upd p.1 p.2 (Gbz false)) b
def G7i (P : PP) (r : Bool) : List Bool→Tr Bool
 | []=>.ret r
 | x :: l=>.ask (P.cx 18) fun bit=>G7i P (r && bit == x) l
def Ghe (P : PP) (on : Bool) : Tr Bool:=if on = true then G7i P true [true,false,true,false] else .ret true
def Gds (P : PP) (b : BS) (on : Bool) : Tr (BS × Bool) :=
 (Gb9 P b 0 (Gai b.h)).bind fun b=>(Ghe P on).bind fun r=>.ret (b.clr (scan b.w b.h),r)
structure BS.Le (b b' : BS) : Prop where
 w : b'.w = b.w
 h : b'.h = b.h
 good : b'.Good
theorem BS.Le.refl {b : BS} (hg : b.Good) : b.Le b:=⟨rfl,rfl,hg⟩
theorem BS.Le.trans {a b c : BS} (h : a.Le b) (k : b.Le c) : a.Le c:=⟨k.w.trans h.w,k.h.trans h.h,k.good⟩
theorem BS.Le.inb {b b' : BS} (h : b.Le b') {x y : Int} (hi : b.inb x y) : b'.inb x y:=by
 obtain ⟨a,b,c,d⟩:=hi
 exact ⟨a,by rw [h.w]; exact b,c,by rw [h.h]; exact d⟩
theorem BS.Le.all {b b' : BS} {l : List (Int × Int)} (h : b.Le b') (k : Gca b l) : Gca b' l:=fun p hp=>h.inb (k p hp)
theorem Guu (s : Nat) : 0 < pw s:=by unfold pw; have:=Nat.two_pow_pos s; omega
theorem G6e {s : Nat} (h : s≤59) : pw s≤576460752303423488:=by
 unfold pw
 have:=Nat.pow_le_pow_right (n:=2) (by omega) h
 omega
theorem Ghn {b : BS} (hg : b.Good) {x y : Int} (hi : b.inb x y) {v : Int} (hv : -1152921504606846976 < v∧v < 1152921504606846976) : b.Le (b.upd x y (G2e v)):=by
 refine ⟨rfl,rfl,hg.ok.upd x y _,fun x' y'=>?_⟩
 rw [BS.get_upd hg.ok hi]
 split
 ·exact hv
 ·exact hg.rng x' y'
theorem Gdr {b : BS} (hg : b.Good) {x y : Int} (hi : b.inb x y) {f : Cell→Cell} (hf : Gkv f) : b.Le (b.upd x y f):=⟨rfl,rfl,hg.upd hi hf⟩
theorem Gwj {P : PP} (hp : P.Ok) (b : BS) (x y : Int) (bit : Bool) : -1152921504606846976 < Gw2 P b x y bit∧Gw2 P b x y bit < 1152921504606846976:=by
 have h1:=Guu P.s
 have h2:=G6e hp.s1
 unfold Gw2; split <;> omega
theorem G03 {P : PP} (hp : P.Ok) {b : BS} (hg : b.Good) {x y : Int} (hi : b.inb x y) (bit : Bool) : b.Le (Qc1 P b x y bit):=by
 have h1:=Ghn hg hi (Gwj hp b x y bit)
 exact h1.trans (Gdr h1.good (h1.inb hi) Gkh)
theorem Gjj {s : Nat} {b : BS} (hg : b.Good) {x y : Int} (hi : b.inb x y) (bit : Bool) : b.Le (Gks s b x y bit):=by
 unfold Gks grow
 split
 ·split
  ·rename_i h; exact Ghn hg hi h
  ·exact BS.Le.refl hg
 ·exact BS.Le.refl hg
section
variable {P : PP} (hp : P.Ok)
include hp
theorem Gw0 {b : BS} (hg : b.Good) {x y : Int} (hi : b.inb x y) : (Gi0 P b x y).Lv b.Le 1:=fun bit=>G03 hp hg hi bit
theorem Goa {b : BS} (hg : b.Good) {x y : Int} (hi : b.inb x y) : (Gig P b x y).Lv b.Le 2:=fun bit=>by
 show Tr.Lv b.Le (if bit = true then Gi0 P b x y else .ret b) 1
 split
 ·exact Gw0 hp hg hi
 ·exact BS.Le.refl hg
theorem Gwa {b : BS} (hg : b.Good) {x y : Int} (hi : b.inb x y) : (Gh0 P b x y).Lv b.Le 2:=by
 unfold Gh0
 split
 ·exact Tr.Lv.bind (m:=0) (fun a ha=>ha.trans (Gdr ha.good (ha.inb hi) (Gbh true))) (Goa hp hg hi)
 ·exact BS.Le.refl hg
omit hp in
theorem Gt9 {b : BS} (hg : b.Good) {x y : Int} (hi : b.inb x y) : (Gid P b x y).Lv b.Le 2:=by
 unfold Gid
 split
 ·exact BS.Le.refl hg
 ·intro bit
  have h1:=Gjj (s:=P.s) hg hi bit
  have h2:=h1.trans (Gdr h1.good (h1.inb hi) Gcr)
  exact h2.trans (Gdr h2.good (h2.inb hi) (Gbh true))
theorem Guk {b : BS} (hg : b.Good) {x y : Int} (hi : b.inb x y) : (Gjd P b x y).Lv b.Le 2:=by
 unfold Gjd
 split
 ·exact Goa hp hg hi
 ·exact BS.Le.refl hg
theorem Gob {x : Int} : ∀ {n : Nat} {b : BS} {y : Int},b.Good→0≤x→x < b.w→0≤y→y + n≤b.h→(Gja P b x y n).Lv b.Le (2 * n)
 | 0,b,y,hg,_,_,_,_=>BS.Le.refl hg
 | n + 1,b,y,hg,h1,h2,h3,h4=>by
  rw [Gja,show 2 * (n + 1) = 2 + 2 * n by omega]
  refine Tr.Lv.bind (fun a ha=>?_) (Guk hp hg (x:=x) (y:=y) ⟨h1,h2,h3,by omega⟩)
  exact (Gob (n:=n) (y:=y + 1) ha.good h1 (by rw [ha.w]; exact h2) (by omega) (by rw [ha.h]; omega)).mono (fun _ h=>ha.trans h) (by omega)
omit hp in
theorem G19 (a b : Bool) : Gsn a b≤3:=by cases a <;> cases b <;> decide
def G9f (b : BS) (top : Int) (r : BS × Int) : Prop:=b.Le r.1∧top < r.2∧r.2≤top + 4
theorem Gzv {b : BS} (hg : b.Good) {x top : Int} (hi : b.inb x top) (h4 : top + 4≤b.h) : (Qb5 P b x top).Lv (G9f b top) 4:=by
 obtain ⟨a1,a2,a3,a4⟩:=hi
 intro r
 show Tr.Lv _ (if r = true then _ else _) 3
 split
 ·intro k1 k0
  have:=G19 k1 k0
  have hi : b.inb x (top + Gsn k1 k0):=⟨a1,a2,by omega,by omega⟩
  refine Tr.Lv.bind (n:=1) (m:=0) (fun a ha=>?_) (Gw0 hp hg hi)
  exact (⟨ha,by simp only; omega,by simp only; omega⟩ : G9f b top (a,top + Gsn k1 k0 + 1))
 ·exact (⟨BS.Le.refl hg,by simp only; omega,by simp only; omega⟩ : G9f b top (b,top + 4))
theorem Gyn {b : BS} (hg : b.Good) {x top : Int} (hi : b.inb x top) : (Gy2 P b x top).Lv b.Le 12:=by
 have hi':=hi
 obtain ⟨h1,h2,h3,h4⟩:=hi
 unfold Gy2
 split
 ·rename_i hq
  simp only [quiet,Bool.and_eq_true,decide_eq_true_eq] at hq
  refine Tr.Lv.bind (n:=4) (m:=8) (fun r hr=>?_) (Gzv hp hg hi' hq.1)
  obtain ⟨r1,r2,r3⟩:=hr
  exact (Gob hp r1.good h1 (by rw [r1.w]; exact h2) (by omega) (by rw [r1.h]; omega)).mono (fun _ h=>r1.trans h) (by omega)
 ·exact (Gob hp hg h1 h2 h3 (by omega)).mono (fun _ h=>h) (by omega)
theorem Goq {top : Int} : ∀ {n : Nat} {b : BS} {x : Int},b.Good→0≤x→x + n≤b.w→0≤top→top < b.h→(Gp9 P b x top n).Lv b.Le (12 * n)
 | 0,b,x,hg,_,_,_,_=>BS.Le.refl hg
 | n + 1,b,x,hg,h1,h2,h3,h4=>by
  rw [Gp9,show 12 * (n + 1) = 12 + 12 * n by omega]
  refine Tr.Lv.bind (fun a ha=>?_) (Gyn hp hg (x:=x) (top:=top) ⟨h1,by omega,h3,h4⟩)
  exact (Goq (n:=n) (x:=x + 1) ha.good (by omega) (by rw [ha.w]; omega) h3 (by rw [ha.h]; exact h4)).mono (fun _ h=>ha.trans h) (by omega)
theorem Gg0 : ∀ {n : Nat} {b : BS} {top : Int},b.Good→0≤top→top + 4 * n≤b.h + 3→(Gb9 P b top n).Lv b.Le (12 * b.w * n)
 | 0,b,top,hg,_,_=>BS.Le.refl hg
 | n + 1,b,top,hg,h1,h2=>by
  rw [Gb9,show 12 * b.w * (n + 1) = 12 * b.w + 12 * b.w * n by rw [Nat.mul_add]; omega]
  refine Tr.Lv.bind (fun a ha=>?_) (Goq hp (n:=b.w) hg (x:=0) (top:=top) (by omega) (by omega) h1 (by omega))
  have:=Gg0 (n:=n) (top:=top + 4) ha.good (by omega) (by rw [ha.h]; omega)
  rw [ha.w] at this
  exact this.mono (fun _ h=>ha.trans h) (by omega)
theorem Gud : ∀ {l : List (Int × Int)} {b : BS},b.Good→Gca b l→(Ggx P b l).Lv b.Le (2 * l.length)
 | [],b,hg,_=>BS.Le.refl hg
 | p :: l,b,hg,ha=>by
  rw [Ggx,List.length_cons,show 2 * (l.length + 1) = 2 + 2 * l.length by omega]
  refine Tr.Lv.bind (fun a hl=>?_) (Gwa hp hg (ha p (by simp)))
  exact (Gud hl.good (hl.all fun q hq=>ha q (by simp [hq]))).mono (fun _ h=>hl.trans h) (by omega)
omit hp in
theorem Gvo : ∀ {l : List (Int × Int)} {b : BS},b.Good→Gca b l→(Ggy P b l).Lv b.Le (2 * l.length)
 | [],b,hg,_=>BS.Le.refl hg
 | p :: l,b,hg,ha=>by
  rw [Ggy,List.length_cons,show 2 * (l.length + 1) = 2 + 2 * l.length by omega]
  refine Tr.Lv.bind (fun a hl=>?_) (Gt9 hg (ha p (by simp)))
  exact (Gvo hl.good (hl.all fun q hq=>ha q (by simp [hq]))).mono (fun _ h=>hl.trans h) (by omega)
omit hp in
theorem Gyg : ∀ {l : List Bool} {r : Bool},(G7i P r l).Lv (fun _=>True) l.length
 | [],r=>trivial
 | x :: l,r=>fun bit=>Gyg
omit hp in
theorem G01 (on : Bool) : (Ghe P on).Lv (fun _=>True) 4:=by
 unfold Ghe
 split
 ·exact Gyg
 ·exact trivial
end
theorem Gvp : ∀ {l : List (Int × Int)} {b : BS},b.Good→Gca b l→b.Le (b.clr l)
 | [],b,hg,_=>BS.Le.refl hg
 | p :: l,b,hg,ha=>by
  have h1:=Gdr hg (ha p (by simp)) (Gbh false)
  exact h1.trans (Gvp (l:=l) h1.good (h1.all fun q hq=>ha q (by simp [hq])))
theorem Gyh {P : PP} (hp : P.Ok) {b : BS} (hg : b.Good) (on : Bool) : (Gds P b on).Lv (fun r=>b.Le r.1) 20000:=by
 unfold Gds
 have hw2:=hg.ok.w2
 have hh2:=hg.ok.h2
 have hm : 12 * b.w * Gai b.h≤12 * 64 * 16:=Nat.mul_le_mul (by omega) (by unfold Gai; omega)
 refine (Tr.Lv.bind (m:=4) (fun a ha=>?_) (Gg0 hp hg (top:=0) (by omega) (by unfold Gai; omega))).mono (fun _ h=>h) (by omega)
 refine Tr.Lv.bind (m:=0) (fun r _=>?_) (G01 on)
 exact ha.trans (Gvp ha.good (Gc3 a))
def Tr.play {α : Type} : Tr α→List (Int × Int)→Option (α × List (Int × Int))
 | .ret a,l=>some (a,l)
 | .ask _ _,[]=>none
 | .ask c k,p :: l=>if p.1 = c∧(p.2 = 0∨p.2 = 1) then (k (p.2 == 1)).play l else none
theorem Tr.play_bind {α β : Type} (f : α→Tr β) : ∀ (t : Tr α) (l : List (Int × Int)),(t.bind f).play l = match t.play l with | some (a,l')=>(f a).play l' | none=>none
 | .ret a,l=>rfl
 | .ask c k,[]=>rfl
 | .ask c k,p :: l=>by
  rw [Tr.bind,Tr.play,Tr.play]
  split
  ·exact Tr.play_bind f (k (p.2 == 1)) l
  ·rfl
structure Stq (h h' : Gag) (c : Nat) (O O' : Nat→Prop) : Prop where
 len : h.length≤h'.length
 same : ∀ id,id < h.length→id ≠ c→¬ O id→blk? h' id = blk? h id
 fresh : ∀ id,O' id→O id∨h.length≤id
theorem Stq.refl (h : Gag) (c : Nat) (O : Nat→Prop) : Stq h h c O O:=⟨Nat.le_refl _,fun _ _ _ _=>rfl,fun _ h=>.inl h⟩
theorem Stq.trans {h h1 h2 : Gag} {c : Nat} {O O1 O2 : Nat→Prop} (a : Stq h h1 c O O1) (b : Stq h1 h2 c O1 O2) : Stq h h2 c O O2:=by
 refine ⟨Nat.le_trans a.len b.len,fun id h1 h2 h3=>?_,fun id hid=>?_⟩
 ·rw [b.same id (Nat.lt_of_lt_of_le h1 a.len) h2 (fun e=>?_),a.same id h1 h2 h3]
  rcases a.fresh id e with h | h
  ·exact h3 h
  ·omega
 ·rcases b.fresh id hid with h | h
  ·exact a.fresh id h
  ·exact .inr (Nat.le_trans a.len h)
theorem Stq.push (h : Gag) (x : Option Blk) (c : Nat) (O : Nat→Prop) : Stq h (h++[x]) c O O:=⟨by simp,fun id h1 _ _=>blk?_push_lt h1,fun _ h=>.inl h⟩
theorem Stq.low {h h' : Gag} (hk : ∀ id,id < h.length→blk? h' id = blk? h id) (hl : h.length≤h'.length) (c : Nat) (O : Nat→Prop) : Stq h h' c O O:=⟨hl,fun id h1 _ _=>hk id h1,fun _ h=>.inl h⟩
theorem Stq.setc (h : Gag) (c : Nat) (O : Nat→Prop) (x : Option Blk) : Stq h (h.set c x) c O O:=⟨by simp,fun id _ hc _=>blk?_set_ne (Ne.symm hc),fun _ h=>.inl h⟩
structure Stu (h h' : Gag) (O O' : Nat→Prop) : Prop where
 len : h.length≤h'.length
 same : ∀ id,id < h.length→¬ O id→blk? h' id = blk? h id
 fresh : ∀ id,O' id→O id∨h.length≤id
theorem Stu.q {h h' : Gag} {O O' : Nat→Prop} (s : Stu h h' O O') (c : Nat) : Stq h h' c O O':=⟨s.len,fun id h1 _ h3=>s.same id h1 h3,s.fresh⟩
structure Src (c : Nat) (call : Gag→Int→(RP)→Prop) where
 S : Type
 T : Type
 ask : S→Int→Bool × S
 rel : Gag→T→S→Prop
 own : T→Nat→Prop
 size : S→Nat
 lt : ∀ {h t s},rel h t s→∀ id,own t id→id < h.length
 stable : ∀ {h h' t s},rel h t s→h.length≤h'.length→(∀ id,id < h.length→id ≠ c→blk? h' id = blk? h id)→rel h' t s
 size_ask : ∀ s x,size (ask s x).2≤size s + 1
 step : ∀ {h t s},rel h t s→size s < 1000000→∀ x,∃ t' h' v,(∀ R,call h x R = R (.int .i64 v) h')∧(v != 0) = (ask s x).1∧rel h' t' (ask s x).2∧Stu h h' (own t) (own t')
 c_own : ∀ {h t s},rel h t s→¬ own t c
def Glx (fv : Value) : Gag→Int→(RP)→Prop:=fun h x R=>Gh8 fv [.int .i64 x] tab h R
structure DR (h : Gag) (f : Bool) (q p c : Nat) (P : PP) (fv : Value) (b : BS) : Prop where
 blk : blk? h q = some ⟨f,[ptr p,.int .i64 b.w,.int .i64 b.h,.int .i64 P.s,.int .i64 P.o,.bool P.cz,.bool P.rw,fv]⟩
 cb : CB h f p c b
 fv : below h.length fv = true
 pok : P.Ok
 rng : b.Rng
theorem DR.frz {h : Gag} {f : Bool} {q p c : Nat} {P : PP} {fv : Value} {b : BS} (hr : DR h f q p c P fv b) : DR (frz h) true q p c P fv b :=
 ⟨Glf hr.blk (by simp [hr.fv,blk?_lt hr.cb.blkp]),hr.cb.frz,by rw [Ghx]; exact hr.fv,hr.pok,hr.rng⟩
theorem DR.keep {h h' : Gag} {q p c : Nat} {P : PP} {fv : Value} {b : BS} (hr : DR h false q p c P fv b) (hk : ∀ id,id = q∨id = p∨id = c→blk? h' id = blk? h id) (hf : below h'.length fv = true) : DR h' false q p c P fv b :=
 ⟨by rw [hk q (.inl rfl)]; exact hr.blk,⟨by rw [hk p (.inr (.inl rfl))]; exact hr.cb.blkp,by rw [hk c (.inr (.inr rfl))]; exact hr.cb.blkc,hr.cb.ok⟩,hf,hr.pok,hr.rng⟩
end Go.Proofs.YtjpjohchdfoeaaaGreat
