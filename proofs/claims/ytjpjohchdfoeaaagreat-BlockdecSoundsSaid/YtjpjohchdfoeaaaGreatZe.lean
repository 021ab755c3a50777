/-
  The examples of the block decoder, plain.
  Whether two lists are the same (law 18's own).
  The examples of the chapter.
  Law 18's examples, followed.
  Law 18's examples, followed.
  Law 18's few.
  How much Decode answers.
  The reference's arithmetic encoder, followed: a bit is encoded.
  What the block encoder answers, plain: the ends of the passes ascend, the bytes are bytes.
  The reference's arithmetic encoder, followed: the end of a codeword.
  The reference's arithmetic encoder, followed: the next multiple.
  The reference's arithmetic encoder, followed: a new one, its size, a reset, the end.
  The reference's arithmetic encoder, followed: begin, initial, a new one, reset, size, terminate.
  The reference's arithmetic decoder follows the plain one.
  The reference's reader of raw bits, followed.
  What a pass of the decoder asks for: the contexts. Plain.
  The cleanup pass of the decoder's reference, plain: the same as the program's.
  The decoder's reference: what its passes read, questions, signs.
  The decoder's reference: significance, refinement.
  The decoder's reference: the cleanup pass.
  The decoder's reference: Run.
  The reference's source: some bits, and 0 beyond them; what was asked for is noted.
  The reference's source of bits, followed: a decoder and a reader.
  The reference's arithmetic encoder, followed: the end of a codeword.
  The reference's writer of raw bits, followed.
  The reference's writer of raw bits, followed: the end of a segment.
  The reference's division into segments, followed.
  The reference's segment, followed: the symbols of a pass.
  The reference's segment, followed: its passes.
  The reference's segment, followed.
  The reference's decoding, followed: the passes of a segment.
-/
import Derived.Test.YtjpjohchdfoeaaaGreatTc
import Derived.Test.YtjpjohchdfoeaaaGreatRs
namespace Go.Proofs.YtjpjohchdfoeaaaGreat
open Go Go.Sim
theorem dx1 : decP ⟨false,false,false,false,false⟩ 1 [1] [192] 1 1 1 0 = (0,[-1],[0]) := by decide +kernel
theorem dx2 : decP ⟨false,false,false,false,false⟩ 1 [1] [192] 0 1 1 0 = (0,[0],[1]) := by decide +kernel
theorem dx3 : sndP ⟨false,false,false,false,true⟩ 1 [0] [] 1 1 1 0 = (0,0) := by decide +kernel
set_option linter.unusedSimpArgs false
set_option linter.unusedVariables false
set_option maxRecDepth 10000
theorem sl_int {h : Heap} {s : Value} {xs : List Int} (hs : Sl h 1 s xs.length (i64s xs)) {i : Nat} (hi : i < xs.length) : ∃ id off b,s = .slice (some ⟨id,off,none⟩) xs.length 1 ∧ blk? h id = some b ∧ b.cells[off + i]? = some (.int .i64 xs[i]) := by
 obtain ⟨id,off,b,e,hb,hc⟩ := hs.get hi
 have := hc 0 (by omega)
 refine ⟨id,off,b,e,hb,?_⟩
 rw [Nat.mul_one,Nat.add_zero,Nat.add_zero] at this
 rw [this]; simp [i64s,hi]
section
variable {h : Heap} {R : Value → Heap → Prop} {s t : Value} {xs ys : List Int}
theorem same_loop_18 {k : List RItem} (hs : Sl h 1 s xs.length (i64s xs)) (ht : Sl h 1 t ys.length (i64s ys)) (he : xs.length = ys.length) (hl : xs.length < 1000000)
  (hk : ∀ (K0 K1 K2 K3 K5 K6 K7 K8 K9 Ka Kb Kc Kd Ke Kf Kg Kh Ki Kj Kk Kl Km Kn Ko Kp : Value),xs = ys → Ok tab R13 k #[K0,K1,K2,K3,.bool false,K5,K6,K7,K8,K9,Ka,Kb,Kc,Kd,Ke,Kf,Kg,Kh,Ki,Kj,Kk,Kl,Km,Kn,Ko,Kp] h R) (hb : xs ≠ ys → R (.bool false) h) :
  ∀ (d i : Nat) (K2 K3 K5 K6 K7 K8 K9 Ka Kb Ke Kf Kg Kh Ki Kj Kk Kl Km Kn Ko Kp : Value),i + d = xs.length → xs.take i = ys.take i → Ok tab R13 (.inLoop L13_0 :: .inBlock 0 :: k) #[s,t,K2,K3,.bool false,K5,K6,K7,K8,K9,Ka,Kb,.int .i64 (xs.length : Nat),.int .i64 (i : Nat),Ke,Kf,Kg,Kh,Ki,Kj,Kk,Kl,Km,Kn,Ko,Kp] h R := by
 intro d
 induction d with
 | zero =>
  intro i;intros;rename_i hd hv
  obtain rfl : i = xs.length := by omega
  rw [List.take_of_length_le (Nat.le_refl _),he,List.take_of_length_le (Nat.le_refl _)] at hv
  rw [ok_round,l13_0,L13_0a,L13_0b]
  simp
  exact hk _ _ _ _ _ _ _ _ _ _ _ _ _ _ _ _ _ _ _ _ _ _ _ _ _ hv
 | succ d ih =>
  intro i;intros;rename_i hd hv
  have hi : i < xs.length := by omega
  have hi' : i < ys.length := by omega
  have hlt : (i : Int) < (xs.length : Int) := by omega
  have hlt' : (i : Int) < (ys.length : Int) := by omega
  obtain ⟨id,off,b,e,hbk,hc⟩ := sl_int hs hi
  obtain ⟨id',off',b',e',hbk',hc'⟩ := sl_int ht hi'
  have hw : IntKind.i64.wrap ((i : Int) + 1) = ((i + 1 : Nat) : Int) := wrapN (n := i + 1) (by omega)
  have ih' := fun K2 K3 K5 K6 K7 K8 K9 Ka Kb Ke Kf Kg Kh Ki Kj Kk Kl Km Kn Ko Kp => ih (i + 1) K2 K3 K5 K6 K7 K8 K9 Ka Kb Ke Kf Kg Kh Ki Kj Kk Kl Km Kn Ko Kp (by omega)
  generalize hi1 : ((i + 1 : Nat) : Int) = i1 at *
  rw [e,e'] at ih' ⊢
  rw [ok_round,l13_0,L13_0a,L13_0b]
  by_cases hx : xs[i] = ys[i]
  ·have hx' : (xs[i] != ys[i]) = false := by simp [hx]
   have ee : xs.take (i + 1) = ys.take (i + 1) := by
    rw [List.take_succ_eq_append_getElem hi,List.take_succ_eq_append_getElem hi',hv,hx]
   simp [hlt,hlt',hbk,hbk',hc,hc',hx',hw]
   exact ih' _ _ _ _ _ _ _ _ _ _ _ _ _ _ _ _ _ _ _ _ _ ee
  ·have hx' : (xs[i] != ys[i]) = true := by simpa using hx
   simp [hlt,hlt',hbk,hbk',hc,hc',hx',fin13]
   exact hb fun e => hx (by simp [e])
theorem same_18 (hs : Sl h 1 s xs.length (i64s xs)) (ht : Sl h 1 t ys.length (i64s ys)) (hl : xs.length < 1000000) : Ret tab 13 [s,t] h R = R (.bool (decide (xs = ys))) h := by
 have key : Ret tab 13 [s,t] h fun v h' => v = .bool (decide (xs = ys)) ∧ h' = h := by
  obtain ⟨sa,sc,hss⟩ := hs.shape
  obtain ⟨ta,tc,hts⟩ := ht.shape
  rw [enter13,B13]
  by_cases he : xs.length = ys.length
  ·have he' : ((xs.length : Int) != (ys.length : Int)) = false := by simp [he]
   have hL := fun K2 K3 K5 K6 K7 K8 K9 Ka Kb Ke Kf Kg Kh Ki Kj Kk Kl Km Kn Ko Kp => same_loop_18 (R := fun v h' => v = .bool (decide (xs = ys)) ∧ h' = h) (k := [.code (tlC 3 B13)]) hs ht he hl
    (fun K0 K1 K2 K3 K5 K6 K7 K8 K9 Ka Kb Kc Kd Ke Kf Kg Kh Ki Kj Kk Kl Km Kn Ko Kp hxy => by
     simp only [nthC,tlC,fstC,B13]
     simp [hxy,fin13]) (fun hxy => by simp [hxy]) xs.length 0 K2 K3 K5 K6 K7 K8 K9 Ka Kb Ke Kf Kg Kh Ki Kj Kk Kl Km Kn Ko Kp (by omega) rfl
   simp only [tlC,B13] at hL
   rw [hss,hts] at hL ⊢
   simp [he']
   exact hL ..
  ·have he' : ((xs.length : Int) != (ys.length : Int)) = true := by simp only [bne_iff_ne,ne_eq]; omega
   have hne : ¬ xs = ys := fun x => he (by rw [x])
   rw [hss,hts]
   simp [he',hne,fin13]
 obtain ⟨v,h',e,rfl,rfl⟩ := ret_ex key
 exact e R
end
set_option maxRecDepth 10000
deriving instance DecidableEq for Cd
theorem Sl.lit1 {h : Heap} {id : Nat} {v : Value} (hb : blk? h id = some ⟨false,[v]⟩) : Sl h 1 (.slice (some ⟨id,0,none⟩) 1 1) 1 [v] := ⟨rfl,.inr ⟨id,0,rfl,.inr ⟨_,hb,by simp,by simp⟩⟩⟩
theorem Ints.lit1 {h : Heap} {id : Nat} {v : Int} (hb : blk? h id = some ⟨false,[.int .i64 v]⟩) (hv : -9223372036854775808 ≤ v ∧ v < 9223372036854775808) : Ints h (.slice (some ⟨id,0,none⟩) 1 1) [v] := by
 refine ⟨Sl.lit1 hb,by simp; exact blk?_lt hb,fun j b hj hb' n => ?_,fun w hw => by simp at hw; subst hw; exact hv⟩
 simp [sid] at hj; subst hj
 rw [hb] at hb'; injection hb' with hb'; subst hb'
 simp [belowL]
theorem Rk.ofI {h : Heap} {s : Value} {xs : List Nat} (ho : OwnS h 1 s xs.length (nI xs)) (hx : ∀ v ∈ xs,v < 9223372036854775808) : Rk .i64 h s (xs.map Int.ofNat) := by
 refine Rk.own (by rw [List.length_map]; simpa [kis,nI,Function.comp_def] using ho) ?_ (fun v hv => ?_)
 ·obtain ⟨a,c,rfl⟩ := ho.sl.shape
  cases a with
  | none => simp
  | some a => have := ho.lt (id := a.block) (by simp [sid]); simp; omega
 ·obtain ⟨w,hw,rfl⟩ := List.mem_map.1 hv
  have := hx w hw
  simp [Lit.wf,IntKind.min,IntKind.max,IntKind.signed,IntKind.bits]; omega
theorem Rk.ofU {h : Heap} {s : Value} {xs : List Nat} (ho : OwnS h 1 s xs.length (nU xs)) (hx : ∀ v ∈ xs,v < 256) : Rk .u8 h s (xs.map Int.ofNat) := by
 refine Rk.own (by rw [List.length_map]; simpa [kis,nU,Function.comp_def] using ho) ?_ (fun v hv => ?_)
 ·obtain ⟨a,c,rfl⟩ := ho.sl.shape
  cases a with
  | none => simp
  | some a => have := ho.lt (id := a.block) (by simp [sid]); simp; omega
 ·obtain ⟨w,hw,rfl⟩ := List.mem_map.1 hv
  have := hx w hw
  simp [Lit.wf,IntKind.min,IntKind.max,IntKind.signed,IntKind.bits]; omega
theorem CdV.ci {B : Nat} {h : Heap} {v : Value} {r : Cd} (c : CdV B h v r) (h1 : ∀ v ∈ r.ps,v < 9223372036854775808) (h2 : ∀ v ∈ r.ds,v < 256) : CI B h v r.pl (r.ps.map Int.ofNat) (r.ds.map Int.ofNat) := by
 obtain ⟨pv,dv,e,a,b,p,q⟩ := c.ex
 exact ⟨⟨pv,dv,e,Rk.ofI a h1,Rk.ofU b h2,fun id hid => (p id hid).1,q⟩⟩
section
variable {h : Heap} {R : Value → Heap → Prop} {k : List RItem}
end
set_option maxRecDepth 10000
theorem rk_lit {k : IntKind} {h : Heap} {id : Nat} {v : Int} (hb : blk? h id = some ⟨false,[.int k v]⟩) (hv : (Lit.int k v).wf = true) : Rk k h (.slice (some ⟨id,0,none⟩) 1 1) [v] :=
 Rk.own ⟨rfl,.inr ⟨id,rfl,hb⟩⟩ (by simp; exact blk?_lt hb) (fun w hw => by simp at hw; subst hw; exact hv)
theorem lit_sl {h : Heap} {id : Nat} {v : Int} (hb : blk? h id = some ⟨false,[.int .i64 v]⟩) : Sl h 1 (.slice (some ⟨id,0,none⟩) 1 1) [v].length (i64s [v]) := Sl.lit1 hb
set_option maxRecDepth 10000
set_option maxHeartbeats 4000000 in
theorem awake18_c {h : Heap} : Gives 10 [] h (.bool true) := by
 refine Gives.mk fun R0 hR => ?_
 have bZ : blk? (h ++ [some (⟨false,[.int .i64 1]⟩ : Blk),some ⟨false,[.int .u8 192]⟩,some ⟨false,[.int .i64 0,.slice none 0 0,.slice none 0 0]⟩]) (h.length + 2) = some ⟨false,[.int .i64 0,.slice none 0 0,.slice none 0 0]⟩ := by rw [app_add]; rfl
 generalize hG : h ++ [some (⟨false,[.int .i64 1]⟩ : Blk),some ⟨false,[.int .u8 192]⟩,some ⟨false,[.int .i64 1,.slice (some ⟨h.length,0,none⟩) 1 1,.slice (some ⟨h.length + 1,0,none⟩) 1 1]⟩] = G
 have lG : G.length = h.length + 3 := by rw [← hG]; simp
 have kG : ∀ id,id < h.length → blk? G id = blk? h id := fun id hid => by rw [← hG]; exact app_lt hid
 have g0 : blk? G h.length = some ⟨false,[.int .i64 1]⟩ := by rw [← hG,app_len]; rfl
 have g1 : blk? G (h.length + 1) = some ⟨false,[.int .u8 192]⟩ := by rw [← hG,app_add]; rfl
 have g2 : blk? G (h.length + 2) = some ⟨false,[.int .i64 1,.slice (some ⟨h.length,0,none⟩) 1 1,.slice (some ⟨h.length + 1,0,none⟩) 1 1]⟩ := by rw [← hG,app_add]; rfl
 have P1 : Rk .i64 G (.slice (some ⟨h.length,0,none⟩) 1 1) [1] := rk_lit g0 (by decide)
 have D1 : Rk .u8 G (.slice (some ⟨h.length + 1,0,none⟩) 1 1) ([192].map Int.ofNat) := rk_lit g1 (by decide)
 obtain ⟨v1,y1,H1,e1,V1⟩ := decode_c (m := ⟨false,false,false,false,false⟩) (pl := 1) (n := 1) (w := 1) (hh := 1) (o := 0) P1 D1 (by simp) (by simp) (by simp)
 rw [dx1] at e1 V1
 have k1 := V1.low
 have l1 := V1.len
 have P2 : Rk .i64 H1 (.slice (some ⟨h.length,0,none⟩) 1 1) [1] := P1.keep l1 fun id hid _ => k1 id hid
 have D2 : Rk .u8 H1 (.slice (some ⟨h.length + 1,0,none⟩) 1 1) ([192].map Int.ofNat) := D1.keep l1 fun id hid _ => k1 id hid
 have g21 : blk? H1 (h.length + 2) = some ⟨false,[.int .i64 1,.slice (some ⟨h.length,0,none⟩) 1 1,.slice (some ⟨h.length + 1,0,none⟩) 1 1]⟩ := by rw [k1 _ (by omega)]; exact g2
 obtain ⟨v2,y2,H2,e2,V2⟩ := decode_c (m := ⟨false,false,false,false,false⟩) (pl := 1) (n := 0) (w := 1) (hh := 1) (o := 0) P2 D2 (by simp) (by simp) (by simp)
 rw [dx2] at e2 V2
 have k2 := V2.low
 have l2 := V2.len
 generalize hA : H2 ++ [some (⟨false,[.int .i64 0]⟩ : Blk)] = A
 have lA : A.length = H2.length + 1 := by rw [← hA]; simp
 have kA : ∀ id,id < H2.length → blk? A id = blk? H2 id := fun id hid => by rw [← hA]; exact blk?_push_lt hid
 have bA : blk? A H2.length = some ⟨false,[.int .i64 0]⟩ := by rw [← hA]; exact blk?_push_eq
 have PA : Rk .i64 A (.slice (some ⟨H2.length,0,none⟩) 1 1) [0] := rk_lit bA (by decide)
 obtain ⟨H3,e3,k3,l3⟩ := sound_c (m := ⟨false,false,false,false,true⟩) (pl := 1) (n := 1) (w := 1) (hh := 1) (o := 0) (ds := []) PA (Rk.none .u8 A) (by simp) (by simp) (by simp)
 rw [dx3] at e3
 have o1 : OwnS H3 1 v1 [(-1 : Int)].length (i64s [-1]) := V1.o1.of_blk fun id hid hb => by have := V1.o1.lt hid; rw [k3 id (by omega),kA id (by omega),k2 id (by omega)]; exact hb
 have q1 : OwnS H3 1 y1 [(0 : Int)].length (i64s [0]) := V1.o2.of_blk fun id hid hb => by have := V1.o2.lt hid; rw [k3 id (by omega),kA id (by omega),k2 id (by omega)]; exact hb
 have o2 : OwnS H3 1 v2 [(0 : Int)].length (i64s [0]) := V2.o1.of_blk fun id hid hb => by have := V2.o1.lt hid; rw [k3 id (by omega),kA id (by omega)]; exact hb
 have q2 : OwnS H3 1 y2 [(1 : Int)].length (i64s [1]) := V2.o2.of_blk fun id hid hb => by have := V2.o2.lt hid; rw [k3 id (by omega),kA id (by omega)]; exact hb
 have cmp : ∀ (F : Heap) (v : Value) (x : Int),OwnS F 1 v [x].length (i64s [x]) → ∀ R,Ret tab 13 [v,.slice (some ⟨F.length,0,none⟩) 1 1] (F ++ [some ⟨false,[.int .i64 x]⟩]) R = R (.bool true) (F ++ [some ⟨false,[.int .i64 x]⟩]) := by
  intro F v x hv R
  have hv' : OwnS (F ++ [some ⟨false,[.int .i64 x]⟩]) 1 v [x].length (i64s [x]) := hv.of_blk fun id hid hb => by rw [blk?_push_lt (hv.lt hid)]; exact hb
  have := same_18 (R := R) hv'.sl (lit_sl (h := F ++ [some ⟨false,[.int .i64 x]⟩]) (id := F.length) (v := x) blk?_push_eq) (by simp)
  simpa using this
 have push : ∀ (F : Heap) (v : Value) (x y : Int),OwnS F 1 v [x].length (i64s [x]) → OwnS (F ++ [some ⟨false,[.int .i64 y]⟩]) 1 v [x].length (i64s [x]) := fun F v x y hv => hv.of_blk fun id hid hb => by rw [blk?_push_lt (hv.lt hid)]; exact hb
 generalize hF1 : H3 ++ [some (⟨false,[.int .i64 (-1)]⟩ : Blk)] = F1
 have s1 := cmp H3 v1 (-1) o1
 rw [hF1] at s1
 have q1' : OwnS F1 1 y1 [(0 : Int)].length (i64s [0]) := by rw [← hF1]; exact push _ _ _ _ q1
 have o2' : OwnS F1 1 v2 [(0 : Int)].length (i64s [0]) := by rw [← hF1]; exact push _ _ _ _ o2
 have q2' : OwnS F1 1 y2 [(1 : Int)].length (i64s [1]) := by rw [← hF1]; exact push _ _ _ _ q2
 generalize hF2 : F1 ++ [some (⟨false,[.int .i64 0]⟩ : Blk)] = F2
 have s2 := cmp F1 y1 0 q1'
 rw [hF2] at s2
 have o2'' : OwnS F2 1 v2 [(0 : Int)].length (i64s [0]) := by rw [← hF2]; exact push _ _ _ _ o2'
 have q2'' : OwnS F2 1 y2 [(1 : Int)].length (i64s [1]) := by rw [← hF2]; exact push _ _ _ _ q2'
 generalize hF3 : F2 ++ [some (⟨false,[.int .i64 0]⟩ : Blk)] = F3
 have s3 := cmp F2 v2 0 o2''
 rw [hF3] at s3
 have q3 : OwnS F3 1 y2 [(1 : Int)].length (i64s [1]) := by rw [← hF3]; exact push _ _ _ _ q2''
 generalize hF4 : F3 ++ [some (⟨false,[.int .i64 1]⟩ : Blk)] = F4
 have s4 := cmp F3 y2 1 q3
 rw [hF4] at s4
 have lF1 : F1.length = H3.length + 1 := by rw [← hF1]; simp
 have lF2 : F2.length = F1.length + 1 := by rw [← hF2]; simp
 have lF3 : F3.length = F2.length + 1 := by rw [← hF3]; simp
 have lF4 : F4.length = F3.length + 1 := by rw [← hF4]; simp
 have hR' := hR F4 (fun id hid => by rw [← hF4,blk?_push_lt (by omega),← hF3,blk?_push_lt (by omega),← hF2,blk?_push_lt (by omega),← hF1,blk?_push_lt (by omega),k3 id (by omega),kA id (by omega),k2 id (by omega),k1 id (by omega),kG id hid]) (by omega)
 clear hR
 obtain ⟨va1,vc1,hv1⟩ := o1.sl.shape
 obtain ⟨ya1,yc1,hy1⟩ := q1.sl.shape
 obtain ⟨va2,vc2,hv2⟩ := o2.sl.shape
 obtain ⟨ya2,yc2,hy2⟩ := q2.sl.shape
 simp only [MD.val] at e1 e2 e3
 rw [hv1,hy1] at e1
 rw [hv2,hy2] at e2
 rw [hv1] at s1
 rw [hy1] at s2
 rw [hv2] at s3
 rw [hy2] at s4
 simp only [List.length_cons,List.length_nil,Nat.zero_add] at e1 e2 s1 s2 s3 s4
 rw [enter10,show B10 = .seq (nthC 0 B10) (.seq (nthC 1 B10) (.seq (nthC 2 B10) (.seq (nthC 3 B10) (.seq (nthC 4 B10) (tlC 5 B10))))) from rfl]
 generalize hT : tlC 5 B10 = tl
 simp only [nthC,tlC,fstC,B10]
 simp [repL,blk?_push_eq,bZ,hG,g2,e1,g21,e2,hA,e3]
 rw [← hT]
 simp only [nthC,tlC,fstC,B10]
 simp [repL,k_guard,k_guardU,blk?_push_eq,hF1,s1,hF2,s2,hF3,s3,hF4,s4,fin10]
 exact hR'
set_option maxRecDepth 10000
def few18P (np nd : Nat) (w hh : Int) : Bool := decide (np ≤ 300 ∧ nd ≤ 20000 ∧ (w < 1 ∨ 64 < w ∨ hh < 1 ∨ 64 < hh ∨ w * hh ≤ 144))
section
variable {h : Heap} {pv dv : Value} {pl w hh o : Int} {ps ds : List Int} {x1 x2 x3 x4 x5 : Bool}
set_option maxHeartbeats 1000000 in
theorem few18_c (hp : Rk .i64 h pv ps) (hd : Rk .u8 h dv ds) : Gives 9 [.agg #[.int .i64 pl,pv,dv],.agg #[.int .i64 w,.int .i64 hh,.int .i64 o,.bool x1,.bool x2,.bool x3,.bool x4,.bool x5]] h (.bool (few18P ps.length ds.length w hh)) := by
 refine Gives.mk fun R0 hR => ?_
 obtain ⟨pa,pc,hpv⟩ := hp.sl.shape
 obtain ⟨da,dc,hdv⟩ := hd.sl.shape
 generalize hH : h ++ [some (⟨false,[.int .i64 pl,pv,dv]⟩ : Blk),some ⟨false,[.int .i64 w,.int .i64 hh,.int .i64 o,.bool x1,.bool x2,.bool x3,.bool x4,.bool x5]⟩] = H
 have b0 : blk? H h.length = some ⟨false,[.int .i64 pl,pv,dv]⟩ := by rw [← hH,app_len]; rfl
 have b1 : blk? H (h.length + 1) = some ⟨false,[.int .i64 w,.int .i64 hh,.int .i64 o,.bool x1,.bool x2,.bool x3,.bool x4,.bool x5]⟩ := by rw [← hH,app_add]; rfl
 have hR' := hR H (fun id hid => by rw [← hH]; exact app_lt hid) (by rw [← hH]; simp)
 clear hR
 rw [hpv,hdv] at hH b0
 rw [hpv,hdv,enter9,B9]
 unfold few18P at hR'
 by_cases c1 : ps.length ≤ 300
 case neg =>
  have c1' : ¬ (ps.length : Int) ≤ 300 := by omega
  simp [c1] at hR'
  simp [k_guard,k_guardU,hH,b0,b1,c1',fin9]
  exact hR'
 have c1' : (ps.length : Int) ≤ 300 := by omega
 by_cases c2 : ds.length ≤ 20000
 case neg =>
  have c2' : ¬ (ds.length : Int) ≤ 20000 := by omega
  simp [c2] at hR'
  simp [k_guard,k_guardU,hH,b0,b1,c1',c2',fin9]
  exact hR'
 have c2' : (ds.length : Int) ≤ 20000 := by omega
 by_cases c3 : w < 1
 ·simp [c1,c2,c3] at hR'
  simp [k_guard,k_guardU,hH,b0,b1,c1',c2',c3,fin9]
  exact hR'
 by_cases c4 : 64 < w
 ·simp [c1,c2,c3,c4] at hR'
  simp [k_guard,k_guardU,hH,b0,b1,c1',c2',c3,c4,fin9]
  exact hR'
 by_cases c5 : hh < 1
 ·simp [c1,c2,c3,c4,c5] at hR'
  simp [k_guard,k_guardU,hH,b0,b1,c1',c2',c3,c4,c5,fin9]
  exact hR'
 by_cases c6 : 64 < hh
 ·simp [c1,c2,c3,c4,c5,c6] at hR'
  simp [k_guard,k_guardU,hH,b0,b1,c1',c2',c3,c4,c5,c6,fin9]
  exact hR'
 have hm : w * hh ≤ 64 * 64 := Int.mul_le_mul (by omega) (by omega) (by omega) (by omega)
 have hm0 : 0 ≤ w * hh := Int.mul_nonneg (by omega) (by omega)
 have hw : IntKind.i64.wrap (w * hh) = w * hh := by rw [wrapI (by omega) (by omega)]
 by_cases c7 : w * hh ≤ 144
 ·simp [c1,c2,c3,c4,c5,c6,c7] at hR'
  simp [k_guard,k_guardU,hH,b0,b1,c1',c2',c3,c4,c5,c6,hw,c7,fin9]
  exact hR'
 ·simp [c1,c2,c3,c4,c5,c6,c7] at hR'
  simp [k_guard,k_guardU,hH,b0,b1,c1',c2',c3,c4,c5,c6,hw,c7,fin9]
  exact hR'
end
theorem Rk.nat {h : Heap} {s : Value} {ds : List Int} (hd : Rk .u8 h s ds) : ∃ dn : List Nat,ds = dn.map Int.ofNat ∧ ∀ x ∈ dn,x < 256 := by
 have hr : ∀ v ∈ ds,0 ≤ v ∧ v < 256 := fun v hv => by
  have := hd.rng v hv
  simp [Lit.wf,IntKind.min,IntKind.max,IntKind.signed,IntKind.bits] at this
  omega
 refine ⟨ds.map Int.toNat,?_,fun x hx => ?_⟩
 ·rw [List.map_map]
  have : ds.map (Int.ofNat ∘ Int.toNat) = ds.map id := List.map_congr_left fun v hv => by
   have := hr v hv
   simp; omega
  rw [this,List.map_id]
 ·obtain ⟨v,hv,rfl⟩ := List.mem_map.1 hx
  have := hr v hv
  omega
set_option maxRecDepth 10000
structure XA (h : Heap) (e pb lb : Nat) (a : AE) : Prop where
 blk : blk? h e = some ⟨false,[.slice (some ⟨pb,0,none⟩) a.p.length 1,.slice (some ⟨lb,0,none⟩) a.ds.length 1,.int .i64 (a.size : Nat),.bool a.begun]⟩
 pblk : blk? h pb = some ⟨false,nI a.p⟩
 lblk : blk? h lb = some ⟨false,nI a.ds⟩
 ne1 : e ≠ pb
 ne2 : e ≠ lb
 ne3 : pb ≠ lb
 ok : a.Ok
 pos : 0 < a.p.length
def ownX (e pb lb : Nat) (id : Nat) : Prop := id = e ∨ id = pb ∨ id = lb
theorem XA.own_lt {h : Heap} {e pb lb : Nat} {a : AE} (I : XA h e pb lb a) {id : Nat} (hid : ownX e pb lb id) : id < h.length := by
 rcases hid with rfl | rfl | rfl
 ·exact blk?_lt I.blk
 ·exact blk?_lt I.pblk
 ·exact blk?_lt I.lblk
theorem XA.keep {h h' : Heap} {e pb lb : Nat} {a : AE} (I : XA h e pb lb a) (hk : ∀ id,ownX e pb lb id → blk? h' id = blk? h id) : XA h' e pb lb a :=
 ⟨by rw [hk e (.inl rfl)]; exact I.blk,by rw [hk pb (.inr (.inl rfl))]; exact I.pblk,by rw [hk lb (.inr (.inr rfl))]; exact I.lblk,I.ne1,I.ne2,I.ne3,I.ok,I.pos⟩
section
variable {h : Heap} {R : Value → Heap → Prop} {e pb lb : Nat} {a : AE}
theorem adapt_x {x b : Nat} (hx : POk x) (hb : b < 2) : Ret tab 131 [.int .i64 (x : Nat),.int .i64 (b : Nat)] h R = R (.int .i64 (adaptP x b : Nat)) h := by
 obtain ⟨h1,h2⟩ := hx
 have n1 : ¬ ((x : Int) < 0) := by omega
 have n2 : ¬ ((4096 : Int) < x) := by omega
 rw [enter131,B131]
 unfold adaptP
 by_cases hb0 : b = 0
 ·subst hb0
  have w1 : IntKind.i64.wrap (4096 - (x : Int)) = 4096 - (x : Int) := wrapI (by omega) (by omega)
  have d : (4096 - (x : Int)).tdiv 32 = (4096 - (x : Int)) / 32 := Int.tdiv_eq_ediv_of_nonneg (by omega)
  have w2 : IntKind.i64.wrap ((4096 - (x : Int)) / 32) = (4096 - (x : Int)) / 32 := wrapI (by omega) (by omega)
  have w3 : IntKind.i64.wrap ((x : Int) + (4096 - (x : Int)) / 32) = ((x + (4096 - x) / 32 : Nat) : Int) := by rw [wrapI (by omega) (by omega)]; omega
  rw [if_pos rfl]
  generalize ((x + (4096 - x) / 32 : Nat) : Int) = y at *
  simp [k_guard,n1,n2,w1,d,w2,w3,fin131]
 ·obtain rfl : b = 1 := by omega
  have d : ((x : Int)).tdiv 32 = (x : Int) / 32 := Int.tdiv_eq_ediv_of_nonneg (by omega)
  have w2 : IntKind.i64.wrap ((x : Int) / 32) = (x : Int) / 32 := wrapI (by omega) (by omega)
  have w3 : IntKind.i64.wrap ((x : Int) - (x : Int) / 32) = ((x - x / 32 : Nat) : Int) := by rw [wrapI (by omega) (by omega)]; omega
  rw [if_neg (by omega)]
  generalize ((x - x / 32 : Nat) : Int) = y at *
  simp [k_guard,n1,n2,d,w2,w3,fin131]
end
set_option maxRecDepth 10000
section
variable {h : Heap} {R : Value → Heap → Prop} {e pb lb : Nat} {a : AE}
end
set_option maxRecDepth 10000
section
variable {h : Heap} {R : Value → Heap → Prop} {e pb lb : Nat} {a : AE}
end
set_option maxRecDepth 10000
section
variable {h : Heap} {R : Value → Heap → Prop} {e pb lb : Nat} {a : AE}
end
set_option maxRecDepth 10000
section
variable {h : Heap} {R : Value → Heap → Prop} {e pb lb : Nat} {a : AE}
theorem init_loop {h0 : Heap} {n : Nat} (hn : n ≤ 1000) {K : List RItem}
  (hk : ∀ (H : Heap) (v : Value) (K0 K1 K2 K4 K5 K6 K7 K8 K9 Ka Kb Kc Kd Ke : Value),OwnS H 1 v n (nI (List.replicate n 2048)) → (∀ id,sid v = some id → h0.length ≤ id) → (∀ id,id < h0.length → blk? H id = blk? h0 id) → h0.length ≤ H.length → Ok tab R88 K #[K0,K1,K2,v,K4,K5,K6,K7,K8,K9,Ka,Kb,Kc,Kd,Ke] H R) :
  ∀ (d i : Nat) (H : Heap) (v : Value) (K1 K2 K5 K6 K7 K8 K9 Ka Kb Kc Kd Ke : Value),i + d = n → OwnS H 1 v i (nI (List.replicate i 2048)) → (∀ id,sid v = some id → h0.length ≤ id) → (∀ id,id < h0.length → blk? H id = blk? h0 id) → h0.length ≤ H.length →
   Ok tab R88 (.inLoop L88_0 :: .inBlock 0 :: K) #[.int .i64 (n : Nat),K1,K2,v,.int .i64 (i : Nat),K5,K6,K7,K8,K9,Ka,Kb,Kc,Kd,Ke] H R := by
 intro d
 induction d with
 | zero =>
  intro i H v;intros;rename_i hi ho hf hs hl
  obtain rfl : i = n := by omega
  rw [ok_round,l88_0,L88_0a,L88_0b]
  simp
  exact hk H v _ _ _ _ _ _ _ _ _ _ _ _ _ _ ho hf hs hl
 | succ d ih =>
  intro i H v;intros;rename_i hi ho hf hs hl
  have hlt : (i : Int) < (n : Int) := by omega
  obtain ⟨H1,ha,hb1,hlen1,hk1⟩ := app1v (v := .int .i64 2048) (bytes := 8) ho (by unfold roomCells; omega) (by omega)
  have hw : IntKind.i64.wrap ((i : Int) + 1) = ((i + 1 : Nat) : Int) := wrapN (n := i + 1) (by omega)
  have e : nI (List.replicate i 2048) ++ [.int .i64 2048] = nI (List.replicate (i + 1) 2048) := by rw [List.replicate_succ',nI,nI,List.map_append]; rfl
  rw [e] at hb1
  have ih' := fun K1 K2 K5 K6 K7 K8 K9 Ka Kb Kc Kd Ke => ih (i + 1) H1 (.slice (some ⟨H.length + 1,0,none⟩) (i + 1) 1) K1 K2 K5 K6 K7 K8 K9 Ka Kb Kc Kd Ke (by omega) ⟨by simp [nI],.inr ⟨_,rfl,hb1⟩⟩ (fun id hid => by simp [sid] at hid; omega) (fun id hid => by
   rw [hk1 id (by omega) (fun x => by have := hf id x; omega),hs id hid]) (by omega)
  generalize ((i + 1 : Nat) : Int) = i1 at *
  rw [ok_round,l88_0,L88_0a,L88_0b]
  simp [repL,hlt,ha,hw]
  exact ih' ..
theorem initial_x {n : Nat} (hn : n ≤ 1000) :
  ∃ v h',(∀ R,Ret tab 88 [.int .i64 (n : Nat)] h R = R v h') ∧ OwnS h' 1 v n (nI (AE.base n)) ∧ (∀ id,sid v = some id → h.length ≤ id) ∧ (∀ id,id < h.length → blk? h' id = blk? h id) ∧ h.length ≤ h'.length := by
 have key : Ret tab 88 [.int .i64 (n : Nat)] h fun v h' => OwnS h' 1 v n (nI (AE.base n)) ∧ (∀ id,sid v = some id → h.length ≤ id) ∧ (∀ id,id < h.length → blk? h' id = blk? h id) ∧ h.length ≤ h'.length := by
  have L := fun K1 K2 K5 K6 K7 K8 K9 Ka Kb Kc Kd Ke => init_loop (R := fun v h' => OwnS h' 1 v n (nI (AE.base n)) ∧ (∀ id,sid v = some id → h.length ≤ id) ∧ (∀ id,id < h.length → blk? h' id = blk? h id) ∧ h.length ≤ h'.length) (h0 := h) hn (K := [.code (tlC 3 B88)])
   (fun H v K0 K1 K2 K4 K5 K6 K7 K8 K9 Ka Kb Kc Kd Ke a b c d => by
    simp only [nthC,tlC,fstC,B88]
    simp [fin88]
    exact ⟨a,b,c,d⟩) n 0 (h ++ [some ⟨false,[]⟩]) (.slice (some ⟨h.length,0,none⟩) 0 1) K1 K2 K5 K6 K7 K8 K9 Ka Kb Kc Kd Ke (by omega) ⟨rfl,.inr ⟨h.length,rfl,blk?_push_eq⟩⟩ (fun id hid => by simp [sid] at hid; omega) (fun id hid => blk?_push_lt hid) (by simp)
  rw [enter88,show B88 = .seq (nthC 0 B88) (.seq (nthC 1 B88) (.seq (nthC 2 B88) (tlC 3 B88))) from rfl]
  generalize hT : tlC 3 B88 = tl at *
  simp only [nthC,tlC,fstC,B88]
  simp [repL]
  exact L ..
 obtain ⟨v,h',ee,a,b,c,d⟩ := ret_ex key
 exact ⟨v,h',ee,a,b,c,d⟩
end
set_option maxRecDepth 10000
theorem start_min (p D : List Nat) : min ((val (pad D 4) : Nat) : Int) 4294967294 = ((AD.start p D).value : Nat) := by
 have e : (AD.start p D).value = min (val (pad D 4)) 4294967294 := rfl
 rw [e]
 generalize val (pad D 4) = v
 omega
section
variable {h : Heap} {R : Value → Heap → Prop} {d pb n value size : Nat} {dv : Value} {D p : List Nat} {st : Bool} {a : AD}
theorem znext (I : DP h d pb dv D n p value size st) (hD : Dig D) (hl : D.length < 1000000000) (hn : n < 900000000) :
  ∀ R : Value → Heap → Prop,Ret tab 116 [ptr d] h R = R (.int .i64 ((D.drop n).headD 0 : Nat)) (h.set d (some ⟨false,[.slice (some ⟨pb,0,none⟩) p.length 1,dv,.int .i64 ((n + 1 : Nat) : Int),.int .i64 (value : Nat),.int .i64 (size : Nat),.bool st]⟩)) := by
 intro R
 have hb := I.blk
 obtain ⟨da,dc,hdv⟩ := I.own.sl.shape
 have w1 : IntKind.i64.wrap ((n : Int) + 1) = ((n + 1 : Nat) : Int) := wrapN (n := n + 1) (by omega)
 have hs : ∀ x,blk? (h.set d x) d = x := fun x => blk?_set_eq (blk?_lt hb)
 by_cases hn : n < D.length
 ·obtain ⟨id,off,b,e,hbk,hc⟩ := I.own.sl.get hn
  have hc0 := hc 0 (by omega)
  rw [Nat.mul_one,Nat.add_zero,Nat.add_zero,nU_get hn] at hc0
  have hgd : D.getD n 0 = (D.drop n).headD 0 := by
   rw [List.drop_eq_getElem_cons hn]; simp [hn]
  rw [hgd] at hc0
  have hx : (D.drop n).headD 0 < 256 := headD_dig (hD.drop n)
  generalize (D.drop n).headD 0 = x at *
  have hle : ¬ ((D.length : Int) < ((n + 1 : Nat) : Int)) := by omega
  have hltn : (n : Int) < (D.length : Int) := by omega
  have w2 : IntKind.i64.wrap (((n + 1 : Nat) : Int) - 1) = (n : Int) := by rw [wrapI (by omega) (by omega)]; omega
  have w3 : IntKind.i64.wrap (x : Int) = (x : Int) := wrapN (by omega)
  have hne : id ≠ d := fun x => I.ne2 (by rw [e]; simp [sid,x])
  have hs2 : ∀ x,blk? (h.set d x) id = some b := fun x => by rw [blk?_set_ne (Ne.symm hne)]; exact hbk
  generalize ((n + 1 : Nat) : Int) = n1 at *
  rw [e] at hb ⊢
  rw [enter116,B116]
  simp [hb,hle,w1,hs,w2,hltn,hn,hs2,hc0,w3,fin116]
 ·have hdr : D.drop n = [] := List.drop_eq_nil_of_le (by omega)
  rw [hdr]
  have hle : ((D.length : Int) < ((n + 1 : Nat) : Int)) := by omega
  generalize ((n + 1 : Nat) : Int) = n1 at *
  rw [hdv] at hb ⊢
  rw [enter116,B116]
  simp [hb,hle,w1,hs,fin116]
theorem zstart_loop {k : List RItem} (hD : Dig D) (hl : D.length < 1000000000)
  (hk : ∀ (h' : Heap) (K1 K2 K3 K4 K5 K6 K7 K8 K9 Ka Kb Kc Kd Ke Kf Kg Kh Ki Kj Kk Kl Km Kn Ko Kp Kq Kr Ks Kt Ku Kv Kw Kx Ky Kz J0 J1 J2 J3 J4 J5 J6 J7 J8 J9 Ja Jb Jc Jd Je Jf Jg Jh Ji Jj Jk : Value),DP h' d pb dv D 4 p (val (pad D 4)) size st → (∀ id,id ≠ d → blk? h' id = blk? h id) → h'.length = h.length → Ok tab R75 k #[ptr d,K1,K2,K3,K4,K5,K6,K7,K8,K9,Ka,Kb,Kc,Kd,Ke,Kf,Kg,Kh,Ki,Kj,Kk,Kl,Km,Kn,Ko,Kp,Kq,Kr,Ks,Kt,Ku,Kv,Kw,Kx,Ky,Kz,J0,J1,J2,J3,J4,J5,J6,J7,J8,J9,Ja,Jb,Jc,Jd,Je,Jf,Jg,Jh,Ji,Jj,Jk] h' R) :
  ∀ (q j : Nat) (H : Heap) (K1 K2 K3 K4 K6 K7 K8 K9 Ka Kb Kc Kd Ke Kf Kg Kh Ki Kj Kk Kl Km Kn Ko Kp Kq Kr Ks Kt Ku Kv Kw Kx Ky Kz J0 J1 J2 J3 J4 J5 J6 J7 J8 J9 Ja Jb Jc Jd Je Jf Jg Jh Ji Jj Jk : Value),j + q = 4 → DP H d pb dv D j p (val (pad D j)) size st → (∀ id,id ≠ d → blk? H id = blk? h id) → H.length = h.length →
   Ok tab R75 (.inLoop L75_0 :: .inBlock 0 :: k) #[ptr d,K1,K2,K3,K4,.int .i64 (j : Nat),K6,K7,K8,K9,Ka,Kb,Kc,Kd,Ke,Kf,Kg,Kh,Ki,Kj,Kk,Kl,Km,Kn,Ko,Kp,Kq,Kr,Ks,Kt,Ku,Kv,Kw,Kx,Ky,Kz,J0,J1,J2,J3,J4,J5,J6,J7,J8,J9,Ja,Jb,Jc,Jd,Je,Jf,Jg,Jh,Ji,Jj,Jk] H R := by
 intro q
 induction q with
 | zero =>
  intro j H;intros;rename_i hj I hk1 hl1
  obtain rfl : j = 4 := by omega
  rw [ok_round,l75_0,L75_0a,L75_0b]
  simp
  exact hk H _ _ _ _ _ _ _ _ _ _ _ _ _ _ _ _ _ _ _ _ _ _ _ _ _ _ _ _ _ _ _ _ _ _ _ _ _ _ _ _ _ _ _ _ _ _ _ _ _ _ _ _ _ _ _ _ I hk1 hl1
 | succ q ih =>
  intro j H;intros;rename_i hj I hk1 hl1
  have e := znext I hD hl (by omega)
  have hb := I.blk
  have hs : ∀ x,blk? (H.set d x) d = x := fun x => blk?_set_eq (blk?_lt hb)
  have hlt : (j : Int) < 4 := by omega
  have hlt' : j < 4 := by omega
  have hw : IntKind.i64.wrap ((j : Int) + 1) = ((j + 1 : Nat) : Int) := wrapN (n := j + 1) (by omega)
  have hv := val_lt (pad_dig j hD)
  rw [pad_len] at hv
  have hpw : (256 : Nat) ^ j ≤ 16777216 := by
   have : j = 0 ∨ j = 1 ∨ j = 2 ∨ j = 3 := by omega
   rcases this with rfl | rfl | rfl | rfl <;> decide
  have hx : (D.drop j).headD 0 < 256 := headD_dig (hD.drop j)
  have hval : val (pad D (j + 1)) = val (pad D j) * 256 + (D.drop j).headD 0 := by
   rw [pad_succ,val_append]; simp [val]
  have I2 := I.set (j + 1) (val (pad D (j + 1))) size st
  rw [hval] at I2
  generalize (D.drop j).headD 0 = x at *
  generalize hq : val (pad D j) = v at *
  have hS' : IntKind.i64.wrap (256 * (v : Int)) = ((v * 256 : Nat) : Int) := by rw [wrapI (by omega) (by omega)]; omega
  have ha : IntKind.i64.wrap (((v * 256 : Nat) : Int) + (x : Int)) = ((v * 256 + x : Nat) : Int) := by rw [wrapI (by omega) (by omega)]; omega
  have ih' := fun K1 K2 K3 K4 K6 K7 K8 K9 Ka Kb Kc Kd Ke Kf Kg Kh Ki Kj Kk Kl Km Kn Ko Kp Kq Kr Ks Kt Ku Kv Kw Kx Ky Kz J0 J1 J2 J3 J4 J5 J6 J7 J8 J9 Ja Jb Jc Jd Je Jf Jg Jh Ji Jj Jk => ih (j + 1) _ K1 K2 K3 K4 K6 K7 K8 K9 Ka Kb Kc Kd Ke Kf Kg Kh Ki Kj Kk Kl Km Kn Ko Kp Kq Kr Ks Kt Ku Kv Kw Kx Ky Kz J0 J1 J2 J3 J4 J5 J6 J7 J8 J9 Ja Jb Jc Jd Je Jf Jg Jh Ji Jj Jk (by omega) (by rw [hval]; exact I2) (fun id hid => by rw [blk?_set_ne (Ne.symm hid)]; exact hk1 id hid) (by simpa using hl1)
  generalize ((j + 1 : Nat) : Int) = j1 at *
  generalize ((v * 256 : Nat) : Int) = y at *
  generalize ((v * 256 + x : Nat) : Int) = z at *
  rw [ok_round,l75_0,L75_0a,L75_0b]
  simp [book,bookU,logOf,addLog,chk1,lookL,reload,veq,hlt,hlt',hb,hS',e,ha,hs,hw]
  exact ih' ..
theorem zstart_c {tv : Value} {D' : List Nat} (I : DP h d pb dv D n p value size st) (hp : 0 < p.length) (ht : Sl h 1 tv D'.length (nU D')) (hD : Dig D') (hl : D'.length < 100000000) :
  ∃ h' dv',(∀ R : Value → Heap → Prop,Ret tab 75 [ptr d,tv] h R = R (.int .i64 0) h') ∧ DP h' d pb dv' D' 4 p (AD.start p D').value 4294967295 true ∧ EF h h' d pb dv dv' := by
 have key : ∀ R0 : Value → Heap → Prop,(∀ h' dv',DP h' d pb dv' D' 4 p (AD.start p D').value 4294967295 true → EF h h' d pb dv dv' → R0 (.int .i64 0) h') → Ret tab 75 [ptr d,tv] h R0 := by
  intro R0 hR
  have hd := blk?_lt I.blk
  have hpb := blk?_lt I.pblk
  have ht' : Sl (h ++ [some ⟨false,[]⟩]) 1 tv D'.length (nU D') := ht.of_sid fun id b hid hb => by rw [blk?_push_lt (blk?_lt hb)]; exact hb
  obtain ⟨t1,H1,a1,o1,l1,k1,g1⟩ := app_any (bytes := 1) (h := h ++ [some ⟨false,[]⟩]) (t := .slice (some ⟨h.length,0,none⟩) 0 1) (n := 0) (cs := []) ⟨rfl,.inr ⟨h.length,rfl,blk?_push_eq⟩⟩ ht' (by unfold roomCells; omega) (by omega)
  rw [Nat.zero_add,List.nil_append] at o1
  have k1' : ∀ id,id < h.length → blk? H1 id = blk? h id := fun id hid => by rw [k1 id (by simp; omega) (by simp [sid]; omega),blk?_push_lt hid]
  have hll : (h ++ [some (⟨false,[]⟩ : Blk)]).length = h.length + 1 := by simp
  rw [hll] at l1 g1
  have hb1 : blk? H1 d = some ⟨false,[.slice (some ⟨pb,0,none⟩) p.length 1,dv,.int .i64 (n : Nat),.int .i64 (value : Nat),.int .i64 (size : Nat),.bool st]⟩ := by rw [k1' d hd]; exact I.blk
  have hd1 := blk?_lt hb1
  have hs : ∀ x,blk? (H1.set d x) d = x := fun x => blk?_set_eq hd1
  have I1 : DP (H1.set d (some ⟨false,[.slice (some ⟨pb,0,none⟩) p.length 1,t1,.int .i64 ((0 : Nat) : Int),.int .i64 ((0 : Nat) : Int),.int .i64 (size : Nat),.bool st]⟩)) d pb t1 D' 0 p (val (pad D' 0)) size st :=
   ⟨hs _,by rw [blk?_set_ne I.ne1,k1' pb hpb]; exact I.pblk,o1.of_blk fun id hid hb => by rw [blk?_set_ne (by have := g1 id hid; omega)]; exact hb,I.ne1,fun x => by have := g1 d x; omega,fun x => by have := g1 pb x; omega⟩
  obtain ⟨ta,tc,ht1⟩ := o1.sl.shape
  have hpn : p ≠ [] := fun x => by rw [x] at hp; simp at hp
  have hp0' : (((p.length : Nat) : Int) == 0) = false := by rw [beq_eq_false_iff_ne]; omega
  have hL := fun K1 K2 K3 K4 K6 K7 K8 K9 Ka Kb Kc Kd Ke Kf Kg Kh Ki Kj Kk Kl Km Kn Ko Kp Kq Kr Ks Kt Ku Kv Kw Kx Ky Kz J0 J1 J2 J3 J4 J5 J6 J7 J8 J9 Ja Jb Jc Jd Je Jf Jg Jh Ji Jj Jk => zstart_loop (h := H1.set d (some ⟨false,[.slice (some ⟨pb,0,none⟩) p.length 1,t1,.int .i64 ((0 : Nat) : Int),.int .i64 ((0 : Nat) : Int),.int .i64 (size : Nat),.bool st]⟩)) (R := R0) (k := [.code (tlC 4 B75)]) hD (by omega)
   (fun H2 K1 K2 K3 K4 K5 K6 K7 K8 K9 Ka Kb Kc Kd Ke Kf Kg Kh Ki Kj Kk Kl Km Kn Ko Kp Kq Kr Ks Kt Ku Kv Kw Kx Ky Kz J0 J1 J2 J3 J4 J5 J6 J7 J8 J9 Ja Jb Jc Jd Je Jf Jg Jh Ji Jj Jk I2 k2 l2 => by
    have hb2 := I2.blk
    have hs2 : ∀ x,blk? (H2.set d x) d = x := fun x => blk?_set_eq (blk?_lt hb2)
    have hmn := start_min p D'
    have I3 := I2.set 4 (AD.start p D').value 4294967295 true
    have F3 : EF h (H2.set d (some ⟨false,[.slice (some ⟨pb,0,none⟩) p.length 1,t1,.int .i64 ((4 : Nat) : Int),.int .i64 ((AD.start p D').value : Nat),.int .i64 ((4294967295 : Nat) : Int),.bool true]⟩)) d pb dv t1 := by
     refine ⟨by rw [List.length_set]; simp at l2; omega,fun id h1 h2 h3 h4 => ?_,fun id hid => .inr ?_⟩
     ·rw [blk?_set_ne (Ne.symm h2),k2 id h2,blk?_set_ne (Ne.symm h2),k1' id h1]
     ·have := g1 id hid
      rw [List.length_set]; simp at l2; omega
    have hR' := hR _ t1 I3 F3
    simp only [Int.cast_ofNat_Int] at hR' hb2
    generalize (((AD.start p D').value : Nat) : Int) = z at *
    simp only [nthC,tlC,fstC,B75]
    simp [hb2,fold1,foldO,mn2,hmn,hs2,fin75]
    exact hR') 4 0 _ K1 K2 K3 K4 K6 K7 K8 K9 Ka Kb Kc Kd Ke Kf Kg Kh Ki Kj Kk Kl Km Kn Ko Kp Kq Kr Ks Kt Ku Kv Kw Kx Ky Kz J0 J1 J2 J3 J4 J5 J6 J7 J8 J9 Ja Jb Jc Jd Je Jf Jg Jh Ji Jj Jk (by omega) I1 (fun _ _ => rfl) rfl
  simp only [Int.cast_ofNat_Int] at hL
  have hb0 := I.blk
  rw [ht1] at hL a1
  rw [enter75,show B75 = .seq (nthC 0 B75) (.seq (nthC 1 B75) (.seq (nthC 2 B75) (.seq (nthC 3 B75) (tlC 4 B75)))) from rfl]
  generalize tlC 4 B75 = tl at *
  simp only [nthC,tlC,fstC,B75]
  simp [k_guard,k_guardU,repL,hb0,hp0',hpn,a1,hb1,hs]
  exact hL ..
 obtain ⟨v,h',e,rfl,dv',a,c⟩ := ret_ex (key (fun v h' => v = .int .i64 0 ∧ ∃ dv',DP h' d pb dv' D' 4 p (AD.start p D').value 4294967295 true ∧ EF h h' d pb dv dv') fun h' dv' a c => ⟨rfl,dv',a,c⟩)
 exact ⟨h',dv',e,a,c⟩
theorem znorm_c {v1 v6 v7 : Value} (I : DP h d pb dv D n p value size st) (hD : Dig D) (hl : D.length < 1000000000) (hn : n < 900000000) (hv : value < size) (h1 : 65536 ≤ size) (h2 : size < 4294967296) :
  ∃ h' n' value' size',DP h' d pb dv D n' p value' size' st ∧ n' ≤ n + 1 ∧ (∀ id,id ≠ d → blk? h' id = blk? h id) ∧ h'.length = h.length ∧ D.drop n' = (if size < 16777216 then (D.drop n).tail else D.drop n) ∧
   value' = (if size < 16777216 then value * 256 + (D.drop n).headD 0 else value) ∧ size' = (if size < 16777216 then size * 256 else size) ∧
   ∀ (k : List RItem) (K2 K3 K4 K5 K8 K9 Ka Kb Kc Kd Ke Kf Kg Kh Ki Kj Kk Kl Km Kn Ko Kp Kq Kr Ks Kt Ku Kv Kw Kx Ky Kz J0 J1 J2 J3 J4 J5 J6 J7 J8 J9 Ja Jb Jc Jd Je Jf Jg Jh Ji Jj Jk Jl Jm Jn Jo Jp Jq Jr Js Jt Ju Jv Jw Jx Jy Jz Y0 Y1 Y2 Y3 Y4 Y5 Y6 Y7 Y8 Y9 Ya Yb Yc Yd Ye Yf Yg Yh Yi Yj Yk Yl Ym Yn Yo Yp Yq Yr Ys Yt Yu Yv Yw Yx Yy Yz Z0 : Value),(∀ K2 K3 K4 K5 K8 K9 Ka Kb Kc Kd Ke Kf Kg Kh Ki Kj Kk Kl Km Kn Ko Kp Kq Kr Ks Kt Ku Kv Kw Kx Ky Kz J0 J1 J2 J3 J4 J5 J6 J7 J8 J9 Ja Jb Jc Jd Je Jf Jg Jh Ji Jj Jk Jl Jm Jn Jo Jp Jq Jr Js Jt Ju Jv Jw Jx Jy Jz Y0 Y1 Y2 Y3 Y4 Y5 Y6 Y7 Y8 Y9 Ya Yb Yc Yd Ye Yf Yg Yh Yi Yj Yk Yl Ym Yn Yo Yp Yq Yr Ys Yt Yu Yv Yw Yx Yy Yz Z0 : Value,Ok tab R204 k #[ptr d,v1,K2,K3,K4,K5,v6,v7,K8,K9,Ka,Kb,Kc,Kd,Ke,Kf,Kg,Kh,Ki,Kj,Kk,Kl,Km,Kn,Ko,Kp,Kq,Kr,Ks,Kt,Ku,Kv,Kw,Kx,Ky,Kz,J0,J1,J2,J3,J4,J5,J6,J7,J8,J9,Ja,Jb,Jc,Jd,Je,Jf,Jg,Jh,Ji,Jj,Jk,Jl,Jm,Jn,Jo,Jp,Jq,Jr,Js,Jt,Ju,Jv,Jw,Jx,Jy,Jz,Y0,Y1,Y2,Y3,Y4,Y5,Y6,Y7,Y8,Y9,Ya,Yb,Yc,Yd,Ye,Yf,Yg,Yh,Yi,Yj,Yk,Yl,Ym,Yn,Yo,Yp,Yq,Yr,Ys,Yt,Yu,Yv,Yw,Yx,Yy,Yz,Z0] h' R) →
    Ok tab R204 (.inLoop L204_0 :: .inBlock 0 :: k) #[ptr d,v1,K2,K3,K4,K5,v6,v7,K8,K9,Ka,Kb,Kc,Kd,Ke,Kf,Kg,Kh,Ki,Kj,Kk,Kl,Km,Kn,Ko,Kp,Kq,Kr,Ks,Kt,Ku,Kv,Kw,Kx,Ky,Kz,J0,J1,J2,J3,J4,J5,J6,J7,J8,J9,Ja,Jb,Jc,Jd,Je,Jf,Jg,Jh,Ji,Jj,Jk,Jl,Jm,Jn,Jo,Jp,Jq,Jr,Js,Jt,Ju,Jv,Jw,Jx,Jy,Jz,Y0,Y1,Y2,Y3,Y4,Y5,Y6,Y7,Y8,Y9,Ya,Yb,Yc,Yd,Ye,Yf,Yg,Yh,Yi,Yj,Yk,Yl,Ym,Yn,Yo,Yp,Yq,Yr,Ys,Yt,Yu,Yv,Yw,Yx,Yy,Yz,Z0] h R := by
 have hb := I.blk
 have hd := blk?_lt hb
 by_cases hs : size < 16777216
 ·have e := znext I hD hl hn
  have hx : (D.drop n).headD 0 < 256 := headD_dig (hD.drop n)
  have I2 := I.set (n + 1) (value * 256 + (D.drop n).headD 0) (size * 256) st
  refine ⟨_,n + 1,_,_,I2,Nat.le_refl _,fun id hid => by rw [blk?_set_ne (Ne.symm hid)],by simp,by rw [if_pos hs,List.tail_drop],by rw [if_pos hs],by rw [if_pos hs],?_⟩
  intro k;intros;rename_i hk
  generalize (D.drop n).headD 0 = x at *
  have hS' : IntKind.i64.wrap (256 * (value : Int)) = ((value * 256 : Nat) : Int) := by rw [wrapI (by omega) (by omega)]; omega
  have hT' : IntKind.i64.wrap (256 * (size : Int)) = ((size * 256 : Nat) : Int) := by rw [wrapI (by omega) (by omega)]; omega
  have ha : IntKind.i64.wrap (((value * 256 : Nat) : Int) + (x : Int)) = ((value * 256 + x : Nat) : Int) := by rw [wrapI (by omega) (by omega)]; omega
  have hlt : (size : Int) < 16777216 := by omega
  have hge : ¬ ((size * 256 : Nat) : Int) < 16777216 := by omega
  have hss : ∀ x,blk? (h.set d x) d = x := fun x => blk?_set_eq hd
  generalize ((n + 1 : Nat) : Int) = n1 at *
  generalize ((value * 256 : Nat) : Int) = y at *
  generalize ((value * 256 + x : Nat) : Int) = z at *
  generalize ((size * 256 : Nat) : Int) = u at *
  rw [ok_round,l204_0,L204_0a,L204_0b]
  simp [book,bookU,logOf,addLog,chk1,lookL,reload,veq,hlt,hb,hS',e,ha,hss,hT']
  rw [ok_round,l204_0,L204_0a,L204_0b]
  simp [hss,hge]
  exact hk ..
 ·have hlt : ¬ (size : Int) < 16777216 := by omega
  refine ⟨h,n,value,size,I,by omega,fun _ _ => rfl,rfl,by rw [if_neg hs],by rw [if_neg hs],by rw [if_neg hs],?_⟩
  intro k;intros;rename_i hk
  rw [ok_round,l204_0,L204_0a,L204_0b]
  simp [hb,hlt]
  exact hk ..
set_option maxHeartbeats 1000000 in
theorem zdecode_c {c : Nat} (I : DA h d pb dv D n a) (hc : c < a.p.length) (hD : Dig D) (hl : D.length < 1000000000) (hn : n < 900000000) :
  ∃ h' n',(∀ R : Value → Heap → Prop,Ret tab 204 [ptr d,.int .i64 (c : Nat)] h R = R (.tuple #[.int .i64 (a.bit c : Nat),.int .i64 0]) h') ∧ DA h' d pb dv D n' (a.next c) ∧ n' ≤ n + 1 ∧ (∀ id,id ≠ d → id ≠ pb → blk? h' id = blk? h id) ∧ h'.length = h.length := by
 have key : ∀ R0 : Value → Heap → Prop,(∀ h' n',DA h' d pb dv D n' (a.next c) → n' ≤ n + 1 → (∀ id,id ≠ d → id ≠ pb → blk? h' id = blk? h id) → h'.length = h.length → R0 (.tuple #[.int .i64 (a.bit c : Nat),.int .i64 0]) h') → Ret tab 204 [ptr d,.int .i64 (c : Nat)] h R0 := by
  intro R0 hR
  have hP := I.dp
  obtain ⟨r1,r2⟩ := AD.split_rng I.ok hc
  have s2 := I.ok.s2
  have hv := I.ok.v
  have hok := AD.next_ok I.ok hc
  have hpo := I.ok.ps.getD hc
  have hb := hP.blk
  have hpbk := hP.pblk
  have hd := blk?_lt hb
  have hss : ∀ x,blk? (h.set d x) d = x := fun x => blk?_set_eq hd
  have hbl : a.bit c < 2 := by unfold AD.bit; split <;> omega
  have g := nI_get hc
  have g' := get_of g
  have dq : ((a.size : Int)).tdiv 4096 = ((a.size / 4096 : Nat) : Int) := by rw [Int.tdiv_eq_ediv_of_nonneg (by omega)]; omega
  have w1 : IntKind.i64.wrap ((a.size / 4096 : Nat) : Int) = ((a.size / 4096 : Nat) : Int) := wrapN (by omega)
  have w2 : IntKind.i64.wrap (((a.size / 4096 : Nat) : Int) * (a.p.getD c 0 : Nat)) = ((a.split c : Nat) : Int) := by
   rw [← Int.natCast_mul]
   have : a.size / 4096 * a.p.getD c 0 = a.split c := rfl
   rw [this]; exact wrapN (by omega)
  have hc0 : ¬ ((c : Int) < 0) := by omega
  have hc1 : ¬ ((a.p.length : Int) ≤ (c : Int)) := by omega
  have hc2 : (c : Int) < (a.p.length : Int) := by omega
  have rest : ∀ (H : Heap) (v1 s1 : Nat),DP H d pb dv D n a.p v1 s1 true → (∀ id,id ≠ d → blk? H id = blk? h id) → H.length = h.length → v1 < s1 → 65536 ≤ s1 → s1 < 4294967296 → (a.next c).rest = (if s1 < 16777216 then (D.drop n).tail else D.drop n) →
    (a.next c).value = (if s1 < 16777216 then v1 * 256 + (D.drop n).headD 0 else v1) → (a.next c).size = (if s1 < 16777216 then s1 * 256 else s1) →
    ∀ K2 K3 K4 K5 K8 K9 Ka Kb Kc Kd Ke Kf Kg Kh Ki Kj Kk Kl Km Kn Ko Kp Kq Kr Ks Kt Ku Kv Kw Kx Ky Kz J0 J1 J2 J3 J4 J5 J6 J7 J8 J9 Ja Jb Jc Jd Je Jf Jg Jh Ji Jj Jk Jl Jm Jn Jo Jp Jq Jr Js Jt Ju Jv Jw Jx Jy Jz Y0 Y1 Y2 Y3 Y4 Y5 Y6 Y7 Y8 Y9 Ya Yb Yc Yd Ye Yf Yg Yh Yi Yj Yk Yl Ym Yn Yo Yp Yq Yr Ys Yt Yu Yv Yw Yx Yy Yz Z0 : Value,Ok tab R204 [.inLoop L204_0,.inBlock 0,.code (tlC 7 B204)] #[ptr d,.int .i64 (c : Nat),K2,K3,K4,K5,.int .i64 (a.split c : Nat),.int .i64 (a.bit c : Nat),K8,K9,Ka,Kb,Kc,Kd,Ke,Kf,Kg,Kh,Ki,Kj,Kk,Kl,Km,Kn,Ko,Kp,Kq,Kr,Ks,Kt,Ku,Kv,Kw,Kx,Ky,Kz,J0,J1,J2,J3,J4,J5,J6,J7,J8,J9,Ja,Jb,Jc,Jd,Je,Jf,Jg,Jh,Ji,Jj,Jk,Jl,Jm,Jn,Jo,Jp,Jq,Jr,Js,Jt,Ju,Jv,Jw,Jx,Jy,Jz,Y0,Y1,Y2,Y3,Y4,Y5,Y6,Y7,Y8,Y9,Ya,Yb,Yc,Yd,Ye,Yf,Yg,Yh,Yi,Yj,Yk,Yl,Ym,Yn,Yo,Yp,Yq,Yr,Ys,Yt,Yu,Yv,Yw,Yx,Yy,Yz,Z0] H R0 := by
   intro H v1 s1 I1 k1 l1 hv1 hs1 hs2 q1 q2 q3;intros
   obtain ⟨h2,n2,v2,s2,I2,n2n,k2,l2,e1,e2,e3,hL⟩ := znorm_c (v1 := .int .i64 (c : Nat)) (v6 := .int .i64 (a.split c : Nat)) (v7 := .int .i64 (a.bit c : Nat)) I1 hD hl hn hv1 hs1 hs2
   refine hL _ _ _ _ _ _ _ _ _ _ _ _ _ _ _ _ _ _ _ _ _ _ _ _ _ _ _ _ _ _ _ _ _ _ _ _ _ _ _ _ _ _ _ _ _ _ _ _ _ _ _ _ _ _ _ _ _ _ _ _ _ _ _ _ _ _ _ _ _ _ _ _ _ _ _ _ _ _ _ _ _ _ _ _ _ _ _ _ _ _ _ _ _ _ _ _ _ _ _ _ _ _ _ _ _ _ fun K2 K3 K4 K5 K8 K9 Ka Kb Kc Kd Ke Kf Kg Kh Ki Kj Kk Kl Km Kn Ko Kp Kq Kr Ks Kt Ku Kv Kw Kx Ky Kz J0 J1 J2 J3 J4 J5 J6 J7 J8 J9 Ja Jb Jc Jd Je Jf Jg Jh Ji Jj Jk Jl Jm Jn Jo Jp Jq Jr Js Jt Ju Jv Jw Jx Jy Jz Y0 Y1 Y2 Y3 Y4 Y5 Y6 Y7 Y8 Y9 Ya Yb Yc Yd Ye Yf Yg Yh Yi Yj Yk Yl Ym Yn Yo Yp Yq Yr Ys Yt Yu Yv Yw Yx Yy Yz Z0 => ?_
   have I3 := I2.setp (a.p.set c (adaptP (a.p.getD c 0) (a.bit c))) (by simp)
   have hA := fun H R => adapt_x (h := H) (R := R) (I.ok.ps.getD hc) hbl
   have hst := nI_set (xs := a.p) (i := c) (v := adaptP (a.p.getD c 0) (a.bit c))
   have hb2 := I2.blk
   have hp2 := I2.pblk
   have hl : c + 1 ≤ (nI a.p).length := by rw [nI_len]; exact hc
   have he1 : ∀ X,blk? (h2.set pb X) d = some ⟨false,[.slice (some ⟨pb,0,none⟩) a.p.length 1,dv,.int .i64 (n2 : Nat),.int .i64 (v2 : Nat),.int .i64 (s2 : Nat),.bool true]⟩ := fun X => by rw [blk?_set_ne (Ne.symm I2.ne1)]; exact hb2
   have hpn : (a.next c).p = a.p.set c (adaptP (a.p.getD c 0) (a.bit c)) := rfl
   have hR' := hR _ n2 ⟨by rw [hpn,q2,q3,← e2,← e3]; exact I3,by rw [q1,e1],hok,by rw [hpn]; simpa using I.pos⟩ n2n (fun id h1 h2 => by rw [blk?_set_ne (Ne.symm h2),k2 id h1,k1 id h1]) (by simp [l2,l1])
   generalize a.p.set c (adaptP (a.p.getD c 0) (a.bit c)) = p' at *
   generalize adaptP (a.p.getD c 0) (a.bit c) = v at *
   generalize a.p.getD c 0 = x at *
   generalize nI a.p = C at *
   generalize a.bit c = bt at *
   simp only [nthC,tlC,fstC,B204]
   simp [book,bookU,logOf,addLog,chk1,lookL,reload,veq,hb2,hp2,hc2,hc,g,g',hA,hl,hst,he1,fin204]
   exact hR'
  rw [enter204,show B204 = .seq (nthC 0 B204) (.seq (nthC 1 B204) (.seq (nthC 2 B204) (.seq (nthC 3 B204) (.seq (nthC 4 B204) (.seq (nthC 5 B204) (.seq (nthC 6 B204) (tlC 7 B204))))))) from rfl]
  generalize hT7 : tlC 7 B204 = T7 at *
  simp only [nthC,tlC,fstC,B204]
  by_cases hlt : a.value < a.split c
  ·have hbit : a.bit c = 0 := by unfold AD.bit; rw [if_pos hlt]
   have hlt' : (a.value : Int) < (a.split c : Int) := by omega
   have I1 := hP.set n a.value (a.split c) true
   have hfin := rest _ a.value (a.split c) I1 (fun id hid => by rw [blk?_set_ne (Ne.symm hid)]) (by simp) hlt r1 (by omega)
    (by unfold AD.next AD.norm; simp only [hlt,if_true]; rw [I.rest]; split <;> rfl)
    (by unfold AD.next AD.norm; simp only [hlt,if_true]; rw [I.rest]; split <;> rfl)
    (by unfold AD.next AD.norm; simp only [hlt,if_true]; split <;> rfl)
   rw [hbit] at hfin
   simp only [Int.cast_ofNat_Int] at hfin
   clear rest
   generalize a.split c = S at *
   generalize ((a.size / 4096 : Nat) : Int) = z' at *
   generalize a.p.getD c 0 = x at *
   generalize nI a.p = C at *
   simp [-Int.natCast_ediv,k_guard,k_guardU,hb,hc0,hc1,hc2,hc,hpbk,g,g',dq,w1,w2,hlt',hlt,hss]
   exact hfin ..
  ·have hbit : a.bit c = 1 := by unfold AD.bit; rw [if_neg hlt]
   have hlt' : ¬ (a.value : Int) < (a.split c : Int) := by omega
   have I1 := hP.set n (a.value - a.split c) (a.size - a.split c) true
   have hfin := rest _ (a.value - a.split c) (a.size - a.split c) I1 (fun id hid => by rw [blk?_set_ne (Ne.symm hid)]) (by simp) (by omega) (by omega) (by omega)
    (by unfold AD.next AD.norm; simp only [hlt,if_false]; rw [I.rest]; split <;> rfl)
    (by unfold AD.next AD.norm; simp only [hlt,if_false]; rw [I.rest]; split <;> rfl)
    (by unfold AD.next AD.norm; simp only [hlt,if_false]; split <;> rfl)
   rw [hbit] at hfin
   simp only [Int.cast_ofNat_Int] at hfin
   clear rest
   have w3 : IntKind.i64.wrap ((a.value : Int) - (a.split c : Int)) = ((a.value - a.split c : Nat) : Int) := by rw [wrapI (by omega) (by omega)]; omega
   have w4 : IntKind.i64.wrap ((a.size : Int) - (a.split c : Int)) = ((a.size - a.split c : Nat) : Int) := by rw [wrapI (by omega) (by omega)]; omega
   generalize ((a.value - a.split c : Nat) : Int) = y1 at *
   generalize ((a.size - a.split c : Nat) : Int) = y2 at *
   generalize a.split c = S at *
   generalize ((a.size / 4096 : Nat) : Int) = z' at *
   generalize a.p.getD c 0 = x at *
   generalize nI a.p = C at *
   simp [-Int.natCast_ediv,k_guard,k_guardU,hb,hc0,hc1,hc2,hc,hpbk,g,g',dq,w1,w2,hlt',hlt,hss,w3,w4]
   exact hfin ..
 obtain ⟨v,h',e,rfl,n',x,y,z,u⟩ := ret_ex (key (fun v h' => v = .tuple #[.int .i64 (a.bit c : Nat),.int .i64 0] ∧ ∃ n',DA h' d pb dv D n' (a.next c) ∧ n' ≤ n + 1 ∧ (∀ id,id ≠ d → id ≠ pb → blk? h' id = blk? h id) ∧ h'.length = h.length) fun h' n' x y z u => ⟨rfl,n',x,y,z,u⟩)
 exact ⟨h',n',e,x,y,z,u⟩
theorem zreset_c (I : DP h d pb dv D n p value size st) (h0 : 0 < p.length) (hn : p.length ≤ 1000) :
  ∃ h' pb',(∀ R : Value → Heap → Prop,Ret tab 76 [ptr d] h R = R (.tuple #[]) h') ∧ DP h' d pb' dv D n (AE.base p.length) value size st ∧ h.length ≤ pb' ∧ pb' < h'.length ∧ (∀ id,id < h.length → id ≠ d → blk? h' id = blk? h id) ∧ h.length ≤ h'.length := by
 obtain ⟨v,H1,e1,o1,f1,k1,l1⟩ := initial_x (h := h) (n := p.length) hn
 obtain ⟨pb',rfl,hpb⟩ := o1.ne_nil (by omega)
 have lpb := blk?_lt hpb
 have fpb := f1 pb' rfl
 have ld := blk?_lt I.blk
 have b1 : blk? H1 d = some ⟨false,[.slice (some ⟨pb,0,none⟩) p.length 1,dv,.int .i64 (n : Nat),.int .i64 (value : Nat),.int .i64 (size : Nat),.bool st]⟩ := by rw [k1 d ld]; exact I.blk
 have eb : (AE.base p.length).length = p.length := by simp [AE.base]
 refine ⟨H1.set d (some ⟨false,[.slice (some ⟨pb',0,none⟩) p.length 1,dv,.int .i64 (n : Nat),.int .i64 (value : Nat),.int .i64 (size : Nat),.bool st]⟩),pb',fun R => ?_,⟨by rw [blk?_set_eq (by omega),eb],by rw [blk?_set_ne (by omega)]; exact hpb,I.own.of_blk fun id hid hb => by rw [blk?_set_ne (fun x => I.ne2 (by rw [x]; exact hid)),k1 id (I.own.lt hid)]; exact hb,by omega,I.ne2,fun x => by have := I.own.lt x; omega⟩,fpb,by simp; omega,fun id hid hne => by rw [blk?_set_ne (Ne.symm hne),k1 id hid],by simp; omega⟩
 have hb := I.blk
 rw [enter76,B76]
 simp [hb,e1,b1,fin76]
theorem zdec_new : ∃ h' d pb,(∀ R : Value → Heap → Prop,Ret tab 73 [.int .i64 19] h R = R (.tuple #[ptr d,.int .i64 0]) h') ∧ DP h' d pb (.slice none 0 0) [] 0 (AE.base 19) 0 0 false ∧ h.length ≤ d ∧ h.length ≤ pb ∧ h.length ≤ h'.length ∧ ∀ id,id < h.length → blk? h' id = blk? h id := by
 obtain ⟨v,H1,e1,o1,f1,k1,l1⟩ := initial_x (h := h) (n := 19) (by omega)
 obtain ⟨pb,rfl,hpb⟩ := o1.ne_nil (by omega)
 have lpb := blk?_lt hpb
 have fpb := f1 pb rfl
 have e1' : ∀ R,Ret tab 88 [.int .i64 19] h R = R (.slice (some ⟨pb,0,none⟩) 19 1) H1 := e1
 refine ⟨H1 ++ [some ⟨false,[.slice (some ⟨pb,0,none⟩) 19 1,.slice none 0 0,.int .i64 0,.int .i64 0,.int .i64 0,.bool false]⟩],H1.length,pb,fun R => ?_,⟨by rw [blk?_push_eq]; simp [AE.base],by rw [blk?_push_lt lpb]; exact hpb,OwnS.nil _ _,by omega,by simp [sid],by simp [sid]⟩,l1,fpb,by simp; omega,fun id hid => by rw [blk?_push_lt (by omega),k1 id hid]⟩
 rw [enter73,B73]
 simp [k_guard,k_guardU,repL,e1',fin73]
end
set_option maxRecDepth 10000
theorem zbits_get : ∀ (x : Fin 256) (j : Fin 8),(shrI .i64 ((x.1 : Nat) : Int) ((j.1 : Nat) : Int)).tmod 2 = ((x.1 / 2 ^ j.1 % 2 : Nat) : Int) := by decide +kernel
section
variable {h : Heap} {R : Value → Heap → Prop} {q n : Nat} {s : Value} {xs : List Nat}
theorem zget_c (J : RB h q s xs n) (hn : n < 100000000) : Ret tab 205 [ptr q] h R = R (.int .i64 (bitAt xs n : Nat)) (h.set q (some ⟨false,[.bool true,s,.int .i64 ((n + 1 : Nat) : Int)]⟩)) := by
 have hb := J.blk
 have lq := blk?_lt hb
 have hs : ∀ x,blk? (h.set q x) q = x := fun x => blk?_set_eq lq
 have w1 : IntKind.i64.wrap ((n : Int) + 1) = ((n + 1 : Nat) : Int) := wrapN (n := n + 1) (by omega)
 have q1 : IntKind.i64.wrap ((n : Int).tdiv 8) = ((n / 8 : Nat) : Int) := by rw [Int.tdiv_eq_ediv_of_nonneg (by omega),wrapI (by omega) (by omega)]; omega
 have q1' : IntKind.i64.wrap ((n : Int) / 8) = ((n / 8 : Nat) : Int) := by rw [wrapI (by omega) (by omega)]; omega
 by_cases hlt : n / 8 < xs.length
 ·obtain ⟨id,off,b,e,hbk,hc⟩ := J.own.sl.get hlt
  have hc0 := hc 0 (by omega)
  rw [Nat.mul_one,Nat.add_zero,Nat.add_zero,nU_get hlt] at hc0
  have hx : xs.getD (n / 8) 0 < 256 := by rw [List.getD_eq_getElem?_getD,List.getElem?_eq_getElem hlt]; exact J.lt _ (List.getElem_mem hlt)
  have hbit := zbits_get ⟨xs.getD (n / 8) 0,hx⟩ ⟨7 - n % 8,by omega⟩
  simp only at hbit
  have ebit : bitAt xs n = xs.getD (n / 8) 0 / 2 ^ (7 - n % 8) % 2 := rfl
  rw [← ebit] at hbit
  have q2 : (0 : Int) ≤ ((n / 8 : Nat) : Int) := by omega
  have q3 : ((n / 8 : Nat) : Int) < (xs.length : Int) := by omega
  have q3' : ¬ (xs.length : Int) ≤ ((n / 8 : Nat) : Int) := by omega
  have q4 : ((n / 8 : Nat) : Int).toNat = n / 8 := Int.toNat_natCast _
  have q5 : IntKind.i64.wrap (7 - (n : Int).tmod 8) = ((7 - n % 8 : Nat) : Int) := by rw [Int.tmod_eq_emod_of_nonneg (by omega),wrapI (by omega) (by omega)]; omega
  have q6 : ¬ ((7 - n % 8 : Nat) : Int) < 0 := by omega
  have q7 : IntKind.u64.wrap ((7 - n % 8 : Nat) : Int) = ((7 - n % 8 : Nat) : Int) := by rw [IntKind.wrap_u64]; omega
  have q8 : IntKind.i64.wrap ((xs.getD (n / 8) 0 : Nat) : Int) = ((xs.getD (n / 8) 0 : Nat) : Int) := wrapN (by omega)
  have hne : id ≠ q := fun x => J.ne (by rw [e]; simp [sid,x])
  have hs2 : ∀ x,blk? (h.set q x) id = some b := fun x => by rw [blk?_set_ne (Ne.symm hne)]; exact hbk
  clear ebit
  generalize ((bitAt xs n : Nat) : Int) = bt at *
  generalize ((xs.getD (n / 8) 0 : Nat) : Int) = xv at *
  generalize ((7 - n % 8 : Nat) : Int) = sh at *
  generalize hn8 : ((n / 8 : Nat) : Int) = n8 at *
  generalize ((n + 1 : Nat) : Int) = n1 at *
  generalize n / 8 = m8 at *
  rw [e] at hb ⊢
  rw [enter205,B205]
  simp [k_guard,k_guardU,hb,w1,hs,q1,q1',q2,q3,q3',q4,hlt,hs2,hc0,q5,q6,q7,q8,hbit,fin205]
 ·obtain ⟨sa,sc,hsv⟩ := J.own.sl.shape
  have e : bitAt xs n = 0 := by
   unfold bitAt
   rw [List.getD_eq_getElem?_getD,List.getElem?_eq_none (by omega)]; simp
  rw [e]
  have q3 : (xs.length : Int) ≤ ((n / 8 : Nat) : Int) := by omega
  generalize hn8 : ((n / 8 : Nat) : Int) = n8 at *
  generalize ((n + 1 : Nat) : Int) = n1 at *
  rw [hsv] at hb ⊢
  rw [enter205,B205]
  simp [k_guard,k_guardU,hb,w1,hs,q1,q1',q3,fin205]
theorem znewReader_c {tv : Value} {D : List Nat} (ht : Sl h 1 tv D.length (nU D)) (hD : ∀ x ∈ D,x < 256) (hl : D.length < 100000000) :
  ∃ h' q s,(∀ R : Value → Heap → Prop,Ret tab 74 [tv] h R = R (ptr q) h') ∧ RB h' q s D 0 ∧ (∀ id,id < h.length → blk? h' id = blk? h id) ∧ h.length ≤ h'.length ∧ (∀ id,ownR q s id → h.length ≤ id) := by
 have ht' : Sl (h ++ [some ⟨false,[]⟩]) 1 tv D.length (nU D) := ht.of_sid fun id b hid hb => by rw [blk?_push_lt (blk?_lt hb)]; exact hb
 obtain ⟨t1,H1,a1,o1,l1,k1,g1⟩ := app_any (bytes := 1) (h := h ++ [some ⟨false,[]⟩]) (t := .slice (some ⟨h.length,0,none⟩) 0 1) (n := 0) (cs := []) ⟨rfl,.inr ⟨h.length,rfl,blk?_push_eq⟩⟩ ht' (by unfold roomCells; omega) (by omega)
 rw [Nat.zero_add,List.nil_append] at o1
 have k1' : ∀ id,id < h.length → blk? H1 id = blk? h id := fun id hid => by rw [k1 id (by simp; omega) (by simp [sid]; omega),blk?_push_lt hid]
 have hll : (h ++ [some (⟨false,[]⟩ : Blk)]).length = h.length + 1 := by simp
 rw [hll] at l1 g1
 refine ⟨H1 ++ [some ⟨false,[.bool true,t1,.int .i64 ((0 : Nat) : Int)]⟩],H1.length,t1,fun R => ?_,⟨blk?_push_eq,o1.of_blk fun id hid hb => by rw [blk?_push_lt (blk?_lt hb)]; exact hb,fun x => by have := g1 _ x; omega,hD⟩,fun id hid => by rw [blk?_push_lt (by omega),k1' id hid],by simp; omega,fun id hid => ?_⟩
 ·obtain ⟨ta,tc,ht1⟩ := o1.sl.shape
  rw [ht1] at a1 ⊢
  rw [enter74,B74]
  simp [repL,a1,writeAt,fin74]
 ·rcases hid with rfl | hid
  ·omega
  ·have := (g1 id hid).1; omega
end
def Tr.Cx {α : Type} (p : Int → Prop) : Tr α → Prop
 | .ret _ => True
 | .ask c k => p c ∧ ∀ b,(k b).Cx p
theorem Tr.Cx.bind {α β : Type} {p : Int → Prop} {f : α → Tr β} (hf : ∀ a,(f a).Cx p) : ∀ {t : Tr α},t.Cx p → (t.bind f).Cx p
 | .ret a,_ => hf a
 | .ask c k,h => ⟨h.1,fun b => Tr.Cx.bind hf (h.2 b)⟩
theorem Tr.Cx.bindr {α β : Type} {p : Int → Prop} {g : α → β} {t : Tr α} (h : t.Cx p) : (t.bind fun a => .ret (g a)).Cx p := Tr.Cx.bind (f := fun a => .ret (g a)) (fun _ => trivial) h
def cxOk (rw : Bool) (c : Int) : Prop := (rw = true → c = -1) ∧ (rw = false → 0 ≤ c ∧ c < 19)
theorem cx_ok {P : PP} {c : Int} (h0 : 0 ≤ c) (h1 : c ≤ 18) : cxOk P.rw (P.cx c) := by
 unfold cxOk PP.cx
 cases P.rw <;> simp <;> omega
section
variable {P : PP}
theorem cx_dsign (b : BS) (x y : Int) : (dsign P b x y).Cx (cxOk P.rw) := by
 have := signCtx_rng (joint_rng (sgn b (x - 1) y) (sgn b (x + 1) y)) (joint_rng (sgn b x (y - 1)) (if (!P.cz || y % 4 != 3) = true then sgn b x (y + 1) else 0))
 change 9 ≤ signCtx (sgH b x y) (sgV b x y P.cz) ∧ signCtx (sgH b x y) (sgV b x y P.cz) ≤ 13 at this
 exact ⟨cx_ok (by omega) (by omega),fun _ => trivial⟩
theorem cx_dcode (b : BS) (x y : Int) : (dcode P b x y).Cx (cxOk P.rw) := by
 have := ctxOf_le P b x y
 refine ⟨cx_ok (by omega) (by omega),fun bit => ?_⟩
 show Tr.Cx _ (if bit = true then dsign P b x y else .ret b)
 split
 ·exact cx_dsign b x y
 ·trivial
theorem cx_dsig1 (b : BS) (x y : Int) : (dsig1 P b x y).Cx (cxOk P.rw) := by
 unfold dsig1
 split
 ·exact Tr.Cx.bindr (cx_dcode b x y)
 ·trivial
theorem cx_dref1 (b : BS) (x y : Int) : (dref1 P b x y).Cx (cxOk P.rw) := by
 unfold dref1
 split
 ·trivial
 ·have := refCtx_rng (!(b.get x y).r) (near b x y P.cz)
  exact ⟨cx_ok (by omega) (by omega),fun _ => trivial⟩
theorem cx_dcln1 (b : BS) (x y : Int) : (dcln1 P b x y).Cx (cxOk P.rw) := by
 unfold dcln1
 split
 ·exact cx_dcode b x y
 ·trivial
theorem cx_drows (x : Int) : ∀ (n : Nat) (b : BS) (y : Int),(drows P b x y n).Cx (cxOk P.rw)
 | 0,_,_ => trivial
 | n + 1,b,y => Tr.Cx.bind (fun b => cx_drows x n b (y + 1)) (cx_dcln1 b x y)
theorem cx_drun (b : BS) (x top : Int) : (drun P b x top).Cx (cxOk P.rw) := by
 refine ⟨cx_ok (by omega) (by omega),fun r => ?_⟩
 show Tr.Cx _ (if r = true then _ else _)
 split
 ·exact ⟨cx_ok (by omega) (by omega),fun k1 => ⟨cx_ok (by omega) (by omega),fun k0 => Tr.Cx.bindr (cx_dsign b x _)⟩⟩
 ·trivial
theorem cx_dcol (b : BS) (x top : Int) : (dcol P b x top).Cx (cxOk P.rw) := by
 unfold dcol
 split
 ·exact Tr.Cx.bind (fun r => cx_drows x _ r.1 r.2) (cx_drun b x top)
 ·exact cx_drows x _ b top
theorem cx_dcols (top : Int) : ∀ (n : Nat) (b : BS) (x : Int),(dcols P b x top n).Cx (cxOk P.rw)
 | 0,_,_ => trivial
 | n + 1,b,x => Tr.Cx.bind (fun b => cx_dcols top n b (x + 1)) (cx_dcol b x top)
theorem cx_dstripes : ∀ (n : Nat) (b : BS) (top : Int),(dstripes P b top n).Cx (cxOk P.rw)
 | 0,_,_ => trivial
 | n + 1,b,top => Tr.Cx.bind (fun b => cx_dstripes n b (top + 4)) (cx_dcols top b.w b 0)
theorem cx_dsigs : ∀ (l : List (Int × Int)) (b : BS),(dsigs P b l).Cx (cxOk P.rw)
 | [],_ => trivial
 | p :: l,b => Tr.Cx.bind (fun b => cx_dsigs l b) (cx_dsig1 b p.1 p.2)
theorem cx_drefs : ∀ (l : List (Int × Int)) (b : BS),(drefs P b l).Cx (cxOk P.rw)
 | [],_ => trivial
 | p :: l,b => Tr.Cx.bind (fun b => cx_drefs l b) (cx_dref1 b p.1 p.2)
theorem cx_dchk : ∀ (l : List Bool) (r : Bool),(dchk P r l).Cx (cxOk P.rw)
 | [],_ => trivial
 | x :: l,r => ⟨cx_ok (by omega) (by omega),fun bit => cx_dchk l _⟩
theorem cx_dclean (b : BS) (on : Bool) : (dclean P b on).Cx (cxOk P.rw) := by
 refine Tr.Cx.bind (fun b => Tr.Cx.bindr ?_) (cx_dstripes _ b 0)
 unfold dcheck
 split
 ·exact cx_dchk _ _
 ·trivial
end
theorem cx_dRun (m : MD) (b : BS) (n planes o : Nat) : (dRun m b n planes o).Cx (cxOk (rawOf m n)) := by
 have e : (runPP m n planes o).rw = rawOf m n := rfl
 rw [← e]
 unfold dRun
 split
 ·exact Tr.Cx.bindr (cx_dsigs _ b)
 ·split
  ·exact Tr.Cx.bindr (cx_drefs _ b)
  ·exact cx_dclean b m.sy
structure QR where
 on : Bool
 a : AD
 rd : List Nat × Nat
 l : List (Int × Nat)
def QR.bit (s : QR) (x : Int) : Nat := if 0 ≤ x then (if s.on = true then (askA s.a none x).1 else 0) else bitAt s.rd.1 s.rd.2
def QR.ask (s : QR) (x : Int) : Bool × QR := (s.bit x == 1,⟨s.on,if 0 ≤ x ∧ s.on = true then (askA s.a none x).2.1 else s.a,if 0 ≤ x then s.rd else (s.rd.1,s.rd.2 + 1),s.l ++ [(x,s.bit x)]⟩)
theorem QR.bit_lt (s : QR) (x : Int) : s.bit x < 2 := by
 unfold QR.bit
 split
 ·split
  ·exact askA_lt _ _ _
  ·omega
 ·unfold bitAt; omega
theorem run_none {α : Type} : ∀ (t : Tr α) (a : AD) (rd : List Nat × Nat) (l : List (Int × Nat)),t.Cx (cxOk false) →
  t.run QR.ask ⟨true,a,rd,l⟩ = ((t.run RS.ask ⟨a,none,l⟩).1,⟨true,(t.run RS.ask ⟨a,none,l⟩).2.a,rd,(t.run RS.ask ⟨a,none,l⟩).2.l⟩) ∧ (t.run RS.ask ⟨a,none,l⟩).2.raw = none
 | .ret v,a,rd,l,_ => ⟨rfl,rfl⟩
 | .ask c k,a,rd,l,h => by
  obtain ⟨h1,h2⟩ := h
  obtain ⟨c0,c1⟩ := h1.2 rfl
  have e1 : QR.ask ⟨true,a,rd,l⟩ c = ((askA a none c).1 == 1,⟨true,(askA a none c).2.1,rd,l ++ [(c,(askA a none c).1)]⟩) := by
   simp only [QR.ask,QR.bit,c0,if_true,and_self]
  have e2 : RS.ask ⟨a,none,l⟩ c = ((askA a none c).1 == 1,⟨(askA a none c).2.1,none,l ++ [(c,(askA a none c).1)]⟩) := by
   have : (askA a none c).2.2 = none := by unfold askA; simp only; split <;> rfl
   simp only [RS.ask,this]
  rw [Tr.run_ask,Tr.run_ask,e1,e2]
  exact run_none (k _) _ rd _ (h2 _)
theorem run_some {α : Type} (on : Bool) : ∀ (t : Tr α) (a : AD) (xs : List Nat) (n : Nat) (l : List (Int × Nat)),t.Cx (cxOk true) →
  ∃ n',t.run QR.ask ⟨on,a,(xs,n),l⟩ = ((t.run RS.ask ⟨a,some (xs,n),l⟩).1,⟨on,a,(xs,n'),(t.run RS.ask ⟨a,some (xs,n),l⟩).2.l⟩) ∧ (t.run RS.ask ⟨a,some (xs,n),l⟩).2.raw = some (xs,n') ∧ (t.run RS.ask ⟨a,some (xs,n),l⟩).2.a = a
 | .ret v,a,xs,n,l,_ => ⟨n,rfl,rfl,rfl⟩
 | .ask c k,a,xs,n,l,h => by
  obtain ⟨h1,h2⟩ := h
  have hc := h1.1 rfl
  subst hc
  have e1 : QR.ask ⟨on,a,(xs,n),l⟩ (-1) = (bitAt xs n == 1,⟨on,a,(xs,n + 1),l ++ [(-1,bitAt xs n)]⟩) := by
   simp [QR.ask,QR.bit]
  have e2 : RS.ask ⟨a,some (xs,n),l⟩ (-1) = (bitAt xs n == 1,⟨a,some (xs,n + 1),l ++ [(-1,bitAt xs n)]⟩) := by
   simp only [RS.ask,askA]
  rw [Tr.run_ask,Tr.run_ask,e1,e2]
  exact run_some on (k _) a xs (n + 1) _ (h2 _)
theorem Tr.bind_assoc {α β γ : Type} (f : α → Tr β) (g : β → Tr γ) : ∀ t : Tr α,(t.bind f).bind g = t.bind fun a => (f a).bind g
 | .ret a => rfl
 | .ask c k => by
  simp only [Tr.bind]
  congr 1
  funext b
  exact Tr.bind_assoc f g (k b)
theorem Tr.bind_congr {α β : Type} {Q : α → Prop} {f g : α → Tr β} (hf : ∀ a,Q a → f a = g a) : ∀ {t : Tr α} {n : Nat},t.Lv Q n → t.bind f = t.bind g
 | .ret a,n,h => by unfold Tr.Lv at h; exact hf a h
 | .ask c k,0,h => by simp [Tr.Lv] at h
 | .ask c k,n + 1,h => by
  unfold Tr.Lv at h
  simp only [Tr.bind]
  congr 1
  funext b
  exact Tr.bind_congr hf (h b)
theorem Tr.ret_bind {α β : Type} (a : α) (f : α → Tr β) : (Tr.ret a).bind f = f a := rfl
def quietQ (b : BS) (x y : Int) (k : Bool) : Bool := decide (y % 4 = 0) && quiet b x y k
theorem quietQ_top {b : BS} {x y : Int} {k : Bool} (h : quietQ b x y k = true) : y + 4 ≤ b.h := by
 simp only [quietQ,quiet,Bool.and_eq_true,decide_eq_true_eq] at h; exact h.2.1
def dcstep (P : PP) (τ : BS × Nat) (p : Int × Int) : Tr (BS × Nat) :=
 match τ.2 with
 | s + 1 => .ret (τ.1,s)
 | 0 => if quietQ τ.1 p.1 p.2 P.cz = true then (drun P τ.1 p.1 p.2).bind fun r => .ret (r.1,(r.2 - p.2 - 1).toNat) else (dcln1 P τ.1 p.1 p.2).bind fun b => .ret (b,0)
def dcsteps (P : PP) (τ : BS × Nat) : List (Int × Int) → Tr (BS × Nat)
 | [] => .ret τ
 | p :: l => (dcstep P τ p).bind fun τ => dcsteps P τ l
theorem dcsteps_append (P : PP) : ∀ (a b : List (Int × Int)) (τ : BS × Nat),dcsteps P τ (a ++ b) = (dcsteps P τ a).bind fun τ => dcsteps P τ b
 | [],b,τ => rfl
 | p :: a,b,τ => by
  rw [List.cons_append,dcsteps,dcsteps,Tr.bind_assoc]
  congr 1
  funext τ
  exact dcsteps_append P a b τ
theorem dcsteps_skip (P : PP) (b : BS) (x : Int) (n : Nat) : ∀ (k : Nat) (y : Int),dcsteps P (b,k) (colPts x y (k + n)) = dcsteps P (b,0) (colPts x (y + k) n)
 | 0,y => by simp
 | k + 1,y => by
  rw [show k + 1 + n = (k + n) + 1 by omega,colPts]
  show dcsteps P (b,k) (colPts x (y + 1) (k + n)) = _
  rw [dcsteps_skip P b x n k (y + 1)]
  congr 2; omega
theorem dcsteps_rows (P : PP) (x : Int) : ∀ (n : Nat) (y : Int) (b : BS),(∀ j : Nat,j < n → (y + j) % 4 ≠ 0) → dcsteps P (b,0) (colPts x y n) = (drows P b x y n).bind fun b => .ret (b,0)
 | 0,y,b,_ => rfl
 | n + 1,y,b,h => by
  have h0 : y % 4 ≠ 0 := by have := h 0 (by omega); simpa using this
  have hq : quietQ b x y P.cz = false := by simp [quietQ,h0]
  have : dcstep P (b,0) (x,y) = (dcln1 P b x y).bind fun b => .ret (b,0) := by simp [dcstep,hq]
  rw [colPts,dcsteps,this,Tr.bind_assoc,drows,Tr.bind_assoc]
  congr 1
  funext b
  exact dcsteps_rows P x n (y + 1) _ (fun j hj => by have := h (j + 1) (by omega); rw [show y + 1 + (j : Int) = y + ((j + 1 : Nat) : Int) by omega]; exact this)
theorem dcsteps_col {P : PP} (hp : P.Ok) {b : BS} (hg : b.Good) {x top : Int} (hi : b.inb x top) (h4 : top % 4 = 0) :
  dcsteps P (b,0) (colPts x top (min (top + 4) (b.h : Int) - top).toNat) = (dcol P b x top).bind fun b => .ret (b,0) := by
 have hi0 := hi
 obtain ⟨i1,i2,i3,i4⟩ := hi
 cases hq : quiet b x top P.cz
 ·have hcol : dcol P b x top = drows P b x top (min (top + 4) b.h - top).toNat := by unfold dcol; rw [if_neg (by simp [hq])]
  rw [hcol]
  obtain ⟨n,hn⟩ : ∃ n,(min (top + 4) (b.h : Int) - top).toNat = n + 1 := ⟨(min (top + 4) (b.h : Int) - top).toNat - 1,by omega⟩
  rw [hn,colPts,dcsteps,drows]
  have : dcstep P (b,0) (x,top) = (dcln1 P b x top).bind fun b => .ret (b,0) := by simp [dcstep,quietQ,hq]
  rw [this,Tr.bind_assoc,Tr.bind_assoc]
  congr 1
  funext b
  exact dcsteps_rows P x n (top + 1) _ (fun j hj => by omega)
 ·have htop : top + 4 ≤ b.h := by
   simp only [quiet,Bool.and_eq_true,decide_eq_true_eq] at hq; exact hq.1
  have hcol : dcol P b x top = (drun P b x top).bind fun r => drows P r.1 x r.2 (min (top + 4) r.1.h - r.2).toNat := by unfold dcol; rw [if_pos hq]
  rw [hcol]
  rw [show (min (top + 4) (b.h : Int) - top).toNat = 3 + 1 by omega,colPts,dcsteps]
  have : dcstep P (b,0) (x,top) = (drun P b x top).bind fun r => .ret (r.1,(r.2 - top - 1).toNat) := by simp [dcstep,quietQ,hq,h4]
  rw [this,Tr.bind_assoc,Tr.bind_assoc]
  refine Tr.bind_congr (fun r hr => ?_) (lv_drun hp hg hi0 htop)
  obtain ⟨τ,y⟩ := r
  obtain ⟨b1,b2,b3⟩ := hr
  simp only at b1 b2 b3 ⊢
  rw [Tr.ret_bind]
  have e3 : 3 = (y - top - 1).toNat + (top + 4 - y).toNat := by omega
  have := dcsteps_skip P τ x (top + 4 - y).toNat (y - top - 1).toNat (top + 1)
  rw [← e3] at this
  rw [this,show top + 1 + ((y - top - 1).toNat : Int) = y by omega,show (min (top + 4) (τ.h : Int) - y).toNat = (top + 4 - y).toNat by rw [b1.h]; omega]
  exact dcsteps_rows P x _ y τ (fun j hj => by omega)
theorem dcsteps_cols {P : PP} (hp : P.Ok) {w h : Nat} : ∀ (n : Nat) (b : BS) (x top : Int),b.Good → b.w = w → b.h = h → 0 ≤ x → x + n ≤ w → 0 ≤ top → top < h → top % 4 = 0 → dcsteps P (b,0) (stripePts h x top n) = (dcols P b x top n).bind fun b => .ret (b,0)
 | 0,b,x,top,_,_,_,_,_,_,_,_ => rfl
 | n + 1,b,x,top,hg,hw,hh,h1,h2,h3,h4,h5 => by
  have hi : b.inb x top := ⟨h1,by omega,h3,by omega⟩
  have hc := dcsteps_col hp hg hi h5
  rw [stripePts,dcsteps_append,← hh,hc,hh,dcols,Tr.bind_assoc,Tr.bind_assoc]
  refine Tr.bind_congr (fun a ha => ?_) (lv_dcol hp hg hi)
  rw [Tr.ret_bind]
  exact dcsteps_cols hp n _ (x + 1) top ha.good (ha.w.trans hw) (ha.h.trans hh) (by omega) (by omega) h3 h4 h5
theorem dcsteps_scan {P : PP} (hp : P.Ok) {w h : Nat} : ∀ (n : Nat) (b : BS) (top : Int),b.Good → b.w = w → b.h = h → 0 ≤ top → top + 4 * n ≤ h + 3 → top % 4 = 0 → dcsteps P (b,0) (scanPts w h top n) = (dstripes P b top n).bind fun b => .ret (b,0)
 | 0,b,top,_,_,_,_,_,_ => rfl
 | n + 1,b,top,hg,hw,hh,h1,h2,h3 => by
  have hc := dcsteps_cols hp (w := w) (h := h) w b 0 top hg hw hh (by omega) (by omega) h1 (by omega) h3
  rw [scanPts,dcsteps_append,hc,dstripes,hw,Tr.bind_assoc,Tr.bind_assoc]
  refine Tr.bind_congr (fun a ha => ?_) (lv_dcols hp (n := w) hg (x := 0) (top := top) (by omega) (by omega) h1 (by omega))
  rw [Tr.ret_bind]
  exact dcsteps_scan hp n _ (top + 4) ha.good (ha.w.trans hw) (ha.h.trans hh) (by omega) (by omega) (by omega)
theorem dcsteps_all {P : PP} (hp : P.Ok) {b : BS} (hg : b.Good) : dcsteps P (b,0) (scan b.w b.h) = (dstripes P b 0 (stripesOf b.h)).bind fun b => .ret (b,0) :=
 dcsteps_scan hp _ b 0 hg rfl rfl (by omega) (by unfold stripesOf; omega) (by omega)
theorem lv_dcstep {P : PP} (hp : P.Ok) {τ : BS × Nat} (hg : τ.1.Good) {p : Int × Int} (hi : τ.1.inb p.1 p.2) : (dcstep P τ p).Lv (fun υ => τ.1.Le υ.1 ∧ υ.2 ≤ max τ.2 3) 4 := by
 obtain ⟨b,s⟩ := τ
 cases s with
 | succ s => exact (⟨BS.Le.refl hg,Nat.le_trans (Nat.le_succ s) (Nat.le_max_left _ _)⟩ : b.Le b ∧ s ≤ max (s + 1) 3)
 | zero =>
  simp only [dcstep]
  split
  ·rename_i hq
   refine Tr.Lv.bind (n := 4) (m := 0) (fun r hr => ?_) (lv_drun hp hg hi (quietQ_top hq))
   obtain ⟨a,b',c⟩ := hr
   exact (⟨a,Nat.le_trans (by omega) (Nat.le_max_right _ _)⟩ : b.Le r.1 ∧ (r.2 - p.2 - 1).toNat ≤ max 0 3)
  ·refine Tr.Lv.bind (n := 2) (m := 2) (fun a ha => ?_) (lv_dcln1 hp hg hi)
   exact (⟨ha,by simp⟩ : b.Le a ∧ 0 ≤ max 0 3)
def callN (sb : Nat) : Heap → Int → (Value → Heap → Prop) → Prop := fun h x R => Ret tab 185 [ptr sb,.int .i64 x] h R
structure QD (h : Heap) (f : Bool) (q p c : Nat) (P : PP) (m : MD) (sb : Nat) (b : BS) : Prop where
 blk : blk? h q = some ⟨f,[ptr p,.int .i64 P.s,.int .i64 P.o,.bool m.byp,.bool m.res,.bool m.rst,.bool P.cz,.bool m.sy,.bool P.rw,ptr sb]⟩
 cb : CB h f p c b
 sbl : sb < h.length
 pok : P.Ok
 rng : b.Rng
theorem QD.frz {h : Heap} {f : Bool} {q p c : Nat} {P : PP} {m : MD} {sb : Nat} {b : BS} (hr : QD h f q p c P m sb b) : QD (frz h) true q p c P m sb b :=
 ⟨blk_frz hr.blk (by simp [hr.sbl,blk?_lt hr.cb.blkp]),hr.cb.frz,by rw [len_frz]; exact hr.sbl,hr.pok,hr.rng⟩
theorem QD.keep {h h' : Heap} {q p c : Nat} {P : PP} {m : MD} {sb : Nat} {b : BS} (hr : QD h false q p c P m sb b) (hk : ∀ id,id = q ∨ id = p ∨ id = c → blk? h' id = blk? h id) (hl : h.length ≤ h'.length) : QD h' false q p c P m sb b :=
 ⟨by rw [hk q (.inl rfl)]; exact hr.blk,⟨by rw [hk p (.inr (.inl rfl))]; exact hr.cb.blkp,by rw [hk c (.inr (.inr rfl))]; exact hr.cb.blkc,hr.cb.ok⟩,Nat.lt_of_lt_of_le hr.sbl hl,hr.pok,hr.rng⟩
section
variable {h : Heap} {f : Bool} {q p c : Nat} {P : PP} {m : MD} {sb : Nat} {b : BS} {x y : Int} {R : Value → Heap → Prop}
theorem set_bad_r (hb : CB h false p c b) (hi : b.inb x y) {v : Int} (hv : ¬ (-1152921504606846976 < v ∧ v < 1152921504606846976)) : ∃ e : Int,∀ R,Ret tab 85 [ptr p,.int .i64 x,.int .i64 y,.int .i64 v] h R = R (.int .i64 e) h := by
 have hlp := blk?_lt hb.blkp
 have hp := hb.blkp
 refine ⟨2,fun R => ?_⟩
 rw [enter85,B85]
 by_cases h1 : v ≤ -1152921504606846976
 ·simp [k_guard,k_guardU,hlp,error_r hb hi,hp,h1,fin85]
 ·have h2 : 1152921504606846976 ≤ v := by omega
  simp [k_guard,hlp,error_r hb hi,hp,h1,h2,fin85]
theorem near_q (hr : QD h f q p c P m sb b) (hi : b.inb x y) : Ret tab 153 [ptr q,.int .i64 x,.int .i64 y] h R = R (.int .i64 (nbH b x y + nbV b x y P.cz + nbD b x y P.cz : Nat)) h := by
 have hq := hr.frz.blk
 have hlq := blk?_lt hr.blk
 obtain ⟨n1,n2,n3⟩ := nb_le b x y P.cz
 have s1 : IntKind.i64.wrap ((nbH b x y : Int) + (nbV b x y P.cz : Int)) = ((nbH b x y + nbV b x y P.cz : Nat) : Int) := wrapNN (by omega)
 have s2 : IntKind.i64.wrap (((nbH b x y + nbV b x y P.cz : Nat) : Int) + (nbD b x y P.cz : Int)) = ((nbH b x y + nbV b x y P.cz + nbD b x y P.cz : Nat) : Int) := wrapNN (by omega)
 rw [enter153,B153]
 simp [-Int.natCast_add,hq,hlq,neighbors_r hr.frz.cb hi,s1,s2,fin153]
theorem quiet_loop_q (hr : QD h true q p c P m sb b) {x : Int} (hx : 0 ≤ x ∧ x < b.w) {top : Int} (ht : 0 ≤ top ∧ top + 4 ≤ b.h) {k : List RItem} {R : Value → Heap → Prop} {v3 v8 : Value}
  (hk : ∀ K4 K5 K6 K7 K9 Ka Kb Kc Kd Ke Kf Kg Kh Ki Kj Kk Kl Km Kn Ko Kp Kq Kr Ks Kt Ku Kv Kw Kx Ky Kz J0 J1 J2 J3 J4 J5 J6 J7 J8 J9 Ja Jb Jc Jd Je Jf : Value,Ok tab R160 k #[ptr q,.int .i64 x,.int .i64 top,v3,K4,K5,K6,K7,v8,K9,Ka,Kb,Kc,Kd,Ke,Kf,Kg,Kh,Ki,Kj,Kk,Kl,Km,Kn,Ko,Kp,Kq,Kr,Ks,Kt,Ku,Kv,Kw,Kx,Ky,Kz,J0,J1,J2,J3,J4,J5,J6,J7,J8,J9,Ja,Jb,Jc,Jd,Je,Jf] h R = R (.bool true) h) :
  ∀ (n i : Nat) (K4 K5 K6 K7 Ka Kb Kc Kd Ke Kf Kg Kh Ki Kj Kk Kl Km Kn Ko Kp Kq Kr Ks Kt Ku Kv Kw Kx Ky Kz J0 J1 J2 J3 J4 J5 J6 J7 J8 J9 Ja Jb Jc Jd Je Jf : Value),i + n = 4 →
   Ok tab R160 (.inLoop L160_0 :: .inBlock 0 :: k) #[ptr q,.int .i64 x,.int .i64 top,v3,K4,K5,K6,K7,v8,.int .i64 i,Ka,Kb,Kc,Kd,Ke,Kf,Kg,Kh,Ki,Kj,Kk,Kl,Km,Kn,Ko,Kp,Kq,Kr,Ks,Kt,Ku,Kv,Kw,Kx,Ky,Kz,J0,J1,J2,J3,J4,J5,J6,J7,J8,J9,Ja,Jb,Jc,Jd,Je,Jf] h R = R (.bool (quietFrom b x (top + i) P.cz n)) h := by
 intro n
 induction n with
 | zero =>
  intro i;intros;rename_i hi
  obtain rfl : i = 4 := by omega
  rw [ok_round,l160_0,L160_0a,L160_0b]
  simp [hk,quietFrom]
 | succ n ih =>
  intro i;intros;rename_i hi
  have hb2 := hr.cb.ok.h2
  have hw1 : IntKind.i64.wrap ((i : Int) + 1) = ((i + 1 : Nat) : Int) := wrapN (n := i + 1) (by omega)
  have hw2 : IntKind.i64.wrap (top + (i : Int)) = top + (i : Int) := wrapI (by omega) (by omega)
  have hlt : (i : Int) < 4 := by omega
  have hi' : b.inb x (top + i) := ⟨hx.1,hx.2,by omega,by show top + (i : Int) < b.h; omega⟩
  have hq := hr.blk
  have ih' := fun K4 K5 K6 K7 Ka Kb Kc Kd Ke Kf Kg Kh Ki Kj Kk Kl Km Kn Ko Kp Kq Kr Ks Kt Ku Kv Kw Kx Ky Kz J0 J1 J2 J3 J4 J5 J6 J7 J8 J9 Ja Jb Jc Jd Je Jf => ih (i + 1) K4 K5 K6 K7 Ka Kb Kc Kd Ke Kf Kg Kh Ki Kj Kk Kl Km Kn Ko Kp Kq Kr Ks Kt Ku Kv Kw Kx Ky Kz J0 J1 J2 J3 J4 J5 J6 J7 J8 J9 Ja Jb Jc Jd Je Jf (by omega)
  have hnp : decide (0 < nbH b x (top + i) + nbV b x (top + i) P.cz + nbD b x (top + i) P.cz) = near b x (top + i) P.cz := rfl
  have hyy : top + ((i + 1 : Nat) : Int) = top + (i : Int) + 1 := by omega
  rw [ok_round,l160_0,L160_0a,L160_0b]
  cases hs : (b.get x (top + i)).s
  ·cases ht : (b.get x (top + i)).t
   ·cases hn : near b x (top + i) P.cz
    ·rw [hn] at hnp
     simp [-Int.natCast_add,k_guard,hw1,hw2,hlt,hq,significant_r hr.cb,touched_r hr.cb,near_q hr hi',hs,ht,hn,hnp,ih',hyy,quietFrom,still]
    ·rw [hn] at hnp
     simp [-Int.natCast_add,k_guard,hw1,hw2,hlt,hq,significant_r hr.cb,touched_r hr.cb,near_q hr hi',hs,ht,hn,hnp,quietFrom,still,fin160]
   ·simp [-Int.natCast_add,k_guard,k_guardU,hw1,hw2,hlt,hq,significant_r hr.cb,touched_r hr.cb,hs,ht,quietFrom,still,fin160]
  ·simp [-Int.natCast_add,k_guard,k_guardU,hw1,hw2,hlt,hq,significant_r hr.cb,hs,quietFrom,still,fin160]
theorem quiet_q (hr : QD h f q p c P m sb b) {x y : Int} (hi : b.inb x y) : Ret tab 160 [ptr q,.int .i64 x,.int .i64 y,.int .i64 b.h] h R = R (.bool (quietQ b x y P.cz)) h := by
 have hq := hr.frz.blk
 have hlq := blk?_lt hr.blk
 obtain ⟨i1,i2,i3,i4⟩ := hi
 have hb2 := hr.cb.ok.h2
 have hw : IntKind.i64.wrap (y + 4) = y + 4 := wrapI (by omega) (by omega)
 have hm := tmod4 i3
 rw [enter160,B160]
 by_cases hy : y % 4 = 0
 ·by_cases h4 : y + 4 ≤ b.h
  ·have h4' : ¬ (b.h : Int) < y + 4 := by omega
   have := fun K4 K5 K6 K7 Ka Kb Kc Kd Ke Kf Kg Kh Ki Kj Kk Kl Km Kn Ko Kp Kq Kr Ks Kt Ku Kv Kw Kx Ky Kz J0 J1 J2 J3 J4 J5 J6 J7 J8 J9 Ja Jb Jc Jd Je Jf v3 v8 R hk => quiet_loop_q (R := R) (v3 := v3) (v8 := v8) hr.frz ⟨i1,i2⟩ (top := y) ⟨i3,h4⟩ (k := [.code ((RCode.region [⟨some 8,.mov (.const (.bool true)),none⟩] []).seq .ret)]) hk 4 0 K4 K5 K6 K7 Ka Kb Kc Kd Ke Kf Kg Kh Ki Kj Kk Kl Km Kn Ko Kp Kq Kr Ks Kt Ku Kv Kw Kx Ky Kz J0 J1 J2 J3 J4 J5 J6 J7 J8 J9 Ja Jb Jc Jd Je Jf (by omega)
   simp at this
   simp [k_guard,hq,hlq,hw,hm,hy,h4']
   rw [this]
   ·simp [quietQ,quiet,h4,hy]
   ·intros
    simp [fin160]
  ·have h4' : (b.h : Int) < y + 4 := by omega
   simp [k_guard,hq,hlq,hw,hm,hy,h4',quietQ,quiet,h4,fin160]
 ·have hy' : (y % 4 != 0) = true := by simp [hy]
  simp [k_guard,k_guardU,hq,hlq,hm,hy',quietQ,hy,fin160]
end
structure PQ {c sb : Nat} (A : Src c (callN sb)) (h : Heap) (q p : Nat) (P : PP) (m : MD) (t : A.T) (b : BS) (s : A.S) : Prop where
 qr : QD h false q p c P m sb b
 rel : A.rel h t s
 n1 : c ≠ q ∧ c ≠ p
 n3 : ¬ A.own t q ∧ ¬ A.own t p
section
variable {c sb : Nat} {A : Src c (callN sb)} {h : Heap} {q p : Nat} {P : PP} {m : MD} {t : A.T} {b : BS} {s : A.S}
theorem PQ.lts (he : PQ A h q p P m t b s) : q < h.length ∧ p < h.length ∧ c < h.length := ⟨blk?_lt he.qr.blk,blk?_lt he.qr.cb.blkp,blk?_lt he.qr.cb.blkc⟩
theorem PQ.good (he : PQ A h q p P m t b s) : b.Good := ⟨he.qr.cb.ok,he.qr.rng⟩
theorem PQ.low (he : PQ A h q p P m t b s) {h' : Heap} (hk : ∀ id,id < h.length → blk? h' id = blk? h id) (hl : h.length ≤ h'.length) : PQ A h' q p P m t b s := by
 obtain ⟨l1,l2,l3⟩ := he.lts
 refine ⟨he.qr.keep (fun id hid => hk id ?_) hl,A.stable he.rel hl (fun id h1 _ => hk id h1),he.n1,he.n3⟩
 rcases hid with rfl | rfl | rfl <;> assumption
theorem PQ.push (he : PQ A h q p P m t b s) (x : Option Blk) : PQ A (h ++ [x]) q p P m t b s := he.low (fun id hid => blk?_push_lt hid) (by simp)
theorem PQ.to (he : PQ A h q p P m t b s) {b' : BS} (hb : b.Le b') : PQ A (h.set c (some ⟨false,encC b'.cs⟩)) q p P m t b' s ∧ Stq h (h.set c (some ⟨false,encC b'.cs⟩)) c (A.own t) (A.own t) := by
 obtain ⟨l1,l2,l3⟩ := he.lts
 obtain ⟨m1,m2⟩ := he.n1
 refine ⟨⟨⟨?_,he.qr.cb.set hb.w hb.h hb.good.ok,by have := he.qr.sbl; simpa using this,he.qr.pok,hb.good.rng⟩,A.stable he.rel (by simp) (fun id _ hc => blk?_set_ne (Ne.symm hc)),he.n1,he.n3⟩,Stq.setc _ _ _ _⟩
 rw [blk?_set_ne m1]; exact he.qr.blk
theorem ask_q (he : PQ A h q p P m t b s) (hn : A.size s < 1000000) (ctx : Int) :
  ∃ t' h',(∀ R,Ret tab 156 [ptr q,.int .i64 ctx] h R = R (.int .i64 ((A.ask s (P.cx ctx)).1.toNat : Nat)) h') ∧ PQ A h' q p P m t' b (A.ask s (P.cx ctx)).2 ∧ Stq h h' c (A.own t) (A.own t') := by
 obtain ⟨l1,l2,l3⟩ := he.lts
 obtain ⟨n1,n2⟩ := he.n3
 obtain ⟨t',h',v,e,hv,hr,st⟩ := A.step he.rel hn (P.cx ctx)
 have hfr : ∀ id,id < h.length → ¬ A.own t id → ¬ A.own t' id := fun id hid hno ho => by
  rcases st.fresh id ho with k | k
  ·exact hno k
  ·omega
 refine ⟨t',h',fun R => ?_,⟨he.qr.keep (fun id hid => ?_) st.len,hr,he.n1,hfr _ l1 n1,hfr _ l2 n2⟩,st.q c⟩
 ·have hpq := he.qr.blk
  unfold callN at e
  rw [enter156,B156]
  generalize (A.ask s (P.cx ctx)).1 = bit at hv
  unfold PP.cx at e
  cases hrw : P.rw
  ·rw [hrw] at e hpq
   simp only [Bool.false_eq_true,if_false] at e
   cases bit <;> simp [hpq,e,hv,fin156]
  ·rw [hrw] at e hpq
   simp only [if_true] at e
   cases bit <;> simp [hpq,e,hv,fin156]
 ·rcases hid with rfl | rfl | rfl
  ·exact st.same _ l1 n1
  ·exact st.same _ l2 n2
  ·exact st.same _ l3 (A.c_own he.rel)
theorem sign_q (he : PQ A h q p P m t b s) (hn : A.size s < 1000000) {x y : Int} (hi : b.inb x y) :
  ∃ t' h',(∀ R,Ret tab 184 [ptr q,.int .i64 x,.int .i64 y] h R = R (.tuple #[]) h') ∧ PQ A h' q p P m t' ((dsign P b x y).run A.ask s).1 ((dsign P b x y).run A.ask s).2 ∧ Stq h h' c (A.own t) (A.own t') := by
 obtain ⟨t1,h1,e1,p1,s1⟩ := ask_q he hn (signCtx (sgH b x y) (sgV b x y P.cz))
 rw [dsign,Tr.run_ask,Tr.run_ret]
 generalize hbit : (A.ask s (P.cx (signCtx (sgH b x y) (sgV b x y P.cz)))).1 = bit at *
 generalize (A.ask s (P.cx (signCtx (sgH b x y) (sgV b x y P.cz)))).2 = s' at *
 have hg := he.good
 have hdv := dval_rng he.qr.pok b x y bit
 have g1 := good_putV hg hi hdv
 obtain ⟨p2,s2⟩ := p1.to g1
 have g2 := good_map g1.good (g1.inb hi) kv_mark
 obtain ⟨p3,s3⟩ := p2.to g2
 refine ⟨t1,_,fun R => ?_,p3,(s1.trans s2).trans s3⟩
 have hq := he.qr.blk
 have hq1 := p1.qr.blk
 have hq2 := p2.qr.blk
 have hsc := fun R => set_r (R := R) p1.qr.cb (x := x) (y := y) hi hdv
 have hm := fun R => mark_r (R := R) p2.qr.cb (x := x) (y := y) (g1.inb hi)
 have hc := fun R => ctxSign_r (h := h) (R := R) (joint_range (sgn b (x - 1) y) (sgn b (x + 1) y)) (joint_range (sgn b x (y - 1)) (if (!P.cz || y % 4 != 3) = true then sgn b x (y + 1) else 0))
 change ∀ R,Ret tab _ [.int .i64 (sgH b x y),.int .i64 (sgV b x y P.cz)] h R = R (.tuple #[.int .i64 (signCtx (sgH b x y) (sgV b x y P.cz)),.int .i64 (signFlip (sgH b x y) (sgV b x y P.cz))]) h at hc
 have hs := fun R => signs_r (R := R) he.qr.cb hi P.cz
 have hmm : (fun z : Cell => ({ z with s := true } : Cell)) = mark := rfl
 have hvv : (fun z : Cell => ({ z with v := dval P b x y bit } : Cell)) = putV (dval P b x y bit) := rfl
 rw [hmm] at hm
 rw [hvv] at hsc
 have hsh := shl1 he.qr.pok.s1
 have hwu : IntKind.u64.wrap (P.s : Int) = (P.s : Int) := wrapU (by have := he.qr.pok.s1; omega)
 have hs0 : ¬ (P.s : Int) < 0 := by omega
 have hpw := pw_le he.qr.pok.s1
 have hpp := pw_pos P.s
 have hneg : IntKind.i64.wrap (0 - pw P.s) = -pw P.s := by rw [wrapI (by omega) (by omega)]; omega
 have hneg2 : IntKind.i64.wrap (-pw P.s) = -pw P.s := wrapI (by omega) (by omega)
 have hfl := signFlip_le (sgH b x y) (sgV b x y P.cz)
 have hdd : dval P b x y bit = if (bit != (!P.rw && signFlip (sgH b x y) (sgV b x y P.cz) == 1)) = true then -pw P.s else pw P.s := rfl
 rw [enter184,B184]
 generalize dval P b x y bit = dv at *
 generalize sgH b x y = H at *
 generalize sgV b x y P.cz = V at *
 generalize pw P.s = pp at *
 have hf' : signFlip H V = 0 ∨ signFlip H V = 1 := by omega
 cases hrw : P.rw
 ·rw [hrw] at hq hq1 hq2 hdd
  rcases hf' with hf | hf
  all_goals
   rw [hf] at hc hdd
   cases bit
   all_goals
    simp at hdd e1 hc
    subst hdd
    simp [hq,hq1,hq2,hs,hc,hwu,hs0,hsh,e1,xor00,xor01',xor10,xor11,hneg,hneg2,hsc,hm,fin184]
 ·rw [hrw] at hq hq1 hq2 hdd
  cases bit
  all_goals
   simp at hdd e1 hc
   subst hdd
   simp [hq,hq1,hq2,hs,hc,hwu,hs0,hsh,e1,xor00,xor01',xor10,xor11,hneg,hneg2,hsc,hm,fin184]
theorem code_q (he : PQ A h q p P m t b s) (hn : A.size s + 2 < 1000000) {x y : Int} (hi : b.inb x y) :
  ∃ t' h',(∀ R,Ret tab 154 [ptr q,.int .i64 x,.int .i64 y] h R = R (.tuple #[]) h') ∧ PQ A h' q p P m t' ((dcode P b x y).run A.ask s).1 ((dcode P b x y).run A.ask s).2 ∧ Stq h h' c (A.own t) (A.own t') := by
 obtain ⟨t1,h1,e1,p1,s1⟩ := ask_q he (by omega) (ctxOf P b x y)
 have hsz := A.size_ask s (P.cx (ctxOf P b x y))
 rw [dcode,Tr.run_ask]
 generalize (A.ask s (P.cx (ctxOf P b x y))).1 = bit at *
 generalize (A.ask s (P.cx (ctxOf P b x y))).2 = s' at *
 have hq := he.qr.blk
 have hq1 := p1.qr.blk
 obtain ⟨n1,n2,n3⟩ := nb_le b x y P.cz
 have hnb := fun R => neighbors_r (R := R) he.qr.cb hi P.cz
 have hsg := fun R => significance_r (h := h) (R := R) he.qr.pok.o1 n1 n2 n3
 change ∀ R,Ret tab _ _ h R = R (.int .i64 (ctxOf P b x y)) h at hsg
 cases bit
 ·refine ⟨t1,h1,fun R => ?_,p1,s1⟩
  simp at e1
  rw [enter154,B154]
  simp [hq,hq1,hnb,hsg,e1,fin154,book,logOf,addLog,chk1,lookL,reload]
 ·obtain ⟨t2,h2,e2,p2,s2⟩ := sign_q p1 (by omega) hi
  refine ⟨t2,h2,fun R => ?_,p2,s1.trans s2⟩
  simp at e1
  rw [enter154,B154]
  simp [hq,hq1,hnb,hsg,e1,e2,fin154,book,logOf,addLog,chk1,lookL,reload]
end
section
variable {c sb : Nat} {A : Src c (callN sb)} {h : Heap} {q p : Nat} {P : PP} {m : MD} {t : A.T} {b : BS} {s : A.S}
theorem dsig_loop_q {sl v1 : Value} {pts : List (Int × Int)} {k : List RItem} {R : Value → Heap → Prop} :
  ∀ (n i : Nat) (h : Heap) (t : A.T) (b : BS) (s : A.S) (K2 K3 K4 K5 K9 Ka Kb Kc Kd Ke Kf Kg Kh Ki Kj Kk Kl Km Kn Ko Kp Kq Kr Ks Kt Ku Kv Kw Kx Ky Kz J0 J1 J2 J3 J4 J5 J6 J7 J8 J9 Ja : Value),n = pts.length - i → i ≤ pts.length → PQ A h q p P m t b s → Fad h sl pts c (A.own t) → AllIn b pts → A.size s + 2 * n + 3 < 1000000 → pts.length < 1000000 →
   (∀ (h' : Heap) (t' : A.T) (K1 K2 K3 K4 K5 K6 K7 K8 K9 Ka Kb Kc Kd Ke Kf Kg Kh Ki Kj Kk Kl Km Kn Ko Kp Kq Kr Ks Kt Ku Kv Kw Kx Ky Kz J0 J1 J2 J3 J4 J5 J6 J7 J8 J9 Ja : Value),PQ A h' q p P m t' ((dsigs P b (pts.drop i)).run A.ask s).1 ((dsigs P b (pts.drop i)).run A.ask s).2 → Stq h h' c (A.own t) (A.own t') → Ok tab R119 k #[ptr q,K1,K2,K3,K4,K5,K6,K7,K8,K9,Ka,Kb,Kc,Kd,Ke,Kf,Kg,Kh,Ki,Kj,Kk,Kl,Km,Kn,Ko,Kp,Kq,Kr,Ks,Kt,Ku,Kv,Kw,Kx,Ky,Kz,J0,J1,J2,J3,J4,J5,J6,J7,J8,J9,Ja] h' R) →
   Ok tab R119 (.inLoop L119_0 :: .inBlock 0 :: k) #[ptr q,v1,K2,K3,K4,K5,sl,.int .i64 pts.length,.int .i64 i,K9,Ka,Kb,Kc,Kd,Ke,Kf,Kg,Kh,Ki,Kj,Kk,Kl,Km,Kn,Ko,Kp,Kq,Kr,Ks,Kt,Ku,Kv,Kw,Kx,Ky,Kz,J0,J1,J2,J3,J4,J5,J6,J7,J8,J9,Ja] h R := by
 intro n
 induction n with
 | zero =>
  intro i h t b s;intros;rename_i hm hi he hf ha hl hpl hk
  have hlt : ¬ ((i : Int) < pts.length) := by omega
  rw [ok_round,l119_0,L119_0a,L119_0b]
  simp [hlt]
  refine hk h t _ _ _ _ _ _ _ _ _ _ _ _ _ _ _ _ _ _ _ _ _ _ _ _ _ _ _ _ _ _ _ _ _ _ _ _ _ _ _ _ _ _ _ _ _ _ ?_ (Stq.refl _ _ _)
  rw [List.drop_of_length_le (by omega)]; exact he
 | succ n ih =>
  intro i h t b s;intros;rename_i hm hi he hf ha hl hpl hk
  have hlt : ((i : Int) < pts.length) := by omega
  have hw : IntKind.i64.wrap ((i : Int) + 1) = (i : Int) + 1 := wrapN (n := i + 1) (by omega)
  have hil : i < pts.length := by omega
  obtain ⟨id,off,blk,hs,hb,ht,hle⟩ := hf.get hil
  have hin := ha _ (List.getElem_mem hil)
  have hsp : dsigs P b (pts.drop i) = (dsig1 P b pts[i].1 pts[i].2).bind fun b => dsigs P b (pts.drop (i + 1)) := by
   rw [List.drop_eq_getElem_cons hil]; rfl
  have hlv := lv_dsig1 he.qr.pok he.good hin
  obtain ⟨hle1,hsz1⟩ := Tr.Lv.out (A := A.ask) (size := A.size) A.size_ask s hlv
  generalize hx : pts[i].1 = x at *
  generalize hy : pts[i].2 = y at *
  rw [hsp] at hk
  simp only [Tr.run_bind] at hk
  have he2 := he.push (some ⟨false,[.int .i64 x,.int .i64 y]⟩)
  have hs2 := Stq.push h (some ⟨false,[.int .i64 x,.int .i64 y]⟩) c (A.own t)
  have hf2 := hf.stq hs2
  have hK : ∀ y : Blk,blk? (h ++ [some y]) h.length = some y := fun y => blk?_push_eq
  obtain ⟨l1,l2,l3⟩ := he.lts
  have hq2 := he2.qr.blk
  have hcb2 := he2.qr.cb
  have hsig := fun R => significant_r (R := R) (x := x) (y := y) hcb2
  have hnb := fun R => near_q (R := R) (x := x) (y := y) he2.qr hin
  have hnp : decide (0 < nbH b x y + nbV b x y P.cz + nbD b x y P.cz) = near b x y P.cz := rfl
  have hskip : dsig1 P b x y = .ret b → ∀ K2 K3 K4 K5 K9 Ka Kb Kc Kd Ke Kf Kg Kh Ki Kj Kk Kl Km Kn Ko Kp Kq Kr Ks Kt Ku Kv Kw Kx Ky Kz J0 J1 J2 J3 J4 J5 J6 J7 J8 J9 Ja : Value,Ok tab R119 (.inLoop L119_0 :: .inBlock 0 :: k) #[ptr q,v1,K2,K3,K4,K5,sl,.int .i64 pts.length,.int .i64 ((i : Int) + 1),K9,Ka,Kb,Kc,Kd,Ke,Kf,Kg,Kh,Ki,Kj,Kk,Kl,Km,Kn,Ko,Kp,Kq,Kr,Ks,Kt,Ku,Kv,Kw,Kx,Ky,Kz,J0,J1,J2,J3,J4,J5,J6,J7,J8,J9,Ja] (h ++ [some ⟨false,[.int .i64 x,.int .i64 y]⟩]) R := by
   intro h1;intros
   rw [h1] at hk
   refine ih (i + 1) _ t b s _ _ _ _ _ _ _ _ _ _ _ _ _ _ _ _ _ _ _ _ _ _ _ _ _ _ _ _ _ _ _ _ _ _ _ _ _ _ _ _ _ _ (by omega) (by omega) he2 hf2 ha (by omega) hpl ?_
   intro h' t';intros;rename_i pe st
   exact hk h' t' _ _ _ _ _ _ _ _ _ _ _ _ _ _ _ _ _ _ _ _ _ _ _ _ _ _ _ _ _ _ _ _ _ _ _ _ _ _ _ _ _ _ _ _ _ _ pe (hs2.trans st)
  rw [ok_round,l119_0,L119_0a,L119_0b]
  cases hsg : (b.get x y).s
  ·cases hnr : near b x y P.cz
   ·have h1 : dsig1 P b x y = .ret b := by unfold dsig1; rw [if_neg (by simp [hnr])]
    rw [hsg] at hsig; rw [hnr] at hnp
    simp [-Int.natCast_add,-List.cons_append,-List.append_assoc,k_guard,hlt,hw,hs,hb,ht,hle,hK,hq2,hsig,hnb,hnp]
    rw [← hs]
    exact hskip h1 ..
   ·obtain ⟨t3,h3,e3,p3,s3⟩ := code_q he2 (by omega) hin
    obtain ⟨hc1,hc2⟩ := Tr.Lv.out (A := A.ask) (size := A.size) A.size_ask s (lv_dcode he.qr.pok he.good hin)
    have h1 : dsig1 P b x y = (dcode P b x y).bind fun b => .ret (b.upd x y (touch true)) := by unfold dsig1; rw [if_pos ⟨hsg,hnr⟩]
    rw [h1] at hk hle1 hsz1
    simp only [Tr.run_bind,Tr.run_ret] at hk hle1 hsz1
    generalize ((dcode P b x y).run A.ask s).1 = b3 at *
    generalize ((dcode P b x y).run A.ask s).2 = s3' at *
    have hq3 := p3.qr.blk
    have hv3 : blk? h3 h.length = some ⟨false,[.int .i64 x,.int .i64 y]⟩ := by
     rw [s3.same h.length (by simp) (by omega) (fun e => by have := A.lt he.rel _ e; omega)]; exact blk?_push_eq
    have htc := fun R => touch_r (R := R) (v := true) p3.qr.cb (x := x) (y := y) (hc1.inb hin)
    obtain ⟨p4,s4⟩ := p3.to (good_map hc1.good (hc1.inb hin) (kv_touch true))
    have hmm : (fun z : Cell => ({ z with t := true } : Cell)) = touch true := rfl
    rw [hmm] at htc
    rw [hsg] at hsig; rw [hnr] at hnp
    simp [-Int.natCast_add,-List.cons_append,-List.append_assoc,k_guard,hlt,hw,hs,hb,ht,hle,hK,hq2,hsig,hnb,hnp,e3,hq3,hv3,htc]
    rw [← hs]
    have st4 := (hs2.trans s3).trans s4
    refine ih (i + 1) _ t3 _ _ _ _ _ _ _ _ _ _ _ _ _ _ _ _ _ _ _ _ _ _ _ _ _ _ _ _ _ _ _ _ _ _ _ _ _ _ _ _ _ _ _ _ (by omega) (by omega) p4 (hf.stq st4) (hle1.all ha) (by omega) hpl ?_
    intro h' t';intros;rename_i pe st
    exact hk h' t' _ _ _ _ _ _ _ _ _ _ _ _ _ _ _ _ _ _ _ _ _ _ _ _ _ _ _ _ _ _ _ _ _ _ _ _ _ _ _ _ _ _ _ _ _ _ pe (st4.trans st)
  ·have h1 : dsig1 P b x y = .ret b := by unfold dsig1; rw [if_neg (by simp [hsg])]
   rw [hsg] at hsig
   simp [-Int.natCast_add,-List.cons_append,-List.append_assoc,k_guard,hlt,hw,hs,hb,ht,hle,hK,hq2,hsig]
   rw [← hs]
   exact hskip h1 ..
theorem significance_q (he : PQ A h q p P m t b s) (hl : A.size s + 100000 < 1000000) {sl : Value} (hf : Fad h sl (scan b.w b.h) c (A.own t)) :
  ∃ t' h',(∀ R,Ret tab 119 [ptr q,sl] h R = R (.tuple #[]) h') ∧ PQ A h' q p P m t' ((dsigs P b (scan b.w b.h)).run A.ask s).1 ((dsigs P b (scan b.w b.h)).run A.ask s).2 ∧ Stq h h' c (A.own t) (A.own t') := by
 have key : Ret tab 119 [ptr q,sl] h fun v h' => v = .tuple #[] ∧ ∃ t',PQ A h' q p P m t' ((dsigs P b (scan b.w b.h)).run A.ask s).1 ((dsigs P b (scan b.w b.h)).run A.ask s).2 ∧ Stq h h' c (A.own t) (A.own t') := by
  obtain ⟨a,cc,hs⟩ := hf.sl.shape
  have hsl := scan_len he.qr.cb.ok.w2 he.qr.cb.ok.h2
  rw [enter119,B119]
  simp [hs]
  rw [← hs]
  refine dsig_loop_q _ 0 h t b s _ _ _ _ _ _ _ _ _ _ _ _ _ _ _ _ _ _ _ _ _ _ _ _ _ _ _ _ _ _ _ _ _ _ _ _ _ _ _ _ _ _ rfl (by omega) he hf (scanIn b) (by omega) (by omega) ?_
  intro h' t';intros;rename_i pe st
  simp [fin119]
  exact ⟨t',by simpa using pe,st⟩
 obtain ⟨v,h',e,rfl,t',pe,st⟩ := ret_ex key
 exact ⟨t',h',e,pe,st⟩
theorem grow_q (he : PQ A h q p P m t b s) {x y : Int} (hi : b.inb x y) :
  ∃ e h',(∀ R,Ret tab 85 [ptr p,.int .i64 x,.int .i64 y,.int .i64 (growV P.s (b.get x y).v)] h R = R (.int .i64 e) h') ∧ PQ A h' q p P m t (grow P.s b x y) s ∧ Stq h h' c (A.own t) (A.own t) ∧ ∀ id,id < h.length → id ≠ c → blk? h' id = blk? h id := by
 have hg := he.good
 have hvv : ∀ v,(fun z : Cell => ({ z with v := v } : Cell)) = putV v := fun v => rfl
 unfold grow
 by_cases hin : -1152921504606846976 < growV P.s (b.get x y).v ∧ growV P.s (b.get x y).v < 1152921504606846976
 ·rw [if_pos hin]
  obtain ⟨p2,s2⟩ := he.to (good_putV hg hi hin)
  have hsc := fun R => set_r (R := R) he.qr.cb (x := x) (y := y) hi hin
  rw [hvv] at hsc
  exact ⟨0,_,hsc,p2,s2,fun id _ hc => blk?_set_ne (Ne.symm hc)⟩
 ·rw [if_neg hin]
  obtain ⟨e,he'⟩ := set_bad_r he.qr.cb (x := x) (y := y) hi hin
  exact ⟨e,h,he',he,Stq.refl _ _ _,fun _ _ _ => rfl⟩
set_option maxRecDepth 10000 in
set_option maxHeartbeats 2000000 in
theorem dref_loop_q {sl v1 : Value} {pts : List (Int × Int)} {k : List RItem} {R : Value → Heap → Prop} :
  ∀ (n i : Nat) (h : Heap) (t : A.T) (b : BS) (s : A.S) (K2 K3 K4 K5 K6 Ka Kb Kc Kd Ke Kf Kg Kh Ki Kj Kk Kl Km Kn Ko Kp Kq Kr Ks Kt Ku Kv Kw Kx Ky Kz J0 J1 J2 J3 J4 J5 J6 J7 J8 J9 Ja Jb Jc Jd Je Jf Jg Jh Ji Jj Jk Jl Jm Jn Jo Jp Jq Jr Js Jt Ju Jv Jw Jx Jy Jz Y0 Y1 Y2 Y3 Y4 Y5 Y6 Y7 Y8 Y9 Ya Yb Yc Yd Ye Yf Yg Yh Yi Yj Yk Yl Ym Yn Yo Yp Yq Yr Ys Yt Yu Yv Yw Yx Yy Yz Z0 Z1 Z2 Z3 Z4 Z5 Z6 Z7 Z8 Z9 Za : Value),n = pts.length - i → i ≤ pts.length → PQ A h q p P m t b s → Fad h sl pts c (A.own t) → AllIn b pts → A.size s + 2 * n + 3 < 1000000 → pts.length < 1000000 →
   (∀ (h' : Heap) (t' : A.T) (K1 K2 K3 K4 K5 K6 K7 K8 K9 Ka Kb Kc Kd Ke Kf Kg Kh Ki Kj Kk Kl Km Kn Ko Kp Kq Kr Ks Kt Ku Kv Kw Kx Ky Kz J0 J1 J2 J3 J4 J5 J6 J7 J8 J9 Ja Jb Jc Jd Je Jf Jg Jh Ji Jj Jk Jl Jm Jn Jo Jp Jq Jr Js Jt Ju Jv Jw Jx Jy Jz Y0 Y1 Y2 Y3 Y4 Y5 Y6 Y7 Y8 Y9 Ya Yb Yc Yd Ye Yf Yg Yh Yi Yj Yk Yl Ym Yn Yo Yp Yq Yr Ys Yt Yu Yv Yw Yx Yy Yz Z0 Z1 Z2 Z3 Z4 Z5 Z6 Z7 Z8 Z9 Za : Value),PQ A h' q p P m t' ((drefs P b (pts.drop i)).run A.ask s).1 ((drefs P b (pts.drop i)).run A.ask s).2 → Stq h h' c (A.own t) (A.own t') → Ok tab R120 k #[ptr q,K1,K2,K3,K4,K5,K6,K7,K8,K9,Ka,Kb,Kc,Kd,Ke,Kf,Kg,Kh,Ki,Kj,Kk,Kl,Km,Kn,Ko,Kp,Kq,Kr,Ks,Kt,Ku,Kv,Kw,Kx,Ky,Kz,J0,J1,J2,J3,J4,J5,J6,J7,J8,J9,Ja,Jb,Jc,Jd,Je,Jf,Jg,Jh,Ji,Jj,Jk,Jl,Jm,Jn,Jo,Jp,Jq,Jr,Js,Jt,Ju,Jv,Jw,Jx,Jy,Jz,Y0,Y1,Y2,Y3,Y4,Y5,Y6,Y7,Y8,Y9,Ya,Yb,Yc,Yd,Ye,Yf,Yg,Yh,Yi,Yj,Yk,Yl,Ym,Yn,Yo,Yp,Yq,Yr,Ys,Yt,Yu,Yv,Yw,Yx,Yy,Yz,Z0,Z1,Z2,Z3,Z4,Z5,Z6,Z7,Z8,Z9,Za] h' R) →
   Ok tab R120 (.inLoop L120_0 :: .inBlock 0 :: k) #[ptr q,v1,K2,K3,K4,K5,K6,sl,.int .i64 pts.length,.int .i64 i,Ka,Kb,Kc,Kd,Ke,Kf,Kg,Kh,Ki,Kj,Kk,Kl,Km,Kn,Ko,Kp,Kq,Kr,Ks,Kt,Ku,Kv,Kw,Kx,Ky,Kz,J0,J1,J2,J3,J4,J5,J6,J7,J8,J9,Ja,Jb,Jc,Jd,Je,Jf,Jg,Jh,Ji,Jj,Jk,Jl,Jm,Jn,Jo,Jp,Jq,Jr,Js,Jt,Ju,Jv,Jw,Jx,Jy,Jz,Y0,Y1,Y2,Y3,Y4,Y5,Y6,Y7,Y8,Y9,Ya,Yb,Yc,Yd,Ye,Yf,Yg,Yh,Yi,Yj,Yk,Yl,Ym,Yn,Yo,Yp,Yq,Yr,Ys,Yt,Yu,Yv,Yw,Yx,Yy,Yz,Z0,Z1,Z2,Z3,Z4,Z5,Z6,Z7,Z8,Z9,Za] h R := by
 intro n
 induction n with
 | zero =>
  intro i h t b s;intros;rename_i hm hi he hf ha hl hpl hk
  have hlt : ¬ ((i : Int) < pts.length) := by omega
  rw [ok_round,l120_0,L120_0a,L120_0b]
  simp [hlt]
  refine hk h t _ _ _ _ _ _ _ _ _ _ _ _ _ _ _ _ _ _ _ _ _ _ _ _ _ _ _ _ _ _ _ _ _ _ _ _ _ _ _ _ _ _ _ _ _ _ _ _ _ _ _ _ _ _ _ _ _ _ _ _ _ _ _ _ _ _ _ _ _ _ _ _ _ _ _ _ _ _ _ _ _ _ _ _ _ _ _ _ _ _ _ _ _ _ _ _ _ _ _ _ _ _ _ _ _ _ _ _ _ _ _ _ _ _ _ _ _ _ ?_ (Stq.refl _ _ _)
  rw [List.drop_of_length_le (by omega)]; exact he
 | succ n ih =>
  intro i h t b s;intros;rename_i hm hi he hf ha hl hpl hk
  have hlt : ((i : Int) < pts.length) := by omega
  have hw : IntKind.i64.wrap ((i : Int) + 1) = (i : Int) + 1 := wrapN (n := i + 1) (by omega)
  have hil : i < pts.length := by omega
  obtain ⟨id,off,blk,hs,hb,ht,hle⟩ := hf.get hil
  have hin := ha _ (List.getElem_mem hil)
  have hsp : drefs P b (pts.drop i) = (dref1 P b pts[i].1 pts[i].2).bind fun b => drefs P b (pts.drop (i + 1)) := by
   rw [List.drop_eq_getElem_cons hil]; rfl
  obtain ⟨hle1,hsz1⟩ := Tr.Lv.out (A := A.ask) (size := A.size) A.size_ask s (lv_dref1 (P := P) he.good hin)
  generalize hx : pts[i].1 = x at *
  generalize hy : pts[i].2 = y at *
  rw [hsp] at hk
  simp only [Tr.run_bind] at hk
  have he2 := he.push (some ⟨false,[.int .i64 x,.int .i64 y]⟩)
  have hs2 := Stq.push h (some ⟨false,[.int .i64 x,.int .i64 y]⟩) c (A.own t)
  have hf2 := hf.stq hs2
  have hK : ∀ y : Blk,blk? (h ++ [some y]) h.length = some y := fun y => blk?_push_eq
  obtain ⟨l1,l2,l3⟩ := he.lts
  have hq2 := he2.qr.blk
  have hcb2 := he2.qr.cb
  have hsig := fun R => significant_r (R := R) (x := x) (y := y) hcb2
  have htch := fun R => touched_r (R := R) (x := x) (y := y) hcb2
  have hrfd := fun R => refined_r (R := R) (x := x) (y := y) hcb2
  have hnb := fun R => near_q (R := R) (x := x) (y := y) he2.qr hin
  have hcx := fun a b R => ctxRefine_r (h := h ++ [some (⟨false,[.int .i64 x,.int .i64 y]⟩ : Blk)]) (R := R) (a := a) (b := b)
  have hnp : decide (0 < nbH b x y + nbV b x y P.cz + nbD b x y P.cz) = near b x y P.cz := rfl
  have hskip : dref1 P b x y = .ret b → ∀ K2 K3 K4 K5 K6 Ka Kb Kc Kd Ke Kf Kg Kh Ki Kj Kk Kl Km Kn Ko Kp Kq Kr Ks Kt Ku Kv Kw Kx Ky Kz J0 J1 J2 J3 J4 J5 J6 J7 J8 J9 Ja Jb Jc Jd Je Jf Jg Jh Ji Jj Jk Jl Jm Jn Jo Jp Jq Jr Js Jt Ju Jv Jw Jx Jy Jz Y0 Y1 Y2 Y3 Y4 Y5 Y6 Y7 Y8 Y9 Ya Yb Yc Yd Ye Yf Yg Yh Yi Yj Yk Yl Ym Yn Yo Yp Yq Yr Ys Yt Yu Yv Yw Yx Yy Yz Z0 Z1 Z2 Z3 Z4 Z5 Z6 Z7 Z8 Z9 Za : Value,Ok tab R120 (.inLoop L120_0 :: .inBlock 0 :: k) #[ptr q,v1,K2,K3,K4,K5,K6,sl,.int .i64 pts.length,.int .i64 ((i : Int) + 1),Ka,Kb,Kc,Kd,Ke,Kf,Kg,Kh,Ki,Kj,Kk,Kl,Km,Kn,Ko,Kp,Kq,Kr,Ks,Kt,Ku,Kv,Kw,Kx,Ky,Kz,J0,J1,J2,J3,J4,J5,J6,J7,J8,J9,Ja,Jb,Jc,Jd,Je,Jf,Jg,Jh,Ji,Jj,Jk,Jl,Jm,Jn,Jo,Jp,Jq,Jr,Js,Jt,Ju,Jv,Jw,Jx,Jy,Jz,Y0,Y1,Y2,Y3,Y4,Y5,Y6,Y7,Y8,Y9,Ya,Yb,Yc,Yd,Ye,Yf,Yg,Yh,Yi,Yj,Yk,Yl,Ym,Yn,Yo,Yp,Yq,Yr,Ys,Yt,Yu,Yv,Yw,Yx,Yy,Yz,Z0,Z1,Z2,Z3,Z4,Z5,Z6,Z7,Z8,Z9,Za] (h ++ [some ⟨false,[.int .i64 x,.int .i64 y]⟩]) R := by
   intro h1;intros
   rw [h1] at hk
   refine ih (i + 1) _ t b s _ _ _ _ _ _ _ _ _ _ _ _ _ _ _ _ _ _ _ _ _ _ _ _ _ _ _ _ _ _ _ _ _ _ _ _ _ _ _ _ _ _ _ _ _ _ _ _ _ _ _ _ _ _ _ _ _ _ _ _ _ _ _ _ _ _ _ _ _ _ _ _ _ _ _ _ _ _ _ _ _ _ _ _ _ _ _ _ _ _ _ _ _ _ _ _ _ _ _ _ _ _ _ _ _ _ _ _ _ _ _ _ _ _ (by omega) (by omega) he2 hf2 ha (by omega) hpl ?_
   intro h' t';intros;rename_i pe st
   exact hk h' t' _ _ _ _ _ _ _ _ _ _ _ _ _ _ _ _ _ _ _ _ _ _ _ _ _ _ _ _ _ _ _ _ _ _ _ _ _ _ _ _ _ _ _ _ _ _ _ _ _ _ _ _ _ _ _ _ _ _ _ _ _ _ _ _ _ _ _ _ _ _ _ _ _ _ _ _ _ _ _ _ _ _ _ _ _ _ _ _ _ _ _ _ _ _ _ _ _ _ _ _ _ _ _ _ _ _ _ _ _ _ _ _ _ _ _ _ _ _ pe (hs2.trans st)
  rw [ok_round,l120_0,L120_0a,L120_0b]
  cases hsg : (b.get x y).s
  ·have h1 : dref1 P b x y = .ret b := by unfold dref1; rw [if_pos (.inl hsg)]
   rw [hsg] at hsig
   simp [-Int.natCast_add,-List.cons_append,-List.append_assoc,k_guard,hlt,hw,hs,hb,ht,hle,hK,hq2,hsig]
   rw [← hs]
   exact hskip h1 ..
  ·cases htc0 : (b.get x y).t
   ·-- refined
    have h1 : dref1 P b x y = .ask (P.cx (refCtx (!(b.get x y).r) (near b x y P.cz))) fun bit => .ret (((growB P.s b x y bit).upd x y refine').upd x y (touch true)) := by unfold dref1; rw [if_neg (by simp [hsg,htc0])]
    obtain ⟨u3,h3,e3,p3,s3⟩ := ask_q he2 (by omega) (refCtx (!(b.get x y).r) (near b x y P.cz))
    rw [h1] at hk hle1 hsz1
    simp only [Tr.run_ask,Tr.run_ret] at hk hle1 hsz1
    generalize (A.ask s (P.cx (refCtx (!(b.get x y).r) (near b x y P.cz)))).1 = bit at *
    generalize (A.ask s (P.cx (refCtx (!(b.get x y).r) (near b x y P.cz)))).2 = s3' at *
    have hq3 := p3.qr.blk
    have hv3 : blk? h3 h.length = some ⟨false,[.int .i64 x,.int .i64 y]⟩ := by
     rw [s3.same h.length (by simp) (by omega) (fun e => by have := A.lt he.rel _ e; omega)]; exact blk?_push_eq
    have hnown : ¬ A.own u3 h.length := fun e => by
     rcases s3.fresh _ e with k | k
     ·have := A.lt he.rel _ k; omega
     ·simp at k; omega
    have hlen3 := s3.len
    simp only [List.length_append,List.length_singleton] at hlen3
    have hgr : ∃ e0 h4,(∀ R,(if bit = true then Ret tab 85 [ptr p,.int .i64 x,.int .i64 y,.int .i64 (growV P.s (b.get x y).v)] h3 R else R (.int .i64 0) h3) = R (.int .i64 e0) h4) ∧ PQ A h4 q p P m u3 (growB P.s b x y bit) s3' ∧ Stq h3 h4 c (A.own u3) (A.own u3) ∧ ∀ id,id < h3.length → id ≠ c → blk? h4 id = blk? h3 id := by
     cases bit
     ·exact ⟨0,h3,fun R => by simp,p3,Stq.refl _ _ _,fun _ _ _ => rfl⟩
     ·obtain ⟨e0,h4,e4,p4,s4,k4⟩ := grow_q p3 hin
      exact ⟨e0,h4,fun R => by simp [e4],p4,s4,k4⟩
    obtain ⟨e0,h4,e4,p4,s4,k4⟩ := hgr
    have hl4 := le_growB (s := P.s) he.good hin bit
    have hq4 := p4.qr.blk
    have hv4 : blk? h4 h.length = some ⟨false,[.int .i64 x,.int .i64 y]⟩ := by rw [k4 _ (by omega) (by omega)]; exact hv3
    generalize growB P.s b x y bit = b4 at *
    have hrf := fun R => refine_r (R := R) p4.qr.cb (x := x) (y := y) (hl4.inb hin)
    have hl5 := good_map hl4.good (hl4.inb hin) kv_refine
    obtain ⟨p5,s5⟩ := p4.to hl5
    have hq5 := p5.qr.blk
    have hv5 : blk? (h4.set c (some ⟨false,encC (b4.upd x y refine').cs⟩)) h.length = some ⟨false,[.int .i64 x,.int .i64 y]⟩ := by
     rw [blk?_set_ne (by omega)]; exact hv4
    have htc := fun R => touch_r (R := R) (v := true) p5.qr.cb (x := x) (y := y) (hl5.inb (hl4.inb hin))
    obtain ⟨p6,s6⟩ := p5.to (good_map hl5.good (hl5.inb (hl4.inb hin)) (kv_touch true))
    have hmm : (fun z : Cell => ({ z with t := true } : Cell)) = touch true := rfl
    have hmr : (fun z : Cell => ({ z with r := true } : Cell)) = refine' := rfl
    rw [hmm] at htc
    rw [hmr] at hrf
    have st6 := (((hs2.trans s3).trans s4).trans s5).trans s6
    have hgo : ∀ K2 K3 K4 K5 K6 Ka Kb Kc Kd Ke Kf Kg Kh Ki Kj Kk Kl Km Kn Ko Kp Kq Kr Ks Kt Ku Kv Kw Kx Ky Kz J0 J1 J2 J3 J4 J5 J6 J7 J8 J9 Ja Jb Jc Jd Je Jf Jg Jh Ji Jj Jk Jl Jm Jn Jo Jp Jq Jr Js Jt Ju Jv Jw Jx Jy Jz Y0 Y1 Y2 Y3 Y4 Y5 Y6 Y7 Y8 Y9 Ya Yb Yc Yd Ye Yf Yg Yh Yi Yj Yk Yl Ym Yn Yo Yp Yq Yr Ys Yt Yu Yv Yw Yx Yy Yz Z0 Z1 Z2 Z3 Z4 Z5 Z6 Z7 Z8 Z9 Za : Value,Ok tab R120 (.inLoop L120_0 :: .inBlock 0 :: k) #[ptr q,v1,K2,K3,K4,K5,K6,sl,.int .i64 pts.length,.int .i64 ((i : Int) + 1),Ka,Kb,Kc,Kd,Ke,Kf,Kg,Kh,Ki,Kj,Kk,Kl,Km,Kn,Ko,Kp,Kq,Kr,Ks,Kt,Ku,Kv,Kw,Kx,Ky,Kz,J0,J1,J2,J3,J4,J5,J6,J7,J8,J9,Ja,Jb,Jc,Jd,Je,Jf,Jg,Jh,Ji,Jj,Jk,Jl,Jm,Jn,Jo,Jp,Jq,Jr,Js,Jt,Ju,Jv,Jw,Jx,Jy,Jz,Y0,Y1,Y2,Y3,Y4,Y5,Y6,Y7,Y8,Y9,Ya,Yb,Yc,Yd,Ye,Yf,Yg,Yh,Yi,Yj,Yk,Yl,Ym,Yn,Yo,Yp,Yq,Yr,Ys,Yt,Yu,Yv,Yw,Yx,Yy,Yz,Z0,Z1,Z2,Z3,Z4,Z5,Z6,Z7,Z8,Z9,Za] ((h4.set c (some ⟨false,encC (b4.upd x y refine').cs⟩)).set c (some ⟨false,encC ((b4.upd x y refine').upd x y (touch true)).cs⟩)) R := by
     intros
     refine ih (i + 1) _ u3 _ _ _ _ _ _ _ _ _ _ _ _ _ _ _ _ _ _ _ _ _ _ _ _ _ _ _ _ _ _ _ _ _ _ _ _ _ _ _ _ _ _ _ _ _ _ _ _ _ _ _ _ _ _ _ _ _ _ _ _ _ _ _ _ _ _ _ _ _ _ _ _ _ _ _ _ _ _ _ _ _ _ _ _ _ _ _ _ _ _ _ _ _ _ _ _ _ _ _ _ _ _ _ _ _ _ _ _ _ _ _ _ _ _ _ _ (by omega) (by omega) p6 (hf.stq st6) (hle1.all ha) (by omega) hpl ?_
     intro h' t';intros;rename_i pe st
     exact hk h' t' _ _ _ _ _ _ _ _ _ _ _ _ _ _ _ _ _ _ _ _ _ _ _ _ _ _ _ _ _ _ _ _ _ _ _ _ _ _ _ _ _ _ _ _ _ _ _ _ _ _ _ _ _ _ _ _ _ _ _ _ _ _ _ _ _ _ _ _ _ _ _ _ _ _ _ _ _ _ _ _ _ _ _ _ _ _ _ _ _ _ _ _ _ _ _ _ _ _ _ _ _ _ _ _ _ _ _ _ _ _ _ _ _ _ _ _ _ _ pe (st6.trans st)
    rw [List.set_set] at hgo
    rw [hsg] at hsig; rw [htc0] at htch
    have hvl := fun R => value_r (R := R) (x := x) (y := y) p3.qr.cb
    have hsh := shl1 he.qr.pok.s1
    have hwu : IntKind.u64.wrap (P.s : Int) = (P.s : Int) := wrapU (by have := he.qr.pok.s1; omega)
    have hs0 : ¬ (P.s : Int) < 0 := by omega
    have hpw := pw_le he.qr.pok.s1
    have hpp := pw_pos P.s
    obtain ⟨r1,r2⟩ := he.qr.rng x y
    have hgv : growV P.s (b.get x y).v = (b.get x y).v + if (b.get x y).v < 0 then -pw P.s else pw P.s := rfl
    generalize growV P.s (b.get x y).v = G at *
    cases bit
    ·simp only [Bool.false_eq_true,if_false] at e4
     obtain rfl : h3 = h4 := by
      have := e4 fun _ h' => h3 = h'
      exact this.mp rfl
     simp at e3
     simp [-Int.natCast_add,-List.cons_append,-List.append_assoc,k_guard,hlt,hw,hs,hb,ht,hle,hK,hq2,hsig,htch,hrfd,hnb,hnp,hcx,e3,hq3,hv3,hrf,hq5,hv5,htc,book,logOf,addLog,chk1,lookL,reload]
     rw [← hs]
     exact hgo ..
    ·simp only [if_true] at e4
     simp at e3
     by_cases hlt0 : (b.get x y).v < 0
     ·rw [if_pos hlt0] at hgv
      have hwg : IntKind.i64.wrap ((b.get x y).v - pw P.s) = G := by rw [wrapI (by omega) (by omega)]; omega
      simp [-Int.natCast_add,-List.cons_append,-List.append_assoc,k_guard,hlt,hw,hs,hb,ht,hle,hK,hq2,hsig,htch,hrfd,hnb,hnp,hvl,hsh,hwu,hs0,hlt0,hwg,hcx,e3,hq3,hv3,e4,hq4,hv4,hrf,hq5,hv5,htc,book,logOf,addLog,chk1,lookL,reload]
      rw [← hs]
      exact hgo ..
     ·rw [if_neg hlt0] at hgv
      have hwg : IntKind.i64.wrap ((b.get x y).v + pw P.s) = G := by rw [wrapI (by omega) (by omega)]; omega
      simp [-Int.natCast_add,-List.cons_append,-List.append_assoc,k_guard,hlt,hw,hs,hb,ht,hle,hK,hq2,hsig,htch,hrfd,hnb,hnp,hvl,hsh,hwu,hs0,hlt0,hwg,hcx,e3,hq3,hv3,e4,hq4,hv4,hrf,hq5,hv5,htc,book,logOf,addLog,chk1,lookL,reload]
      rw [← hs]
      exact hgo ..
   ·have h1 : dref1 P b x y = .ret b := by unfold dref1; rw [if_pos (.inr htc0)]
    rw [hsg] at hsig; rw [htc0] at htch
    simp [-Int.natCast_add,-List.cons_append,-List.append_assoc,k_guard,hlt,hw,hs,hb,ht,hle,hK,hq2,hsig,htch]
    rw [← hs]
    exact hskip h1 ..
set_option maxRecDepth 10000 in
theorem refinement_q (he : PQ A h q p P m t b s) (hl : A.size s + 100000 < 1000000) {sl : Value} (hf : Fad h sl (scan b.w b.h) c (A.own t)) :
  ∃ t' h',(∀ R,Ret tab 120 [ptr q,sl] h R = R (.tuple #[]) h') ∧ PQ A h' q p P m t' ((drefs P b (scan b.w b.h)).run A.ask s).1 ((drefs P b (scan b.w b.h)).run A.ask s).2 ∧ Stq h h' c (A.own t) (A.own t') := by
 have key : Ret tab 120 [ptr q,sl] h fun v h' => v = .tuple #[] ∧ ∃ t',PQ A h' q p P m t' ((drefs P b (scan b.w b.h)).run A.ask s).1 ((drefs P b (scan b.w b.h)).run A.ask s).2 ∧ Stq h h' c (A.own t) (A.own t') := by
  obtain ⟨a,cc,hs⟩ := hf.sl.shape
  have hsl := scan_len he.qr.cb.ok.w2 he.qr.cb.ok.h2
  rw [enter120,B120]
  simp [hs]
  rw [← hs]
  refine dref_loop_q _ 0 h t b s _ _ _ _ _ _ _ _ _ _ _ _ _ _ _ _ _ _ _ _ _ _ _ _ _ _ _ _ _ _ _ _ _ _ _ _ _ _ _ _ _ _ _ _ _ _ _ _ _ _ _ _ _ _ _ _ _ _ _ _ _ _ _ _ _ _ _ _ _ _ _ _ _ _ _ _ _ _ _ _ _ _ _ _ _ _ _ _ _ _ _ _ _ _ _ _ _ _ _ _ _ _ _ _ _ _ _ _ _ _ _ _ _ _ rfl (by omega) he hf (scanIn b) (by omega) (by omega) ?_
  intro h' t';intros;rename_i pe st
  simp [fin120]
  exact ⟨t',by simpa using pe,st⟩
 obtain ⟨v,h',e,rfl,t',pe,st⟩ := ret_ex key
 exact ⟨t',h',e,pe,st⟩
end
theorem dchk_run_q {S : Type} (A : S → Int → Bool × S) (P : PP) (r x : Bool) (l : List Bool) (s : S) : (dchk P r (x :: l)).run A s = (dchk P (r && (A s (P.cx 18)).1 == x) l).run A (A s (P.cx 18)).2 := rfl
section
variable {c sb : Nat} {A : Src c (callN sb)} {h : Heap} {q p : Nat} {P : PP} {m : MD} {t : A.T} {b : BS} {s : A.S} {k : List RItem} {R : Value → Heap → Prop}
theorem runLength_q (he : PQ A h q p P m t b s) (hn : A.size s + 5 < 1000000) {x y : Int} (hx : 0 ≤ x ∧ x < b.w) (hy : 0 ≤ y ∧ y + 4 ≤ b.h) :
  ∃ t' h',(∀ R,Ret tab 161 [ptr q,.int .i64 x,.int .i64 y] h R = R (.int .i64 (((drun P b x y).run A.ask s).1.2 - y)) h') ∧ PQ A h' q p P m t' ((drun P b x y).run A.ask s).1.1 ((drun P b x y).run A.ask s).2 ∧ Stq h h' c (A.own t) (A.own t') := by
 have hb2 := he.qr.cb.ok.h2
 obtain ⟨u1,h1,e1,p1,s1⟩ := ask_q he (by omega) 17
 have z1 := A.size_ask s (P.cx 17)
 have hrun : (drun P b x y).run A.ask s = (if (A.ask s (P.cx 17)).1 = true then Tr.ask (P.cx 18) fun k1 => .ask (P.cx 18) fun k0 => (dsign P b x (y + two2 k1 k0)).bind fun b => .ret (b,y + two2 k1 k0 + 1) else .ret (b,y + 4)).run A.ask (A.ask s (P.cx 17)).2 := rfl
 rw [hrun]
 generalize (A.ask s (P.cx 17)).1 = bit at *
 generalize (A.ask s (P.cx 17)).2 = sa at *
 cases bit
 ·simp only [Bool.false_eq_true,if_false,Tr.run_ret]
  refine ⟨u1,h1,fun R => ?_,p1,s1⟩
  simp at e1
  rw [enter161,B161,show y + 4 - y = 4 by omega]
  simp [e1,fin161]
 ·simp only [if_true,Tr.run_ask,Tr.run_bind,Tr.run_ret]
  obtain ⟨u2,h2,e2,p2,s2⟩ := ask_q p1 (by omega) 18
  have z2 := A.size_ask sa (P.cx 18)
  generalize (A.ask sa (P.cx 18)).1 = k1 at *
  generalize (A.ask sa (P.cx 18)).2 = sb' at *
  obtain ⟨u3,h3,e3,p3,s3⟩ := ask_q p2 (by omega) 18
  have z3 := A.size_ask sb' (P.cx 18)
  generalize (A.ask sb' (P.cx 18)).1 = k0 at *
  generalize (A.ask sb' (P.cx 18)).2 = sc at *
  have h22 := two2_le k1 k0
  have hi4 : b.inb x (y + two2 k1 k0) := ⟨hx.1,hx.2,by omega,by omega⟩
  obtain ⟨u4,h4,e4,p4,s4⟩ := sign_q p3 (by omega) hi4
  refine ⟨u4,h4,fun R => ?_,p4,((s1.trans s2).trans s3).trans s4⟩
  simp at e1
  have hwa : IntKind.i64.wrap (2 * ((k1.toNat : Nat) : Int)) = 2 * ((k1.toNat : Nat) : Int) := by cases k1 <;> simp [wrapI]
  have hwb : IntKind.i64.wrap (2 * ((k1.toNat : Nat) : Int) + ((k0.toNat : Nat) : Int)) = (two2 k1 k0 : Nat) := by
   have : 2 * ((k1.toNat : Nat) : Int) + ((k0.toNat : Nat) : Int) = (two2 k1 k0 : Nat) := by unfold two2; simp
   rw [this]; exact wrapN (by omega)
  have hwc : IntKind.i64.wrap (y + ((two2 k1 k0 : Nat) : Int)) = y + (two2 k1 k0 : Nat) := wrapI (by omega) (by omega)
  have hwd : IntKind.i64.wrap (((two2 k1 k0 : Nat) : Int) + 1) = ((two2 k1 k0 : Nat) : Int) + 1 := wrapI (by omega) (by omega)
  generalize two2 k1 k0 = kk at *
  generalize ((k1.toNat : Nat) : Int) = k1i at *
  generalize ((k0.toNat : Nat) : Int) = k0i at *
  rw [enter161,B161,show y + (kk : Int) + 1 - y = (kk : Int) + 1 by omega]
  simp [e1,e2,hwa,e3,hwb,hwc,e4,hwd,fin161]
set_option maxRecDepth 10000 in
set_option maxHeartbeats 4000000 in
theorem clean_loop_q {sl v6 : Value} {pts : List (Int × Int)} {hh : Nat} :
  ∀ (n i : Nat) (h : Heap) (t : A.T) (τ : BS × Nat) (s : A.S) (K3 K4 K5 K8 K9 Ka Kb Kc Kd Kh Ki Kj Kk Kl Km Kn Ko Kp Kq Kr Ks Kt Ku Kv Kw Kx Ky Kz J0 J1 J2 J3 J4 J5 J6 J7 J8 J9 Ja Jb Jc Jd Je Jf Jg Jh Ji Jj Jk Jl Jm Jn Jo Jp Jq Jr Js Jt Ju Jv Jw Jx Jy Jz Y0 Y1 Y2 Y3 Y4 Y5 Y6 Y7 Y8 Y9 Ya Yb Yc Yd Ye Yf Yg Yh Yi Yj Yk Yl Ym Yn Yo Yp Yq : Value),n = pts.length - i → i ≤ pts.length → PQ A h q p P m t τ.1 s → Fad h sl pts c (A.own t) → AllIn τ.1 pts → τ.1.h = hh → A.size s + 4 * n + 6 < 1000000 → τ.2 ≤ 3 → pts.length < 1000000 →
   (∀ (h' : Heap) (t' : A.T) (K2 K3 K4 K5 K7 K8 K9 Ka Kb Kc Kd Ke Kf Kg Kh Ki Kj Kk Kl Km Kn Ko Kp Kq Kr Ks Kt Ku Kv Kw Kx Ky Kz J0 J1 J2 J3 J4 J5 J6 J7 J8 J9 Ja Jb Jc Jd Je Jf Jg Jh Ji Jj Jk Jl Jm Jn Jo Jp Jq Jr Js Jt Ju Jv Jw Jx Jy Jz Y0 Y1 Y2 Y3 Y4 Y5 Y6 Y7 Y8 Y9 Ya Yb Yc Yd Ye Yf Yg Yh Yi Yj Yk Yl Ym Yn Yo Yp Yq : Value),PQ A h' q p P m t' ((dcsteps P τ (pts.drop i)).run A.ask s).1.1 ((dcsteps P τ (pts.drop i)).run A.ask s).2 → Stq h h' c (A.own t) (A.own t') → Ok tab R121 k #[ptr q,sl,K2,K3,K4,K5,v6,K7,K8,K9,Ka,Kb,Kc,Kd,Ke,Kf,Kg,Kh,Ki,Kj,Kk,Kl,Km,Kn,Ko,Kp,Kq,Kr,Ks,Kt,Ku,Kv,Kw,Kx,Ky,Kz,J0,J1,J2,J3,J4,J5,J6,J7,J8,J9,Ja,Jb,Jc,Jd,Je,Jf,Jg,Jh,Ji,Jj,Jk,Jl,Jm,Jn,Jo,Jp,Jq,Jr,Js,Jt,Ju,Jv,Jw,Jx,Jy,Jz,Y0,Y1,Y2,Y3,Y4,Y5,Y6,Y7,Y8,Y9,Ya,Yb,Yc,Yd,Ye,Yf,Yg,Yh,Yi,Yj,Yk,Yl,Ym,Yn,Yo,Yp,Yq] h' R) →
   Ok tab R121 (.inLoop L121_0 :: .inBlock 0 :: k) #[ptr q,sl,.int .i64 hh,K3,K4,K5,v6,.int .i64 τ.2,K8,K9,Ka,Kb,Kc,Kd,sl,.int .i64 pts.length,.int .i64 i,Kh,Ki,Kj,Kk,Kl,Km,Kn,Ko,Kp,Kq,Kr,Ks,Kt,Ku,Kv,Kw,Kx,Ky,Kz,J0,J1,J2,J3,J4,J5,J6,J7,J8,J9,Ja,Jb,Jc,Jd,Je,Jf,Jg,Jh,Ji,Jj,Jk,Jl,Jm,Jn,Jo,Jp,Jq,Jr,Js,Jt,Ju,Jv,Jw,Jx,Jy,Jz,Y0,Y1,Y2,Y3,Y4,Y5,Y6,Y7,Y8,Y9,Ya,Yb,Yc,Yd,Ye,Yf,Yg,Yh,Yi,Yj,Yk,Yl,Ym,Yn,Yo,Yp,Yq] h R := by
 intro n
 induction n with
 | zero =>
  intro i h t τ s;intros;rename_i hm hi he hf ha hh' hl hsk hpl hk
  have hlt : ¬ ((i : Int) < pts.length) := by omega
  rw [ok_round,l121_0,L121_0a,L121_0b]
  simp [hlt]
  refine hk h t _ _ _ _ _ _ _ _ _ _ _ _ _ _ _ _ _ _ _ _ _ _ _ _ _ _ _ _ _ _ _ _ _ _ _ _ _ _ _ _ _ _ _ _ _ _ _ _ _ _ _ _ _ _ _ _ _ _ _ _ _ _ _ _ _ _ _ _ _ _ _ _ _ _ _ _ _ _ _ _ _ _ _ _ _ _ _ _ _ _ _ _ _ _ _ _ ?_ (Stq.refl _ _ _)
  rw [List.drop_of_length_le (by omega)]; exact he
 | succ n ih =>
  intro i h t τ s;intros;rename_i hm hi he hf ha hh' hl hsk hpl hk
  obtain ⟨b,sk⟩ := τ
  simp only at he ha hh' hl hsk
  have hlt : ((i : Int) < pts.length) := by omega
  have hw : IntKind.i64.wrap ((i : Int) + 1) = (i : Int) + 1 := wrapN (n := i + 1) (by omega)
  have hil : i < pts.length := by omega
  obtain ⟨id,off,blk,hs,hb,ht,hle⟩ := hf.get hil
  have hin := ha _ (List.getElem_mem hil)
  have hsp : dcsteps P (b,sk) (pts.drop i) = (dcstep P (b,sk) (pts[i].1,pts[i].2)).bind fun τ => dcsteps P τ (pts.drop (i + 1)) := by
   rw [List.drop_eq_getElem_cons hil]; rfl
  obtain ⟨⟨hle1,hsk1⟩,hsz1⟩ := Tr.Lv.out (A := A.ask) (size := A.size) A.size_ask s (lv_dcstep he.qr.pok (τ := (b,sk)) he.good (p := (pts[i].1,pts[i].2)) hin)
  simp only at hle1 hsk1
  generalize hx : pts[i].1 = x at *
  generalize hy : pts[i].2 = y at *
  rw [hsp] at hk
  simp only [Tr.run_bind] at hk
  have he2 := he.push (some ⟨false,[.int .i64 x,.int .i64 y]⟩)
  have hs2 := Stq.push h (some ⟨false,[.int .i64 x,.int .i64 y]⟩) c (A.own t)
  have hf2 := hf.stq hs2
  have hK : ∀ y : Blk,blk? (h ++ [some y]) h.length = some y := fun y => blk?_push_eq
  obtain ⟨l1,l2,l3⟩ := he.lts
  obtain ⟨i1,i2,i3,i4⟩ := hin
  have hb2 := he.qr.cb.ok.h2
  have hnext : ∀ (h' : Heap) (t' : A.T) (υ : BS × Nat) (s' : A.S) (K3 K4 K5 K8 K9 Ka Kb Kc Kd Kh Ki Kj Kk Kl Km Kn Ko Kp Kq Kr Ks Kt Ku Kv Kw Kx Ky Kz J0 J1 J2 J3 J4 J5 J6 J7 J8 J9 Ja Jb Jc Jd Je Jf Jg Jh Ji Jj Jk Jl Jm Jn Jo Jp Jq Jr Js Jt Ju Jv Jw Jx Jy Jz Y0 Y1 Y2 Y3 Y4 Y5 Y6 Y7 Y8 Y9 Ya Yb Yc Yd Ye Yf Yg Yh Yi Yj Yk Yl Ym Yn Yo Yp Yq : Value),(dcstep P (b,sk) (x,y)).run A.ask s = (υ,s') → PQ A h' q p P m t' υ.1 s' → Stq h h' c (A.own t) (A.own t') →
    Ok tab R121 (.inLoop L121_0 :: .inBlock 0 :: k) #[ptr q,sl,.int .i64 hh,K3,K4,K5,v6,.int .i64 υ.2,K8,K9,Ka,Kb,Kc,Kd,sl,.int .i64 pts.length,.int .i64 ((i : Int) + 1),Kh,Ki,Kj,Kk,Kl,Km,Kn,Ko,Kp,Kq,Kr,Ks,Kt,Ku,Kv,Kw,Kx,Ky,Kz,J0,J1,J2,J3,J4,J5,J6,J7,J8,J9,Ja,Jb,Jc,Jd,Je,Jf,Jg,Jh,Ji,Jj,Jk,Jl,Jm,Jn,Jo,Jp,Jq,Jr,Js,Jt,Ju,Jv,Jw,Jx,Jy,Jz,Y0,Y1,Y2,Y3,Y4,Y5,Y6,Y7,Y8,Y9,Ya,Yb,Yc,Yd,Ye,Yf,Yg,Yh,Yi,Yj,Yk,Yl,Ym,Yn,Yo,Yp,Yq] h' R := by
   intro h' t' υ s';intros;rename_i hυ pe st
   rw [hυ] at hle1 hsk1 hsz1 hk
   simp only at hle1 hsk1 hsz1 hk
   refine ih (i + 1) h' t' υ s' _ _ _ _ _ _ _ _ _ _ _ _ _ _ _ _ _ _ _ _ _ _ _ _ _ _ _ _ _ _ _ _ _ _ _ _ _ _ _ _ _ _ _ _ _ _ _ _ _ _ _ _ _ _ _ _ _ _ _ _ _ _ _ _ _ _ _ _ _ _ _ _ _ _ _ _ _ _ _ _ _ _ _ _ _ _ _ _ _ _ _ (by omega) (by omega) pe (hf.stq st) (hle1.all ha) (hle1.h.trans hh') (by omega) (by omega) hpl ?_
   intro h'' t'';intros;rename_i pe2 st2
   exact hk h'' t'' _ _ _ _ _ _ _ _ _ _ _ _ _ _ _ _ _ _ _ _ _ _ _ _ _ _ _ _ _ _ _ _ _ _ _ _ _ _ _ _ _ _ _ _ _ _ _ _ _ _ _ _ _ _ _ _ _ _ _ _ _ _ _ _ _ _ _ _ _ _ _ _ _ _ _ _ _ _ _ _ _ _ _ _ _ _ _ _ _ _ _ _ _ _ _ _ pe2 (st.trans st2)
  rw [ok_round,l121_0,L121_0a,L121_0b]
  cases sk with
  | succ sk =>
   have hsk0 : (0 : Int) < ((sk + 1 : Nat) : Int) := by omega
   have hskw : IntKind.i64.wrap (((sk + 1 : Nat) : Int) - 1) = (sk : Int) := by rw [wrapI (by omega) (by omega)]; omega
   generalize ((sk + 1 : Nat) : Int) = ski at *
   simp [-List.cons_append,-List.append_assoc,hlt,hw,hs,hb,ht,hle,hK,hsk0,hskw]
   rw [← hs]
   exact hnext _ t (b,sk) s _ _ _ _ _ _ _ _ _ _ _ _ _ _ _ _ _ _ _ _ _ _ _ _ _ _ _ _ _ _ _ _ _ _ _ _ _ _ _ _ _ _ _ _ _ _ _ _ _ _ _ _ _ _ _ _ _ _ _ _ _ _ _ _ _ _ _ _ _ _ _ _ _ _ _ _ _ _ _ _ _ _ _ _ _ _ _ _ _ _ _ rfl he2 hs2
  | zero =>
   have hqt := fun R => quiet_q (R := R) (x := x) (y := y) he2.qr ⟨i1,i2,i3,i4⟩
   rw [hh'] at hqt
   have hq2 := he2.qr.blk
   have hcb2 := he2.qr.cb
   have hsig := fun R => significant_r (R := R) (x := x) (y := y) hcb2
   have htch := fun R => touched_r (R := R) (x := x) (y := y) hcb2
   cases hqq : quietQ b x y P.cz
   ·rw [hqq] at hqt
    have hst : dcstep P (b,0) (x,y) = (dcln1 P b x y).bind fun b => .ret (b,0) := by simp [dcstep,hqq]
    cases hsg : (b.get x y).s
    ·cases htc : (b.get x y).t
     ·have h1 : dcln1 P b x y = dcode P b x y := by unfold dcln1; rw [if_pos ⟨hsg,htc⟩]
      obtain ⟨u3,h3,e3,p3,s3⟩ := code_q he2 (by omega) (x := x) (y := y) ⟨i1,i2,i3,i4⟩
      rw [hsg] at hsig; rw [htc] at htch
      simp [-List.cons_append,-List.append_assoc,k_guard,hlt,hw,hs,hb,ht,hle,hK,hqt,hq2,hsig,htch,e3]
      rw [← hs]
      exact hnext _ u3 (((dcode P b x y).run A.ask s).1,0) _ _ _ _ _ _ _ _ _ _ _ _ _ _ _ _ _ _ _ _ _ _ _ _ _ _ _ _ _ _ _ _ _ _ _ _ _ _ _ _ _ _ _ _ _ _ _ _ _ _ _ _ _ _ _ _ _ _ _ _ _ _ _ _ _ _ _ _ _ _ _ _ _ _ _ _ _ _ _ _ _ _ _ _ _ _ _ _ _ _ _ _ (by rw [hst,h1,Tr.run_bind,Tr.run_ret]) p3 (hs2.trans s3)
     ·have h1 : dcln1 P b x y = .ret b := by unfold dcln1; rw [if_neg (by simp [htc])]
      rw [hsg] at hsig; rw [htc] at htch
      simp [-List.cons_append,-List.append_assoc,k_guard,hlt,hw,hs,hb,ht,hle,hK,hqt,hq2,hsig,htch]
      rw [← hs]
      exact hnext _ t (b,0) s _ _ _ _ _ _ _ _ _ _ _ _ _ _ _ _ _ _ _ _ _ _ _ _ _ _ _ _ _ _ _ _ _ _ _ _ _ _ _ _ _ _ _ _ _ _ _ _ _ _ _ _ _ _ _ _ _ _ _ _ _ _ _ _ _ _ _ _ _ _ _ _ _ _ _ _ _ _ _ _ _ _ _ _ _ _ _ _ _ _ _ (by rw [hst,h1]; rfl) he2 hs2
    ·have h1 : dcln1 P b x y = .ret b := by unfold dcln1; rw [if_neg (by simp [hsg])]
     rw [hsg] at hsig
     simp [-List.cons_append,-List.append_assoc,k_guard,k_guardU,hlt,hw,hs,hb,ht,hle,hK,hqt,hq2,hsig]
     rw [← hs]
     exact hnext _ t (b,0) s _ _ _ _ _ _ _ _ _ _ _ _ _ _ _ _ _ _ _ _ _ _ _ _ _ _ _ _ _ _ _ _ _ _ _ _ _ _ _ _ _ _ _ _ _ _ _ _ _ _ _ _ _ _ _ _ _ _ _ _ _ _ _ _ _ _ _ _ _ _ _ _ _ _ _ _ _ _ _ _ _ _ _ _ _ _ _ _ _ _ _ (by rw [hst,h1]; rfl) he2 hs2
   ·have htop := quietQ_top hqq
    obtain ⟨u3,h3,e3,p3,s3⟩ := runLength_q he2 (by omega) (x := x) (y := y) ⟨i1,i2⟩ ⟨i3,htop⟩
    obtain ⟨⟨r1,r2,r3⟩,_⟩ := Tr.Lv.out (A := A.ask) (size := A.size) A.size_ask s (lv_drun he.qr.pok he.good (x := x) (top := y) ⟨i1,i2,i3,i4⟩ htop)
    have hst : dcstep P (b,0) (x,y) = (drun P b x y).bind fun r => .ret (r.1,(r.2 - y - 1).toNat) := by simp [dcstep,hqq]
    have hgo := hnext h3 u3 (((drun P b x y).run A.ask s).1.1,(((drun P b x y).run A.ask s).1.2 - y - 1).toNat) ((drun P b x y).run A.ask s).2
    have hrw : IntKind.i64.wrap (((drun P b x y).run A.ask s).1.2 - y - 1) = ((((drun P b x y).run A.ask s).1.2 - y - 1).toNat : Int) := by rw [wrapI (by omega) (by omega)]; omega
    have hrr : (dcstep P (b,0) (x,y)).run A.ask s = ((((drun P b x y).run A.ask s).1.1,(((drun P b x y).run A.ask s).1.2 - y - 1).toNat),((drun P b x y).run A.ask s).2) := by rw [hst,Tr.run_bind,Tr.run_ret]
    rw [hqq] at hqt
    simp only at hgo
    generalize (((drun P b x y).run A.ask s).1.2 - y - 1).toNat = nsk at *
    generalize ((drun P b x y).run A.ask s).1.2 - y = rl at *
    simp [-List.cons_append,-List.append_assoc,-Int.ofNat_toNat,hlt,hw,hs,hb,ht,hle,hK,hqt,hq2,e3,hrw]
    rw [← hs]
    exact hgo _ _ _ _ _ _ _ _ _ _ _ _ _ _ _ _ _ _ _ _ _ _ _ _ _ _ _ _ _ _ _ _ _ _ _ _ _ _ _ _ _ _ _ _ _ _ _ _ _ _ _ _ _ _ _ _ _ _ _ _ _ _ _ _ _ _ _ _ _ _ _ _ _ _ _ _ _ _ _ _ _ _ _ _ _ _ _ _ _ _ _ hrr p3 (hs2.trans s3)
set_option maxRecDepth 10000 in
theorem clear_loop_q {sl v6 : Value} {pts : List (Int × Int)} :
  ∀ (n i : Nat) (h : Heap) (t : A.T) (b : BS) (s : A.S) (K1 K2 K3 K4 K5 K7 K8 K9 Ka Kb Kc Kd Ke Kf Kg Kh Ki Kj Kk Kl Km Kn Ko Kp Kq Kr Ks Kt Ku Kv Kw Kx Ky Kz J0 J1 J2 J3 J4 J5 J6 J7 J8 J9 Ja Jb Jc Jd Je Jf Jg Jh Ji Jj Jk Jl Jm Jn Jo Jp Jq Jr Js Jt Ju Jy Jz Y0 Y1 Y2 Y3 Y4 Y5 Y6 Y7 Y8 Y9 Ya Yb Yc Yd Ye Yf Yg Yh Yi Yj Yk Yl Ym Yn Yo Yp Yq : Value),n = pts.length - i → i ≤ pts.length → PQ A h q p P m t b s → Fad h sl pts c (A.own t) → AllIn b pts → pts.length < 1000000 →
   (∀ (h' : Heap) (K1 K2 K3 K4 K5 K7 K8 K9 Ka Kb Kc Kd Ke Kf Kg Kh Ki Kj Kk Kl Km Kn Ko Kp Kq Kr Ks Kt Ku Kv Kw Kx Ky Kz J0 J1 J2 J3 J4 J5 J6 J7 J8 J9 Ja Jb Jc Jd Je Jf Jg Jh Ji Jj Jk Jl Jm Jn Jo Jp Jq Jr Js Jt Ju Jv Jw Jx Jy Jz Y0 Y1 Y2 Y3 Y4 Y5 Y6 Y7 Y8 Y9 Ya Yb Yc Yd Ye Yf Yg Yh Yi Yj Yk Yl Ym Yn Yo Yp Yq : Value),PQ A h' q p P m t (b.clr (pts.drop i)) s → Stq h h' c (A.own t) (A.own t) → Ok tab R121 k #[ptr q,K1,K2,K3,K4,K5,v6,K7,K8,K9,Ka,Kb,Kc,Kd,Ke,Kf,Kg,Kh,Ki,Kj,Kk,Kl,Km,Kn,Ko,Kp,Kq,Kr,Ks,Kt,Ku,Kv,Kw,Kx,Ky,Kz,J0,J1,J2,J3,J4,J5,J6,J7,J8,J9,Ja,Jb,Jc,Jd,Je,Jf,Jg,Jh,Ji,Jj,Jk,Jl,Jm,Jn,Jo,Jp,Jq,Jr,Js,Jt,Ju,Jv,Jw,Jx,Jy,Jz,Y0,Y1,Y2,Y3,Y4,Y5,Y6,Y7,Y8,Y9,Ya,Yb,Yc,Yd,Ye,Yf,Yg,Yh,Yi,Yj,Yk,Yl,Ym,Yn,Yo,Yp,Yq] h' R) →
   Ok tab R121 (.inLoop L121_1 :: .inBlock 2 :: k) #[ptr q,K1,K2,K3,K4,K5,v6,K7,K8,K9,Ka,Kb,Kc,Kd,Ke,Kf,Kg,Kh,Ki,Kj,Kk,Kl,Km,Kn,Ko,Kp,Kq,Kr,Ks,Kt,Ku,Kv,Kw,Kx,Ky,Kz,J0,J1,J2,J3,J4,J5,J6,J7,J8,J9,Ja,Jb,Jc,Jd,Je,Jf,Jg,Jh,Ji,Jj,Jk,Jl,Jm,Jn,Jo,Jp,Jq,Jr,Js,Jt,Ju,sl,.int .i64 pts.length,.int .i64 i,Jy,Jz,Y0,Y1,Y2,Y3,Y4,Y5,Y6,Y7,Y8,Y9,Ya,Yb,Yc,Yd,Ye,Yf,Yg,Yh,Yi,Yj,Yk,Yl,Ym,Yn,Yo,Yp,Yq] h R := by
 intro n
 induction n with
 | zero =>
  intro i h t b s;intros;rename_i hm hi he hf ha hpl hk
  have hlt : ¬ ((i : Int) < pts.length) := by omega
  rw [ok_round,l121_1,L121_1a,L121_1b]
  simp [hlt]
  refine hk h _ _ _ _ _ _ _ _ _ _ _ _ _ _ _ _ _ _ _ _ _ _ _ _ _ _ _ _ _ _ _ _ _ _ _ _ _ _ _ _ _ _ _ _ _ _ _ _ _ _ _ _ _ _ _ _ _ _ _ _ _ _ _ _ _ _ _ _ _ _ _ _ _ _ _ _ _ _ _ _ _ _ _ _ _ _ _ _ _ _ _ _ _ _ _ _ _ ?_ (Stq.refl _ _ _)
  rw [List.drop_of_length_le (by omega)]; exact he
 | succ n ih =>
  intro i h t b s;intros;rename_i hm hi he hf ha hpl hk
  have hlt : ((i : Int) < pts.length) := by omega
  have hw : IntKind.i64.wrap ((i : Int) + 1) = (i : Int) + 1 := wrapN (n := i + 1) (by omega)
  have hil : i < pts.length := by omega
  obtain ⟨id,off,blk,hs,hb,ht,hle⟩ := hf.get hil
  have hin := ha _ (List.getElem_mem hil)
  have hsp : b.clr (pts.drop i) = (b.upd pts[i].1 pts[i].2 (touch false)).clr (pts.drop (i + 1)) := by
   rw [List.drop_eq_getElem_cons hil]; rfl
  generalize hx : pts[i].1 = x at *
  generalize hy : pts[i].2 = y at *
  rw [hsp] at hk
  have he2 := he.push (some ⟨false,[.int .i64 x,.int .i64 y]⟩)
  have hs2 := Stq.push h (some ⟨false,[.int .i64 x,.int .i64 y]⟩) c (A.own t)
  have hf2 := hf.stq hs2
  have hK : ∀ y : Blk,blk? (h ++ [some y]) h.length = some y := fun y => blk?_push_eq
  have hq2 := he2.qr.blk
  have htc := fun R => touch_r (R := R) (v := false) he2.qr.cb (x := x) (y := y) hin
  have hl1 := good_map he.good hin (kv_touch false)
  obtain ⟨p4,s4⟩ := he2.to hl1
  have hmm : (fun z : Cell => ({ z with t := false } : Cell)) = touch false := rfl
  rw [hmm] at htc
  have hls : (h ++ [some (⟨false,[.int .i64 x,.int .i64 y]⟩ : Blk)]).set c (some ⟨false,encC (b.upd x y (touch false)).cs⟩) = h.set c (some ⟨false,encC (b.upd x y (touch false)).cs⟩) ++ [some ⟨false,[.int .i64 x,.int .i64 y]⟩] :=
   List.set_append_left _ _ he.lts.2.2
  rw [ok_round,l121_1,L121_1a,L121_1b]
  rw [hls] at htc p4 s4
  simp [-List.cons_append,-List.append_assoc,hlt,hw,hs,hb,ht,hle,hK,hq2,htc]
  rw [← hs]
  have st4 := hs2.trans s4
  refine ih (i + 1) _ t _ s _ _ _ _ _ _ _ _ _ _ _ _ _ _ _ _ _ _ _ _ _ _ _ _ _ _ _ _ _ _ _ _ _ _ _ _ _ _ _ _ _ _ _ _ _ _ _ _ _ _ _ _ _ _ _ _ _ _ _ _ _ _ _ _ _ _ _ _ _ _ _ _ _ _ _ _ _ _ _ _ _ _ _ _ _ _ _ _ _ _ _ _ _ _ (by omega) (by omega) p4 (hf.stq st4) (hl1.all ha) hpl ?_
  intro h';intros;rename_i pe st
  exact hk h' _ _ _ _ _ _ _ _ _ _ _ _ _ _ _ _ _ _ _ _ _ _ _ _ _ _ _ _ _ _ _ _ _ _ _ _ _ _ _ _ _ _ _ _ _ _ _ _ _ _ _ _ _ _ _ _ _ _ _ _ _ _ _ _ _ _ _ _ _ _ _ _ _ _ _ _ _ _ _ _ _ _ _ _ _ _ _ _ _ _ _ _ _ _ _ _ _ pe (st4.trans st)
set_option maxRecDepth 10000 in
set_option maxHeartbeats 4000000 in
theorem check_loop_q {v6 : Value} :
  ∀ (n i : Nat) (h : Heap) (t : A.T) (s : A.S) (r : Bool) (K1 K2 K3 K4 K5 K7 K8 K9 Ka Kb Ke Kf Kg Kh Ki Kj Kk Kl Km Kn Ko Kp Kq Kr Ks Kt Ku Kv Kw Kx Ky Kz J0 J1 J2 J3 J4 J5 J6 J7 J8 J9 Ja Jb Jc Jd Je Jf Jg Jh Ji Jj Jk Jl Jm Jn Jo Jp Jq Jr Js Jt Ju Jv Jw Jx Jy Jz Y0 Y1 Y2 Y3 Y4 Y5 Y6 Y7 Y8 Y9 Ya Yb Yc Yd Ye Yf Yg Yh Yi Yj Yk Yl Ym Yn Yo Yp Yq : Value),i + n = 4 → PQ A h q p P m t b s → A.size s + 10 < 1000000 + i →
   (∀ (h' : Heap) (t' : A.T) (K1 K2 K3 K4 K5 K7 K8 K9 Ka Kb Kd Ke Kf Kg Kh Ki Kj Kk Kl Km Kn Ko Kp Kq Kr Ks Kt Ku Kv Kw Kx Ky Kz J0 J1 J2 J3 J4 J5 J6 J7 J8 J9 Ja Jb Jc Jd Je Jf Jg Jh Ji Jj Jk Jl Jm Jn Jo Jp Jq Jr Js Jt Ju Jv Jw Jx Jy Jz Y0 Y1 Y2 Y3 Y4 Y5 Y6 Y7 Y8 Y9 Ya Yb Yc Yd Ye Yf Yg Yh Yi Yj Yk Yl Ym Yn Yo Yp Yq : Value),PQ A h' q p P m t' b ((dchk P r ([true,false,true,false].drop i)).run A.ask s).2 → Stq h h' c (A.own t) (A.own t') → Ok tab R121 k #[ptr q,K1,K2,K3,K4,K5,v6,K7,K8,K9,Ka,Kb,.bool ((dchk P r ([true,false,true,false].drop i)).run A.ask s).1,Kd,Ke,Kf,Kg,Kh,Ki,Kj,Kk,Kl,Km,Kn,Ko,Kp,Kq,Kr,Ks,Kt,Ku,Kv,Kw,Kx,Ky,Kz,J0,J1,J2,J3,J4,J5,J6,J7,J8,J9,Ja,Jb,Jc,Jd,Je,Jf,Jg,Jh,Ji,Jj,Jk,Jl,Jm,Jn,Jo,Jp,Jq,Jr,Js,Jt,Ju,Jv,Jw,Jx,Jy,Jz,Y0,Y1,Y2,Y3,Y4,Y5,Y6,Y7,Y8,Y9,Ya,Yb,Yc,Yd,Ye,Yf,Yg,Yh,Yi,Yj,Yk,Yl,Ym,Yn,Yo,Yp,Yq] h' R) →
   Ok tab R121 (.inLoop L121_2 :: .inBlock 4 :: k) #[ptr q,K1,K2,K3,K4,K5,v6,K7,K8,K9,Ka,Kb,.bool r,.int .i64 i,Ke,Kf,Kg,Kh,Ki,Kj,Kk,Kl,Km,Kn,Ko,Kp,Kq,Kr,Ks,Kt,Ku,Kv,Kw,Kx,Ky,Kz,J0,J1,J2,J3,J4,J5,J6,J7,J8,J9,Ja,Jb,Jc,Jd,Je,Jf,Jg,Jh,Ji,Jj,Jk,Jl,Jm,Jn,Jo,Jp,Jq,Jr,Js,Jt,Ju,Jv,Jw,Jx,Jy,Jz,Y0,Y1,Y2,Y3,Y4,Y5,Y6,Y7,Y8,Y9,Ya,Yb,Yc,Yd,Ye,Yf,Yg,Yh,Yi,Yj,Yk,Yl,Ym,Yn,Yo,Yp,Yq] h R := by
 intro n
 induction n with
 | zero =>
  intro i h t s r;intros;rename_i hi he hl hk
  obtain rfl : i = 4 := by omega
  rw [ok_round,l121_2,L121_2a,L121_2b]
  simp
  exact hk h t _ _ _ _ _ _ _ _ _ _ _ _ _ _ _ _ _ _ _ _ _ _ _ _ _ _ _ _ _ _ _ _ _ _ _ _ _ _ _ _ _ _ _ _ _ _ _ _ _ _ _ _ _ _ _ _ _ _ _ _ _ _ _ _ _ _ _ _ _ _ _ _ _ _ _ _ _ _ _ _ _ _ _ _ _ _ _ _ _ _ _ _ _ _ _ _ he (Stq.refl _ _ _)
 | succ n ih =>
  intro i h t s r;intros;rename_i hi he hl hk
  obtain ⟨u1,h1,e1,p1,s1⟩ := ask_q he (by omega) 18
  have z1 := A.size_ask s (P.cx 18)
  obtain ⟨x,hx,hxr⟩ : ∃ x : Bool,[true,false,true,false].drop i = x :: [true,false,true,false].drop (i + 1) ∧ IntKind.i64.wrap (1 - (i : Int).tmod 2) = ((x.toNat : Nat) : Int) := by
   have : i = 0 ∨ i = 1 ∨ i = 2 ∨ i = 3 := by omega
   rcases this with rfl | rfl | rfl | rfl
   ·exact ⟨true,rfl,by decide⟩
   ·exact ⟨false,rfl,by decide⟩
   ·exact ⟨true,rfl,by decide⟩
   ·exact ⟨false,rfl,by decide⟩
  rw [hx,dchk_run_q] at hk
  generalize (A.ask s (P.cx 18)).1 = bit at *
  generalize (A.ask s (P.cx 18)).2 = sa at *
  have hlt : (i : Int) < 4 := by omega
  have hw : IntKind.i64.wrap ((i : Int) + 1) = ((i + 1 : Nat) : Int) := wrapN (n := i + 1) (by omega)
  have hcmp : (((bit.toNat : Nat) : Int) == ((x.toNat : Nat) : Int)) = (bit == x) := by cases bit <;> cases x <;> rfl
  have hcmp2 : (((bit.toNat : Nat) : Int) != ((x.toNat : Nat) : Int)) = !(bit == x) := by cases bit <;> cases x <;> rfl
  have hgo := fun K1 K2 K3 K4 K5 K7 K8 K9 Ka Kb Ke Kf Kg Kh Ki Kj Kk Kl Km Kn Ko Kp Kq Kr Ks Kt Ku Kv Kw Kx Ky Kz J0 J1 J2 J3 J4 J5 J6 J7 J8 J9 Ja Jb Jc Jd Je Jf Jg Jh Ji Jj Jk Jl Jm Jn Jo Jp Jq Jr Js Jt Ju Jv Jw Jx Jy Jz Y0 Y1 Y2 Y3 Y4 Y5 Y6 Y7 Y8 Y9 Ya Yb Yc Yd Ye Yf Yg Yh Yi Yj Yk Yl Ym Yn Yo Yp Yq => ih (i + 1) h1 u1 sa (r && bit == x) K1 K2 K3 K4 K5 K7 K8 K9 Ka Kb Ke Kf Kg Kh Ki Kj Kk Kl Km Kn Ko Kp Kq Kr Ks Kt Ku Kv Kw Kx Ky Kz J0 J1 J2 J3 J4 J5 J6 J7 J8 J9 Ja Jb Jc Jd Je Jf Jg Jh Ji Jj Jk Jl Jm Jn Jo Jp Jq Jr Js Jt Ju Jv Jw Jx Jy Jz Y0 Y1 Y2 Y3 Y4 Y5 Y6 Y7 Y8 Y9 Ya Yb Yc Yd Ye Yf Yg Yh Yi Yj Yk Yl Ym Yn Yo Yp Yq (by omega) p1 (by omega)
  rw [ok_round,l121_2,L121_2a,L121_2b]
  generalize hbx : (bit == x) = bx at *
  generalize ((bit.toNat : Nat) : Int) = bn at *
  generalize ((x.toNat : Nat) : Int) = xn at *
  generalize ((i + 1 : Nat) : Int) = wi at *
  cases bx
  ·rw [Bool.and_false] at hgo hk
   simp [k_guard,hlt,hw,e1,hxr,hcmp2]
   refine hgo _ _ _ _ _ _ _ _ _ _ _ _ _ _ _ _ _ _ _ _ _ _ _ _ _ _ _ _ _ _ _ _ _ _ _ _ _ _ _ _ _ _ _ _ _ _ _ _ _ _ _ _ _ _ _ _ _ _ _ _ _ _ _ _ _ _ _ _ _ _ _ _ _ _ _ _ _ _ _ _ _ _ _ _ _ _ _ _ _ _ _ _ _ _ _ ?_
   intro h' t';intros;rename_i pe st
   exact hk h' t' _ _ _ _ _ _ _ _ _ _ _ _ _ _ _ _ _ _ _ _ _ _ _ _ _ _ _ _ _ _ _ _ _ _ _ _ _ _ _ _ _ _ _ _ _ _ _ _ _ _ _ _ _ _ _ _ _ _ _ _ _ _ _ _ _ _ _ _ _ _ _ _ _ _ _ _ _ _ _ _ _ _ _ _ _ _ _ _ _ _ _ _ _ _ _ _ pe (s1.trans st)
  ·rw [Bool.and_true] at hgo hk
   simp [k_guard,hlt,hw,e1,hxr,hcmp2]
   refine hgo _ _ _ _ _ _ _ _ _ _ _ _ _ _ _ _ _ _ _ _ _ _ _ _ _ _ _ _ _ _ _ _ _ _ _ _ _ _ _ _ _ _ _ _ _ _ _ _ _ _ _ _ _ _ _ _ _ _ _ _ _ _ _ _ _ _ _ _ _ _ _ _ _ _ _ _ _ _ _ _ _ _ _ _ _ _ _ _ _ _ _ _ _ _ _ ?_
   intro h' t';intros;rename_i pe st
   exact hk h' t' _ _ _ _ _ _ _ _ _ _ _ _ _ _ _ _ _ _ _ _ _ _ _ _ _ _ _ _ _ _ _ _ _ _ _ _ _ _ _ _ _ _ _ _ _ _ _ _ _ _ _ _ _ _ _ _ _ _ _ _ _ _ _ _ _ _ _ _ _ _ _ _ _ _ _ _ _ _ _ _ _ _ _ _ _ _ _ _ _ _ _ _ _ _ _ _ pe (s1.trans st)
set_option maxRecDepth 10000 in
set_option maxHeartbeats 4000000 in
theorem cleanup_q (he : PQ A h q p P m t b s) (hl : A.size s + 100000 < 1000000) {sl : Value} (hf : Fad h sl (scan b.w b.h) c (A.own t)) :
  ∃ t' h',(∀ R,Ret tab 121 [ptr q,sl,.int .i64 b.h] h R = R (.bool ((dclean P b m.sy).run A.ask s).1.2) h') ∧ PQ A h' q p P m t' ((dclean P b m.sy).run A.ask s).1.1 ((dclean P b m.sy).run A.ask s).2 ∧ Stq h h' c (A.own t) (A.own t') := by
 have key : Ret tab 121 [ptr q,sl,.int .i64 b.h] h fun v h' => v = .bool ((dclean P b m.sy).run A.ask s).1.2 ∧ ∃ t',PQ A h' q p P m t' ((dclean P b m.sy).run A.ask s).1.1 ((dclean P b m.sy).run A.ask s).2 ∧ Stq h h' c (A.own t) (A.own t') := by
  have hw2 := he.qr.cb.ok.w2
  have hh2 := he.qr.cb.ok.h2
  have hsl := scan_len he.qr.cb.ok.w2 he.qr.cb.ok.h2
  have hst : 12 * b.w * stripesOf b.h ≤ 12 * 64 * 16 := Nat.mul_le_mul (by omega) (by unfold stripesOf; omega)
  have g2 : 0 + 4 * ((stripesOf b.h : Nat) : Int) ≤ b.h + 3 := by unfold stripesOf; omega
  obtain ⟨hls,hsz⟩ := Tr.Lv.out (A := A.ask) (size := A.size) A.size_ask s (lv_dstripes he.qr.pok (n := stripesOf b.h) he.good (top := 0) (by omega) g2)
  have hcl : (dclean P b m.sy).run A.ask s = ((((dstripes P b 0 (stripesOf b.h)).run A.ask s).1.clr (scan b.w b.h),((dcheck P m.sy).run A.ask ((dstripes P b 0 (stripesOf b.h)).run A.ask s).2).1),((dcheck P m.sy).run A.ask ((dstripes P b 0 (stripesOf b.h)).run A.ask s).2).2) := by
   unfold dclean
   simp only [Tr.run_bind,Tr.run_ret]
   rw [hls.w,hls.h]
  rw [hcl]
  obtain ⟨a,cc,hs⟩ := hf.sl.shape
  rw [enter121,show B121 = .seq (nthC 0 B121) (.seq (nthC 1 B121) (.seq (nthC 2 B121) (.seq (nthC 3 B121) (tlC 4 B121)))) from rfl]
  generalize hT : tlC 4 B121 = tl
  simp only [nthC,tlC,fstC,B121]
  simp [hs]
  rw [← hs]
  refine clean_loop_q _ 0 h t (b,0) s _ _ _ _ _ _ _ _ _ _ _ _ _ _ _ _ _ _ _ _ _ _ _ _ _ _ _ _ _ _ _ _ _ _ _ _ _ _ _ _ _ _ _ _ _ _ _ _ _ _ _ _ _ _ _ _ _ _ _ _ _ _ _ _ _ _ _ _ _ _ _ _ _ _ _ _ _ _ _ _ _ _ _ _ _ _ _ _ _ _ _ rfl (by omega) he hf (scanIn b) rfl (by omega) (Nat.zero_le _) (by omega) ?_
  intro h1 u1;intros;rename_i p1 s1
  rw [List.drop_zero,dcsteps_all he.qr.pok he.good,Tr.run_bind,Tr.run_ret] at p1
  simp only at p1
  have f1 := hf.stq s1
  have hall : AllIn ((dstripes P b 0 (stripesOf b.h)).run A.ask s).1 (scan b.w b.h) := by have := scanIn ((dstripes P b 0 (stripesOf b.h)).run A.ask s).1; rwa [hls.w,hls.h] at this
  simp [hs]
  rw [← hs]
  refine clear_loop_q _ 0 h1 u1 _ _ _ _ _ _ _ _ _ _ _ _ _ _ _ _ _ _ _ _ _ _ _ _ _ _ _ _ _ _ _ _ _ _ _ _ _ _ _ _ _ _ _ _ _ _ _ _ _ _ _ _ _ _ _ _ _ _ _ _ _ _ _ _ _ _ _ _ _ _ _ _ _ _ _ _ _ _ _ _ _ _ _ _ _ _ _ _ _ _ _ _ _ _ _ _ rfl (by omega) p1 f1 hall (by omega) ?_
  intro h3;intros;rename_i p3 s3
  rw [List.drop_zero] at p3
  have hcg := le_clr hls.good hall
  generalize ((dstripes P b 0 (stripesOf b.h)).run A.ask s).2 = sa at *
  generalize ((dstripes P b 0 (stripesOf b.h)).run A.ask s).1.clr (scan b.w b.h) = b3 at *
  have hq3 := p3.qr.blk
  rw [← hT]
  simp only [tlC,B121]
  cases hon : m.sy
  ·rw [hon] at hq3
   simp [hq3,dcheck,Tr.run_ret,fin121]
   exact ⟨u1,p3,s1.trans s3⟩
  ·rw [hon] at hq3
   have hdc : dcheck P true = dchk P true [true,false,true,false] := rfl
   rw [hdc]
   simp [hq3]
   refine check_loop_q 4 0 h3 u1 sa true _ _ _ _ _ _ _ _ _ _ _ _ _ _ _ _ _ _ _ _ _ _ _ _ _ _ _ _ _ _ _ _ _ _ _ _ _ _ _ _ _ _ _ _ _ _ _ _ _ _ _ _ _ _ _ _ _ _ _ _ _ _ _ _ _ _ _ _ _ _ _ _ _ _ _ _ _ _ _ _ _ _ _ _ _ _ _ _ _ _ _ _ _ _ _ (by omega) p3 (by omega) ?_
   intro h' t';intros;rename_i pe st
   simp [fin121]
   exact ⟨t',by simpa using pe,(s1.trans s3).trans st⟩
 obtain ⟨v,h',e,rfl,t',pe,st⟩ := ret_ex key
 exact ⟨t',h',e,pe,st⟩
end
theorem eq_ptrN {a : Nat} : eqV .ptr (ptr a) (.pointer none) = some false := by simp [eqV]
section
variable {c sb : Nat} {A : Src c (callN sb)} {h : Heap} {p : Nat} {t : A.T} {b : BS} {s : A.S}
theorem DRes.low {h h' : Heap} (hb : CB h false p c b) (hr : b.Rng) (hrel : A.rel h t s) (hk : ∀ id,id < h.length → blk? h' id = blk? h id) (hl : h.length ≤ h'.length) : DRes A h h' p t t b s :=
 ⟨⟨by rw [hk _ (blk?_lt hb.blkp)]; exact hb.blkp,by rw [hk _ (blk?_lt hb.blkc)]; exact hb.blkc,hb.ok⟩,⟨hb.ok,hr⟩,A.stable hrel hl (fun id h1 _ => hk id h1),Stq.low hk hl _ _⟩
theorem PQ.scan {q : Nat} {P : PP} {m : MD} (he : PQ A h q p P m t b s) : ∃ sl h',(∀ R,Ret tab 118 [.int .i64 b.w,.int .i64 b.h] h R = R sl h') ∧ PQ A h' q p P m t b s ∧ Stq h h' c (A.own t) (A.own t) ∧ Fad h' sl (scan b.w b.h) c (A.own t) := by
 have ho := he.qr.cb.ok
 obtain ⟨l1,l2,l3⟩ := he.lts
 obtain ⟨s1,h',e,m'⟩ := scan_r ho.w1 ho.w2 ho.h1 ho.h2 h
 refine ⟨s1,h',e,he.low m'.low m'.len,Stq.low m'.low m'.len c _,⟨m'.own.sl,fun id hid => ?_⟩⟩
 have h1 := m'.far id hid
 refine ⟨?_,by omega,fun e => by have := A.lt he.rel id e; omega⟩
 rcases m'.own.2 with ⟨rfl,_⟩ | ⟨id',rfl,hb⟩
 ·simp [sid] at hid
 ·simp [sid] at hid; subst hid; exact blk?_lt hb
set_option maxHeartbeats 1000000 in
theorem run_q (hb : CB h false p c b) (hr : b.Rng) (hrel : A.rel h t s) (hp : ¬ A.own t p) (hsb : sb < h.length) (hl : A.size s + 100000 < 1000000) (n planes o : Int) (m : MD) :
  ∃ t' h',(∀ R,Ret tab 77 [ptr p,.int .i64 n,.int .i64 planes,.int .i64 o,m.val,ptr sb] h R = R (.int .i64 (dErr n planes o (dOut A.ask m b n planes o s).1.2)) h') ∧
   DRes A h h' p t t' (dOut A.ask m b n planes o s).1.1 (dOut A.ask m b n planes o s).2 := by
 have key : Ret tab 77 [ptr p,.int .i64 n,.int .i64 planes,.int .i64 o,m.val,ptr sb] h fun v h' => v = .int .i64 (dErr n planes o (dOut A.ask m b n planes o s).1.2) ∧ ∃ t',DRes A h h' p t t' (dOut A.ask m b n planes o s).1.1 (dOut A.ask m b n planes o s).2 := by
  have hb1 : CB (h ++ [some ⟨false,[.bool m.byp,.bool m.res,.bool m.rst,.bool m.cz,.bool m.sy]⟩]) false p c b := ⟨blk?_push hb.blkp,blk?_push hb.blkc,hb.ok⟩
  have hsz := fun R => size_r (R := R) hb1
  have hw0 := hb.ok.w1
  have hw0' : ((b.w : Int) == 0) = false := by simp; omega
  have hnone : runErr n planes o ≠ 0 → ∀ h',(∀ id,id < h.length → blk? h' id = blk? h id) → h.length ≤ h'.length → ∃ t',DRes A h h' p t t' (dOut A.ask m b n planes o s).1.1 (dOut A.ask m b n planes o s).2 := by
   intro he h' hk hl
   unfold dOut
   rw [if_neg he]
   exact ⟨t,DRes.low hb hr hrel hk hl⟩
  have hkp : ∀ x : Option Blk,∀ id,id < h.length → blk? (h ++ [x]) id = blk? h id := fun x id hid => blk?_push_lt hid
  rw [enter77,show B77 = .seq (nthC 0 B77) (.seq (nthC 1 B77) (.seq (nthC 2 B77) (.seq (nthC 3 B77) (.seq (nthC 4 B77) (.seq (nthC 5 B77) (tlC 6 B77)))))) from rfl]
  generalize hT : tlC 6 B77 = tl
  simp only [nthC,tlC,fstC,B77]
  obtain ⟨byp,res,rst,cz,sy⟩ := m
  simp only [MD.val] at *
  have herr : ∀ e,runErr n planes o = e → e ≠ 0 → dErr n planes o (dOut A.ask ⟨byp,res,rst,cz,sy⟩ b n planes o s).1.2 = e := by
   intro e he h0
   unfold dErr; rw [he,if_pos h0]
  by_cases h1 : planes < 1
  ·have he := runErr_lo (n := n) (o := o) (.inl h1 : planes < 1 ∨ 60 < planes ∨ n < 0 ∨ 3 * planes - 3 < n)
   simp [k_guard,k_guardU,hsz,hw0',eq_ptrN,h1,fin77]
   exact ⟨(herr 2 he (by decide)).symm,hnone (by rw [he]; decide) _ (hkp _) (by simp)⟩
  by_cases h2 : 60 < planes
  ·have he := runErr_lo (n := n) (o := o) (.inr (.inl h2) : planes < 1 ∨ 60 < planes ∨ n < 0 ∨ 3 * planes - 3 < n)
   simp [k_guard,k_guardU,hsz,hw0',eq_ptrN,h1,h2,fin77]
   exact ⟨(herr 2 he (by decide)).symm,hnone (by rw [he]; decide) _ (hkp _) (by simp)⟩
  by_cases h3 : n < 0
  ·have he := runErr_lo (n := n) (o := o) (.inr (.inr (.inl h3)) : planes < 1 ∨ 60 < planes ∨ n < 0 ∨ 3 * planes - 3 < n)
   simp [k_guard,k_guardU,hsz,hw0',eq_ptrN,h1,h2,h3,fin77]
   exact ⟨(herr 2 he (by decide)).symm,hnone (by rw [he]; decide) _ (hkp _) (by simp)⟩
  have hm1 : IntKind.i64.wrap (3 * planes) = 3 * planes := wrapI (by omega) (by omega)
  have hm2 : IntKind.i64.wrap (3 * planes - 3) = 3 * planes - 3 := wrapI (by omega) (by omega)
  by_cases h4 : 3 * planes - 3 < n
  ·have he := runErr_lo (n := n) (o := o) (.inr (.inr (.inr h4)) : planes < 1 ∨ 60 < planes ∨ n < 0 ∨ 3 * planes - 3 < n)
   simp [k_guard,k_guardU,hsz,hw0',eq_ptrN,h1,h2,h3,hm1,hm2,h4,fin77]
   exact ⟨(herr 2 he (by decide)).symm,hnone (by rw [he]; decide) _ (hkp _) (by simp)⟩
  by_cases h5 : 0 ≤ o ∧ o ≤ 3
  case neg =>
   have he : runErr n planes o = 3 := by unfold runErr; rw [if_neg (by omega),if_pos (by omega)]
   have hd : decide (0 ≤ o ∧ o ≤ 3) = false := by simp [h5]
   simp [-decide_eq_false_iff_not,-Bool.decide_and,k_guard,k_guardU,hsz,hw0',eq_ptrN,h1,h2,h3,hm1,hm2,h4,validOrient_r,hd,fin77]
   exact ⟨(herr 3 he (by decide)).symm,hnone (by rw [he]; decide) _ (hkp _) (by simp)⟩
  have hd : decide (0 ≤ o ∧ o ≤ 3) = true := by simp [h5]
  simp [-decide_eq_true_eq,-Bool.decide_and,k_guard,k_guardU,hsz,hw0',eq_ptrN,h1,h2,h3,hm1,hm2,h4,validOrient_r,hd]
  have he : runErr n planes o = 0 := by unfold runErr; rw [if_neg (by omega),if_neg (by omega)]
  unfold dErr dOut
  rw [he]
  simp only [ne_eq,not_true_eq_false,if_false,if_true]
  obtain ⟨n,rfl⟩ := Int.eq_ofNat_of_zero_le (show 0 ≤ n by omega)
  obtain ⟨planes,rfl⟩ := Int.eq_ofNat_of_zero_le (show 0 ≤ planes by omega)
  obtain ⟨o,rfl⟩ := Int.eq_ofNat_of_zero_le (show 0 ≤ o by omega)
  simp only [Int.toNat_natCast]
  generalize hres : (dRun ⟨byp,res,rst,cz,sy⟩ b n planes o).run A.ask s = dr
  have hp' := fun h R => pass_r (h := h) (R := R) (n := n) (by omega)
  have hrw := fun h R => raw_r (h := h) (R := R) (n := n) (by omega) ⟨byp,res,rst,cz,sy⟩
  have hpl := planeOf_le (n := n) (planes := planes) (by omega) (by omega)
  have e1 : IntKind.i64.wrap ((planes : Int) - 1) = ((planes - 1 : Nat) : Int) := by rw [wrapI (by omega) (by omega)]; omega
  have e2 : IntKind.i64.wrap (((planes - 1 : Nat) : Int) - (planeOf n : Int)) = ((planes - 1 - planeOf n : Nat) : Int) := by rw [wrapI (by omega) (by omega)]; omega
  rw [← hT,show tlC 6 B77 = .seq (nthC 6 B77) (.seq (nthC 7 B77) (tlC 8 B77)) from rfl]
  generalize hT2 : tlC 8 B77 = tl2
  simp only [nthC,tlC,fstC,B77]
  simp only [MD.val] at hrw
  have hlp := blk?_lt hb.blkp
  have hlc := blk?_lt hb.blkc
  simp [hp',hrw,e1,e2,app_len,app_add,app_zero,app_succ,app_set,app_setk,book,logOf,addLog,chk1,lookL,reload]
  generalize hP : runPP ⟨byp,res,rst,cz,sy⟩ n planes o = P
  have hPs : P.s = planes - 1 - planeOf n := by rw [← hP]; rfl
  have hPo : P.o = o := by rw [← hP]; rfl
  have hPc : P.cz = cz := by rw [← hP]; rfl
  have hPr : P.rw = rawOf ⟨byp,res,rst,cz,sy⟩ n := by rw [← hP]; rfl
  have hrs : dRun ⟨byp,res,rst,cz,sy⟩ b n planes o = if kindOf n = 0 then (dsigs P b (scan b.w b.h)).bind fun b => .ret (b,true) else if kindOf n = 1 then (drefs P b (scan b.w b.h)).bind fun b => .ret (b,true) else dclean P b sy := by
   unfold dRun; rw [hP]
  rw [hrs] at hres
  rw [← hPr,← hPs,← hPo,← hPc]
  generalize hH : h ++ [some (⟨false,[.bool byp,.bool res,.bool rst,.bool P.cz,.bool sy]⟩ : Blk),
   some ⟨false,[ptr p,.int .i64 P.s,.int .i64 P.o,.bool byp,.bool res,.bool rst,.bool P.cz,.bool sy,.bool P.rw,ptr sb]⟩] = H
  have hlow : ∀ id,id < h.length → blk? H id = blk? h id := fun id hid => by rw [← hH]; exact app_lt hid
  have hHl : H.length = h.length + 2 := by rw [← hH]; simp
  have hlt := fun id (ho : A.own t id) => A.lt hrel id ho
  have he : PQ A H (h.length + 1) p P ⟨byp,res,rst,P.cz,sy⟩ t b s := by
   refine ⟨⟨by rw [← hH,app_add]; rfl,⟨by rw [hlow _ hlp]; exact hb.blkp,by rw [hlow _ hlc]; exact hb.blkc,hb.ok⟩,by omega,⟨by rw [hPs]; omega,by rw [hPo]; omega⟩,hr⟩,A.stable hrel (by omega) (fun id h1 _ => hlow id h1),?_,?_⟩
   ·have := hb.ne; omega
   ·exact ⟨fun e => by have := hlt _ e; omega,hp⟩
  obtain ⟨sl,H1,es,he1,st1,f1⟩ := he.scan
  have fin : ∀ (b' : BS) (s' : A.S) (t' : A.T) (H' : Heap),PQ A H' (h.length + 1) p P ⟨byp,res,rst,P.cz,sy⟩ t' b' s' → Stq H H' c (A.own t) (A.own t') → ∃ t',DRes A h H' p t t' b' s' := by
   intro b' s' t' H' pe st
   exact ⟨t',pe.qr.cb,pe.good,pe.rel,(Stq.low hlow (by omega) _ _).trans st⟩
  rw [← hT2]
  simp only [tlC,B77]
  have hk : kindOf n = 0 ∨ kindOf n = 1 ∨ kindOf n = 2 := by unfold kindOf; split <;> omega
  rcases hk with hk | hk | hk
  ·obtain ⟨t',H',e,pe,st⟩ := significance_q he1 hl f1
   rw [if_pos hk] at hres
   simp only [Tr.run_bind,Tr.run_ret] at hres
   subst hres
   simp [hk,es,e,fin77]
   exact fin _ _ _ _ pe (st1.trans st)
  ·obtain ⟨t',H',e,pe,st⟩ := refinement_q he1 hl f1
   rw [if_neg (by omega),if_pos hk] at hres
   simp only [Tr.run_bind,Tr.run_ret] at hres
   subst hres
   simp [hk,es,e,fin77]
   exact fin _ _ _ _ pe (st1.trans st)
  ·obtain ⟨t',H',e,pe,st⟩ := cleanup_q he1 hl f1
   rw [if_neg (by omega),if_neg (by omega)] at hres
   subst hres
   simp only at e pe st
   cases hok : ((dclean P b sy).run A.ask s).1.2
   ·rw [hok] at e
    simp [hk,es,e,fin77]
    exact fin _ _ _ _ pe (st1.trans st)
   ·rw [hok] at e
    simp [hk,es,e,fin77]
    exact fin _ _ _ _ pe (st1.trans st)
 obtain ⟨v,h',e,rfl,t',rs⟩ := ret_ex key
 exact ⟨t',h',e,rs⟩
end
def ownA (ga : Nat) (gv : Value) (id : Nat) : Prop := id = ga ∨ sid gv = some id
structure RelR (c sb : Nat) (bv : Value) (bits : List Int) (h : Heap) (av : Value) (s : List (Int × Int)) : Prop where
 blk : blk? h sb = some ⟨false,[.pointer none,.pointer none,bv,av]⟩
 own : OwnS h 2 av s.length (encP s)
 sl : Sl h 1 bv bits.length (i64s bits)
 bvf : ∀ id,sid bv = some id → id < h.length ∧ id ≠ c ∧ id ≠ sb ∧ sid av ≠ some id
 avf : ∀ id,sid av = some id → id ≠ c ∧ id ≠ sb
 ne : sb ≠ c
 cl : c < h.length
theorem RelR.keep {c sb : Nat} {bv : Value} {bits : List Int} {h h' : Heap} {av : Value} {s : List (Int × Int)} (r : RelR c sb bv bits h av s) (hl : h.length ≤ h'.length) (hk : ∀ id,id = sb ∨ sid av = some id ∨ sid bv = some id → blk? h' id = blk? h id) : RelR c sb bv bits h' av s :=
 ⟨by rw [hk _ (.inl rfl)]; exact r.blk,r.own.of_blk fun id hid hb => by rw [hk _ (.inr (.inl hid))]; exact hb,r.sl.of_sid fun id b hid hb => by rw [hk _ (.inr (.inr hid))]; exact hb,fun id hid => by obtain ⟨a,b⟩ := r.bvf id hid; exact ⟨by omega,b⟩,r.avf,r.ne,by have := r.cl; omega⟩
theorem RelR.lt {c sb : Nat} {bv : Value} {bits : List Int} {h : Heap} {av : Value} {s : List (Int × Int)} (r : RelR c sb bv bits h av s) : ∀ id,ownA sb av id → id < h.length := by
 rintro id (rfl | e)
 ·exact blk?_lt r.blk
 ·exact r.own.lt e
set_option maxRecDepth 10000
section
variable {h : Heap} {R : Value → Heap → Prop} {d pb n value size : Nat} {dv : Value} {D p : List Nat} {a : AD}
theorem zdecode_no {x : Int} (I : DP h d pb dv D n p value size true) (hx : (p.length : Int) ≤ x) : Ret tab 204 [ptr d,.int .i64 x] h R = R (.tuple #[.int .i64 0,.int .i64 2]) h := by
 have hb := I.blk
 have h0 : ¬ x < 0 := by omega
 rw [enter204,B204]
 simp [k_guard,k_guardU,hb,h0,hx,fin204]
theorem zdecode_off {x : Int} (I : DP h d pb dv D n p value size false) : Ret tab 204 [ptr d,.int .i64 x] h R = R (.tuple #[.int .i64 0,.int .i64 6]) h := by
 have hb := I.blk
 rw [enter204,B204]
 simp [k_guard,k_guardU,hb,fin204]
end
theorem znext_tail {H : Heap} {sb d q : Nat} {av : Value} {l : List (Int × Nat)} (hb : blk? H sb = some ⟨false,[ptr d,ptr q,.slice none 0 0,av]⟩) (ho : OwnS H 2 av l.length (encS l)) (hl : l.length < 1000000) (hav : sid av ≠ some sb) (x : Int) (bt : Nat) :
  ∃ H2,(∀ (R : Value → Heap → Prop) (K2 K3 K4 K6 K7 K8 K9 Ka Kb Kc Kd Ke Kf Kg Kh Ki Kj Kk Kl Km Kn Ko Kp Kq Kr Ks Kt Ku Kv Kw Kx Ky Kz J0 J1 J2 J3 J4 J5 J6 J7 J8 J9 Ja Jb Jc Jd Je Jf Jg Jh Ji Jj Jk Jl Jm Jn Jo Jp Jq Jr Js Jt Ju Jv Jw Jx Jy Jz Y0 Y1 Y2 Y3 : Value),R (.int .i64 (bt : Nat)) H2 → Ok tab R185 [.code (tlC 3 B185)] #[ptr sb,.int .i64 x,K2,K3,K4,.int .i64 (bt : Nat),K6,K7,K8,K9,Ka,Kb,Kc,Kd,Ke,Kf,Kg,Kh,Ki,Kj,Kk,Kl,Km,Kn,Ko,Kp,Kq,Kr,Ks,Kt,Ku,Kv,Kw,Kx,Ky,Kz,J0,J1,J2,J3,J4,J5,J6,J7,J8,J9,Ja,Jb,Jc,Jd,Je,Jf,Jg,Jh,Ji,Jj,Jk,Jl,Jm,Jn,Jo,Jp,Jq,Jr,Js,Jt,Ju,Jv,Jw,Jx,Jy,Jz,Y0,Y1,Y2,Y3] H R) ∧
   blk? H2 sb = some ⟨false,[ptr d,ptr q,.slice none 0 0,.slice (some ⟨H.length + 1,0,none⟩) (l.length + 1) 2]⟩ ∧ OwnS H2 2 (.slice (some ⟨H.length + 1,0,none⟩) (l.length + 1) 2) (l ++ [(x,bt)]).length (encS (l ++ [(x,bt)])) ∧ H2.length = H.length + 2 ∧ (∀ id,id < H.length → id ≠ sb → sid av ≠ some id → blk? H2 id = blk? H id) := by
 have lsb := blk?_lt hb
 have ho' : OwnS (H ++ [some ⟨false,[.int .i64 x,.int .i64 (bt : Nat)]⟩]) 2 av l.length (encS l) := ho.of_blk fun id hid hb => by rw [blk?_push_lt (blk?_lt hb)]; exact hb
 have hts : Sl (H ++ [some ⟨false,[.int .i64 x,.int .i64 (bt : Nat)]⟩]) 2 (.slice (some ⟨H.length,0,none⟩) 1 2) 1 [.int .i64 x,.int .i64 (bt : Nat)] := ⟨rfl,.inr ⟨H.length,0,rfl,.inr ⟨_,blk?_push_eq,by simp,by simp⟩⟩⟩
 obtain ⟨H1,ha,hb1,hHl,hHk⟩ := own_append (bytes := 16) ho' hts (by unfold roomCells; omega) (by omega) (by omega)
 have hlen : (H ++ [some (⟨false,[.int .i64 x,.int .i64 (bt : Nat)]⟩ : Blk)]).length = H.length + 1 := by simp
 rw [hlen] at ha hb1 hHl hHk
 have bs1 : blk? H1 sb = some ⟨false,[ptr d,ptr q,.slice none 0 0,av]⟩ := by rw [hHk sb (by omega) hav,blk?_push_lt lsb]; exact hb
 have ls1 := blk?_lt bs1
 have hE : ∀ y : Option Blk,blk? (H1.set sb y) sb = y := fun y => blk?_set_eq ls1
 refine ⟨H1.set sb (some ⟨false,[ptr d,ptr q,.slice none 0 0,.slice (some ⟨H.length + 1,0,none⟩) (l.length + 1) 2]⟩),fun R K2 K3 K4 K6 K7 K8 K9 Ka Kb Kc Kd Ke Kf Kg Kh Ki Kj Kk Kl Km Kn Ko Kp Kq Kr Ks Kt Ku Kv Kw Kx Ky Kz J0 J1 J2 J3 J4 J5 J6 J7 J8 J9 Ja Jb Jc Jd Je Jf Jg Jh Ji Jj Jk Jl Jm Jn Jo Jp Jq Jr Js Jt Ju Jv Jw Jx Jy Jz Y0 Y1 Y2 Y3 hR => ?_,hE _,⟨by rw [encS_len],.inr ⟨H.length + 1,by simp,?_⟩⟩,by simp; omega,fun id h1 h2 h3 => by rw [blk?_set_ne (Ne.symm h2),hHk id (by omega) h3,blk?_push_lt h1]⟩
 ·obtain ⟨aa,ac,hsh⟩ := ho.sl.shape
  rw [hsh] at hb ha bs1
  generalize ((bt : Nat) : Int) = bi at *
  simp only [nthC,tlC,fstC,B185]
  simp [repL,writeAt,hb,ha,bs1,fin185]
  exact hR
 ·rw [blk?_set_ne (by omega),hb1,encS_append]; rfl
structure QRel (d pb q sb c N : Nat) (dv rs : Value) (D : List Nat) (h : Heap) (av : Value) (s : QR) : Prop where
 blk : blk? h sb = some ⟨false,[ptr d,ptr q,.slice none 0 0,av]⟩
 dec : ∃ n,n ≤ N + s.l.length ∧ ((s.on = true ∧ DA h d pb dv D n s.a) ∨ (s.on = false ∧ DP h d pb dv D n s.a.p s.a.value s.a.size false))
 dig : Dig D
 dl : D.length < 100000000
 h19 : s.a.p.length = 19
 rdr : RB h q rs s.rd.1 s.rd.2
 rn : s.rd.2 ≤ N + s.l.length
 ol : OwnS h 2 av s.l.length (encS s.l)
 d1 : ∀ id,ownE d pb dv id → ¬ ownR q rs id
 d2 : ∀ id,ownE d pb dv id ∨ ownR q rs id → id ≠ sb ∧ sid av ≠ some id ∧ id ≠ c
 d3 : sid av ≠ some sb ∧ sid av ≠ some c
 sc : sb ≠ c
 nb : N ≤ 50000000
 cl : c < h.length
def ownQ (d pb q sb : Nat) (dv rs av : Value) (id : Nat) : Prop := (ownE d pb dv id ∨ ownR q rs id) ∨ id = sb ∨ sid av = some id
section
variable {d pb q sb c N : Nat} {dv rs : Value} {D : List Nat} {h h' : Heap} {av : Value} {s : QR}
theorem QRel.dp (r : QRel d pb q sb c N dv rs D h av s) : ∃ n st,DP h d pb dv D n s.a.p s.a.value s.a.size st := by
 obtain ⟨n,_,⟨_,I⟩ | ⟨_,I⟩⟩ := r.dec
 ·exact ⟨n,true,I.dp⟩
 ·exact ⟨n,false,I⟩
theorem QRel.own_lt (r : QRel d pb q sb c N dv rs D h av s) {id : Nat} (hid : ownQ d pb q sb dv rs av id) : id < h.length := by
 obtain ⟨n,st,I⟩ := r.dp
 rcases hid with (hid | hid) | rfl | hid
 ·exact I.own_lt hid
 ·exact r.rdr.own_lt hid
 ·exact blk?_lt r.blk
 ·exact r.ol.lt hid
theorem QRel.keep (r : QRel d pb q sb c N dv rs D h av s) (hl : h.length ≤ h'.length) (hk : ∀ id,ownQ d pb q sb dv rs av id → blk? h' id = blk? h id) : QRel d pb q sb c N dv rs D h' av s := by
 refine ⟨by rw [hk sb (.inr (.inl rfl))]; exact r.blk,?_,r.dig,r.dl,r.h19,r.rdr.keep fun id hid => hk id (.inl (.inr hid)),r.rn,r.ol.of_blk fun id hid hb => by rw [hk id (.inr (.inr hid))]; exact hb,r.d1,r.d2,r.d3,r.sc,r.nb,by have := r.cl; omega⟩
 obtain ⟨n,hn,⟨ho,I⟩ | ⟨ho,I⟩⟩ := r.dec
 ·exact ⟨n,hn,.inl ⟨ho,⟨I.dp.keep fun id hid => hk id (.inl (.inl hid)),I.rest,I.ok,I.pos⟩⟩⟩
 ·exact ⟨n,hn,.inr ⟨ho,I.keep fun id hid => hk id (.inl (.inl hid))⟩⟩
set_option maxHeartbeats 1000000 in
theorem qnext (r : QRel d pb q sb c N dv rs D h av s) (hs : s.l.length < 1000000) (x : Int) :
  ∃ av' h',(∀ R : Value → Heap → Prop,Ret tab 185 [ptr sb,.int .i64 x] h R = R (.int .i64 (s.bit x : Nat)) h') ∧ QRel d pb q sb c N dv rs D h' av' (s.ask x).2 ∧ Stu h h' (ownQ d pb q sb dv rs av) (ownQ d pb q sb dv rs av') := by
 obtain ⟨n,hn,hdec⟩ := r.dec
 have hb := r.blk
 have lsb := blk?_lt hb
 have nb := r.nb
 have first : ∃ H n',(n' ≤ N + (s.l.length + 1)) ∧ ((s.on = true ∧ DA H d pb dv D n' (s.ask x).2.a) ∨ (s.on = false ∧ DP H d pb dv D n' (s.ask x).2.a.p (s.ask x).2.a.value (s.ask x).2.a.size false)) ∧ RB H q rs (s.ask x).2.rd.1 (s.ask x).2.rd.2 ∧ (∀ id,¬ (ownE d pb dv id ∨ ownR q rs id) → blk? H id = blk? h id) ∧ H.length = h.length ∧ (s.ask x).2.a.p.length = 19 ∧
   (∀ (R : Value → Heap → Prop),(∀ (K2 K3 K4 K6 K7 K8 K9 Ka Kb Kc Kd Ke Kf Kg Kh Ki Kj Kk Kl Km Kn Ko Kp Kq Kr Ks Kt Ku Kv Kw Kx Ky Kz J0 J1 J2 J3 J4 J5 J6 J7 J8 J9 Ja Jb Jc Jd Je Jf Jg Jh Ji Jj Jk Jl Jm Jn Jo Jp Jq Jr Js Jt Ju Jv Jw Jx Jy Jz Y0 Y1 Y2 Y3 : Value),Ok tab R185 [.code (tlC 3 B185)] #[ptr sb,.int .i64 x,K2,K3,K4,.int .i64 (s.bit x : Nat),K6,K7,K8,K9,Ka,Kb,Kc,Kd,Ke,Kf,Kg,Kh,Ki,Kj,Kk,Kl,Km,Kn,Ko,Kp,Kq,Kr,Ks,Kt,Ku,Kv,Kw,Kx,Ky,Kz,J0,J1,J2,J3,J4,J5,J6,J7,J8,J9,Ja,Jb,Jc,Jd,Je,Jf,Jg,Jh,Ji,Jj,Jk,Jl,Jm,Jn,Jo,Jp,Jq,Jr,Js,Jt,Ju,Jv,Jw,Jx,Jy,Jz,Y0,Y1,Y2,Y3] H R) → Ret tab 185 [ptr sb,.int .i64 x] h R) := by
  by_cases h0 : 0 ≤ x
  ·have h0' : ¬ x < 0 := by omega
   have erd : (s.ask x).2.rd = s.rd := by simp only [QR.ask,h0,if_true]
   rw [erd]
   cases hon : s.on with
   | true =>
    have I : DA h d pb dv D n s.a := by
     rcases hdec with ⟨_,I⟩ | ⟨y,_⟩
     ·exact I
     ·rw [hon] at y; cases y
    have ea : (s.ask x).2.a = (askA s.a none x).2.1 := by simp only [QR.ask,h0,hon,and_self,if_true]
    have eb : s.bit x = (askA s.a none x).1 := by simp only [QR.bit,h0,hon,if_true]
    rw [ea,eb]
    by_cases h19 : x < 19
    ·obtain ⟨x,rfl⟩ := Int.eq_ofNat_of_zero_le h0
     have eA : askA s.a none (x : Int) = (s.a.bit x,s.a.next x,none) := by unfold askA; simp only [h0,h19,and_self,if_true,Int.toNat_natCast]
     obtain ⟨H,n',e,I',hn',k,l⟩ := zdecode_c I (c := x) (by rw [r.h19]; omega) r.dig (by have := r.dl; omega) (by omega)
     rw [eA]
     refine ⟨H,n',by omega,.inl ⟨rfl,I'⟩,r.rdr.keep fun id hid => k id (fun y => r.d1 id (.inl y) hid) (fun y => r.d1 id (.inr (.inl y)) hid),fun id hid => k id (fun y => hid (.inl (.inl y))) (fun y => hid (.inl (.inr (.inl y)))),l,by simp [AD.next,r.h19],fun R hR => ?_⟩
     have e1 := e
     generalize s.a.bit x = bt at *
     rw [enter185,show B185 = .seq (nthC 0 B185) (.seq (nthC 1 B185) (.seq (nthC 2 B185) (tlC 3 B185))) from rfl]
     generalize tlC 3 B185 = tl at *
     generalize ((bt : Nat) : Int) = bi at *
     generalize hxi : ((x : Nat) : Int) = xi at *
     simp only [nthC,tlC,fstC,B185]
     simp [k_guard,k_guardU,h0,h0',hb,eq_ptrN,eqV,e1]
     exact hR ..
    ·have eA : askA s.a none x = (0,s.a,none) := by unfold askA; simp only [h19,and_false,if_false]
     have e := fun R => zdecode_no (R := R) I.dp (x := x) (by rw [r.h19]; omega)
     rw [eA]
     refine ⟨h,n,by omega,.inl ⟨rfl,I⟩,r.rdr,fun _ _ => rfl,rfl,r.h19,fun R hR => ?_⟩
     have hR' := hR
     try simp only [Int.cast_ofNat_Int] at hR'
     rw [enter185,show B185 = .seq (nthC 0 B185) (.seq (nthC 1 B185) (.seq (nthC 2 B185) (tlC 3 B185))) from rfl]
     generalize tlC 3 B185 = tl at *
     simp only [nthC,tlC,fstC,B185]
     simp [k_guard,k_guardU,h0,h0',hb,eq_ptrN,eqV,e]
     exact hR' ..
   | false =>
    have I : DP h d pb dv D n s.a.p s.a.value s.a.size false := by
     rcases hdec with ⟨y,_⟩ | ⟨_,I⟩
     ·rw [hon] at y; cases y
     ·exact I
    have ea : (s.ask x).2.a = s.a := by simp [QR.ask,hon]
    have eb : s.bit x = 0 := by simp [QR.bit,hon,h0]
    have e := fun R => zdecode_off (R := R) I (x := x)
    rw [ea,eb]
    refine ⟨h,n,by omega,.inr ⟨rfl,I⟩,r.rdr,fun _ _ => rfl,rfl,r.h19,fun R hR => ?_⟩
    have hR' := hR
    try simp only [Int.cast_ofNat_Int] at hR'
    rw [enter185,show B185 = .seq (nthC 0 B185) (.seq (nthC 1 B185) (.seq (nthC 2 B185) (tlC 3 B185))) from rfl]
    generalize tlC 3 B185 = tl at *
    simp only [nthC,tlC,fstC,B185]
    simp [k_guard,k_guardU,h0,h0',hb,eq_ptrN,eqV,e]
    exact hR' ..
  ·have h0' : x < 0 := by omega
   have ea : (s.ask x).2.a = s.a := by simp [QR.ask,h0]
   have erd : (s.ask x).2.rd = (s.rd.1,s.rd.2 + 1) := by simp only [QR.ask,h0,if_false]
   have eb : s.bit x = bitAt s.rd.1 s.rd.2 := by simp only [QR.bit,h0,if_false]
   have e := fun R => zget_c (R := R) r.rdr (by have := r.rn; omega)
   have lq := r.rdr.own_lt (.inl rfl)
   rw [ea,erd,eb]
   have hdq : ∀ id,ownE d pb dv id → id ≠ q := fun id hid y => r.d1 id hid (.inl y)
   refine ⟨_,n,by omega,?_,r.rdr.next,fun id hid => by rw [blk?_set_ne (fun y => hid (.inr (.inl y.symm)))],by simp,r.h19,fun R hR => ?_⟩
   ·rcases hdec with ⟨y,I⟩ | ⟨y,I⟩
    ·exact .inl ⟨y,⟨I.dp.keep fun id hid => by rw [blk?_set_ne (Ne.symm (hdq id hid))],I.rest,I.ok,I.pos⟩⟩
    ·exact .inr ⟨y,I.keep fun id hid => by rw [blk?_set_ne (Ne.symm (hdq id hid))]⟩
   ·generalize bitAt s.rd.1 s.rd.2 = bt at *
    generalize ((bt : Nat) : Int) = bi at *
    generalize ((s.rd.2 + 1 : Nat) : Int) = n1 at *
    rw [enter185,show B185 = .seq (nthC 0 B185) (.seq (nthC 1 B185) (.seq (nthC 2 B185) (tlC 3 B185))) from rfl]
    generalize tlC 3 B185 = tl at *
    simp only [nthC,tlC,fstC,B185]
    simp [k_guard,k_guardU,h0,h0',hb,eq_ptrN,eqV,e]
    exact hR ..
 obtain ⟨H,n',hn',hdec',rdr',k,l,p19,e⟩ := first
 have nsb : ¬ (ownE d pb dv sb ∨ ownR q rs sb) := fun y => (r.d2 sb y).1 rfl
 have hbH : blk? H sb = some ⟨false,[ptr d,ptr q,.slice none 0 0,av]⟩ := by rw [k sb nsb]; exact hb
 have oH : OwnS H 2 av s.l.length (encS s.l) := r.ol.of_blk fun id hid hb => by rw [k id (fun y => (r.d2 id y).2.1 hid)]; exact hb
 obtain ⟨H2,e2,b2,o2,l2,k2⟩ := znext_tail hbH oH hs r.d3.1 x (s.bit x)
 have el : (s.ask x).2.l = s.l ++ [(x,s.bit x)] := rfl
 have eon : (s.ask x).2.on = s.on := rfl
 have big : ∀ id,ownE d pb dv id ∨ ownR q rs id → id < h.length := fun id hid => r.own_lt (.inl hid)
 have keep2 : ∀ id,ownE d pb dv id ∨ ownR q rs id → blk? H2 id = blk? H id := fun id hid => k2 id (by have := big id hid; omega) (r.d2 id hid).1 (r.d2 id hid).2.1
 refine ⟨_,H2,fun R => ?_,⟨b2,⟨n',by rw [el]; simp; omega,?_⟩,r.dig,r.dl,p19,rdr'.keep fun id hid => keep2 id (.inr hid),?_,by rw [el]; exact o2,r.d1,fun id hid => ?_,⟨by simp [sid]; omega,by have := r.cl; simp [sid]; omega⟩,r.sc,r.nb,by have := r.cl; omega⟩,⟨by omega,fun id h1 h2 => ?_,fun id hid => ?_⟩⟩
 ·obtain ⟨v,h',ee,rfl,rfl⟩ := ret_ex (e (fun v h' => v = .int .i64 (s.bit x : Nat) ∧ h' = H2) fun K2 K3 K4 K6 K7 K8 K9 Ka Kb Kc Kd Ke Kf Kg Kh Ki Kj Kk Kl Km Kn Ko Kp Kq Kr Ks Kt Ku Kv Kw Kx Ky Kz J0 J1 J2 J3 J4 J5 J6 J7 J8 J9 Ja Jb Jc Jd Je Jf Jg Jh Ji Jj Jk Jl Jm Jn Jo Jp Jq Jr Js Jt Ju Jv Jw Jx Jy Jz Y0 Y1 Y2 Y3 => e2 _ _ _ _ _ _ _ _ _ _ _ _ _ _ _ _ _ _ _ _ _ _ _ _ _ _ _ _ _ _ _ _ _ _ _ _ _ _ _ _ _ _ _ _ _ _ _ _ _ _ _ _ _ _ _ _ _ _ _ _ _ _ _ _ _ _ _ _ _ _ _ _ _ _ ⟨rfl,rfl⟩)
  exact ee R
 ·rw [eon]
  rcases hdec' with ⟨y,I⟩ | ⟨y,I⟩
  ·exact .inl ⟨y,⟨I.dp.keep fun id hid => keep2 id (.inl hid),I.rest,I.ok,I.pos⟩⟩
  ·exact .inr ⟨y,I.keep fun id hid => keep2 id (.inl hid)⟩
 ·rw [el]
  have := r.rn
  simp only [QR.ask,List.length_append,List.length_singleton]
  split <;> (try simp only) <;> omega
 ·obtain ⟨q1,q2,q3⟩ := r.d2 id hid
  have := big id hid
  exact ⟨q1,by simp [sid]; omega,q3⟩
 ·rw [k2 id (by omega) (fun y => h2 (.inr (.inl y))) (fun y => h2 (.inr (.inr y))),k id (fun y => h2 (.inl y))]
 ·rcases hid with hid | hid | hid
  ·exact .inl (.inl hid)
  ·exact .inl (.inr (.inl hid))
  ·simp [sid] at hid; right; omega
end
def qSrc (d pb q sb c N : Nat) (dv rs : Value) (D : List Nat) : Src c (callN sb) where
 S := QR
 T := Value
 ask := QR.ask
 rel := fun h t s => QRel d pb q sb c N dv rs D h t s
 own := ownQ d pb q sb dv rs
 size := fun s => s.l.length
 lt := fun r id hid => r.own_lt hid
 stable := fun {h h' t s} r hl hk => r.keep hl fun id hid => hk id (r.own_lt hid) (fun e => by
  rcases hid with hid | hid | hid
  ·exact (r.d2 id hid).2.2 e
  ·exact r.sc (by rw [← hid]; exact e)
  ·exact r.d3.2 (by rw [← e]; exact hid))
 size_ask := fun s x => by simp [QR.ask]
 step := fun {h t s} r hs x => by
  obtain ⟨av',h',e,r',S⟩ := qnext r hs x
  refine ⟨av',h',((s.bit x : Nat) : Int),fun R => e R,?_,r',S⟩
  have := s.bit_lt x
  unfold QR.ask
  simp only
  generalize s.bit x = bt at *
  have : bt = 0 ∨ bt = 1 := by omega
  rcases this with rfl | rfl <;> rfl
 c_own := fun {h t s} r hid => by
  rcases hid with hid | hid | hid
  ·exact (r.d2 c hid).2.2 rfl
  ·exact r.sc hid.symm
  ·exact r.d3.2 hid
set_option maxRecDepth 10000
section
variable {h : Heap} {R : Value → Heap → Prop} {e pb lb : Nat} {a : AE}
end
set_option maxRecDepth 10000
structure WX (h : Heap) (q : Nat) (sv : Value) (bs : List Nat) : Prop where
 blk : blk? h q = some ⟨false,[.bool true,sv]⟩
 own : OwnS h 1 sv bs.length (nI bs)
 ne : sid sv ≠ some q
 bits : AreBits bs
theorem WX.own_lt {h : Heap} {q : Nat} {sv : Value} {bs : List Nat} (J : WX h q sv bs) {id : Nat} (hid : ownR q sv id) : id < h.length := by
 rcases hid with rfl | hid
 ·exact blk?_lt J.blk
 ·exact J.own.lt hid
theorem WX.keep {h h' : Heap} {q : Nat} {sv : Value} {bs : List Nat} (J : WX h q sv bs) (hk : ∀ id,ownR q sv id → blk? h' id = blk? h id) : WX h' q sv bs :=
 ⟨by rw [hk q (.inl rfl)]; exact J.blk,J.own.of_blk fun id hid hb => by rw [hk id (.inr hid)]; exact hb,J.ne,J.bits⟩
section
variable {h : Heap} {R : Value → Heap → Prop} {q : Nat} {sv : Value} {bs : List Nat}
end
set_option maxRecDepth 10000
section
variable {h : Heap} {R : Value → Heap → Prop} {q : Nat} {sv : Value} {bs : List Nat}
end
set_option maxRecDepth 10000
def szAt (m : MD) (n j : Nat) : Nat := if m.res = true then 1 else if m.byp = true then (if j = 0 then 10 else 1 + j % 2) else n
theorem szAt_next (m : MD) (n j : Nat) : sgNext m (szAt m n j) = szAt m n (j + 1) := by
 unfold sgNext szAt
 cases hr : m.res <;> cases hb : m.byp <;> simp
 by_cases h0 : j = 0
 ·subst h0; simp
 ·rw [if_neg h0]
  rcases Nat.mod_two_eq_zero_or_one j with h | h
  ·rw [h,if_neg (by omega)]; omega
  ·rw [h,if_pos rfl]; omega
theorem szAt_zero (m : MD) (n : Nat) : szAt m n 0 = sgFirst m n := by
 unfold szAt sgFirst
 cases hr : m.res <;> cases hb : m.byp <;> simp
section
variable {h : Heap} {R : Value → Heap → Prop}
theorem seg14_loop {hB : Heap} {X n : Nat} {m : MD} {T : List Nat} (hX : blk? hB X = some ⟨false,[.bool m.byp,.bool m.res,.bool m.rst,.bool m.cz,.bool m.sy]⟩) (hn : n ≤ 178) {K : List RItem}
  (hk : ∀ (H : Heap) (out : Value) (K0 K1 K2 K3 K4 K6 K7 K8 K9 Ka Kb Kc Kd Ke Kf Kg Kh Ki Kj Kk Kl Km Kn Ko Kp Kq Kr Ks Kt Ku Kv Kw Kx Ky Kz J0 J1 J2 J3 J4 J5 J6 J7 J8 : Value),OwnS H 1 out T.length (nI T) → (∀ id,sid out = some id → hB.length ≤ id) → (∀ id,id < hB.length → blk? H id = blk? hB id) → hB.length ≤ H.length → Ok tab R46 K #[K0,K1,K2,K3,K4,out,K6,K7,K8,K9,Ka,Kb,Kc,Kd,Ke,Kf,Kg,Kh,Ki,Kj,Kk,Kl,Km,Kn,Ko,Kp,Kq,Kr,Ks,Kt,Ku,Kv,Kw,Kx,Ky,Kz,J0,J1,J2,J3,J4,J5,J6,J7,J8] H R) :
  ∀ (f left : Nat) (gs : List Nat) (H : Heap) (out : Value) (K0 K1 K2 K4 K7 K8 K9 Ka Kb Kc Kd Ke Kf Kg Kh Ki Kj Kk Kl Km Kn Ko Kp Kq Kr Ks Kt Ku Kv Kw Kx Ky Kz J0 J1 J2 J3 J4 J5 J6 J7 J8 : Value),left ≤ f → left ≤ n → gs.length + left ≤ n → gs ++ sgGo m f (szAt m n gs.length) left = T → OwnS H 1 out gs.length (nI gs) → (∀ id,sid out = some id → hB.length ≤ id) → (∀ id,id < hB.length → blk? H id = blk? hB id) → hB.length ≤ H.length →
   Ok tab R46 (.inLoop L46_0 :: .inBlock 0 :: K) #[K0,K1,K2,ptr X,K4,out,.int .i64 (left : Nat),K7,K8,K9,Ka,Kb,Kc,Kd,Ke,Kf,Kg,Kh,Ki,Kj,Kk,Kl,Km,Kn,Ko,Kp,Kq,Kr,Ks,Kt,Ku,Kv,Kw,Kx,Ky,Kz,J0,J1,J2,J3,J4,J5,J6,J7,J8] H R := by
 intro f
 induction f with
 | zero =>
  intro left gs H out;intros;rename_i hl hln hgl hgo ho hf hs hle
  obtain rfl : left = 0 := by omega
  simp only [sgGo,List.append_nil] at hgo
  rw [hgo] at ho
  rw [ok_round,l46_0,L46_0a,L46_0b]
  simp
  exact hk H out _ _ _ _ _ _ _ _ _ _ _ _ _ _ _ _ _ _ _ _ _ _ _ _ _ _ _ _ _ _ _ _ _ _ _ _ _ _ _ _ _ _ _ _ ho hf hs hle
 | succ f ih =>
  intro left gs H out;intros;rename_i hl hln hgl hgo ho hf hs hle
  by_cases h0 : left = 0
  ·subst h0
   unfold sgGo at hgo
   rw [if_pos rfl,List.append_nil] at hgo
   rw [hgo] at ho
   rw [ok_round,l46_0,L46_0a,L46_0b]
   simp
   exact hk H out _ _ _ _ _ _ _ _ _ _ _ _ _ _ _ _ _ _ _ _ _ _ _ _ _ _ _ _ _ _ _ _ _ _ _ _ _ _ _ _ _ _ _ _ ho hf hs hle
  have hpos : (0 : Int) < (left : Int) := by omega
  have hpos' : 0 < left := by omega
  have w0 : IntKind.i64.wrap 0 = 0 := by decide
  have lX := blk?_lt hX
  have hXH : blk? H X = some ⟨false,[.bool m.byp,.bool m.res,.bool m.rst,.bool m.cz,.bool m.sy]⟩ := by rw [hs X lX]; exact hX
  obtain ⟨oa,oc,hout⟩ := ho.sl.shape
  have next : ∀ c : Nat,c = min (szAt m n gs.length) left → 1 ≤ c → ∃ H1,appendV (H ++ [some ⟨false,[.int .i64 (c : Nat)]⟩]) 1 8 out (.slice (some ⟨H.length,0,none⟩) 1 1) = some (.slice (some ⟨H.length + 1,0,none⟩) (gs.length + 1) 1,H1) ∧
    IntKind.i64.wrap ((left : Int) - (c : Nat)) = ((left - c : Nat) : Int) ∧
    ∀ (K0 K1 K2 K4 K7 K8 K9 Ka Kb Kc Kd Ke Kf Kg Kh Ki Kj Kk Kl Km Kn Ko Kp Kq Kr Ks Kt Ku Kv Kw Kx Ky Kz J0 J1 J2 J3 J4 J5 J6 J7 J8 : Value),Ok tab R46 (.inLoop L46_0 :: .inBlock 0 :: K) #[K0,K1,K2,ptr X,K4,.slice (some ⟨H.length + 1,0,none⟩) (gs.length + 1) 1,.int .i64 (left - c : Nat),K7,K8,K9,Ka,Kb,Kc,Kd,Ke,Kf,Kg,Kh,Ki,Kj,Kk,Kl,Km,Kn,Ko,Kp,Kq,Kr,Ks,Kt,Ku,Kv,Kw,Kx,Ky,Kz,J0,J1,J2,J3,J4,J5,J6,J7,J8] H1 R := by
   intro c hc hc1
   obtain ⟨H1,ha,hb1,hlen1,hk1⟩ := app1v (v := .int .i64 (c : Nat)) (bytes := 8) ho (by unfold roomCells; omega) (by omega)
   refine ⟨H1,ha,by rw [wrapI (by omega) (by omega)]; omega,fun K0 K1 K2 K4 K7 K8 K9 Ka Kb Kc Kd Ke Kf Kg Kh Ki Kj Kk Kl Km Kn Ko Kp Kq Kr Ks Kt Ku Kv Kw Kx Ky Kz J0 J1 J2 J3 J4 J5 J6 J7 J8 => ?_⟩
   have e : nI gs ++ [.int .i64 ((c : Nat) : Int)] = nI (gs ++ [c]) := by rw [nI,nI,List.map_append]; rfl
   rw [e] at hb1
   have egs : (gs ++ [c]).length = gs.length + 1 := by simp
   unfold sgGo at hgo
   rw [if_neg h0,← hc,szAt_next] at hgo
   have ih' := fun K0 K1 K2 K4 K7 K8 K9 Ka Kb Kc Kd Ke Kf Kg Kh Ki Kj Kk Kl Km Kn Ko Kp Kq Kr Ks Kt Ku Kv Kw Kx Ky Kz J0 J1 J2 J3 J4 J5 J6 J7 J8 => ih (left - c) (gs ++ [c]) H1 (.slice (some ⟨H.length + 1,0,none⟩) (gs.length + 1) 1) K0 K1 K2 K4 K7 K8 K9 Ka Kb Kc Kd Ke Kf Kg Kh Ki Kj Kk Kl Km Kn Ko Kp Kq Kr Ks Kt Ku Kv Kw Kx Ky Kz J0 J1 J2 J3 J4 J5 J6 J7 J8 (by omega) (by omega) (by rw [egs]; omega) (by rw [egs,List.append_assoc,List.singleton_append]; exact hgo) (by rw [egs]; exact ⟨by simp [nI],.inr ⟨_,rfl,hb1⟩⟩) (fun id hid => by simp [sid] at hid; omega) (fun id hid => by
    rw [hk1 id (by omega) (fun x => by have := hf id x; omega),hs id hid]) (by omega)
   exact ih' ..
  clear ih hk hgo
  rw [ok_round,l46_0,L46_0a,L46_0b]
  cases hr : m.res with
  | true =>
   obtain ⟨H1,ha,hw,fin'⟩ := next 1 (by unfold szAt; rw [if_pos hr]; omega) (by omega)
   have hw' : IntKind.i64.wrap ((left : Int) - 1) = ((left - 1 : Nat) : Int) := hw
   have ha' : appendV (H ++ [some ⟨false,[.int .i64 1]⟩]) 1 8 out (.slice (some ⟨H.length,0,none⟩) 1 1) = some (.slice (some ⟨H.length + 1,0,none⟩) (gs.length + 1) 1,H1) := ha
   rw [hr] at hXH
   generalize ((left - 1 : Nat) : Int) = l1 at *
   simp [repL,hpos,hpos',w0,hXH,ha',hw']
   exact fin' ..
  | false =>
   rw [hr] at hXH
   cases hb : m.byp with
   | false =>
    rw [hb] at hXH
    obtain ⟨H1,ha,hw,fin'⟩ := next left (by unfold szAt; rw [if_neg (by simp [hr]),if_neg (by simp [hb])]; omega) (by omega)
    rw [Nat.sub_self] at fin' hw
    generalize ((left : Nat) : Int) = li at *
    simp [repL,k_guard,k_guardU,hpos,hpos',w0,hXH,ha,hw]
    exact fin' ..
   | true =>
    rw [hb] at hXH
    by_cases hg0 : gs.length = 0
    ·obtain ⟨H1,ha,hw,fin'⟩ := next (min left 10) (by unfold szAt; rw [if_neg (by simp [hr]),if_pos hb,if_pos hg0]; omega) (by omega)
     have hmin : min (left : Int) 10 = ((min left 10 : Nat) : Int) := by omega
     rw [hout] at ha ⊢
     rw [hg0] at ha fin' ⊢
     generalize ((left - min left 10 : Nat) : Int) = l1 at *
     generalize ((min left 10 : Nat) : Int) = c1 at *
     generalize ((left : Nat) : Int) = li at *
     simp [repL,k_guard,k_guardU,hpos,hpos',w0,hXH,fold1,foldO,mn2,hmin,ha,hw]
     exact fin' ..
    ·obtain ⟨H1,ha,hw,fin'⟩ := next (min left (1 + gs.length % 2)) (by unfold szAt; rw [if_neg (by simp [hr]),if_pos hb,if_neg hg0]; omega) (by omega)
     have hg0' : (((gs.length : Nat) : Int) == 0) = false := by rw [beq_eq_false_iff_ne]; omega
     have hm1 : (((gs.length : Nat) : Int).tmod 2) = ((gs.length % 2 : Nat) : Int) := by rw [Int.tmod_eq_emod_of_nonneg (by omega)]; omega
     have hm2 : IntKind.i64.wrap (1 + ((gs.length % 2 : Nat) : Int)) = ((1 + gs.length % 2 : Nat) : Int) := by rw [wrapI (by omega) (by omega)]; omega
     have hmin : min (left : Int) ((1 + gs.length % 2 : Nat) : Int) = ((min left (1 + gs.length % 2) : Nat) : Int) := by omega
     rw [hout] at ha ⊢
     generalize ((left - min left (1 + gs.length % 2) : Nat) : Int) = l1 at *
     generalize ((min left (1 + gs.length % 2) : Nat) : Int) = c1 at *
     generalize ((1 + gs.length % 2 : Nat) : Int) = c2 at *
     generalize ((gs.length % 2 : Nat) : Int) = c3 at *
     generalize ((left : Nat) : Int) = li at *
     generalize gs.length = gl at *
     have hgl0 : gl ≠ 0 := hg0
     simp [repL,k_guard,k_guardU,hpos,hpos',w0,hXH,hg0',hg0,hm1,hm2,fold1,foldO,mn2,hmin,ha,hw]
     exact fin' ..
theorem segments_x {n : Nat} (hn : n ≤ 178) (m : MD) :
  ∃ v h',(∀ R,Ret tab 46 [.int .i64 (n : Nat),m.val] h R = R v h') ∧ Sl h' 1 v (segsOf m n).length (nI (segsOf m n)) ∧ (∀ id,sid v = some id → h.length ≤ id ∧ id < h'.length) ∧ (∀ id,id < h.length → blk? h' id = blk? h id) ∧ h.length ≤ h'.length := by
 have key : Ret tab 46 [.int .i64 (n : Nat),m.val] h fun v h' => Sl h' 1 v (segsOf m n).length (nI (segsOf m n)) ∧ (∀ id,sid v = some id → h.length ≤ id ∧ id < h'.length) ∧ (∀ id,id < h.length → blk? h' id = blk? h id) ∧ h.length ≤ h'.length := by
  generalize hH : h ++ [some (⟨false,[.bool m.byp,.bool m.res,.bool m.rst,.bool m.cz,.bool m.sy]⟩ : Blk)] = H
  have lH : H.length = h.length + 1 := by rw [← hH]; simp
  have bH : blk? H h.length = some ⟨false,[.bool m.byp,.bool m.res,.bool m.rst,.bool m.cz,.bool m.sy]⟩ := by rw [← hH]; exact blk?_push_eq
  have kH : ∀ id,id < h.length → blk? H id = blk? h id := fun id hid => by rw [← hH]; exact blk?_push_lt hid
  rw [enter46,show B46 = .seq (nthC 0 B46) (.seq (nthC 1 B46) (.seq (nthC 2 B46) (.seq (nthC 3 B46) (.seq (nthC 4 B46) (tlC 5 B46))))) from rfl]
  by_cases h1 : n < 1
  ·have h1' : (n : Int) < 1 := by omega
   have e : segsOf m n = [] := by unfold segsOf; rw [if_pos (.inl h1)]
   rw [e]
   generalize hT : tlC 5 B46 = tl at *
   simp only [nthC,tlC,fstC,B46]
   generalize ((n : Nat) : Int) = ni at *
   simp [k_guard,k_guardU,MD.val,hH,h1',fin46]
   exact ⟨(OwnS.nil H 1).sl,fun id hid => by simp [sid] at hid,kH,by omega⟩
  ·have h1' : ¬ (n : Int) < 1 := by omega
   have h2' : ¬ (178 : Int) < (n : Int) := by omega
   have e : segsOf m n = sgGo m n (szAt m n 0) n := by unfold segsOf; rw [if_neg (by omega),szAt_zero]
   rw [e]
   have L := fun K0 K1 K2 K4 K7 K8 K9 Ka Kb Kc Kd Ke Kf Kg Kh Ki Kj Kk Kl Km Kn Ko Kp Kq Kr Ks Kt Ku Kv Kw Kx Ky Kz J0 J1 J2 J3 J4 J5 J6 J7 J8 => seg14_loop (R := fun v h' => Sl h' 1 v (sgGo m n (szAt m n 0) n).length (nI (sgGo m n (szAt m n 0) n)) ∧ (∀ id,sid v = some id → h.length ≤ id ∧ id < h'.length) ∧ (∀ id,id < h.length → blk? h' id = blk? h id) ∧ h.length ≤ h'.length) (hB := H) bH hn (K := [.code (tlC 5 B46)])
    (fun G out K0 K1 K2 K3 K4 K6 K7 K8 K9 Ka Kb Kc Kd Ke Kf Kg Kh Ki Kj Kk Kl Km Kn Ko Kp Kq Kr Ks Kt Ku Kv Kw Kx Ky Kz J0 J1 J2 J3 J4 J5 J6 J7 J8 o f k l => by
     simp only [nthC,tlC,fstC,B46]
     simp [fin46]
     exact ⟨o.sl,fun id hid => ⟨by have := f id hid; omega,o.lt hid⟩,fun id hid => by rw [k id (by omega),kH id hid],by omega⟩) n n [] H (.slice none 0 0) K0 K1 K2 K4 K7 K8 K9 Ka Kb Kc Kd Ke Kf Kg Kh Ki Kj Kk Kl Km Kn Ko Kp Kq Kr Ks Kt Ku Kv Kw Kx Ky Kz J0 J1 J2 J3 J4 J5 J6 J7 J8 (Nat.le_refl _) (Nat.le_refl _) (by simp) (by simp) (OwnS.nil _ _) (fun id hid => by simp [sid] at hid) (fun _ _ => rfl) (Nat.le_refl _)
   generalize hT : tlC 5 B46 = tl at *
   simp only [nthC,tlC,fstC,B46]
   generalize ((n : Nat) : Int) = ni at *
   simp [k_guard,k_guardU,MD.val,hH,h1',h2']
   exact L ..
 obtain ⟨v,h',ee,a,b,c,d⟩ := ret_ex key
 exact ⟨v,h',ee,a,b,c,d⟩
end
set_option maxRecDepth 10000
structure SX (h : Heap) (e q : Nat) (own : Nat → Prop) (st : S2) (N : Nat) : Prop where
 ex : ∃ pb lb wv,XA h e pb lb st.a ∧ WX h q wv (st.raw.getD []) ∧ (∀ id,ownX e pb lb id → ¬ ownR q wv id) ∧ ∀ id,own id ↔ (ownX e pb lb id ∨ ownR q wv id)
 h19 : st.a.p.length = 19
 dn : st.a.ds.length ≤ N + 4
 bn : (st.raw.getD []).length ≤ N
section
variable {h h' : Heap} {R : Value → Heap → Prop} {e q N : Nat} {own : Nat → Prop} {st : S2}
theorem SX.own_lt (K : SX h e q own st N) {id : Nat} (hid : own id) : id < h.length := by
 obtain ⟨pb,lb,wv,I,J,_,o⟩ := K.ex
 rcases (o id).1 hid with x | x
 ·exact I.own_lt x
 ·exact J.own_lt x
theorem SX.keep (K : SX h e q own st N) (hk : ∀ id,own id → blk? h' id = blk? h id) : SX h' e q own st N := by
 obtain ⟨pb,lb,wv,I,J,d,o⟩ := K.ex
 exact ⟨⟨pb,lb,wv,I.keep fun id hid => hk id ((o id).2 (.inl hid)),J.keep fun id hid => hk id ((o id).2 (.inr hid)),d,o⟩,K.h19,K.dn,K.bn⟩
end
set_option maxRecDepth 10000
section
variable {R : Value → Heap → Prop} {e q : Nat}
end
set_option maxRecDepth 10000
def SegAll (m : MD) : Nat → List Nat → Prop
 | _,[] => True
 | n,c :: cs => (∀ j,j < c → rawOf m (n + j) = rawOf m n) ∧ SegAll m (n + c) cs
theorem segAll_plain {m : MD} (hb : m.byp = false) : ∀ (l : List Nat) (n : Nat),SegAll m n l
 | [],_ => trivial
 | c :: cs,n => ⟨fun j _ => by simp [rawOf,hb],segAll_plain hb cs (n + c)⟩
theorem segAll_ones {m : MD} : ∀ (l : List Nat) (n : Nat),(∀ c ∈ l,c ≤ 1) → SegAll m n l
 | [],_,_ => trivial
 | c :: cs,n,h => ⟨fun j hj => by
   have := h c (List.mem_cons_self ..)
   have : j = 0 := by omega
   subst this; rfl,segAll_ones cs (n + c) fun x hx => h x (List.mem_cons_of_mem _ hx)⟩
theorem segAll_byp {m : MD} (hb : m.byp = true) (hr : m.res = false) : ∀ (f sz left n : Nat),(sz = 10 ∧ n = 0) ∨ (sz = 2 ∧ n % 3 = 1 ∧ 10 ≤ n) ∨ (sz = 1 ∧ n % 3 = 0 ∧ 12 ≤ n) → SegAll m n (sgGo m f sz left)
 | 0,_,_,_,_ => trivial
 | f + 1,sz,left,n,h => by
  have hnx : sgNext m sz = if sz = 2 then 1 else 2 := by unfold sgNext; rw [if_pos ⟨hb,hr⟩]
  unfold sgGo
  by_cases h0 : left = 0
  ·rw [if_pos h0]; trivial
  ·rw [if_neg h0]
   refine ⟨fun j hj => ?_,?_⟩
   ·rcases h with ⟨rfl,rfl⟩ | ⟨rfl,h2,h3⟩ | ⟨rfl,h2,h3⟩
    ·have e : ∀ k,k < 10 → rawOf m k = false := fun k hk => by
      have : planeOf k < 4 := by unfold planeOf; split <;> omega
      simp only [rawOf,Bool.and_eq_false_iff,decide_eq_false_iff_not]
      left; right; omega
     rw [e (0 + j) (by omega),e 0 (by omega)]
    ·have e : ∀ k,10 ≤ k → (k % 3 = 1 ∨ k % 3 = 2) → rawOf m k = true := fun k hk hk3 => by
      have e1 : planeOf k = (k - 1) / 3 + 1 := by unfold planeOf; rw [if_neg (by omega)]
      have e2 : kindOf k = (k - 1) % 3 := by unfold kindOf; rw [if_neg (by omega)]
      simp only [rawOf,hb,Bool.true_and,Bool.and_eq_true,decide_eq_true_eq,e1,e2]
      omega
     rw [e (n + j) (by omega) (by omega),e n (by omega) (by omega)]
    ·have : j = 0 := by omega
     subst this; rfl
   ·by_cases hlt : left < sz
    ·have e : left - min sz left = 0 := by omega
     rw [e]
     cases f with
     | zero => trivial
     | succ f => unfold sgGo; rw [if_pos rfl]; trivial
    ·have e : min sz left = sz := by omega
     rw [e]
     refine segAll_byp hb hr f _ _ _ ?_
     rw [hnx]
     rcases h with ⟨rfl,rfl⟩ | ⟨rfl,h2,h3⟩ | ⟨rfl,h2,h3⟩
     ·right; left; simp
     ·right; right; simp; omega
     ·right; left; simp; omega
theorem segAll_all (m : MD) (n : Nat) : SegAll m 0 (segsOf m n) := by
 unfold segsOf
 split
 ·trivial
 ·cases hb : m.byp with
  | false => exact segAll_plain hb _ _
  | true =>
   cases hr : m.res with
   | true =>
    have : sgFirst m n = 1 := by unfold sgFirst; rw [if_pos hr]
    rw [this]
    exact segAll_ones _ _ (sgGo_ones hr _ _)
   | false =>
    have : sgFirst m n = 10 := by unfold sgFirst; rw [if_neg (by simp [hr]),if_pos hb]
    rw [this]
    exact segAll_byp hb hr _ _ _ _ (.inl ⟨rfl,rfl⟩)
section
variable {R : Value → Heap → Prop} {e pb lb : Nat} {a : AE}
end
set_option maxRecDepth 10000
theorem q_out0 {m : MD} {b : BS} {i : Nat} {pl o : Int} (hr : rawOf m i = false) (a : AD) (rd : List Nat × Nat) (l : List (Int × Nat)) :
  dOut QR.ask m b i pl o ⟨true,a,rd,l⟩ = ((dOut RS.ask m b i pl o ⟨a,none,l⟩).1,⟨true,(dOut RS.ask m b i pl o ⟨a,none,l⟩).2.a,rd,(dOut RS.ask m b i pl o ⟨a,none,l⟩).2.l⟩) ∧ (dOut RS.ask m b i pl o ⟨a,none,l⟩).2.raw = none := by
 unfold dOut
 split
 ·exact run_none _ a rd l (by rw [← hr]; exact cx_dRun m b i _ _)
 ·exact ⟨rfl,rfl⟩
theorem q_out1 {m : MD} {b : BS} {i : Nat} {pl o : Int} (hr : rawOf m i = true) (on : Bool) (a : AD) (xs : List Nat) (n : Nat) (l : List (Int × Nat)) :
  ∃ n',dOut QR.ask m b i pl o ⟨on,a,(xs,n),l⟩ = ((dOut RS.ask m b i pl o ⟨a,some (xs,n),l⟩).1,⟨on,a,(xs,n'),(dOut RS.ask m b i pl o ⟨a,some (xs,n),l⟩).2.l⟩) ∧ (dOut RS.ask m b i pl o ⟨a,some (xs,n),l⟩).2.raw = some (xs,n') ∧ (dOut RS.ask m b i pl o ⟨a,some (xs,n),l⟩).2.a = a := by
 unfold dOut
 split
 ·exact run_some on _ a xs n l (by rw [← hr]; exact cx_dRun m b i _ _)
 ·exact ⟨n,rfl,rfl,rfl⟩
structure ZD (h : Heap) (d pb : Nat) (dv : Value) (D : List Nat) (on : Bool) (a : AD) (N : Nat) : Prop where
 dec : ∃ n,n ≤ N ∧ ((on = true ∧ DA h d pb dv D n a) ∨ (on = false ∧ DP h d pb dv D n a.p a.value a.size false))
 h19 : a.p.length = 19
 ps : PsOk a.p
 dig : Dig D
 dl : D.length < 100000000
section
variable {h h' : Heap} {d pb : Nat} {dv : Value} {D : List Nat} {on : Bool} {a : AD} {N : Nat}
theorem ZD.dp (Z : ZD h d pb dv D on a N) : ∃ n st,DP h d pb dv D n a.p a.value a.size st := by
 obtain ⟨n,_,⟨_,I⟩ | ⟨_,I⟩⟩ := Z.dec
 ·exact ⟨n,true,I.dp⟩
 ·exact ⟨n,false,I⟩
theorem ZD.lt (Z : ZD h d pb dv D on a N) {id : Nat} (hid : ownE d pb dv id) : id < h.length := by
 obtain ⟨n,st,I⟩ := Z.dp
 exact I.own_lt hid
theorem ZD.keep (Z : ZD h d pb dv D on a N) (hk : ∀ id,ownE d pb dv id → blk? h' id = blk? h id) : ZD h' d pb dv D on a N := by
 refine ⟨?_,Z.h19,Z.ps,Z.dig,Z.dl⟩
 obtain ⟨n,hn,⟨ho,I⟩ | ⟨ho,I⟩⟩ := Z.dec
 ·exact ⟨n,hn,.inl ⟨ho,⟨I.dp.keep hk,I.rest,I.ok,I.pos⟩⟩⟩
 ·exact ⟨n,hn,.inr ⟨ho,I.keep hk⟩⟩
theorem ZD.mono (Z : ZD h d pb dv D on a N) {M : Nat} (hM : N ≤ M) : ZD h d pb dv D on a M := by
 obtain ⟨n,hn,x⟩ := Z.dec
 exact ⟨⟨n,by omega,x⟩,Z.h19,Z.ps,Z.dig,Z.dl⟩
theorem ZD.back (Z : ZD h d pb dv D true a N) :
  ∃ h' pb',(∀ R : Value → Heap → Prop,Ret tab 76 [ptr d] h R = R (.tuple #[]) h') ∧ ZD h' d pb' dv D true a.back N ∧ (∀ id,ownE d pb' dv id → ownE d pb dv id ∨ h.length ≤ id) ∧ (∀ id,id < h.length → ¬ ownE d pb dv id → blk? h' id = blk? h id) ∧ h.length ≤ h'.length := by
 obtain ⟨n,hn,⟨_,I⟩ | ⟨x,_⟩⟩ := Z.dec
 ·obtain ⟨h',pb',e,I2,l1,l2,k2,l3⟩ := zreset_c I.dp I.pos (by have := Z.h19; omega)
  refine ⟨h',pb',e,⟨⟨n,hn,.inl ⟨rfl,⟨I2,I.rest,⟨base_ok _,I.ok.dig,I.ok.v,I.ok.s1,I.ok.s2⟩,by simpa [AD.back,AE.base] using I.pos⟩⟩⟩,by simpa [AD.back,AE.base] using Z.h19,base_ok _,Z.dig,Z.dl⟩,fun id hid => ?_,fun id h1 h2 => k2 id h1 fun x => h2 (.inl x),l3⟩
  rcases hid with x | x | x
  ·exact .inl (.inl x)
  ·right; omega
  ·exact .inl (.inr (.inr x))
 ·cases x
end
def ownZq (d pb q : Nat) (dv rs : Value) (id : Nat) : Prop := ownE d pb dv id ∨ ownR q rs id
structure ZI (Q : Nat → Prop) (hB h : Heap) (X6 X11 p c d pb q : Nat) (pl : Int) (pv dv0 : Value) (m : MD) (dv rs : Value) (D : List Nat) (on : Bool) (rd : List Nat × Nat) (lv : Value) (vs : List Value) (s : Rdg) (N : Nat) : Prop where
 b6 : blk? h X6 = some ⟨false,[.int .i64 pl,pv,dv0]⟩
 b11 : blk? h X11 = some ⟨false,[.bool m.byp,.bool m.res,.bool m.rst,.bool m.cz,.bool m.sy]⟩
 cb : CB h false p c s.b
 good : s.b.Good
 zd : ZD h d pb dv D on s.a N
 rdr : RB h q rs rd.1 rd.2
 rn : rd.2 ≤ N
 d1 : ∀ id,ownE d pb dv id → ¬ ownR q rs id
 ol : OwnS h 1 lv vs.length vs
 vl : vs.length = s.ls.length
 each : ∀ i (h1 : i < vs.length) (h2 : i < s.ls.length),OwnS h 2 vs[i] s.ls[i].length (encS s.ls[i])
 kp : ∀ id,KpO Q X6 X11 p vs id → ¬ ownZq d pb q dv rs id ∧ id ≠ c ∧ sid lv ≠ some id ∧ id < h.length
 no : ∀ id,ownZq d pb q dv rs id → id ≠ c ∧ sid lv ≠ some id
 nl : sid lv ≠ some c
 low : ∀ id,Q id → blk? h id = blk? hB id
 len : hB.length ≤ h.length
 small : ∀ l ∈ s.ls,l.length ≤ 20000
 cB : ¬ Q c ∧ c ≠ X6 ∧ c ≠ X11
section
variable {R : Value → Heap → Prop} {h : Heap}
set_option maxHeartbeats 4000000 in
theorem zpass_loop {Q : Nat → Prop} {hB : Heap} {X6 X11 p c d q : Nat} {pl o : Int} {pv dv0 v20 v22 gv dv rs : Value} {D : List Nat} {m : MD} {rw : Bool} {gs : List Nat} {gi cnt : Nat} {k : List RItem} {sF : Rdg}
  (hg : Sl hB 1 gv gs.length (nI gs)) (hgq : ∀ id,sid gv = some id → Q id) (hgl : gi < gs.length) (hcnt : gs[gi] = cnt) (hc178 : cnt ≤ 178)
  (hk : ∀ (h : Heap) (pb : Nat) (on : Bool) (rd : List Nat × Nat) (lv : Value) (vs : List Value) (N : Nat) (K0 K1 K2 K3 K5 K7 K8 K9 Ka Kc Kf Kh Kn Ko Kp Kq Kr Ks Kt Ku Kv Kw Kx Ky Kz J0 J1 J2 J3 J4 J5 J6 J7 J8 J9 Ja Jb Jc Jd Je Jf Jg Jh Ji Jj Jk Jl Jm Jn Jo Jp Jq Jr Js Jt Ju Jv Jw Jx Jy Jz Y0 Y1 Y2 Y3 Y4 Y5 Y6 Y7 Y8 Y9 Ya Yb Yc Yd Ye Yf Yg Yh Yi Yj Yk Yl Ym Yn Yo Yp Yq Yr Ys Yt Yu Yv Yw Yx Yy Yz Z0 Z1 Z2 Z3 Z4 Z5 Z6 : Value),ZI Q hB h X6 X11 p c d pb q pl pv dv0 m dv rs D on rd lv vs sF N → N ≤ sF.ls.length * 20000 + 4 →
   Ok tab R31 k #[K0,K1,K2,K3,.int .i64 o,K5,ptr X6,K7,K8,K9,Ka,ptr X11,Kc,lv,ptr p,Kf,ptr d,Kh,gv,.int .i64 (sF.ls.length : Nat),v20,.int .i64 (gi : Nat),v22,Kn,Ko,Kp,Kq,Kr,Ks,Kt,Ku,Kv,Kw,Kx,Ky,Kz,J0,J1,J2,J3,J4,J5,J6,J7,J8,J9,Ja,Jb,Jc,Jd,Je,Jf,Jg,Jh,Ji,Jj,Jk,Jl,Jm,Jn,Jo,Jp,Jq,Jr,Js,Jt,Ju,Jv,Jw,Jx,Jy,Jz,Y0,Y1,Y2,Y3,Y4,Y5,Y6,Y7,Y8,Y9,Ya,Yb,Yc,Yd,Ye,Yf,Yg,Yh,Yi,Yj,Yk,Yl,Ym,Yn,Yo,Yp,Yq,Yr,Ys,Yt,Yu,Yv,Yw,Yx,Yy,Yz,Z0,Z1,Z2,Z3,Z4,Z5,Z6] h R) :
  ∀ (j kk : Nat) (h : Heap) (pb : Nat) (on : Bool) (rd : List Nat × Nat) (lv : Value) (vs : List Value) (s : Rdg) (N : Nat) (K0 K1 K2 K3 K5 K7 K8 K9 Ka Kc Kf Kh Kq Kr Ks Kt Ku Kv Kw Kx Ky Kz J0 J1 J2 J3 J4 J5 J6 J7 J8 J9 Ja Jb Jc Jd Je Jf Jg Jh Ji Jj Jk Jl Jm Jn Jo Jp Jq Jr Js Jt Ju Jv Jw Jx Jy Jz Y0 Y1 Y2 Y3 Y4 Y5 Y6 Y7 Y8 Y9 Ya Yb Yc Yd Ye Yf Yg Yh Yi Yj Yk Yl Ym Yn Yo Yp Yq Yr Ys Yt Yu Yv Yw Yx Yy Yz Z0 Z1 Z2 Z3 Z4 Z5 Z6 : Value),kk + j = cnt → ZI Q hB h X6 X11 p c d pb q pl pv dv0 m dv rs D on rd lv vs s N → s.ls.length + j ≤ 178 → N ≤ s.ls.length * 20000 + 4 →
   (∀ i,i < j → rawOf m (s.ls.length + i) = rw) → ((rw = false → on = true ∧ s.raw = none) ∧ (rw = true → s.raw = some rd)) → passesR m pl o j s.ls.length s = sF →
   Ok tab R31 (.inLoop L31_0 :: .inBlock 2 :: k) #[K0,K1,K2,K3,.int .i64 o,K5,ptr X6,K7,K8,K9,Ka,ptr X11,Kc,lv,ptr p,Kf,ptr d,Kh,gv,.int .i64 (s.ls.length : Nat),v20,.int .i64 (gi : Nat),v22,.bool rw,ptr q,.int .i64 (kk : Nat),Kq,Kr,Ks,Kt,Ku,Kv,Kw,Kx,Ky,Kz,J0,J1,J2,J3,J4,J5,J6,J7,J8,J9,Ja,Jb,Jc,Jd,Je,Jf,Jg,Jh,Ji,Jj,Jk,Jl,Jm,Jn,Jo,Jp,Jq,Jr,Js,Jt,Ju,Jv,Jw,Jx,Jy,Jz,Y0,Y1,Y2,Y3,Y4,Y5,Y6,Y7,Y8,Y9,Ya,Yb,Yc,Yd,Ye,Yf,Yg,Yh,Yi,Yj,Yk,Yl,Ym,Yn,Yo,Yp,Yq,Yr,Ys,Yt,Yu,Yv,Yw,Yx,Yy,Yz,Z0,Z1,Z2,Z3,Z4,Z5,Z6] h R := by
 intro j
 induction j with
 | zero =>
  intro kk h pb on rd lv vs s N;intros;rename_i hkk I hq hN hrw hlk hF
  simp only [passesR] at hF
  subst hF
  obtain rfl : kk = cnt := by omega
  have hg2 : Sl h 1 gv gs.length (nI gs) := hg.of_sid fun id b hid hb => by rw [I.low id (hgq id hid)]; exact hb
  obtain ⟨gid,goff,gb,egv,hgb,hgc⟩ := hg2.get hgl
  have hgd0 : gs.getD gi 0 = gs[gi] := by rw [List.getD_eq_getElem?_getD,List.getElem?_eq_getElem hgl]; rfl
  have hgc0 := hgc 0 (by omega)
  rw [Nat.mul_one,Nat.add_zero,Nat.add_zero,nI_get hgl,hgd0,hcnt] at hgc0
  have hlt : (gi : Int) < (gs.length : Int) := by omega
  have hk' := fun K0 K1 K2 K3 K5 K7 K8 K9 Ka Kc Kf Kh Kn Ko Kp Kq Kr Ks Kt Ku Kv Kw Kx Ky Kz J0 J1 J2 J3 J4 J5 J6 J7 J8 J9 Ja Jb Jc Jd Je Jf Jg Jh Ji Jj Jk Jl Jm Jn Jo Jp Jq Jr Js Jt Ju Jv Jw Jx Jy Jz Y0 Y1 Y2 Y3 Y4 Y5 Y6 Y7 Y8 Y9 Ya Yb Yc Yd Ye Yf Yg Yh Yi Yj Yk Yl Ym Yn Yo Yp Yq Yr Ys Yt Yu Yv Yw Yx Yy Yz Z0 Z1 Z2 Z3 Z4 Z5 Z6 => hk h pb on rd lv vs N K0 K1 K2 K3 K5 K7 K8 K9 Ka Kc Kf Kh Kn Ko Kp Kq Kr Ks Kt Ku Kv Kw Kx Ky Kz J0 J1 J2 J3 J4 J5 J6 J7 J8 J9 Ja Jb Jc Jd Je Jf Jg Jh Ji Jj Jk Jl Jm Jn Jo Jp Jq Jr Js Jt Ju Jv Jw Jx Jy Jz Y0 Y1 Y2 Y3 Y4 Y5 Y6 Y7 Y8 Y9 Ya Yb Yc Yd Ye Yf Yg Yh Yi Yj Yk Yl Ym Yn Yo Yp Yq Yr Ys Yt Yu Yv Yw Yx Yy Yz Z0 Z1 Z2 Z3 Z4 Z5 Z6 I hN
  rw [egv] at hk' ⊢
  rw [ok_round,l31_0,L31_0a,L31_0b]
  simp [hgb,hgc0,hlt]
  exact hk' ..
 | succ j ih =>
  intro kk h pb on rd lv vs s N;intros;rename_i hkk I hq hN hrw hlk hF
  have hg2 : Sl h 1 gv gs.length (nI gs) := hg.of_sid fun id b hid hb => by rw [I.low id (hgq id hid)]; exact hb
  obtain ⟨gid,goff,gb,egv,hgb,hgc⟩ := hg2.get hgl
  have hgd0 : gs.getD gi 0 = gs[gi] := by rw [List.getD_eq_getElem?_getD,List.getElem?_eq_getElem hgl]; rfl
  have hgc0 := hgc 0 (by omega)
  rw [Nat.mul_one,Nat.add_zero,Nat.add_zero,nI_get hgl,hgd0,hcnt] at hgc0
  have hlt : (gi : Int) < (gs.length : Int) := by omega
  have hkc : (kk : Int) < (cnt : Int) := by omega
  have hr0 : rawOf m s.ls.length = rw := hrw 0 (by omega)
  obtain ⟨la,lc,hlv⟩ := I.ol.sl.shape
  have hvl := I.vl
  have kk6 := I.kp X6 (.inr (.inl rfl))
  have kk11 := I.kp X11 (.inr (.inr (.inl rfl)))
  have kkp := I.kp p (.inr (.inr (.inr (.inl rfl))))
  have rdlt : ∀ id,ownR q rs id → id < h.length := fun id hid => I.rdr.own_lt hid
  have zdlt : ∀ id,ownE d pb dv id → id < h.length := fun id hid => I.zd.lt hid
  have stepA : ∃ hA pbA,(m.rst = true → rw = false → ∀ R : Value → Heap → Prop,Ret tab 76 [ptr d] h R = R (.tuple #[]) hA) ∧ (¬ (m.rst = true ∧ rw = false) → hA = h) ∧ ZD hA d pbA dv D on (if m.rst = true ∧ rawOf m s.ls.length = false then s.a.back else s.a) N ∧ (∀ id,ownE d pbA dv id → ownE d pb dv id ∨ h.length ≤ id) ∧ (∀ id,id < h.length → ¬ ownE d pb dv id → blk? hA id = blk? h id) ∧ h.length ≤ hA.length := by
   by_cases hr : m.rst = true ∧ rw = false
   ·obtain ⟨hon,_⟩ := hlk.1 hr.2
    subst hon
    obtain ⟨hA,pbA,e,Z,f,k1,l1⟩ := I.zd.back
    exact ⟨hA,pbA,fun _ _ => e,fun x => absurd hr x,by rw [hr0,if_pos hr]; exact Z,f,k1,l1⟩
   ·exact ⟨h,pb,fun x y => absurd ⟨x,y⟩ hr,fun _ => rfl,by rw [hr0,if_neg hr]; exact I.zd,fun _ x => .inl x,fun _ _ _ => rfl,Nat.le_refl _⟩
  obtain ⟨hA,pbA,eA,nA,zA,fA,kA,lA⟩ := stepA
  generalize ha1 : (if m.rst = true ∧ rawOf m s.ls.length = false then s.a.back else s.a) = a1 at *
  generalize hB2 : hA ++ [some (⟨false,[ptr d,ptr q,.slice none 0 0,.slice none 0 0]⟩ : Blk)] = h2
  have l2 : h2.length = hA.length + 1 := by rw [← hB2]; simp
  have k2 : ∀ id,id < hA.length → blk? h2 id = blk? hA id := fun id hid => by rw [← hB2]; exact blk?_push_lt hid
  have b2k : blk? h2 hA.length = some ⟨false,[ptr d,ptr q,.slice none 0 0,.slice none 0 0]⟩ := by rw [← hB2]; exact blk?_push_eq
  have keep2 : ∀ id,id < h.length → ¬ ownE d pb dv id → blk? h2 id = blk? h id := fun id h1 h3 => by rw [k2 id (by omega),kA id h1 h3]
  have hcl := blk?_lt I.cb.blkc
  have hnE : ∀ id,¬ ownZq d pb q dv rs id → ¬ ownE d pb dv id := fun id x y => x (.inl y)
  have hno : ¬ ownE d pb dv c := fun x => (I.no c (.inl x)).1 rfl
  have cb2 : CB h2 false p c s.b := ⟨by rw [keep2 p kkp.2.2.2 (hnE _ kkp.1)]; exact I.cb.blkp,by rw [keep2 c hcl hno]; exact I.cb.blkc,I.cb.ok⟩
  have newE : ∀ id,ownE d pbA dv id ∨ ownR q rs id → ownZq d pb q dv rs id ∨ (h.length ≤ id ∧ id < hA.length) := fun id hid => by
   rcases hid with x | x
   ·rcases fA id x with y | y
    ·exact .inl (.inl y)
    ·exact .inr ⟨y,zA.lt x⟩
   ·exact .inl (.inr x)
  have zlt : ∀ id,ownZq d pb q dv rs id → id < h.length := fun id hid => hid.elim (zdlt id) (rdlt id)
  have r2 : QRel d pbA q hA.length c N dv rs D h2 (.slice none 0 0) ⟨on,a1,rd,[]⟩ := by
   have Z2 := zA.keep (h' := h2) fun id hid => k2 id (zA.lt hid)
   refine ⟨b2k,?_,zA.dig,zA.dl,zA.h19,I.rdr.keep fun id hid => keep2 id (rdlt id hid) (fun x => I.d1 id x hid),by have := I.rn; simp; omega,OwnS.nil _ _,fun id hid hx => ?_,fun id hid => ?_,⟨by simp [sid],by simp [sid]⟩,by omega,by omega,by omega⟩
   ·obtain ⟨n,hn,x⟩ := Z2.dec
    exact ⟨n,by simp; omega,x⟩
   ·rcases fA id hid with y | y
    ·exact I.d1 id y hx
    ·have := rdlt id hx; omega
   ·refine ⟨?_,by simp [sid],?_⟩
    ·rcases newE id hid with y | y
     ·have := zlt id y; omega
     ·omega
    ·rcases newE id hid with y | y
     ·exact (I.no id y).1
     ·omega
  obtain ⟨t',h3,e3,D3⟩ := run_q (A := qSrc d pbA q hA.length c N dv rs D) (t := (.slice none 0 0 : Value)) (s := ⟨on,a1,rd,[]⟩) cb2 I.good.rng r2
   (by
    rintro (x | x | x)
    ·rcases newE p x with y | y
     ·exact kkp.1 y
     ·have := kkp.2.2.2; omega
    ·have := kkp.2.2.2; omega
    ·simp [sid] at x) (by omega) (by show 0 + 100000 < 1000000; omega) (s.ls.length : Int) pl o m
  change Value at t'
  have hR3 : passR m pl o s.ls.length s.a s.raw s.b = dOut RS.ask m s.b s.ls.length pl o ⟨a1,s.raw,[]⟩ := by unfold passR; rw [ha1]
  have hlen3 := dOut_len (m := m) I.good pl o s.ls.length ⟨a1,s.raw,[]⟩
  have e3' : ∀ R : Value → Heap → Prop,Ret tab 77 [ptr p,.int .i64 (s.ls.length : Nat),.int .i64 pl,.int .i64 o,m.val,ptr hA.length] h2 R = R (.int .i64 (dErr s.ls.length pl o (dOut QR.ask m s.b s.ls.length pl o ⟨on,a1,rd,[]⟩).1.2)) h3 := e3
  have cb3 : CB h3 false p c (dOut QR.ask m s.b s.ls.length pl o ⟨on,a1,rd,[]⟩).1.1 := D3.cb
  have good3 : (dOut QR.ask m s.b s.ls.length pl o ⟨on,a1,rd,[]⟩).1.1.Good := D3.good
  have r3 : QRel d pbA q hA.length c N dv rs D h3 t' (dOut QR.ask m s.b s.ls.length pl o ⟨on,a1,rd,[]⟩).2 := D3.rel
  have S3 : Stq h2 h3 c (ownQ d pbA q hA.length dv rs (.slice none 0 0)) (ownQ d pbA q hA.length dv rs t') := D3.st
  clear e3 D3
  have link : ∃ rd',dOut QR.ask m s.b s.ls.length pl o ⟨on,a1,rd,[]⟩ = ((dOut RS.ask m s.b s.ls.length pl o ⟨a1,s.raw,[]⟩).1,⟨on,(dOut RS.ask m s.b s.ls.length pl o ⟨a1,s.raw,[]⟩).2.a,rd',(dOut RS.ask m s.b s.ls.length pl o ⟨a1,s.raw,[]⟩).2.l⟩) ∧
    ((rw = false → on = true ∧ (dOut RS.ask m s.b s.ls.length pl o ⟨a1,s.raw,[]⟩).2.raw = none) ∧ (rw = true → (dOut RS.ask m s.b s.ls.length pl o ⟨a1,s.raw,[]⟩).2.raw = some rd')) ∧ (rw = true → (dOut RS.ask m s.b s.ls.length pl o ⟨a1,s.raw,[]⟩).2.a = a1) := by
   cases hw : rw with
   | false =>
    obtain ⟨x1,x2⟩ := hlk.1 hw
    rw [x2,x1]
    obtain ⟨y1,y2⟩ := q_out0 (m := m) (b := s.b) (i := s.ls.length) (pl := pl) (o := o) (hr0.trans hw) a1 rd []
    exact ⟨rd,y1,⟨fun _ => ⟨rfl,y2⟩,fun x => by cases x⟩,fun x => by cases x⟩
   | true =>
    obtain ⟨rx,rn⟩ := rd
    rw [hlk.2 hw]
    obtain ⟨n',y1,y2,y3⟩ := q_out1 (m := m) (b := s.b) (i := s.ls.length) (pl := pl) (o := o) (hr0.trans hw) on a1 rx rn []
    exact ⟨(rx,n'),by rw [y1,y3],⟨fun x => (by cases x),fun _ => y2⟩,fun _ => y3⟩
  obtain ⟨rd',elink,hlk',ha3⟩ := link
  rw [elink] at e3' cb3 good3 r3
  clear elink
  simp only [passesR,hR3] at hF
  generalize dOut RS.ask m s.b s.ls.length pl o ⟨a1,s.raw,[]⟩ = r at *
  obtain ⟨⟨b3,ok3⟩,st3⟩ := r
  simp only at e3' cb3 good3 r3 hF hlen3 hlk' ha3
  have len3 := S3.len
  have lvlt : ∀ id,sid lv = some id → id < h.length := fun id hid => I.ol.lt hid
  have hlen3' : st3.l.length ≤ 20000 := by simpa using hlen3
  have fresh3 : ∀ id,ownQ d pbA q hA.length dv rs t' id → ownZq d pb q dv rs id ∨ h.length ≤ id := fun id hid => by
   rcases S3.fresh id hid with (x | x | x) | x
   ·exact (newE id x).imp_right fun y => y.1
   ·right; omega
   ·simp [sid] at x
   ·right; omega
  have old3 : ∀ id,id < h.length → ¬ ownZq d pb q dv rs id → ¬ ownQ d pbA q hA.length dv rs (.slice none 0 0) id := fun id h1 h2 hid => by
   rcases hid with x | x | x
   ·exact (newE id x).elim h2 fun y => by omega
   ·omega
   ·simp [sid] at x
  have keep3 : ∀ id,id < h.length → id ≠ c → ¬ ownZq d pb q dv rs id → blk? h3 id = blk? h id := fun id h1 hc ho => by
   rw [S3.same id (by omega) hc (old3 id h1 ho),keep2 id h1 (hnE id ho)]
  generalize hH4 : h3 ++ [some (⟨false,[t']⟩ : Blk)] = h4
  have l4 : h4.length = h3.length + 1 := by rw [← hH4]; simp
  have k4 : ∀ id,id < h3.length → blk? h4 id = blk? h3 id := fun id hid => by rw [← hH4]; exact blk?_push_lt hid
  have b4 : blk? h4 h3.length = some ⟨false,[t']⟩ := by rw [← hH4]; exact blk?_push_eq
  have ol4 : OwnS h4 1 lv vs.length vs := own_lv I.ol fun id hid => by
   have := lvlt id hid
   rw [k4 id (by omega),keep3 id this (fun x => I.nl (by rw [← x]; exact hid)) (fun x => (I.no id x).2 hid)]
  have ht4 : Sl h4 1 (.slice (some ⟨h3.length,0,none⟩) 1 1) 1 [t'] := ⟨rfl,.inr ⟨h3.length,0,rfl,.inr ⟨_,b4,by simp,by simp⟩⟩⟩
  obtain ⟨h5,a5,b5,l5,k5⟩ := own_append (bytes := 24) ol4 ht4 (by unfold roomCells; omega) (by omega) (by omega)
  rw [l4] at a5 b5 l5 k5
  have keep5 : ∀ id,id < h3.length → sid lv ≠ some id → blk? h5 id = blk? h3 id := fun id h1 h2 => by rw [k5 id (by omega) h2,k4 id h1]
  have keep : ∀ id,KpO Q X6 X11 p vs id → blk? h5 id = blk? h id := fun id hid => by
   obtain ⟨q1,q2,q3,q4⟩ := I.kp id hid
   rw [keep5 id (by omega) q3,keep3 id q4 q2 q1]
  have lvfresh : ∀ id,ownQ d pbA q hA.length dv rs t' id → sid lv ≠ some id := fun id hid hx => by
   have := lvlt id hx
   rcases fresh3 id hid with x | x
   ·exact (I.no id x).2 hx
   ·omega
  obtain ⟨c1,c2,c3⟩ := I.cB
  have hps3 : PsOk st3.a.p := by
   obtain ⟨n,_,⟨_,J⟩ | ⟨ho,_⟩⟩ := r3.dec
   ·exact J.ok.ps
   ·cases hw : rw with
    | false => exact absurd (hlk.1 hw).1 (by simp only at ho; rw [ho]; decide)
    | true => rw [ha3 hw]; exact zA.ps
  have I5 : ZI Q hB h5 X6 X11 p c d pbA q pl pv dv0 m dv rs D on rd' (.slice (some ⟨h3.length + 1,0,none⟩) (vs.length + 1) 1) (vs ++ [t']) ⟨st3.a,st3.raw,b3,sndR pl o s.ls.length ok3 s.snd,s.ls ++ [st3.l]⟩ (N + st3.l.length) := by
   have lenB := I.len
   have hcl3 := blk?_lt cb3.blkc
   have hpl3 := blk?_lt cb3.blkp
   have kq : ∀ id,ownQ d pbA q hA.length dv rs t' id → blk? h5 id = blk? h3 id := fun id hid => keep5 id (r3.own_lt hid) (lvfresh id hid)
   refine ⟨by rw [keep X6 (.inr (.inl rfl))]; exact I.b6,by rw [keep X11 (.inr (.inr (.inl rfl)))]; exact I.b11,⟨by rw [keep5 p hpl3 kkp.2.2.1]; exact cb3.blkp,by rw [keep5 c hcl3 I.nl]; exact cb3.blkc,cb3.ok⟩,good3,
    ZD.keep (h := h3) ⟨r3.dec,r3.h19,hps3,r3.dig,r3.dl⟩ fun id hid => kq id (.inl (.inl hid)),r3.rdr.keep fun id hid => kq id (.inl (.inr hid)),r3.rn,r3.d1,⟨by simp,.inr ⟨h3.length + 1,by simp,b5⟩⟩,by simp [hvl],fun i h1 h2 => ?_,fun id hid => ?_,fun id hid => ?_,?_,fun id hid => ?_,by omega,fun l hl => ?_,⟨c1,c2,c3⟩⟩
   ·by_cases hi : i < vs.length
    ·have hi2 : i < s.ls.length := by omega
     have e1 : (vs ++ [t'])[i] = vs[i] := by rw [List.getElem_append_left hi]
     have e2 : (s.ls ++ [st3.l])[i] = s.ls[i] := by rw [List.getElem_append_left hi2]
     simp only [e1,e2]
     exact own_lv (I.each i hi hi2) fun id hid => keep id (.inr (.inr (.inr (.inr ⟨_,List.getElem_mem hi,hid⟩))))
    ·simp only [List.length_append,List.length_singleton] at h1
     have hie : i = vs.length := by omega
     subst hie
     have e1 : (vs ++ [t'])[vs.length] = t' := by simp
     have e2 : (s.ls ++ [st3.l])[vs.length] = st3.l := by rw [List.getElem_append_right (by omega)]; simp [hvl]
     simp only [e1,e2]
     exact own_lv r3.ol fun id hid => kq id (.inr (.inr hid))
   ·have old : KpO Q X6 X11 p vs id → ¬ ownZq d pbA q dv rs id ∧ id ≠ c ∧ sid (.slice (some ⟨h3.length + 1,0,none⟩) (vs.length + 1) 1) ≠ some id ∧ id < h5.length := fun hid => by
     obtain ⟨q1,q2,q3,q4⟩ := I.kp id hid
     refine ⟨fun x => ?_,q2,by simp [sid]; omega,by omega⟩
     rcases newE id x with y | y
     ·exact q1 y
     ·omega
    rcases hid with hid | hid | hid | hid | ⟨w,hw,hid⟩
    ·exact old (.inl hid)
    ·exact old (.inr (.inl hid))
    ·exact old (.inr (.inr (.inl hid)))
    ·exact old (.inr (.inr (.inr (.inl hid))))
    ·rcases List.mem_append.1 hw with hw | hw
     ·exact old (.inr (.inr (.inr (.inr ⟨w,hw,hid⟩))))
     ·simp at hw; subst hw
      have := r3.ol.lt hid
      refine ⟨fun x => (r3.d2 id x).2.1 hid,?_,by simp [sid]; omega,by omega⟩
      intro e
      exact r3.d3.2 (by rw [← e]; exact hid)
   ·have := r3.own_lt (.inl hid)
    exact ⟨(r3.d2 id hid).2.2,by simp [sid]; omega⟩
   ·simp [sid]; omega
   ·rw [keep id (.inl hid)]; exact I.low id hid
   ·rcases List.mem_append.1 hl with hl | hl
    ·exact I.small l hl
    ·simp at hl; subst hl; exact hlen3'
  have ih' := fun K0 K1 K2 K3 K5 K7 K8 K9 Ka Kc Kf Kh Kq Kr Ks Kt Ku Kv Kw Kx Ky Kz J0 J1 J2 J3 J4 J5 J6 J7 J8 J9 Ja Jb Jc Jd Je Jf Jg Jh Ji Jj Jk Jl Jm Jn Jo Jp Jq Jr Js Jt Ju Jv Jw Jx Jy Jz Y0 Y1 Y2 Y3 Y4 Y5 Y6 Y7 Y8 Y9 Ya Yb Yc Yd Ye Yf Yg Yh Yi Yj Yk Yl Ym Yn Yo Yp Yq Yr Ys Yt Yu Yv Yw Yx Yy Yz Z0 Z1 Z2 Z3 Z4 Z5 Z6 => ih (kk + 1) h5 pbA on rd' _ _ _ (N + st3.l.length) K0 K1 K2 K3 K5 K7 K8 K9 Ka Kc Kf Kh Kq Kr Ks Kt Ku Kv Kw Kx Ky Kz J0 J1 J2 J3 J4 J5 J6 J7 J8 J9 Ja Jb Jc Jd Je Jf Jg Jh Ji Jj Jk Jl Jm Jn Jo Jp Jq Jr Js Jt Ju Jv Jw Jx Jy Jz Y0 Y1 Y2 Y3 Y4 Y5 Y6 Y7 Y8 Y9 Ya Yb Yc Yd Ye Yf Yg Yh Yi Yj Yk Yl Ym Yn Yo Yp Yq Yr Ys Yt Yu Yv Yw Yx Yy Yz Z0 Z1 Z2 Z3 Z4 Z5 Z6 (by omega) I5 (by simp; omega) (by simp; omega) (fun i hi => by have := hrw (i + 1) (by omega); simpa [Nat.add_assoc,Nat.add_comm 1 i] using this) hlk' (by rw [← hF]; simp)
  have b62 : blk? h2 X6 = some ⟨false,[.int .i64 pl,pv,dv0]⟩ := by rw [keep2 X6 kk6.2.2.2 (hnE _ kk6.1)]; exact I.b6
  have b112 : blk? h2 X11 = some ⟨false,[.bool m.byp,.bool m.res,.bool m.rst,.bool m.cz,.bool m.sy]⟩ := by rw [keep2 X11 kk11.2.2.2 (hnE _ kk11.1)]; exact I.b11
  have b3k := r3.blk
  have b11 := I.b11
  obtain ⟨ta,tc,htl⟩ := r3.ol.sl.shape
  simp only at htl
  simp only [MD.val] at e3'
  have w1 : IntKind.i64.wrap ((s.ls.length : Int) + 1) = ((s.ls.length + 1 : Nat) : Int) := wrapN (n := s.ls.length + 1) (by omega)
  have w2 : IntKind.i64.wrap ((kk : Int) + 1) = ((kk + 1 : Nat) : Int) := wrapN (n := kk + 1) (by omega)
  simp only [List.length_append,List.length_singleton] at ih'
  rw [hvl] at hlv ih' a5
  rw [htl] at b3k hH4
  rw [hlv] at a5
  generalize ((s.ls.length + 1 : Nat) : Int) = n1 at *
  generalize ((kk + 1 : Nat) : Int) = k1 at *
  generalize hde : dErr (s.ls.length : Nat) pl o ok3 = de at *
  rw [ok_round,l31_0,L31_0a,show L31_0b = .seq (.block 3 (.seq (nthC 0 (inB (nthC 0 L31_0b))) (tlC 1 (inB (nthC 0 L31_0b))))) (tlC 1 L31_0b) from rfl]
  have done : ∀ K0 K1 K2 K3 K5 K7 K8 K9 Ka Kc Kf Kh Kq Kr Ks Kt Ku Kv Kw Kx Ky Kz J0 J1 J2 J3 J4 J5 J6 J7 J8 J9 Ja Jb Jc Jd Je Jf Jg Jh Ji Jj Jk Jl Jm Jn Jo Jp Jq Jr Js Jt Ju Jv Jw Jx Jy Jz Y0 Y1 Y2 Y3 Y4 Y5 Y6 Y7 Y8 Y9 Ya Yb Yc Yd Ye Yf Yg Yh Yi Yj Yk Yl Ym Yn Yo Yp Yq Yr Ys Yt Yu Yv Yw Yx Yy Yz Z0 Z1 Z2 Z3 Z4 Z5 Z6 : Value,Ok tab R31 (.code (tlC 1 (inB (nthC 0 L31_0b))) :: .inBlock 3 :: .code (tlC 1 L31_0b) :: .inLoop L31_0 :: .inBlock 2 :: k) #[K0,K1,K2,K3,.int .i64 o,K5,ptr X6,K7,K8,K9,Ka,ptr X11,Kc,lv,ptr p,Kf,ptr d,Kh,gv,.int .i64 (s.ls.length : Nat),v20,.int .i64 (gi : Nat),v22,.bool rw,ptr q,.int .i64 (kk : Nat),Kq,Kr,Ks,Kt,Ku,Kv,Kw,Kx,Ky,Kz,J0,J1,J2,J3,J4,J5,J6,J7,J8,J9,Ja,Jb,Jc,Jd,Je,Jf,Jg,Jh,Ji,Jj,Jk,Jl,Jm,Jn,Jo,Jp,Jq,Jr,Js,Jt,Ju,Jv,Jw,Jx,Jy,Jz,Y0,Y1,Y2,Y3,Y4,Y5,Y6,Y7,Y8,Y9,Ya,Yb,Yc,Yd,Ye,Yf,Yg,Yh,Yi,Yj,Yk,Yl,Ym,Yn,Yo,Yp,Yq,Yr,Ys,Yt,Yu,Yv,Yw,Yx,Yy,Yz,Z0,Z1,Z2,Z3,Z4,Z5,Z6] hA R := by
   intros
   rw [hlv]
   simp only [nthC,tlC,fstC,inB,L31_0b]
   simp [hB2,e3',b62,b112,b3k,repL,hH4,a5,w1,w2]
   exact ih' ..
  clear ih' ih
  generalize tlC 1 (inB (nthC 0 L31_0b)) = tl1 at *
  rw [egv,hlv] at done ⊢
  simp only [nthC,tlC,fstC,inB,L31_0b] at done ⊢
  cases hrst : m.rst with
  | false =>
   have hAh := nA (by rw [hrst]; simp)
   subst hAh
   rw [hrst] at b11
   simp [k_guard,hgb,hgc0,hlt,hkc,b11]
   exact done ..
  | true =>
   cases hw : rw with
   | true =>
    have hAh := nA (by rw [hw]; simp)
    subst hAh
    rw [hrst] at b11
    rw [hw] at done
    simp [k_guard,hgb,hgc0,hlt,hkc,b11]
    exact done ..
   | false =>
    have eR := eA hrst hw
    rw [hrst] at b11
    rw [hw] at done
    simp [k_guard,hgb,hgc0,hlt,hkc,b11,eR]
    exact done ..
end
end Go.Proofs.YtjpjohchdfoeaaaGreat
