/-
  The order of the coefficients: both Scan functions.
  The encoder's passes: the significance and the refinement pass.
  The encoder's passes: the refinement pass.
  The encoder's passes: the cleanup pass.
  The encoder's passes: the cleanup pass, whole; a pass as Run performs it.
  Run of the encoder's passes.
  Rows of numbers; the number of bit planes; new blocks; the program's and the reference's.
  The reference's numbers of passes.
  Rows of symbols, compared; the symbols of all passes.
  Lists of passes, compared and made.
  Symbols: the program's and the reference's come to the same.
  Symbols, on: the whole calls.
  The block encoder, followed: the symbols of a pass, the passes of a segment.
  The block encoder, followed: the passes of a segment.
  The block encoder, followed: the sizes of a segment's passes.
  The program's arithmetic decoder follows the plain one.
  The program's reader of raw bits.
  The decoder's passes, plain: what they ask for, as trees.
  A source of bits, and a pass of the decoder in progress.
  The source that the block decoder reads a pass from: an arithmetic decoder or a reader of raw bits behind an interface, and the symbols that were read.
-/
import Derived.Test.YtjpjohchdfoeaaaGreatEnc3
import Derived.Test.YtjpjohchdfoeaaaGreatSimZ
namespace Go.Proofs.YtjpjohchdfoeaaaGreat
open Go Go.Sim
set_option linter.unusedSimpArgs false
set_option linter.unusedVariables false
structure Mk (B : Nat) (h0 h : Heap) (s : Value) (l : List (Int × Int)) : Prop where
 own : OwnS h 2 s l.length (encP l)
 low : ∀ id,id < B → blk? h id = blk? h0 id
 len : B ≤ h.length
 far : ∀ id,sid s = some id → B ≤ id
theorem Mk.push {B : Nat} {h0 h : Heap} {s : Value} {l : List (Int × Int)} (m : Mk B h0 h s l) (hl : l.length < 100000) (x y : Int) :
  ∃ s' H,appendV (h ++ [some ⟨false,[.int .i64 x,.int .i64 y]⟩]) 2 16 s (.slice (some ⟨h.length,0,none⟩) 1 2) = some (s',H) ∧ Mk B h0 H s' (l ++ [(x,y)]) := by
 have hsl : Sl (h ++ [some ⟨false,[.int .i64 x,.int .i64 y]⟩]) 2 (.slice (some ⟨h.length,0,none⟩) 1 2) 1 [.int .i64 x,.int .i64 y] :=
  ⟨by simp,.inr ⟨h.length,0,rfl,.inr ⟨_,blk?_push_eq,by simp,by simp⟩⟩⟩
 have ho : OwnS (h ++ [some ⟨false,[.int .i64 x,.int .i64 y]⟩]) 2 s l.length (encP l) := m.own.of_blk fun id _ hb => blk?_push hb
 obtain ⟨H,ha,hK,hHl,hHs⟩ := own_append (bytes := 16) ho hsl (by unfold roomCells; omega) (by omega) (by omega)
 simp only [List.length_append,List.length_singleton] at ha hK hHl hHs
 have hlen := m.len
 refine ⟨_,H,ha,⟨⟨by rw [encP_len],.inr ⟨h.length + 1,by simp,?_⟩⟩,fun id hid => ?_,by omega,fun id hid => ?_⟩⟩
 ·rw [hK,encP_append]; rfl
 ·rw [hHs id (by omega) (fun e => by have := m.far id e; omega),blk?_push_lt (by omega)]
  exact m.low id hid
 ·simp [sid] at hid; omega
theorem min4 {top : Int} {hh : Nat} (h0 : 0 ≤ top) : (if (hh : Int) < top + 4 then (hh : Int) else top + 4) = min (top + 4) (hh : Int) := by split <;> omega
theorem sized_c {w hh : Nat} (w1 : 1 ≤ w) (w2 : w ≤ 64) (h1 : 1 ≤ hh) (h2 : hh ≤ 64) {h : Heap} {R : Value → Heap → Prop} : Ret tab 105 [.int .i64 w,.int .i64 hh] h R = R (.bool true) h := by
 have a1 : (1 : Int) ≤ w := by omega
 have a2 : (w : Int) ≤ 64 := by omega
 have a3 : (1 : Int) ≤ hh := by omega
 have a4 : (hh : Int) ≤ 64 := by omega
 rw [enter105,B105]
 simp [k_guard,a1,a2,a3,a4,fin105]
section
variable {B w hh : Nat} {h0 : Heap} {R : Value → Heap → Prop} {k : List RItem} {v4 : Value}
theorem scan0_c (hh2 : hh ≤ 64) {top x : Int} (ht : 0 ≤ top ∧ top < 64) :
  ∀ (n : Nat) (y : Int) (h : Heap) (s : Value) (l : List (Int × Int)) (K2 K3 K9 Ka Kb Kc Kd Ke Kf Kg Kh Ki Kj Kk Kl Km Kn Ko Kp Kq Kr Ks Kt Ku Kv Kw Kx Ky Kz J0 J1 J2 J3 J4 J5 J6 : Value),y + n = min (top + 4) hh → top ≤ y → Mk B h0 h s l → l.length + n ≤ 20000 →
   (∀ (h' : Heap) (s' : Value) (y' : Int) (K2 K3 K9 Ka Kb Kc Kd Ke Kf Kg Kh Ki Kj Kk Kl Km Kn Ko Kp Kq Kr Ks Kt Ku Kv Kw Kx Ky Kz J0 J1 J2 J3 J4 J5 J6 : Value),Mk B h0 h' s' (l ++ colPts x y n) → Ok tab R139 k #[.int .i64 w,.int .i64 hh,K2,K3,v4,s',.int .i64 top,.int .i64 x,.int .i64 y',K9,Ka,Kb,Kc,Kd,Ke,Kf,Kg,Kh,Ki,Kj,Kk,Kl,Km,Kn,Ko,Kp,Kq,Kr,Ks,Kt,Ku,Kv,Kw,Kx,Ky,Kz,J0,J1,J2,J3,J4,J5,J6] h' R) →
   Ok tab R139 (.inLoop L139_0 :: .inBlock 4 :: k) #[.int .i64 w,.int .i64 hh,K2,K3,v4,s,.int .i64 top,.int .i64 x,.int .i64 y,K9,Ka,Kb,Kc,Kd,Ke,Kf,Kg,Kh,Ki,Kj,Kk,Kl,Km,Kn,Ko,Kp,Kq,Kr,Ks,Kt,Ku,Kv,Kw,Kx,Ky,Kz,J0,J1,J2,J3,J4,J5,J6] h R := by
 intro n
 induction n with
 | zero =>
  intro y h s l K2 K3 K9 Ka Kb Kc Kd Ke Kf Kg Kh Ki Kj Kk Kl Km Kn Ko Kp Kq Kr Ks Kt Ku Kv Kw Kx Ky Kz J0 J1 J2 J3 J4 J5 J6 hy hty m hl hk
  have hw : IntKind.i64.wrap (top + 4) = top + 4 := wrapI (by omega) (by omega)
  have hlt : ¬ y < min (top + 4) (hh : Int) := by omega
  have := hk h s y
  rw [colPts,List.append_nil] at this
  rw [ok_round,l139_0,L139_0a,L139_0b]
  simp [hw,fold1,foldO,min2V,min4 (hh := hh) ht.1]
  simp [hlt]
  exact this _ _ _ _ _ _ _ _ _ _ _ _ _ _ _ _ _ _ _ _ _ _ _ _ _ _ _ _ _ _ _ _ _ _ _ _ m
 | succ n ih =>
  intro y h s l K2 K3 K9 Ka Kb Kc Kd Ke Kf Kg Kh Ki Kj Kk Kl Km Kn Ko Kp Kq Kr Ks Kt Ku Kv Kw Kx Ky Kz J0 J1 J2 J3 J4 J5 J6 hy hty m hl hk
  have hw : IntKind.i64.wrap (top + 4) = top + 4 := wrapI (by omega) (by omega)
  have hw1 : IntKind.i64.wrap (y + 1) = y + 1 := wrapI (by omega) (by omega)
  have hlt : y < min (top + 4) (hh : Int) := by omega
  obtain ⟨s',H,ha,m'⟩ := m.push (by omega) x y
  rw [ok_round,l139_0,L139_0a,L139_0b]
  simp [hw,fold1,foldO,min2V,min4 (hh := hh) ht.1]
  simp [hlt,hw1,repL,ha]
  refine ih (y + 1) H s' (l ++ [(x,y)]) _ _ _ _ _ _ _ _ _ _ _ _ _ _ _ _ _ _ _ _ _ _ _ _ _ _ _ _ _ _ _ _ _ _ _ _ (by omega) (by omega) m' (by simp; omega) ?_
  intro h' s'' y' K2 K3 K9 Ka Kb Kc Kd Ke Kf Kg Kh Ki Kj Kk Kl Km Kn Ko Kp Kq Kr Ks Kt Ku Kv Kw Kx Ky Kz J0 J1 J2 J3 J4 J5 J6 m2
  exact hk h' s'' y' _ _ _ _ _ _ _ _ _ _ _ _ _ _ _ _ _ _ _ _ _ _ _ _ _ _ _ _ _ _ _ _ _ _ _ _ (by rw [colPts]; simpa using m2)
theorem scan1_c (hh2 : hh ≤ 64) (hw2 : w ≤ 64) {top : Int} (ht : 0 ≤ top ∧ top < 64) :
  ∀ (n : Nat) (x : Int) (h : Heap) (s : Value) (l : List (Int × Int)) (K2 K3 K8 K9 Ka Kb Kc Kd Ke Kf Kg Kh Ki Kj Kk Kl Km Kn Ko Kp Kq Kr Ks Kt Ku Kv Kw Kx Ky Kz J0 J1 J2 J3 J4 J5 J6 : Value),x + n = w → 0 ≤ x → Mk B h0 h s l → l.length + 4 * n ≤ 20000 →
   (∀ (h' : Heap) (s' : Value) (x' : Int) (K2 K3 K8 K9 Ka Kb Kc Kd Ke Kf Kg Kh Ki Kj Kk Kl Km Kn Ko Kp Kq Kr Ks Kt Ku Kv Kw Kx Ky Kz J0 J1 J2 J3 J4 J5 J6 : Value),Mk B h0 h' s' (l ++ stripePts hh x top n) → Ok tab R139 k #[.int .i64 w,.int .i64 hh,K2,K3,v4,s',.int .i64 top,.int .i64 x',K8,K9,Ka,Kb,Kc,Kd,Ke,Kf,Kg,Kh,Ki,Kj,Kk,Kl,Km,Kn,Ko,Kp,Kq,Kr,Ks,Kt,Ku,Kv,Kw,Kx,Ky,Kz,J0,J1,J2,J3,J4,J5,J6] h' R) →
   Ok tab R139 (.inLoop L139_1 :: .inBlock 2 :: k) #[.int .i64 w,.int .i64 hh,K2,K3,v4,s,.int .i64 top,.int .i64 x,K8,K9,Ka,Kb,Kc,Kd,Ke,Kf,Kg,Kh,Ki,Kj,Kk,Kl,Km,Kn,Ko,Kp,Kq,Kr,Ks,Kt,Ku,Kv,Kw,Kx,Ky,Kz,J0,J1,J2,J3,J4,J5,J6] h R := by
 intro n
 induction n with
 | zero =>
  intro x h s l K2 K3 K8 K9 Ka Kb Kc Kd Ke Kf Kg Kh Ki Kj Kk Kl Km Kn Ko Kp Kq Kr Ks Kt Ku Kv Kw Kx Ky Kz J0 J1 J2 J3 J4 J5 J6 hx h0x m hl hk
  have hlt : ¬ x < (w : Int) := by omega
  have := hk h s x
  rw [stripePts,List.append_nil] at this
  rw [ok_round,l139_1,L139_1a,L139_1b]
  simp [hlt]
  exact this _ _ _ _ _ _ _ _ _ _ _ _ _ _ _ _ _ _ _ _ _ _ _ _ _ _ _ _ _ _ _ _ _ _ _ _ _ m
 | succ n ih =>
  intro x h s l K2 K3 K8 K9 Ka Kb Kc Kd Ke Kf Kg Kh Ki Kj Kk Kl Km Kn Ko Kp Kq Kr Ks Kt Ku Kv Kw Kx Ky Kz J0 J1 J2 J3 J4 J5 J6 hx h0x m hl hk
  have hw1 : IntKind.i64.wrap (x + 1) = x + 1 := wrapI (by omega) (by omega)
  have hlt : x < (w : Int) := by omega
  rw [ok_round,l139_1,L139_1a,L139_1b]
  simp [hlt]
  by_cases hth : top ≤ hh
  ·refine scan0_c hh2 ht (min (top + 4) (hh : Int) - top).toNat top h s l _ _ _ _ _ _ _ _ _ _ _ _ _ _ _ _ _ _ _ _ _ _ _ _ _ _ _ _ _ _ _ _ _ _ _ _ (by omega) (by omega) m (by omega) ?_
   intro h' s' y' K2 K3 K9 Ka Kb Kc Kd Ke Kf Kg Kh Ki Kj Kk Kl Km Kn Ko Kp Kq Kr Ks Kt Ku Kv Kw Kx Ky Kz J0 J1 J2 J3 J4 J5 J6 m1
   simp [hw1]
   refine ih (x + 1) h' s' _ _ _ _ _ _ _ _ _ _ _ _ _ _ _ _ _ _ _ _ _ _ _ _ _ _ _ _ _ _ _ _ _ _ _ _ _ _ (by omega) (by omega) m1 (by rw [List.length_append,colPts_len]; omega) ?_
   intro h'' s'' x' K2 K3 K8 K9 Ka Kb Kc Kd Ke Kf Kg Kh Ki Kj Kk Kl Km Kn Ko Kp Kq Kr Ks Kt Ku Kv Kw Kx Ky Kz J0 J1 J2 J3 J4 J5 J6 m2
   exact hk h'' s'' x' _ _ _ _ _ _ _ _ _ _ _ _ _ _ _ _ _ _ _ _ _ _ _ _ _ _ _ _ _ _ _ _ _ _ _ _ _ (by rw [stripePts]; simpa using m2)
  ·have hw : IntKind.i64.wrap (top + 4) = top + 4 := wrapI (by omega) (by omega)
   have hlt2 : ¬ top < min (top + 4) (hh : Int) := by omega
   rw [ok_round,l139_0,L139_0a,L139_0b]
   simp [hw,fold1,foldO,min2V,min4 (hh := hh) ht.1]
   simp [hlt2,hw1]
   refine ih (x + 1) h s _ _ _ _ _ _ _ _ _ _ _ _ _ _ _ _ _ _ _ _ _ _ _ _ _ _ _ _ _ _ _ _ _ _ _ _ _ _ (by omega) (by omega) m (by omega) ?_
   intro h'' s'' x' K2 K3 K8 K9 Ka Kb Kc Kd Ke Kf Kg Kh Ki Kj Kk Kl Km Kn Ko Kp Kq Kr Ks Kt Ku Kv Kw Kx Ky Kz J0 J1 J2 J3 J4 J5 J6 m2
   refine hk h'' s'' x' _ _ _ _ _ _ _ _ _ _ _ _ _ _ _ _ _ _ _ _ _ _ _ _ _ _ _ _ _ _ _ _ _ _ _ _ _ ?_
   rw [stripePts,show (min (top + 4) (hh : Int) - top).toNat = 0 by omega]
   simpa [colPts] using m2
theorem scan2_c (hh2 : hh ≤ 64) (hw2 : w ≤ 64) :
  ∀ (n : Nat) (top : Int) (h : Heap) (s : Value) (l : List (Int × Int)) (K2 K3 K7 K8 K9 Ka Kb Kc Kd Ke Kf Kg Kh Ki Kj Kk Kl Km Kn Ko Kp Kq Kr Ks Kt Ku Kv Kw Kx Ky Kz J0 J1 J2 J3 J4 J5 J6 : Value),(hh : Int) ≤ top + 4 * n → top + 4 * n ≤ hh + 3 → 0 ≤ top → Mk B h0 h s l → l.length + 4 * w * n ≤ 20000 →
   (∀ (h' : Heap) (s' : Value) (K2 K3 K6 K7 K8 K9 Ka Kb Kc Kd Ke Kf Kg Kh Ki Kj Kk Kl Km Kn Ko Kp Kq Kr Ks Kt Ku Kv Kw Kx Ky Kz J0 J1 J2 J3 J4 J5 J6 : Value),Mk B h0 h' s' (l ++ scanPts w hh top n) → Ok tab R139 k #[.int .i64 w,.int .i64 hh,K2,K3,v4,s',K6,K7,K8,K9,Ka,Kb,Kc,Kd,Ke,Kf,Kg,Kh,Ki,Kj,Kk,Kl,Km,Kn,Ko,Kp,Kq,Kr,Ks,Kt,Ku,Kv,Kw,Kx,Ky,Kz,J0,J1,J2,J3,J4,J5,J6] h' R) →
   Ok tab R139 (.inLoop L139_2 :: .inBlock 0 :: k) #[.int .i64 w,.int .i64 hh,K2,K3,v4,s,.int .i64 top,K7,K8,K9,Ka,Kb,Kc,Kd,Ke,Kf,Kg,Kh,Ki,Kj,Kk,Kl,Km,Kn,Ko,Kp,Kq,Kr,Ks,Kt,Ku,Kv,Kw,Kx,Ky,Kz,J0,J1,J2,J3,J4,J5,J6] h R := by
 intro n
 induction n with
 | zero =>
  intro top h s l K2 K3 K7 K8 K9 Ka Kb Kc Kd Ke Kf Kg Kh Ki Kj Kk Kl Km Kn Ko Kp Kq Kr Ks Kt Ku Kv Kw Kx Ky Kz J0 J1 J2 J3 J4 J5 J6 hx hx2 h0x m hl hk
  have hlt : ¬ top < (hh : Int) := by omega
  have := hk h s
  rw [scanPts,List.append_nil] at this
  rw [ok_round,l139_2,L139_2a,L139_2b]
  simp [hlt]
  exact this _ _ _ _ _ _ _ _ _ _ _ _ _ _ _ _ _ _ _ _ _ _ _ _ _ _ _ _ _ _ _ _ _ _ _ _ _ _ _ m
 | succ n ih =>
  intro top h s l K2 K3 K7 K8 K9 Ka Kb Kc Kd Ke Kf Kg Kh Ki Kj Kk Kl Km Kn Ko Kp Kq Kr Ks Kt Ku Kv Kw Kx Ky Kz J0 J1 J2 J3 J4 J5 J6 hx hx2 h0x m hl hk
  have hw1 : IntKind.i64.wrap (top + 4) = top + 4 := wrapI (by omega) (by omega)
  have hlt : top < (hh : Int) := by omega
  have hmul : 4 * w * (n + 1) = 4 * w * n + 4 * w := by rw [Nat.mul_add]; omega
  rw [ok_round,l139_2,L139_2a,L139_2b]
  simp [hlt]
  refine scan1_c hh2 hw2 ⟨h0x,by omega⟩ w 0 h s l _ _ _ _ _ _ _ _ _ _ _ _ _ _ _ _ _ _ _ _ _ _ _ _ _ _ _ _ _ _ _ _ _ _ _ _ _ (by omega) (by omega) m (by omega) ?_
  intro h' s' x' K2 K3 K8 K9 Ka Kb Kc Kd Ke Kf Kg Kh Ki Kj Kk Kl Km Kn Ko Kp Kq Kr Ks Kt Ku Kv Kw Kx Ky Kz J0 J1 J2 J3 J4 J5 J6 m1
  simp [hw1]
  refine ih (top + 4) h' s' _ _ _ _ _ _ _ _ _ _ _ _ _ _ _ _ _ _ _ _ _ _ _ _ _ _ _ _ _ _ _ _ _ _ _ _ _ _ _ (by omega) (by omega) (by omega) m1 (by rw [List.length_append]; have := stripePts_len hh w 0 top; omega) ?_
  intro h'' s'' K2 K3 K6 K7 K8 K9 Ka Kb Kc Kd Ke Kf Kg Kh Ki Kj Kk Kl Km Kn Ko Kp Kq Kr Ks Kt Ku Kv Kw Kx Ky Kz J0 J1 J2 J3 J4 J5 J6 m2
  exact hk h'' s'' _ _ _ _ _ _ _ _ _ _ _ _ _ _ _ _ _ _ _ _ _ _ _ _ _ _ _ _ _ _ _ _ _ _ _ _ _ _ _ (by rw [scanPts]; simpa using m2)
end
theorem scan_c {w hh : Nat} (w1 : 1 ≤ w) (w2 : w ≤ 64) (h1 : 1 ≤ hh) (h2 : hh ≤ 64) (h : Heap) :
  ∃ s h',(∀ R,Ret tab 139 [.int .i64 w,.int .i64 hh] h R = R s h') ∧ Mk h.length h h' s (scan w hh) := by
 have hs : ∀ h R,Ret tab 105 [.int .i64 w,.int .i64 hh] h R = R (.bool true) h := fun h R => sized_c w1 w2 h1 h2
 have key : Ret tab 139 [.int .i64 w,.int .i64 hh] h fun s h' => Mk h.length h h' s (scan w hh) := by
  have hm : w * hh ≤ 64 * 64 := Nat.mul_le_mul w2 h2
  have hst : 4 * w * stripesOf hh ≤ 4 * 64 * 16 := Nat.mul_le_mul (by omega) (by unfold stripesOf; omega)
  have g1 : (hh : Int) ≤ 0 + 4 * (stripesOf hh : Nat) := by unfold stripesOf; omega
  have g2 : 0 + 4 * ((stripesOf hh : Nat) : Int) ≤ hh + 3 := by unfold stripesOf; omega
  rw [enter139,B139]
  have hw : IntKind.i64.wrap ((w : Int) * hh) = ((w * hh : Nat) : Int) := by rw [← Int.natCast_mul]; exact wrapN (by omega)
  have hr : ((w * hh : Nat) : Int) ≤ (roomCells : Int) := by unfold roomCells; omega
  simp [-Int.natCast_mul,hs,hw,hr,repL]
  refine scan2_c h2 w2 (stripesOf hh) 0 _ _ [] _ _ _ _ _ _ _ _ _ _ _ _ _ _ _ _ _ _ _ _ _ _ _ _ _ _ _ _ _ _ _ _ _ _ _ _ _ _ g1 g2 (by omega) ⟨⟨rfl,.inr ⟨h.length,rfl,blk?_push_eq⟩⟩,fun id hid => blk?_push_lt hid,by simp,fun id hid => by simp [sid] at hid; omega⟩ (by simp; omega) ?_
  intro h' s' K2 K3 K6 K7 K8 K9 Ka Kb Kc Kd Ke Kf Kg Kh Ki Kj Kk Kl Km Kn Ko Kp Kq Kr Ks Kt Ku Kv Kw Kx Ky Kz J0 J1 J2 J3 J4 J5 J6 m
  simp [fin139]
  simpa [scan] using m
 obtain ⟨v,h',e,m⟩ := ret_ex key
 exact ⟨v,h',e,m⟩
section
variable {B w hh : Nat} {h0 : Heap} {R : Value → Heap → Prop} {k : List RItem} {v4 : Value}
end
theorem Stp.low {h h' : Heap} (hk : ∀ id,id < h.length → blk? h' id = blk? h id) (hl : h.length ≤ h'.length) (c ob : Nat) (sv : Value) : Stp h h' c ob sv sv := ⟨hl,fun id h1 _ _ _ => hk id h1,fun _ h => .inl h⟩
section
variable {h : Heap} {q p c pb ob : Nat} {P : PP} {sv : Value} {σ : ES}
theorem PE.low (he : PE h q p c pb ob P sv σ) {h' : Heap} (hk : ∀ id,id < h.length → blk? h' id = blk? h id) (hl : h.length ≤ h'.length) : PE h' q p c pb ob P sv σ := by
 obtain ⟨l1,l2,l3,l4,l5⟩ := he.lts
 refine ⟨he.pr.keep (fun id hid => hk id ?_) (by simp; omega),by rw [hk _ l4]; exact he.pbk,by rw [hk _ l5]; exact he.obk,he.own.of_blk (fun id _ hb => by rw [hk _ (blk?_lt hb)]; exact hb),he.n1,he.n2,he.n3⟩
 rcases hid with rfl | rfl | rfl <;> assumption
theorem PE.good (he : PE h q p c pb ob P sv σ) : σ.b.Good := ⟨he.pr.cb.ok,he.pr.rng⟩
theorem PE.scan (he : PE h q p c pb ob P sv σ) : ∃ s h',(∀ R,Ret tab 139 [.int .i64 σ.b.w,.int .i64 σ.b.h] h R = R s h') ∧ PE h' q p c pb ob P sv σ ∧ Stp h h' c ob sv sv ∧ Far h' s (scan σ.b.w σ.b.h) c ob sv := by
 have ho := he.pr.cb.ok
 obtain ⟨l1,l2,l3,l4,l5⟩ := he.lts
 obtain ⟨s,h',e,m⟩ := scan_c ho.w1 ho.w2 ho.h1 ho.h2 h
 refine ⟨s,h',e,he.low m.low m.len,Stp.low m.low m.len c ob sv,⟨m.own.sl,fun id hid => ?_⟩⟩
 have h1 := m.far id hid
 refine ⟨?_,by omega,by omega,fun e => by have := he.own.lt e; omega⟩
 rcases m.own.2 with ⟨rfl,_⟩ | ⟨id',rfl,hb⟩
 ·simp [sid] at hid
 ·simp [sid] at hid; subst hid; exact blk?_lt hb
theorem sig_loop {s : Value} {pts : List (Int × Int)} {k : List RItem} {R : Value → Heap → Prop} :
  ∀ (m i : Nat) (h : Heap) (sv : Value) (σ : ES) (K1 K2 K3 K4 K5 K6 K7 K8 K9 Ka Kb Kf Kg Kh Ki Kj Kk Kl Km Kn Ko Kp Kq Kr Ks Kt Ku Kv Kw Kx Ky Kz J0 J1 J2 J3 J4 J5 J6 J7 J8 J9 Ja Jb Jc Jd Je Jf : Value),m = pts.length - i → i ≤ pts.length → PE h q p c pb ob P sv σ → Far h s pts c ob sv → AllIn σ.b pts → σ.out.length + 2 * m + 3 < 1000000 → pts.length < 1000000 →
   (∀ (h' : Heap) (sv' : Value) (K1 K2 K3 K4 K5 K6 K7 K8 K9 Ka Kb Kc Kd Ke Kf Kg Kh Ki Kj Kk Kl Km Kn Ko Kp Kq Kr Ks Kt Ku Kv Kw Kx Ky Kz J0 J1 J2 J3 J4 J5 J6 J7 J8 J9 Ja Jb Jc Jd Je Jf : Value),PE h' q p c pb ob P sv' (σ.sigs P (pts.drop i)) → Stp h h' c ob sv sv' → Ok tab R124 k #[ptr q,K1,K2,K3,K4,K5,K6,K7,K8,K9,Ka,Kb,Kc,Kd,Ke,Kf,Kg,Kh,Ki,Kj,Kk,Kl,Km,Kn,Ko,Kp,Kq,Kr,Ks,Kt,Ku,Kv,Kw,Kx,Ky,Kz,J0,J1,J2,J3,J4,J5,J6,J7,J8,J9,Ja,Jb,Jc,Jd,Je,Jf] h' R) →
   Ok tab R124 (.inLoop L124_0 :: .inBlock 0 :: k) #[ptr q,K1,K2,K3,K4,K5,K6,K7,K8,K9,Ka,Kb,s,.int .i64 pts.length,.int .i64 i,Kf,Kg,Kh,Ki,Kj,Kk,Kl,Km,Kn,Ko,Kp,Kq,Kr,Ks,Kt,Ku,Kv,Kw,Kx,Ky,Kz,J0,J1,J2,J3,J4,J5,J6,J7,J8,J9,Ja,Jb,Jc,Jd,Je,Jf] h R := by
 intro m
 induction m with
 | zero =>
  intro i h sv σ K1 K2 K3 K4 K5 K6 K7 K8 K9 Ka Kb Kf Kg Kh Ki Kj Kk Kl Km Kn Ko Kp Kq Kr Ks Kt Ku Kv Kw Kx Ky Kz J0 J1 J2 J3 J4 J5 J6 J7 J8 J9 Ja Jb Jc Jd Je Jf hm hi he hf ha hl hpl hk
  have hlt : ¬ ((i : Int) < pts.length) := by omega
  rw [ok_round,l124_0,L124_0a,L124_0b]
  simp [hlt]
  refine hk h sv _ _ _ _ _ _ _ _ _ _ _ _ _ _ _ _ _ _ _ _ _ _ _ _ _ _ _ _ _ _ _ _ _ _ _ _ _ _ _ _ _ _ _ _ _ _ _ _ _ _ _ ?_ (Stp.refl _ _ _ _)
  rw [List.drop_of_length_le (by omega)]; exact he
 | succ m ih =>
  intro i h sv σ K1 K2 K3 K4 K5 K6 K7 K8 K9 Ka Kb Kf Kg Kh Ki Kj Kk Kl Km Kn Ko Kp Kq Kr Ks Kt Ku Kv Kw Kx Ky Kz J0 J1 J2 J3 J4 J5 J6 J7 J8 J9 Ja Jb Jc Jd Je Jf hm hi he hf ha hl hpl hk
  have hlt : ((i : Int) < pts.length) := by omega
  have hw : IntKind.i64.wrap ((i : Int) + 1) = (i : Int) + 1 := wrapN (n := i + 1) (by omega)
  have hil : i < pts.length := by omega
  obtain ⟨id,off,blk,hs,hb,ht,hle⟩ := hf.get hil
  have hin := ha _ (List.getElem_mem hil)
  have hsp : ∀ τ : ES,τ = σ.sig1 P pts[i].1 pts[i].2 → σ.sigs P (pts.drop i) = τ.sigs P (pts.drop (i + 1)) := by
   intro τ hτ
   rw [List.drop_eq_getElem_cons hil,hτ]; rfl
  have hle1 := le_sig1 (P := P) he.good hin
  generalize hx : pts[i].1 = x at *
  generalize hy : pts[i].2 = y at *
  have he2 := he.push (some ⟨false,[.int .i64 x,.int .i64 y]⟩)
  have hs2 := Stp.push h (some ⟨false,[.int .i64 x,.int .i64 y]⟩) c ob sv
  have hf2 := hf.stp hs2
  have hK : ∀ y : Blk,blk? (h ++ [some y]) h.length = some y := fun y => blk?_push_eq
  obtain ⟨l1,l2,l3,l4,l5⟩ := he.lts
  have hq2 := he2.pr.blk
  have hcb2 := he2.pr.cb
  have hsig := fun R => significant_c (R := R) (x := x) (y := y) hcb2
  have hnb := fun R => neighbors_p (R := R) (x := x) (y := y) he2.pr hin
  rw [ok_round,l124_0,L124_0a,L124_0b]
  cases hsg : (σ.b.get x y).s
  ·cases hnr : near σ.b x y P.cz
   ·have h1 : σ.sig1 P x y = σ := by unfold ES.sig1; rw [if_neg (by simp [hnr])]
    rw [hsg] at hsig; rw [hnr] at hnb
    simp [-List.cons_append,-List.append_assoc,k_guard,hlt,hw,hs,hb,ht,hle,hK,hq2,hsig,hnb]
    rw [← hs]
    refine ih (i + 1) _ sv σ _ _ _ _ _ _ _ _ _ _ _ _ _ _ _ _ _ _ _ _ _ _ _ _ _ _ _ _ _ _ _ _ _ _ _ _ _ _ _ _ _ _ _ _ _ _ _ _ (by omega) (by omega) he2 hf2 ha (by omega) hpl ?_
    intro h' sv' K1 K2 K3 K4 K5 K6 K7 K8 K9 Ka Kb Kc Kd Ke Kf Kg Kh Ki Kj Kk Kl Km Kn Ko Kp Kq Kr Ks Kt Ku Kv Kw Kx Ky Kz J0 J1 J2 J3 J4 J5 J6 J7 J8 J9 Ja Jb Jc Jd Je Jf pe st
    exact hk h' sv' _ _ _ _ _ _ _ _ _ _ _ _ _ _ _ _ _ _ _ _ _ _ _ _ _ _ _ _ _ _ _ _ _ _ _ _ _ _ _ _ _ _ _ _ _ _ _ _ _ _ _ (by rw [hsp σ h1.symm]; exact pe) (hs2.trans st)
   ·obtain ⟨sv3,h3,e3,p3,s3⟩ := code_p he2 (by omega) hin
    have hc1 := le_code (P := P) he.good hin
    have hq3 := p3.pr.blk
    have hv3 : blk? h3 h.length = some ⟨false,[.int .i64 x,.int .i64 y]⟩ := by
     rw [s3.same h.length (by simp) (by omega) (by omega) (fun e => by have := he.own.lt e; omega)]; exact blk?_push_eq
    have htc := fun R => touch_c (R := R) (v := true) p3.pr.cb (x := x) (y := y) (hc1.inb hin)
    obtain ⟨p4,s4⟩ := p3.map (x := x) (y := y) (hc1.inb hin) (kv_touch true)
    have h1 : σ.sig1 P x y = (σ.code P x y).map x y (touch true) := by unfold ES.sig1; rw [if_pos ⟨hsg,hnr⟩]
    have hmm : (fun z : Cell => ({ z with t := true } : Cell)) = touch true := rfl
    rw [hmm] at htc
    have hle1' := hle1.len
    rw [h1] at hle1'
    rw [hsg] at hsig; rw [hnr] at hnb
    simp [-List.cons_append,-List.append_assoc,k_guard,hlt,hw,hs,hb,ht,hle,hK,hq2,hsig,hnb,e3,hq3,hv3,htc]
    rw [← hs]
    have st4 := (hs2.trans s3).trans s4
    refine ih (i + 1) _ sv3 _ _ _ _ _ _ _ _ _ _ _ _ _ _ _ _ _ _ _ _ _ _ _ _ _ _ _ _ _ _ _ _ _ _ _ _ _ _ _ _ _ _ _ _ _ _ _ _ _ (by omega) (by omega) p4 (hf.stp st4) (by rw [← h1]; exact ha.le hle1) (by omega) hpl ?_
    intro h' sv' K1 K2 K3 K4 K5 K6 K7 K8 K9 Ka Kb Kc Kd Ke Kf Kg Kh Ki Kj Kk Kl Km Kn Ko Kp Kq Kr Ks Kt Ku Kv Kw Kx Ky Kz J0 J1 J2 J3 J4 J5 J6 J7 J8 J9 Ja Jb Jc Jd Je Jf pe st
    exact hk h' sv' _ _ _ _ _ _ _ _ _ _ _ _ _ _ _ _ _ _ _ _ _ _ _ _ _ _ _ _ _ _ _ _ _ _ _ _ _ _ _ _ _ _ _ _ _ _ _ _ _ _ _ (by rw [hsp _ h1.symm]; exact pe) (st4.trans st)
  ·have h1 : σ.sig1 P x y = σ := by unfold ES.sig1; rw [if_neg (by simp [hsg])]
   rw [hsg] at hsig
   simp [-List.cons_append,-List.append_assoc,k_guard,hlt,hw,hs,hb,ht,hle,hK,hq2,hsig]
   rw [← hs]
   refine ih (i + 1) _ sv σ _ _ _ _ _ _ _ _ _ _ _ _ _ _ _ _ _ _ _ _ _ _ _ _ _ _ _ _ _ _ _ _ _ _ _ _ _ _ _ _ _ _ _ _ _ _ _ _ (by omega) (by omega) he2 hf2 ha (by omega) hpl ?_
   intro h' sv' K1 K2 K3 K4 K5 K6 K7 K8 K9 Ka Kb Kc Kd Ke Kf Kg Kh Ki Kj Kk Kl Km Kn Ko Kp Kq Kr Ks Kt Ku Kv Kw Kx Ky Kz J0 J1 J2 J3 J4 J5 J6 J7 J8 J9 Ja Jb Jc Jd Je Jf pe st
   exact hk h' sv' _ _ _ _ _ _ _ _ _ _ _ _ _ _ _ _ _ _ _ _ _ _ _ _ _ _ _ _ _ _ _ _ _ _ _ _ _ _ _ _ _ _ _ _ _ _ _ _ _ _ _ (by rw [hsp σ h1.symm]; exact pe) (hs2.trans st)
theorem scan_len {w h : Nat} (hw : w ≤ 64) (hh : h ≤ 64) : (scan w h).length ≤ 4096 := by
 have := scanPts_len w h (stripesOf h) 0
 have h2 : 4 * w * stripesOf h ≤ 4 * 64 * 16 := Nat.mul_le_mul (by omega) (by unfold stripesOf; omega)
 unfold scan; omega
theorem significance_p (he : PE h q p c pb ob P sv σ) (hl : σ.out.length ≤ 1000) :
  ∃ sv' h',(∀ R,Ret tab 124 [ptr q] h R = R (.tuple #[]) h') ∧ PE h' q p c pb ob P sv' (σ.sigs P (scan σ.b.w σ.b.h)) ∧ Stp h h' c ob sv sv' := by
 have key : Ret tab 124 [ptr q] h fun v h' => v = .tuple #[] ∧ ∃ sv',PE h' q p c pb ob P sv' (σ.sigs P (scan σ.b.w σ.b.h)) ∧ Stp h h' c ob sv sv' := by
  obtain ⟨s,h1,e1,p1,s1,f1⟩ := he.scan
  obtain ⟨a,cc,hs⟩ := f1.sl.shape
  have hsl := scan_len he.pr.cb.ok.w2 he.pr.cb.ok.h2
  have hq := he.pr.blk
  rw [enter124,B124]
  simp [hq,e1,hs]
  rw [← hs]
  refine sig_loop _ 0 h1 sv σ _ _ _ _ _ _ _ _ _ _ _ _ _ _ _ _ _ _ _ _ _ _ _ _ _ _ _ _ _ _ _ _ _ _ _ _ _ _ _ _ _ _ _ _ _ _ _ _ rfl (by omega) p1 f1 (scanIn σ.b) (by omega) (by omega) ?_
  intro h' sv' K1 K2 K3 K4 K5 K6 K7 K8 K9 Ka Kb Kc Kd Ke Kf Kg Kh Ki Kj Kk Kl Km Kn Ko Kp Kq Kr Ks Kt Ku Kv Kw Kx Ky Kz J0 J1 J2 J3 J4 J5 J6 J7 J8 J9 Ja Jb Jc Jd Je Jf pe st
  simp [fin124]
  exact ⟨sv',by simpa using pe,s1.trans st⟩
 obtain ⟨v,h',e,rfl,sv',pe,st⟩ := ret_ex key
 exact ⟨sv',h',e,pe,st⟩
end
section
variable {h : Heap} {q p c pb ob : Nat} {P : PP} {sv : Value} {σ : ES}
theorem ref_loop {s : Value} {pts : List (Int × Int)} {k : List RItem} {R : Value → Heap → Prop} :
  ∀ (m i : Nat) (h : Heap) (sv : Value) (σ : ES) (K1 K2 K3 K4 K5 K6 K7 K8 K9 Ka Kb Kf Kg Kh Ki Kj Kk Kl Km Kn Ko Kp Kq Kr Ks Kt Ku Kv Kw Kx Ky Kz J0 J1 J2 J3 J4 J5 J6 J7 J8 J9 Ja Jb Jc Jd Je Jf Jg Jh Ji Jj Jk Jl Jm Jn Jo Jp Jq Jr Js Jt Ju Jv Jw Jx Jy Jz Y0 Y1 Y2 Y3 Y4 Y5 Y6 Y7 Y8 Y9 Ya Yb Yc Yd : Value),m = pts.length - i → i ≤ pts.length → PE h q p c pb ob P sv σ → Far h s pts c ob sv → AllIn σ.b pts → σ.out.length + 2 * m + 3 < 1000000 → pts.length < 1000000 →
   (∀ (h' : Heap) (sv' : Value) (K1 K2 K3 K4 K5 K6 K7 K8 K9 Ka Kb Kc Kd Ke Kf Kg Kh Ki Kj Kk Kl Km Kn Ko Kp Kq Kr Ks Kt Ku Kv Kw Kx Ky Kz J0 J1 J2 J3 J4 J5 J6 J7 J8 J9 Ja Jb Jc Jd Je Jf Jg Jh Ji Jj Jk Jl Jm Jn Jo Jp Jq Jr Js Jt Ju Jv Jw Jx Jy Jz Y0 Y1 Y2 Y3 Y4 Y5 Y6 Y7 Y8 Y9 Ya Yb Yc Yd : Value),PE h' q p c pb ob P sv' (σ.refs P (pts.drop i)) → Stp h h' c ob sv sv' → Ok tab R125 k #[ptr q,K1,K2,K3,K4,K5,K6,K7,K8,K9,Ka,Kb,Kc,Kd,Ke,Kf,Kg,Kh,Ki,Kj,Kk,Kl,Km,Kn,Ko,Kp,Kq,Kr,Ks,Kt,Ku,Kv,Kw,Kx,Ky,Kz,J0,J1,J2,J3,J4,J5,J6,J7,J8,J9,Ja,Jb,Jc,Jd,Je,Jf,Jg,Jh,Ji,Jj,Jk,Jl,Jm,Jn,Jo,Jp,Jq,Jr,Js,Jt,Ju,Jv,Jw,Jx,Jy,Jz,Y0,Y1,Y2,Y3,Y4,Y5,Y6,Y7,Y8,Y9,Ya,Yb,Yc,Yd] h' R) →
   Ok tab R125 (.inLoop L125_0 :: .inBlock 0 :: k) #[ptr q,K1,K2,K3,K4,K5,K6,K7,K8,K9,Ka,Kb,s,.int .i64 pts.length,.int .i64 i,Kf,Kg,Kh,Ki,Kj,Kk,Kl,Km,Kn,Ko,Kp,Kq,Kr,Ks,Kt,Ku,Kv,Kw,Kx,Ky,Kz,J0,J1,J2,J3,J4,J5,J6,J7,J8,J9,Ja,Jb,Jc,Jd,Je,Jf,Jg,Jh,Ji,Jj,Jk,Jl,Jm,Jn,Jo,Jp,Jq,Jr,Js,Jt,Ju,Jv,Jw,Jx,Jy,Jz,Y0,Y1,Y2,Y3,Y4,Y5,Y6,Y7,Y8,Y9,Ya,Yb,Yc,Yd] h R := by
 intro m
 induction m with
 | zero =>
  intro i h sv σ K1 K2 K3 K4 K5 K6 K7 K8 K9 Ka Kb Kf Kg Kh Ki Kj Kk Kl Km Kn Ko Kp Kq Kr Ks Kt Ku Kv Kw Kx Ky Kz J0 J1 J2 J3 J4 J5 J6 J7 J8 J9 Ja Jb Jc Jd Je Jf Jg Jh Ji Jj Jk Jl Jm Jn Jo Jp Jq Jr Js Jt Ju Jv Jw Jx Jy Jz Y0 Y1 Y2 Y3 Y4 Y5 Y6 Y7 Y8 Y9 Ya Yb Yc Yd hm hi he hf ha hl hpl hk
  have hlt : ¬ ((i : Int) < pts.length) := by omega
  rw [ok_round,l125_0,L125_0a,L125_0b]
  simp [hlt]
  refine hk h sv _ _ _ _ _ _ _ _ _ _ _ _ _ _ _ _ _ _ _ _ _ _ _ _ _ _ _ _ _ _ _ _ _ _ _ _ _ _ _ _ _ _ _ _ _ _ _ _ _ _ _ _ _ _ _ _ _ _ _ _ _ _ _ _ _ _ _ _ _ _ _ _ _ _ _ _ _ _ _ _ _ _ _ _ _ ?_ (Stp.refl _ _ _ _)
  rw [List.drop_of_length_le (by omega)]; exact he
 | succ m ih =>
  intro i h sv σ K1 K2 K3 K4 K5 K6 K7 K8 K9 Ka Kb Kf Kg Kh Ki Kj Kk Kl Km Kn Ko Kp Kq Kr Ks Kt Ku Kv Kw Kx Ky Kz J0 J1 J2 J3 J4 J5 J6 J7 J8 J9 Ja Jb Jc Jd Je Jf Jg Jh Ji Jj Jk Jl Jm Jn Jo Jp Jq Jr Js Jt Ju Jv Jw Jx Jy Jz Y0 Y1 Y2 Y3 Y4 Y5 Y6 Y7 Y8 Y9 Ya Yb Yc Yd hm hi he hf ha hl hpl hk
  have hlt : ((i : Int) < pts.length) := by omega
  have hw : IntKind.i64.wrap ((i : Int) + 1) = (i : Int) + 1 := wrapN (n := i + 1) (by omega)
  have hil : i < pts.length := by omega
  obtain ⟨id,off,blk,hs,hb,ht,hle⟩ := hf.get hil
  have hin := ha _ (List.getElem_mem hil)
  have hsp : ∀ τ : ES,τ = σ.ref1 P pts[i].1 pts[i].2 → σ.refs P (pts.drop i) = τ.refs P (pts.drop (i + 1)) := by
   intro τ hτ
   rw [List.drop_eq_getElem_cons hil,hτ]; rfl
  have hle1 := le_ref1 (P := P) he.good hin
  generalize hx : pts[i].1 = x at *
  generalize hy : pts[i].2 = y at *
  have he2 := he.push (some ⟨false,[.int .i64 x,.int .i64 y]⟩)
  have hs2 := Stp.push h (some ⟨false,[.int .i64 x,.int .i64 y]⟩) c ob sv
  have hf2 := hf.stp hs2
  have hK : ∀ y : Blk,blk? (h ++ [some y]) h.length = some y := fun y => blk?_push_eq
  obtain ⟨l1,l2,l3,l4,l5⟩ := he.lts
  have hq2 := he2.pr.blk
  have hcb2 := he2.pr.cb
  have hsig := fun R => significant_c (R := R) (x := x) (y := y) hcb2
  have htch := fun R => touched_c (R := R) (x := x) (y := y) hcb2
  have hrfd := fun R => refined_c (R := R) (x := x) (y := y) hcb2
  have hnb := fun R => neighbors_p (R := R) (x := x) (y := y) he2.pr hin
  have hbit := fun R => bit_c (R := R) (x := x) (y := y) he2.pr
  have hcx := fun a b R => ctxRefine_c (h := h ++ [some (⟨false,[.int .i64 x,.int .i64 y]⟩ : Blk)]) (R := R) (a := a) (b := b)
  have hskip : σ.ref1 P x y = σ → ∀ K1 K2 K3 K4 K5 K6 K7 K8 K9 Ka Kb Kf Kg Kh Ki Kj Kk Kl Km Kn Ko Kp Kq Kr Ks Kt Ku Kv Kw Kx Ky Kz J0 J1 J2 J3 J4 J5 J6 J7 J8 J9 Ja Jb Jc Jd Je Jf Jg Jh Ji Jj Jk Jl Jm Jn Jo Jp Jq Jr Js Jt Ju Jv Jw Jx Jy Jz Y0 Y1 Y2 Y3 Y4 Y5 Y6 Y7 Y8 Y9 Ya Yb Yc Yd : Value,Ok tab R125 (.inLoop L125_0 :: .inBlock 0 :: k) #[ptr q,K1,K2,K3,K4,K5,K6,K7,K8,K9,Ka,Kb,s,.int .i64 pts.length,.int .i64 ((i : Int) + 1),Kf,Kg,Kh,Ki,Kj,Kk,Kl,Km,Kn,Ko,Kp,Kq,Kr,Ks,Kt,Ku,Kv,Kw,Kx,Ky,Kz,J0,J1,J2,J3,J4,J5,J6,J7,J8,J9,Ja,Jb,Jc,Jd,Je,Jf,Jg,Jh,Ji,Jj,Jk,Jl,Jm,Jn,Jo,Jp,Jq,Jr,Js,Jt,Ju,Jv,Jw,Jx,Jy,Jz,Y0,Y1,Y2,Y3,Y4,Y5,Y6,Y7,Y8,Y9,Ya,Yb,Yc,Yd] (h ++ [some ⟨false,[.int .i64 x,.int .i64 y]⟩]) R := by
   intro h1 K1 K2 K3 K4 K5 K6 K7 K8 K9 Ka Kb Kf Kg Kh Ki Kj Kk Kl Km Kn Ko Kp Kq Kr Ks Kt Ku Kv Kw Kx Ky Kz J0 J1 J2 J3 J4 J5 J6 J7 J8 J9 Ja Jb Jc Jd Je Jf Jg Jh Ji Jj Jk Jl Jm Jn Jo Jp Jq Jr Js Jt Ju Jv Jw Jx Jy Jz Y0 Y1 Y2 Y3 Y4 Y5 Y6 Y7 Y8 Y9 Ya Yb Yc Yd
   refine ih (i + 1) _ sv σ _ _ _ _ _ _ _ _ _ _ _ _ _ _ _ _ _ _ _ _ _ _ _ _ _ _ _ _ _ _ _ _ _ _ _ _ _ _ _ _ _ _ _ _ _ _ _ _ _ _ _ _ _ _ _ _ _ _ _ _ _ _ _ _ _ _ _ _ _ _ _ _ _ _ _ _ _ _ _ _ _ _ (by omega) (by omega) he2 hf2 ha (by omega) hpl ?_
   intro h' sv' K1 K2 K3 K4 K5 K6 K7 K8 K9 Ka Kb Kc Kd Ke Kf Kg Kh Ki Kj Kk Kl Km Kn Ko Kp Kq Kr Ks Kt Ku Kv Kw Kx Ky Kz J0 J1 J2 J3 J4 J5 J6 J7 J8 J9 Ja Jb Jc Jd Je Jf Jg Jh Ji Jj Jk Jl Jm Jn Jo Jp Jq Jr Js Jt Ju Jv Jw Jx Jy Jz Y0 Y1 Y2 Y3 Y4 Y5 Y6 Y7 Y8 Y9 Ya Yb Yc Yd pe st
   exact hk h' sv' _ _ _ _ _ _ _ _ _ _ _ _ _ _ _ _ _ _ _ _ _ _ _ _ _ _ _ _ _ _ _ _ _ _ _ _ _ _ _ _ _ _ _ _ _ _ _ _ _ _ _ _ _ _ _ _ _ _ _ _ _ _ _ _ _ _ _ _ _ _ _ _ _ _ _ _ _ _ _ _ _ _ _ _ _ (by rw [hsp σ h1.symm]; exact pe) (hs2.trans st)
  rw [ok_round,l125_0,L125_0a,L125_0b]
  cases hsg : (σ.b.get x y).s
  ·have h1 : σ.ref1 P x y = σ := by unfold ES.ref1; rw [if_pos (.inl hsg)]
   rw [hsg] at hsig
   simp [-List.cons_append,-List.append_assoc,k_guard,hlt,hw,hs,hb,ht,hle,hK,hq2,hsig]
   rw [← hs]
   exact hskip h1 ..
  ·cases htc0 : (σ.b.get x y).t
   ·-- refined
    obtain ⟨sv3,h3,e3,p3,s3⟩ := emit_c he2 (by omega) (refCtx (!(σ.b.get x y).r) (near σ.b x y P.cz)) (bitOf (σ.b.get x y).v P.s)
    have hc1 := le_emit (P := P) he.good (refCtx (!(σ.b.get x y).r) (near σ.b x y P.cz)) (bitOf (σ.b.get x y).v P.s)
    have hq3 := p3.pr.blk
    have hv3 : blk? h3 h.length = some ⟨false,[.int .i64 x,.int .i64 y]⟩ := by
     rw [s3.same h.length (by simp) (by omega) (by omega) (fun e => by have := he.own.lt e; omega)]; exact blk?_push_eq
    have hrf := fun R => refine_c (R := R) p3.pr.cb (x := x) (y := y) (hc1.inb hin)
    obtain ⟨p4,s4⟩ := p3.map (x := x) (y := y) (hc1.inb hin) kv_refine
    have hc2 := hc1.trans (le_map hc1.good (hc1.inb hin) kv_refine)
    have hq4 := p4.pr.blk
    have hv4 : blk? (h3.set c (some ⟨false,encC ((σ.emit P (refCtx (!(σ.b.get x y).r) (near σ.b x y P.cz)) (bitOf (σ.b.get x y).v P.s)).b.upd x y refine').cs⟩)) h.length = some ⟨false,[.int .i64 x,.int .i64 y]⟩ := by
     rw [blk?_set_ne (by omega)]; exact hv3
    have htc := fun R => touch_c (R := R) (v := true) p4.pr.cb (x := x) (y := y) (hc2.inb hin)
    obtain ⟨p5,s5⟩ := p4.map (x := x) (y := y) (hc2.inb hin) (kv_touch true)
    have h1 : σ.ref1 P x y = ((σ.emit P (refCtx (!(σ.b.get x y).r) (near σ.b x y P.cz)) (bitOf (σ.b.get x y).v P.s)).map x y refine').map x y (touch true) := by unfold ES.ref1; rw [if_neg (by simp [hsg,htc0])]
    have hmm : (fun z : Cell => ({ z with t := true } : Cell)) = touch true := rfl
    have hmr : (fun z : Cell => ({ z with r := true } : Cell)) = refine' := rfl
    rw [hmm] at htc
    rw [hmr] at hrf
    have hle1' := hle1.len
    rw [h1] at hle1'
    rw [hsg] at hsig; rw [htc0] at htch
    have st5 := ((hs2.trans s3).trans s4).trans s5
    rw [List.set_set] at p5 st5
    simp only [ES.map_b,ES.emit_b] at hrf htc hv4 hq3 hq4
    simp [-List.cons_append,-List.append_assoc,k_guard,hlt,hw,hs,hb,ht,hle,hK,hq2,hsig,htch,hrfd,hnb,hbit,hcx,e3,hq3,hv3,hrf,hq4,hv4,htc,book,logOf,addLog,chk1,lookL,reload]
    rw [← hs]
    refine ih (i + 1) _ sv3 _ _ _ _ _ _ _ _ _ _ _ _ _ _ _ _ _ _ _ _ _ _ _ _ _ _ _ _ _ _ _ _ _ _ _ _ _ _ _ _ _ _ _ _ _ _ _ _ _ _ _ _ _ _ _ _ _ _ _ _ _ _ _ _ _ _ _ _ _ _ _ _ _ _ _ _ _ _ _ _ _ _ _ (by omega) (by omega) p5 (hf.stp st5) (by rw [← h1]; exact ha.le hle1) (by omega) hpl ?_
    intro h' sv' K1 K2 K3 K4 K5 K6 K7 K8 K9 Ka Kb Kc Kd Ke Kf Kg Kh Ki Kj Kk Kl Km Kn Ko Kp Kq Kr Ks Kt Ku Kv Kw Kx Ky Kz J0 J1 J2 J3 J4 J5 J6 J7 J8 J9 Ja Jb Jc Jd Je Jf Jg Jh Ji Jj Jk Jl Jm Jn Jo Jp Jq Jr Js Jt Ju Jv Jw Jx Jy Jz Y0 Y1 Y2 Y3 Y4 Y5 Y6 Y7 Y8 Y9 Ya Yb Yc Yd pe st
    exact hk h' sv' _ _ _ _ _ _ _ _ _ _ _ _ _ _ _ _ _ _ _ _ _ _ _ _ _ _ _ _ _ _ _ _ _ _ _ _ _ _ _ _ _ _ _ _ _ _ _ _ _ _ _ _ _ _ _ _ _ _ _ _ _ _ _ _ _ _ _ _ _ _ _ _ _ _ _ _ _ _ _ _ _ _ _ _ _ (by rw [hsp _ h1.symm]; exact pe) (st5.trans st)
   ·have h1 : σ.ref1 P x y = σ := by unfold ES.ref1; rw [if_pos (.inr htc0)]
    rw [hsg] at hsig; rw [htc0] at htch
    simp [-List.cons_append,-List.append_assoc,k_guard,hlt,hw,hs,hb,ht,hle,hK,hq2,hsig,htch]
    rw [← hs]
    exact hskip h1 ..
theorem refinement_p (he : PE h q p c pb ob P sv σ) (hl : σ.out.length ≤ 1000) :
  ∃ sv' h',(∀ R,Ret tab 125 [ptr q] h R = R (.tuple #[]) h') ∧ PE h' q p c pb ob P sv' (σ.refs P (scan σ.b.w σ.b.h)) ∧ Stp h h' c ob sv sv' := by
 have key : Ret tab 125 [ptr q] h fun v h' => v = .tuple #[] ∧ ∃ sv',PE h' q p c pb ob P sv' (σ.refs P (scan σ.b.w σ.b.h)) ∧ Stp h h' c ob sv sv' := by
  obtain ⟨s,h1,e1,p1,s1,f1⟩ := he.scan
  obtain ⟨a,cc,hs⟩ := f1.sl.shape
  have hsl := scan_len he.pr.cb.ok.w2 he.pr.cb.ok.h2
  have hq := he.pr.blk
  rw [enter125,B125]
  simp [hq,e1,hs]
  rw [← hs]
  refine ref_loop _ 0 h1 sv σ _ _ _ _ _ _ _ _ _ _ _ _ _ _ _ _ _ _ _ _ _ _ _ _ _ _ _ _ _ _ _ _ _ _ _ _ _ _ _ _ _ _ _ _ _ _ _ _ _ _ _ _ _ _ _ _ _ _ _ _ _ _ _ _ _ _ _ _ _ _ _ _ _ _ _ _ _ _ _ _ _ _ rfl (by omega) p1 f1 (scanIn σ.b) (by omega) (by omega) ?_
  intro h' sv' K1 K2 K3 K4 K5 K6 K7 K8 K9 Ka Kb Kc Kd Ke Kf Kg Kh Ki Kj Kk Kl Km Kn Ko Kp Kq Kr Ks Kt Ku Kv Kw Kx Ky Kz J0 J1 J2 J3 J4 J5 J6 J7 J8 J9 Ja Jb Jc Jd Je Jf Jg Jh Ji Jj Jk Jl Jm Jn Jo Jp Jq Jr Js Jt Ju Jv Jw Jx Jy Jz Y0 Y1 Y2 Y3 Y4 Y5 Y6 Y7 Y8 Y9 Ya Yb Yc Yd pe st
  simp [fin125]
  exact ⟨sv',by simpa using pe,s1.trans st⟩
 obtain ⟨v,h',e,rfl,sv',pe,st⟩ := ret_ex key
 exact ⟨sv',h',e,pe,st⟩
theorem half {k : Nat} (hk : k < 4) : shrI .i64 (k : Int) 1 = ((k / 2 : Nat) : Int) := by
 have := shrN (i := .i64) (a := k) (b := 1) (by decide)
 simpa using this
theorem run_loop {x top : Int} {k : List RItem} {v6 : Value} (R : Value → Heap → Prop) (he : PE h q p c pb ob P sv σ) (hn : σ.out.length + 5 < 1000000) (hx : 0 ≤ x ∧ x < σ.b.w) (ht : 0 ≤ top ∧ top + 4 ≤ σ.b.h)
  (hnone : firstBit σ.b P.s x top 4 = none → ∀ K3 K4 K5 K7 K8 K9 Ka Kb Kc Kd Ke Kf Kg Kh Ki Kj Kk Kl Km Kn Ko Kp Kq Kr Ks Kt Ku Kv Kw Kx Ky Kz J0 J1 J2 J3 J4 J5 J6 J7 J8 J9 Ja Jb Jc Jd Je Jf Jg Jh Ji : Value,Ok tab R166 k #[ptr q,.int .i64 x,.int .i64 top,K3,K4,K5,v6,K7,K8,K9,Ka,Kb,Kc,Kd,Ke,Kf,Kg,Kh,Ki,Kj,Kk,Kl,Km,Kn,Ko,Kp,Kq,Kr,Ks,Kt,Ku,Kv,Kw,Kx,Ky,Kz,J0,J1,J2,J3,J4,J5,J6,J7,J8,J9,Ja,Jb,Jc,Jd,Je,Jf,Jg,Jh,Ji] h R)
  (hsome : ∀ j,firstBit σ.b P.s x top 4 = some j → ∀ sv' h',PE h' q p c pb ob P sv' ((((σ.emit P 17 1).emit P 18 (j / 2)).emit P 18 (j % 2)).sign P x (top + j)) → Stp h h' c ob sv sv' → R (.int .i64 (top + j + 1)) h') :
  ∀ (n i : Nat) (K3 K4 K5 K7 K9 Ka Kb Kc Kd Ke Kf Kg Kh Ki Kj Kk Kl Km Kn Ko Kp Kq Kr Ks Kt Ku Kv Kw Kx Ky Kz J0 J1 J2 J3 J4 J5 J6 J7 J8 J9 Ja Jb Jc Jd Je Jf Jg Jh Ji : Value),i + n = 4 → firstBit σ.b P.s x top 4 = (firstBit σ.b P.s x (top + i) n).map (· + i) →
   Ok tab R166 (.inLoop L166_0 :: .inBlock 0 :: k) #[ptr q,.int .i64 x,.int .i64 top,K3,K4,K5,v6,K7,.int .i64 i,K9,Ka,Kb,Kc,Kd,Ke,Kf,Kg,Kh,Ki,Kj,Kk,Kl,Km,Kn,Ko,Kp,Kq,Kr,Ks,Kt,Ku,Kv,Kw,Kx,Ky,Kz,J0,J1,J2,J3,J4,J5,J6,J7,J8,J9,Ja,Jb,Jc,Jd,Je,Jf,Jg,Jh,Ji] h R := by
 intro n
 induction n with
 | zero =>
  intro i K3 K4 K5 K7 K9 Ka Kb Kc Kd Ke Kf Kg Kh Ki Kj Kk Kl Km Kn Ko Kp Kq Kr Ks Kt Ku Kv Kw Kx Ky Kz J0 J1 J2 J3 J4 J5 J6 J7 J8 J9 Ja Jb Jc Jd Je Jf Jg Jh Ji hi hfb
  obtain rfl : i = 4 := by omega
  rw [ok_round,l166_0,L166_0a,L166_0b]
  simp
  exact hnone (by rw [hfb]; simp [firstBit]) ..
 | succ n ih =>
  intro i K3 K4 K5 K7 K9 Ka Kb Kc Kd Ke Kf Kg Kh Ki Kj Kk Kl Km Kn Ko Kp Kq Kr Ks Kt Ku Kv Kw Kx Ky Kz J0 J1 J2 J3 J4 J5 J6 J7 J8 J9 Ja Jb Jc Jd Je Jf Jg Jh Ji hi hfb
  have hb2 := he.pr.cb.ok.h2
  have hlt : (i : Int) < 4 := by omega
  have hw1 : IntKind.i64.wrap ((i : Int) + 1) = (i : Int) + 1 := wrapN (n := i + 1) (by omega)
  have hw2 : IntKind.i64.wrap (top + (i : Int)) = top + (i : Int) := wrapI (by omega) (by omega)
  have hw3 : IntKind.i64.wrap (top + (i : Int) + 1) = top + (i : Int) + 1 := wrapI (by omega) (by omega)
  have hbit := fun R => bit_c (R := R) (x := x) (y := top + i) he.pr
  have hq := he.pr.blk
  rw [ok_round,l166_0,L166_0a,L166_0b]
  by_cases hb : bitOf (σ.b.get x (top + i)).v P.s = 1
  ·have hfb' : firstBit σ.b P.s x top 4 = some i := by rw [hfb]; simp [firstBit,hb]
   obtain ⟨sv1,h1,e1,p1,s1⟩ := emit_c he (by omega) 17 1
   obtain ⟨sv2,h2,e2,p2,s2⟩ := emit_c p1 (by simp [ES.emit]; omega) 18 (i / 2)
   obtain ⟨sv3,h3,e3,p3,s3⟩ := emit_c p2 (by simp [ES.emit]; omega) 18 (i % 2)
   obtain ⟨sv4,h4,e4,p4,s4⟩ := sign_p p3 (by simp [ES.emit]; omega) (x := x) (y := top + i) ⟨hx.1,hx.2,by omega,by show top + (i : Int) < σ.b.h; omega⟩
   have hq1 := p1.pr.blk
   have hq2 := p2.pr.blk
   have hq3 := p3.pr.blk
   rw [hb] at hbit
   have hsh := half (k := i) (by omega)
   have han := and1 (a := i) (by omega)
   simp only [Int.natCast_one] at e1 hbit
   simp [-Int.natCast_ediv,-Int.natCast_emod,hlt,hw1,hw2,hw3,hbit,hq,e1,hq1,hsh,e2,hq2,han,e3,hq3,e4,fin166]
   exact hsome i hfb' sv4 h4 p4 (((s1.trans s2).trans s3).trans s4)
  ·have hb0 : bitOf (σ.b.get x (top + i)).v P.s = 0 := by unfold bitOf at *; omega
   rw [hb0] at hbit
   simp only [Int.natCast_zero] at hbit
   simp [hlt,hw1,hw2,hbit]
   refine ih (i + 1) _ _ _ _ _ _ _ _ _ _ _ _ _ _ _ _ _ _ _ _ _ _ _ _ _ _ _ _ _ _ _ _ _ _ _ _ _ _ _ _ _ _ _ _ _ _ _ _ _ _ (by omega) ?_
   rw [hfb,firstBit,if_neg hb]
   rw [show top + ((i + 1 : Nat) : Int) = top + i + 1 by omega]
   cases firstBit σ.b P.s x (top + i + 1) n with
   | none => rfl
   | some j => simp; omega
theorem run_p (he : PE h q p c pb ob P sv σ) (hn : σ.out.length + 5 < 1000000) {x top : Int} (hx : 0 ≤ x ∧ x < σ.b.w) (ht : 0 ≤ top ∧ top + 4 ≤ σ.b.h) :
  ∃ sv' h',(∀ R,Ret tab 166 [ptr q,.int .i64 x,.int .i64 top] h R = R (.int .i64 (σ.run P x top).2) h') ∧ PE h' q p c pb ob P sv' (σ.run P x top).1 ∧ Stp h h' c ob sv sv' := by
 have key : Ret tab 166 [ptr q,.int .i64 x,.int .i64 top] h fun v h' => v = .int .i64 (σ.run P x top).2 ∧ ∃ sv',PE h' q p c pb ob P sv' (σ.run P x top).1 ∧ Stp h h' c ob sv sv' := by
  have hb2 := he.pr.cb.ok.h2
  rw [enter166,B166]
  simp
  refine run_loop _ he hn hx ht ?_ ?_ 4 0 _ _ _ _ _ _ _ _ _ _ _ _ _ _ _ _ _ _ _ _ _ _ _ _ _ _ _ _ _ _ _ _ _ _ _ _ _ _ _ _ _ _ _ _ _ _ _ _ _ _ (by omega) ?_
  ·intro hnone K3 K4 K5 K7 K8 K9 Ka Kb Kc Kd Ke Kf Kg Kh Ki Kj Kk Kl Km Kn Ko Kp Kq Kr Ks Kt Ku Kv Kw Kx Ky Kz J0 J1 J2 J3 J4 J5 J6 J7 J8 J9 Ja Jb Jc Jd Je Jf Jg Jh Ji
   obtain ⟨sv1,h1,e1,p1,s1⟩ := emit_c he (by omega) 17 0
   have hq := he.pr.blk
   have hw : IntKind.i64.wrap (top + 4) = top + 4 := wrapI (by omega) (by omega)
   have hr : σ.run P x top = (σ.emit P 17 0,top + 4) := by unfold ES.run; rw [hnone]
   rw [hr]
   simp only [Int.natCast_zero] at e1
   simp [hq,e1,hw,fin166]
   exact ⟨sv1,p1,s1⟩
  ·intro j hj sv' h' pe st
   have hr : σ.run P x top = ((((σ.emit P 17 1).emit P 18 (j / 2)).emit P 18 (j % 2)).sign P x (top + j),top + j + 1) := by unfold ES.run; rw [hj]
   rw [hr]
   exact ⟨rfl,sv',pe,st⟩
  ·simp
 obtain ⟨v,h',e,rfl,sv',pe,st⟩ := ret_ex key
 exact ⟨sv',h',e,pe,st⟩
end
section
variable {h : Heap} {q p c pb ob : Nat} {P : PP} {sv : Value} {σ : ES} {k : List RItem} {R : Value → Heap → Prop} {v1 : Value}
theorem rows_loop {w hh : Nat} (hw2 : w ≤ 64) (hh2 : hh ≤ 64) {x top : Int} {v22 v23 : Value} (hx : 0 ≤ x ∧ x < w) (ht : 0 ≤ top ∧ top < hh) :
  ∀ (n : Nat) (y : Int) (h : Heap) (sv : Value) (σ : ES) (K2 K3 K7 K8 K9 Ka Kb Kc Kd Ke Kf Kg Kh Ki Kj Kk Kl Ko Kp Kq Kr Ks Kt Ku Kv Kw Kx Ky Kz J0 J1 J2 J3 J4 J5 J6 J7 J8 J9 Ja Jb Jc Jd Je Jf Jg Jh Ji Jj Jk Jl Jm Jn Jo Jp Jq Jr Js Jt Ju Jv Jw Jx Jy Jz Y0 Y1 Y2 Y3 Y4 Y5 Y6 Y7 Y8 Y9 Ya Yb Yc Yd Ye Yf Yg Yh Yi Yj Yk Yl Ym Yn Yo Yp Yq Yr Ys Yt Yu Yv Yw Yx Yy Yz Z0 Z1 Z2 : Value),y + n = min (top + 4) hh → 0 ≤ y → σ.b.w = w → σ.b.h = hh → PE h q p c pb ob P sv σ → σ.out.length + 2 * n + 3 < 1000000 →
   (∀ (h' : Heap) (sv' : Value) (y' : Int) (K2 K3 K7 K8 K9 Ka Kb Kc Kd Ke Kf Kg Kh Ki Kj Kk Kl Ko Kp Kq Kr Ks Kt Ku Kv Kw Kx Ky Kz J0 J1 J2 J3 J4 J5 J6 J7 J8 J9 Ja Jb Jc Jd Je Jf Jg Jh Ji Jj Jk Jl Jm Jn Jo Jp Jq Jr Js Jt Ju Jv Jw Jx Jy Jz Y0 Y1 Y2 Y3 Y4 Y5 Y6 Y7 Y8 Y9 Ya Yb Yc Yd Ye Yf Yg Yh Yi Yj Yk Yl Ym Yn Yo Yp Yq Yr Ys Yt Yu Yv Yw Yx Yy Yz Z0 Z1 Z2 : Value),PE h' q p c pb ob P sv' (σ.rows P x y n) → Stp h h' c ob sv sv' →
    Ok tab R126 k #[ptr q,v1,K2,K3,.int .i64 top,.int .i64 x,.int .i64 y',K7,K8,K9,Ka,Kb,Kc,Kd,Ke,Kf,Kg,Kh,Ki,Kj,Kk,Kl,v22,v23,Ko,Kp,Kq,Kr,Ks,Kt,Ku,Kv,Kw,Kx,Ky,Kz,J0,J1,J2,J3,J4,J5,J6,J7,J8,J9,Ja,Jb,Jc,Jd,Je,Jf,Jg,Jh,Ji,Jj,Jk,Jl,Jm,Jn,Jo,Jp,Jq,Jr,Js,Jt,Ju,Jv,Jw,Jx,Jy,Jz,Y0,Y1,Y2,Y3,Y4,Y5,Y6,Y7,Y8,Y9,Ya,Yb,Yc,Yd,Ye,Yf,Yg,Yh,Yi,Yj,Yk,Yl,Ym,Yn,Yo,Yp,Yq,Yr,Ys,Yt,Yu,Yv,Yw,Yx,Yy,Yz,Z0,Z1,Z2] h' R) →
   Ok tab R126 (.inLoop L126_0 :: .inBlock 4 :: k) #[ptr q,v1,K2,K3,.int .i64 top,.int .i64 x,.int .i64 y,K7,K8,K9,Ka,Kb,Kc,Kd,Ke,Kf,Kg,Kh,Ki,Kj,Kk,Kl,v22,v23,Ko,Kp,Kq,Kr,Ks,Kt,Ku,Kv,Kw,Kx,Ky,Kz,J0,J1,J2,J3,J4,J5,J6,J7,J8,J9,Ja,Jb,Jc,Jd,Je,Jf,Jg,Jh,Ji,Jj,Jk,Jl,Jm,Jn,Jo,Jp,Jq,Jr,Js,Jt,Ju,Jv,Jw,Jx,Jy,Jz,Y0,Y1,Y2,Y3,Y4,Y5,Y6,Y7,Y8,Y9,Ya,Yb,Yc,Yd,Ye,Yf,Yg,Yh,Yi,Yj,Yk,Yl,Ym,Yn,Yo,Yp,Yq,Yr,Ys,Yt,Yu,Yv,Yw,Yx,Yy,Yz,Z0,Z1,Z2] h R := by
 intro n
 induction n with
 | zero =>
  intro y h sv σ K2 K3 K7 K8 K9 Ka Kb Kc Kd Ke Kf Kg Kh Ki Kj Kk Kl Ko Kp Kq Kr Ks Kt Ku Kv Kw Kx Ky Kz J0 J1 J2 J3 J4 J5 J6 J7 J8 J9 Ja Jb Jc Jd Je Jf Jg Jh Ji Jj Jk Jl Jm Jn Jo Jp Jq Jr Js Jt Ju Jv Jw Jx Jy Jz Y0 Y1 Y2 Y3 Y4 Y5 Y6 Y7 Y8 Y9 Ya Yb Yc Yd Ye Yf Yg Yh Yi Yj Yk Yl Ym Yn Yo Yp Yq Yr Ys Yt Yu Yv Yw Yx Yy Yz Z0 Z1 Z2 hy h0 hw hh' he hl hk
  have hq := he.pr.blk
  rw [hw,hh'] at hq
  have hw4 : IntKind.i64.wrap (top + 4) = top + 4 := wrapI (by omega) (by omega)
  have hlt : ¬ y < min (top + 4) (hh : Int) := by omega
  rw [ok_round,l126_0,L126_0a,L126_0b]
  simp [hq,hw4,fold1,foldO,min2V,min4 (hh := hh) ht.1]
  simp [hlt]
  exact hk h sv y _ _ _ _ _ _ _ _ _ _ _ _ _ _ _ _ _ _ _ _ _ _ _ _ _ _ _ _ _ _ _ _ _ _ _ _ _ _ _ _ _ _ _ _ _ _ _ _ _ _ _ _ _ _ _ _ _ _ _ _ _ _ _ _ _ _ _ _ _ _ _ _ _ _ _ _ _ _ _ _ _ _ _ _ _ _ _ _ _ _ _ _ _ _ _ _ _ _ _ _ _ _ _ _ he (Stp.refl _ _ _ _)
 | succ n ih =>
  intro y h sv σ K2 K3 K7 K8 K9 Ka Kb Kc Kd Ke Kf Kg Kh Ki Kj Kk Kl Ko Kp Kq Kr Ks Kt Ku Kv Kw Kx Ky Kz J0 J1 J2 J3 J4 J5 J6 J7 J8 J9 Ja Jb Jc Jd Je Jf Jg Jh Ji Jj Jk Jl Jm Jn Jo Jp Jq Jr Js Jt Ju Jv Jw Jx Jy Jz Y0 Y1 Y2 Y3 Y4 Y5 Y6 Y7 Y8 Y9 Ya Yb Yc Yd Ye Yf Yg Yh Yi Yj Yk Yl Ym Yn Yo Yp Yq Yr Ys Yt Yu Yv Yw Yx Yy Yz Z0 Z1 Z2 hy h0 hw hh' he hl hk
  have hq := he.pr.blk
  rw [hw,hh'] at hq
  have hw4 : IntKind.i64.wrap (top + 4) = top + 4 := wrapI (by omega) (by omega)
  have hw1 : IntKind.i64.wrap (y + 1) = y + 1 := wrapI (by omega) (by omega)
  have hlt : y < min (top + 4) (hh : Int) := by omega
  have hin : σ.b.inb x y := ⟨hx.1,by rw [hw]; exact hx.2,h0,by rw [hh']; omega⟩
  have hsig := fun R => significant_c (R := R) (x := x) (y := y) he.pr.cb
  have htch := fun R => touched_c (R := R) (x := x) (y := y) he.pr.cb
  have hle := le_cln1 (P := P) he.good hin
  have hskip : σ.cln1 P x y = σ → ∀ K2 K3 K7 K8 K9 Ka Kb Kc Kd Ke Kf Kg Kh Ki Kj Kk Kl Ko Kp Kq Kr Ks Kt Ku Kv Kw Kx Ky Kz J0 J1 J2 J3 J4 J5 J6 J7 J8 J9 Ja Jb Jc Jd Je Jf Jg Jh Ji Jj Jk Jl Jm Jn Jo Jp Jq Jr Js Jt Ju Jv Jw Jx Jy Jz Y0 Y1 Y2 Y3 Y4 Y5 Y6 Y7 Y8 Y9 Ya Yb Yc Yd Ye Yf Yg Yh Yi Yj Yk Yl Ym Yn Yo Yp Yq Yr Ys Yt Yu Yv Yw Yx Yy Yz Z0 Z1 Z2 : Value,Ok tab R126 (.inLoop L126_0 :: .inBlock 4 :: k) #[ptr q,v1,K2,K3,.int .i64 top,.int .i64 x,.int .i64 (y + 1),K7,K8,K9,Ka,Kb,Kc,Kd,Ke,Kf,Kg,Kh,Ki,Kj,Kk,Kl,v22,v23,Ko,Kp,Kq,Kr,Ks,Kt,Ku,Kv,Kw,Kx,Ky,Kz,J0,J1,J2,J3,J4,J5,J6,J7,J8,J9,Ja,Jb,Jc,Jd,Je,Jf,Jg,Jh,Ji,Jj,Jk,Jl,Jm,Jn,Jo,Jp,Jq,Jr,Js,Jt,Ju,Jv,Jw,Jx,Jy,Jz,Y0,Y1,Y2,Y3,Y4,Y5,Y6,Y7,Y8,Y9,Ya,Yb,Yc,Yd,Ye,Yf,Yg,Yh,Yi,Yj,Yk,Yl,Ym,Yn,Yo,Yp,Yq,Yr,Ys,Yt,Yu,Yv,Yw,Yx,Yy,Yz,Z0,Z1,Z2] h R := by
   intro h1 K2 K3 K7 K8 K9 Ka Kb Kc Kd Ke Kf Kg Kh Ki Kj Kk Kl Ko Kp Kq Kr Ks Kt Ku Kv Kw Kx Ky Kz J0 J1 J2 J3 J4 J5 J6 J7 J8 J9 Ja Jb Jc Jd Je Jf Jg Jh Ji Jj Jk Jl Jm Jn Jo Jp Jq Jr Js Jt Ju Jv Jw Jx Jy Jz Y0 Y1 Y2 Y3 Y4 Y5 Y6 Y7 Y8 Y9 Ya Yb Yc Yd Ye Yf Yg Yh Yi Yj Yk Yl Ym Yn Yo Yp Yq Yr Ys Yt Yu Yv Yw Yx Yy Yz Z0 Z1 Z2
   refine ih (y + 1) h sv σ _ _ _ _ _ _ _ _ _ _ _ _ _ _ _ _ _ _ _ _ _ _ _ _ _ _ _ _ _ _ _ _ _ _ _ _ _ _ _ _ _ _ _ _ _ _ _ _ _ _ _ _ _ _ _ _ _ _ _ _ _ _ _ _ _ _ _ _ _ _ _ _ _ _ _ _ _ _ _ _ _ _ _ _ _ _ _ _ _ _ _ _ _ _ _ _ _ _ _ _ _ _ _ _ (by omega) (by omega) hw hh' he (by omega) ?_
   intro h' sv' y' K2 K3 K7 K8 K9 Ka Kb Kc Kd Ke Kf Kg Kh Ki Kj Kk Kl Ko Kp Kq Kr Ks Kt Ku Kv Kw Kx Ky Kz J0 J1 J2 J3 J4 J5 J6 J7 J8 J9 Ja Jb Jc Jd Je Jf Jg Jh Ji Jj Jk Jl Jm Jn Jo Jp Jq Jr Js Jt Ju Jv Jw Jx Jy Jz Y0 Y1 Y2 Y3 Y4 Y5 Y6 Y7 Y8 Y9 Ya Yb Yc Yd Ye Yf Yg Yh Yi Yj Yk Yl Ym Yn Yo Yp Yq Yr Ys Yt Yu Yv Yw Yx Yy Yz Z0 Z1 Z2 pe st
   exact hk h' sv' y' _ _ _ _ _ _ _ _ _ _ _ _ _ _ _ _ _ _ _ _ _ _ _ _ _ _ _ _ _ _ _ _ _ _ _ _ _ _ _ _ _ _ _ _ _ _ _ _ _ _ _ _ _ _ _ _ _ _ _ _ _ _ _ _ _ _ _ _ _ _ _ _ _ _ _ _ _ _ _ _ _ _ _ _ _ _ _ _ _ _ _ _ _ _ _ _ _ _ _ _ _ _ _ _ (by rw [ES.rows,h1]; exact pe) st
  rw [ok_round,l126_0,L126_0a,L126_0b]
  simp [hq,hw4,fold1,foldO,min2V,min4 (hh := hh) ht.1]
  cases hsg : (σ.b.get x y).s
  ·cases htc : (σ.b.get x y).t
   ·have h1 : σ.cln1 P x y = σ.code P x y := by unfold ES.cln1; rw [if_pos ⟨hsg,htc⟩]
    obtain ⟨sv1,h2,e1,p1,s1⟩ := code_p he (by omega) hin
    rw [hsg] at hsig; rw [htc] at htch
    simp [k_guard,hlt,hw1,hq,hsig,htch,e1]
    rw [← h1] at p1
    refine ih (y + 1) h2 sv1 _ _ _ _ _ _ _ _ _ _ _ _ _ _ _ _ _ _ _ _ _ _ _ _ _ _ _ _ _ _ _ _ _ _ _ _ _ _ _ _ _ _ _ _ _ _ _ _ _ _ _ _ _ _ _ _ _ _ _ _ _ _ _ _ _ _ _ _ _ _ _ _ _ _ _ _ _ _ _ _ _ _ _ _ _ _ _ _ _ _ _ _ _ _ _ _ _ _ _ _ _ _ _ _ _ (by omega) (by omega) (by rw [hle.w]; exact hw) (by rw [hle.h]; exact hh') p1 (by have := hle.len; omega) ?_
    intro h' sv' y' K2 K3 K7 K8 K9 Ka Kb Kc Kd Ke Kf Kg Kh Ki Kj Kk Kl Ko Kp Kq Kr Ks Kt Ku Kv Kw Kx Ky Kz J0 J1 J2 J3 J4 J5 J6 J7 J8 J9 Ja Jb Jc Jd Je Jf Jg Jh Ji Jj Jk Jl Jm Jn Jo Jp Jq Jr Js Jt Ju Jv Jw Jx Jy Jz Y0 Y1 Y2 Y3 Y4 Y5 Y6 Y7 Y8 Y9 Ya Yb Yc Yd Ye Yf Yg Yh Yi Yj Yk Yl Ym Yn Yo Yp Yq Yr Ys Yt Yu Yv Yw Yx Yy Yz Z0 Z1 Z2 pe st
    exact hk h' sv' y' _ _ _ _ _ _ _ _ _ _ _ _ _ _ _ _ _ _ _ _ _ _ _ _ _ _ _ _ _ _ _ _ _ _ _ _ _ _ _ _ _ _ _ _ _ _ _ _ _ _ _ _ _ _ _ _ _ _ _ _ _ _ _ _ _ _ _ _ _ _ _ _ _ _ _ _ _ _ _ _ _ _ _ _ _ _ _ _ _ _ _ _ _ _ _ _ _ _ _ _ _ _ _ _ (by rw [ES.rows]; exact pe) (s1.trans st)
   ·have h1 : σ.cln1 P x y = σ := by unfold ES.cln1; rw [if_neg (by simp [htc])]
    rw [hsg] at hsig; rw [htc] at htch
    simp [k_guard,hlt,hw1,hq,hsig,htch]
    exact hskip h1 ..
  ·have h1 : σ.cln1 P x y = σ := by unfold ES.cln1; rw [if_neg (by simp [hsg])]
   rw [hsg] at hsig
   simp [k_guard,k_guardU,hlt,hw1,hq,hsig]
   exact hskip h1 ..
theorem cols_loop {w hh : Nat} (hw2 : w ≤ 64) (hh2 : hh ≤ 64) {top : Int} (ht : 0 ≤ top ∧ top < hh) :
  ∀ (n : Nat) (x : Int) (h : Heap) (sv : Value) (σ : ES) (K2 K3 K5 K6 K7 K8 K9 Ka Kb Kc Kd Ke Kf Kg Kh Ki Kj Kk Kl Ko Kp Kq Kr Ks Kt Ku Kv Kw Kx Ky Kz J0 J1 J2 J3 J4 J5 J6 J7 J8 J9 Ja Jb Jc Jd Je Jf Jg Jh Ji Jj Jk Jl Jm Jn Jo Jp Jq Jr Js Jt Ju Jv Jw Jx Jy Jz Y0 Y1 Y2 Y3 Y4 Y5 Y6 Y7 Y8 Y9 Ya Yb Yc Yd Ye Yf Yg Yh Yi Yj Yk Yl Ym Yn Yo Yp Yq Yr Ys Yt Yu Yv Yw Yx Yy Yz Z0 Z1 Z2 : Value),x + n = w → 0 ≤ x → σ.b.w = w → σ.b.h = hh → PE h q p c pb ob P sv σ → σ.out.length + 12 * n + 20 < 1000000 →
   (∀ (h' : Heap) (sv' : Value) (K2 K3 K5 K6 K7 K8 K9 Ka Kb Kc Kd Ke Kf Kg Kh Ki Kj Kk Kl Km Kn Ko Kp Kq Kr Ks Kt Ku Kv Kw Kx Ky Kz J0 J1 J2 J3 J4 J5 J6 J7 J8 J9 Ja Jb Jc Jd Je Jf Jg Jh Ji Jj Jk Jl Jm Jn Jo Jp Jq Jr Js Jt Ju Jv Jw Jx Jy Jz Y0 Y1 Y2 Y3 Y4 Y5 Y6 Y7 Y8 Y9 Ya Yb Yc Yd Ye Yf Yg Yh Yi Yj Yk Yl Ym Yn Yo Yp Yq Yr Ys Yt Yu Yv Yw Yx Yy Yz Z0 Z1 Z2 : Value),PE h' q p c pb ob P sv' (σ.cols P x top n) → Stp h h' c ob sv sv' →
    Ok tab R126 k #[ptr q,v1,K2,K3,.int .i64 top,K5,K6,K7,K8,K9,Ka,Kb,Kc,Kd,Ke,Kf,Kg,Kh,Ki,Kj,Kk,Kl,Km,Kn,Ko,Kp,Kq,Kr,Ks,Kt,Ku,Kv,Kw,Kx,Ky,Kz,J0,J1,J2,J3,J4,J5,J6,J7,J8,J9,Ja,Jb,Jc,Jd,Je,Jf,Jg,Jh,Ji,Jj,Jk,Jl,Jm,Jn,Jo,Jp,Jq,Jr,Js,Jt,Ju,Jv,Jw,Jx,Jy,Jz,Y0,Y1,Y2,Y3,Y4,Y5,Y6,Y7,Y8,Y9,Ya,Yb,Yc,Yd,Ye,Yf,Yg,Yh,Yi,Yj,Yk,Yl,Ym,Yn,Yo,Yp,Yq,Yr,Ys,Yt,Yu,Yv,Yw,Yx,Yy,Yz,Z0,Z1,Z2] h' R) →
   Ok tab R126 (.inLoop L126_1 :: .inBlock 2 :: k) #[ptr q,v1,K2,K3,.int .i64 top,K5,K6,K7,K8,K9,Ka,Kb,Kc,Kd,Ke,Kf,Kg,Kh,Ki,Kj,Kk,Kl,.int .i64 w,.int .i64 x,Ko,Kp,Kq,Kr,Ks,Kt,Ku,Kv,Kw,Kx,Ky,Kz,J0,J1,J2,J3,J4,J5,J6,J7,J8,J9,Ja,Jb,Jc,Jd,Je,Jf,Jg,Jh,Ji,Jj,Jk,Jl,Jm,Jn,Jo,Jp,Jq,Jr,Js,Jt,Ju,Jv,Jw,Jx,Jy,Jz,Y0,Y1,Y2,Y3,Y4,Y5,Y6,Y7,Y8,Y9,Ya,Yb,Yc,Yd,Ye,Yf,Yg,Yh,Yi,Yj,Yk,Yl,Ym,Yn,Yo,Yp,Yq,Yr,Ys,Yt,Yu,Yv,Yw,Yx,Yy,Yz,Z0,Z1,Z2] h R := by
 intro n
 induction n with
 | zero =>
  intro x h sv σ K2 K3 K5 K6 K7 K8 K9 Ka Kb Kc Kd Ke Kf Kg Kh Ki Kj Kk Kl Ko Kp Kq Kr Ks Kt Ku Kv Kw Kx Ky Kz J0 J1 J2 J3 J4 J5 J6 J7 J8 J9 Ja Jb Jc Jd Je Jf Jg Jh Ji Jj Jk Jl Jm Jn Jo Jp Jq Jr Js Jt Ju Jv Jw Jx Jy Jz Y0 Y1 Y2 Y3 Y4 Y5 Y6 Y7 Y8 Y9 Ya Yb Yc Yd Ye Yf Yg Yh Yi Yj Yk Yl Ym Yn Yo Yp Yq Yr Ys Yt Yu Yv Yw Yx Yy Yz Z0 Z1 Z2 hx h0 hw hh' he hl hk
  have hlt : ¬ x < (w : Int) := by omega
  rw [ok_round,l126_1,L126_1a,L126_1b]
  simp [hlt]
  exact hk h sv _ _ _ _ _ _ _ _ _ _ _ _ _ _ _ _ _ _ _ _ _ _ _ _ _ _ _ _ _ _ _ _ _ _ _ _ _ _ _ _ _ _ _ _ _ _ _ _ _ _ _ _ _ _ _ _ _ _ _ _ _ _ _ _ _ _ _ _ _ _ _ _ _ _ _ _ _ _ _ _ _ _ _ _ _ _ _ _ _ _ _ _ _ _ _ _ _ _ _ _ _ _ _ _ _ _ _ _ he (Stp.refl _ _ _ _)
 | succ n ih =>
  intro x h sv σ K2 K3 K5 K6 K7 K8 K9 Ka Kb Kc Kd Ke Kf Kg Kh Ki Kj Kk Kl Ko Kp Kq Kr Ks Kt Ku Kv Kw Kx Ky Kz J0 J1 J2 J3 J4 J5 J6 J7 J8 J9 Ja Jb Jc Jd Je Jf Jg Jh Ji Jj Jk Jl Jm Jn Jo Jp Jq Jr Js Jt Ju Jv Jw Jx Jy Jz Y0 Y1 Y2 Y3 Y4 Y5 Y6 Y7 Y8 Y9 Ya Yb Yc Yd Ye Yf Yg Yh Yi Yj Yk Yl Ym Yn Yo Yp Yq Yr Ys Yt Yu Yv Yw Yx Yy Yz Z0 Z1 Z2 hx h0 hw hh' he hl hk
  have hlt : x < (w : Int) := by omega
  have hw1 : IntKind.i64.wrap (x + 1) = x + 1 := wrapI (by omega) (by omega)
  have hw4 : IntKind.i64.wrap (top + 4) = top + 4 := wrapI (by omega) (by omega)
  have hq := he.pr.blk
  have hin : σ.b.inb x top := ⟨h0,by rw [hw]; exact hlt,ht.1,by rw [hh']; exact ht.2⟩
  have hqt := fun R => quiet_p (R := R) (x := x) (top := top) he.pr ⟨h0,by rw [hw]; exact hlt⟩ ⟨ht.1,by rw [hh']; exact ht.2⟩
  have hle := le_col (P := P) he.good hin
  have hnext : ∀ (h' : Heap) (sv' : Value) (K2 K3 K5 K6 K7 K8 K9 Ka Kb Kc Kd Ke Kf Kg Kh Ki Kj Kk Kl Ko Kp Kq Kr Ks Kt Ku Kv Kw Kx Ky Kz J0 J1 J2 J3 J4 J5 J6 J7 J8 J9 Ja Jb Jc Jd Je Jf Jg Jh Ji Jj Jk Jl Jm Jn Jo Jp Jq Jr Js Jt Ju Jv Jw Jx Jy Jz Y0 Y1 Y2 Y3 Y4 Y5 Y6 Y7 Y8 Y9 Ya Yb Yc Yd Ye Yf Yg Yh Yi Yj Yk Yl Ym Yn Yo Yp Yq Yr Ys Yt Yu Yv Yw Yx Yy Yz Z0 Z1 Z2 : Value),PE h' q p c pb ob P sv' (σ.col P x top) → Stp h h' c ob sv sv' →
    Ok tab R126 (.inLoop L126_1 :: .inBlock 2 :: k) #[ptr q,v1,K2,K3,.int .i64 top,K5,K6,K7,K8,K9,Ka,Kb,Kc,Kd,Ke,Kf,Kg,Kh,Ki,Kj,Kk,Kl,.int .i64 w,.int .i64 (x + 1),Ko,Kp,Kq,Kr,Ks,Kt,Ku,Kv,Kw,Kx,Ky,Kz,J0,J1,J2,J3,J4,J5,J6,J7,J8,J9,Ja,Jb,Jc,Jd,Je,Jf,Jg,Jh,Ji,Jj,Jk,Jl,Jm,Jn,Jo,Jp,Jq,Jr,Js,Jt,Ju,Jv,Jw,Jx,Jy,Jz,Y0,Y1,Y2,Y3,Y4,Y5,Y6,Y7,Y8,Y9,Ya,Yb,Yc,Yd,Ye,Yf,Yg,Yh,Yi,Yj,Yk,Yl,Ym,Yn,Yo,Yp,Yq,Yr,Ys,Yt,Yu,Yv,Yw,Yx,Yy,Yz,Z0,Z1,Z2] h' R := by
   intro h' sv' K2 K3 K5 K6 K7 K8 K9 Ka Kb Kc Kd Ke Kf Kg Kh Ki Kj Kk Kl Ko Kp Kq Kr Ks Kt Ku Kv Kw Kx Ky Kz J0 J1 J2 J3 J4 J5 J6 J7 J8 J9 Ja Jb Jc Jd Je Jf Jg Jh Ji Jj Jk Jl Jm Jn Jo Jp Jq Jr Js Jt Ju Jv Jw Jx Jy Jz Y0 Y1 Y2 Y3 Y4 Y5 Y6 Y7 Y8 Y9 Ya Yb Yc Yd Ye Yf Yg Yh Yi Yj Yk Yl Ym Yn Yo Yp Yq Yr Ys Yt Yu Yv Yw Yx Yy Yz Z0 Z1 Z2 pe st
   refine ih (x + 1) h' sv' _ _ _ _ _ _ _ _ _ _ _ _ _ _ _ _ _ _ _ _ _ _ _ _ _ _ _ _ _ _ _ _ _ _ _ _ _ _ _ _ _ _ _ _ _ _ _ _ _ _ _ _ _ _ _ _ _ _ _ _ _ _ _ _ _ _ _ _ _ _ _ _ _ _ _ _ _ _ _ _ _ _ _ _ _ _ _ _ _ _ _ _ _ _ _ _ _ _ _ _ _ _ _ _ _ _ _ (by omega) (by omega) (by rw [hle.w]; exact hw) (by rw [hle.h]; exact hh') pe (by have := hle.len; omega) ?_
   intro h'' sv'' K2 K3 K5 K6 K7 K8 K9 Ka Kb Kc Kd Ke Kf Kg Kh Ki Kj Kk Kl Km Kn Ko Kp Kq Kr Ks Kt Ku Kv Kw Kx Ky Kz J0 J1 J2 J3 J4 J5 J6 J7 J8 J9 Ja Jb Jc Jd Je Jf Jg Jh Ji Jj Jk Jl Jm Jn Jo Jp Jq Jr Js Jt Ju Jv Jw Jx Jy Jz Y0 Y1 Y2 Y3 Y4 Y5 Y6 Y7 Y8 Y9 Ya Yb Yc Yd Ye Yf Yg Yh Yi Yj Yk Yl Ym Yn Yo Yp Yq Yr Ys Yt Yu Yv Yw Yx Yy Yz Z0 Z1 Z2 pe2 st2
   exact hk h'' sv'' _ _ _ _ _ _ _ _ _ _ _ _ _ _ _ _ _ _ _ _ _ _ _ _ _ _ _ _ _ _ _ _ _ _ _ _ _ _ _ _ _ _ _ _ _ _ _ _ _ _ _ _ _ _ _ _ _ _ _ _ _ _ _ _ _ _ _ _ _ _ _ _ _ _ _ _ _ _ _ _ _ _ _ _ _ _ _ _ _ _ _ _ _ _ _ _ _ _ _ _ _ _ _ _ _ _ _ _ (by rw [ES.cols]; exact pe2) (st.trans st2)
  rw [ok_round,l126_1,L126_1a,L126_1b]
  cases hqq : quiet σ.b x top P.cz
  ·-- no run length
   have hcol : σ.col P x top = σ.rows P x top (min (top + 4) σ.b.h - top).toNat := by unfold ES.col; rw [if_neg (by simp [hqq])]
   rw [hqq] at hqt
   simp [hlt,hqt]
   refine rows_loop hw2 hh2 ⟨h0,hlt⟩ ht (min (top + 4) (hh : Int) - top).toNat top h sv σ _ _ _ _ _ _ _ _ _ _ _ _ _ _ _ _ _ _ _ _ _ _ _ _ _ _ _ _ _ _ _ _ _ _ _ _ _ _ _ _ _ _ _ _ _ _ _ _ _ _ _ _ _ _ _ _ _ _ _ _ _ _ _ _ _ _ _ _ _ _ _ _ _ _ _ _ _ _ _ _ _ _ _ _ _ _ _ _ _ _ _ _ _ _ _ _ _ _ _ _ _ _ _ _ (by omega) ht.1 hw hh' he (by omega) ?_
   intro h' sv' y' K2 K3 K7 K8 K9 Ka Kb Kc Kd Ke Kf Kg Kh Ki Kj Kk Kl Ko Kp Kq Kr Ks Kt Ku Kv Kw Kx Ky Kz J0 J1 J2 J3 J4 J5 J6 J7 J8 J9 Ja Jb Jc Jd Je Jf Jg Jh Ji Jj Jk Jl Jm Jn Jo Jp Jq Jr Js Jt Ju Jv Jw Jx Jy Jz Y0 Y1 Y2 Y3 Y4 Y5 Y6 Y7 Y8 Y9 Ya Yb Yc Yd Ye Yf Yg Yh Yi Yj Yk Yl Ym Yn Yo Yp Yq Yr Ys Yt Yu Yv Yw Yx Yy Yz Z0 Z1 Z2 pe st
   simp [hw1]
   exact hnext h' sv' _ _ _ _ _ _ _ _ _ _ _ _ _ _ _ _ _ _ _ _ _ _ _ _ _ _ _ _ _ _ _ _ _ _ _ _ _ _ _ _ _ _ _ _ _ _ _ _ _ _ _ _ _ _ _ _ _ _ _ _ _ _ _ _ _ _ _ _ _ _ _ _ _ _ _ _ _ _ _ _ _ _ _ _ _ _ _ _ _ _ _ _ _ _ _ _ _ _ _ _ _ _ _ _ _ _ (by rw [hcol,hh']; exact pe) st
  ·-- a run length
   have htop : top + 4 ≤ σ.b.h := by
    simp only [quiet,Bool.and_eq_true,decide_eq_true_eq] at hqq; exact hqq.1
   obtain ⟨sv1,h1,e1,p1,s1⟩ := run_p he (by omega) (x := x) (top := top) ⟨h0,by rw [hw]; exact hlt⟩ ⟨ht.1,htop⟩
   obtain ⟨l1,l2,l3⟩ := le_run (P := P) he.good (x := x) (top := top) hin htop
   have hcol : σ.col P x top = ((σ.run P x top).1).rows P x (σ.run P x top).2 (min (top + 4) σ.b.h - (σ.run P x top).2).toNat := by unfold ES.col; rw [if_pos hqq]
   rw [hqq] at hqt
   by_cases hend : (σ.run P x top).2 = top + 4
   ·rw [hend,show (min (top + 4) (σ.b.h : Int) - (top + 4)).toNat = 0 by omega,ES.rows] at hcol
    rw [hend] at e1
    simp [hlt,hqt,e1,hw4,hw1]
    exact hnext h1 sv1 _ _ _ _ _ _ _ _ _ _ _ _ _ _ _ _ _ _ _ _ _ _ _ _ _ _ _ _ _ _ _ _ _ _ _ _ _ _ _ _ _ _ _ _ _ _ _ _ _ _ _ _ _ _ _ _ _ _ _ _ _ _ _ _ _ _ _ _ _ _ _ _ _ _ _ _ _ _ _ _ _ _ _ _ _ _ _ _ _ _ _ _ _ _ _ _ _ _ _ _ _ _ _ _ _ _ (by rw [hcol]; exact p1) s1
   ·have hend' : ((σ.run P x top).2 == top + 4) = false := by simp [hend]
    simp [hlt,hqt,e1,hw4,hend']
    refine rows_loop hw2 hh2 ⟨h0,hlt⟩ ht (min (top + 4) (hh : Int) - (σ.run P x top).2).toNat (σ.run P x top).2 h1 sv1 _ _ _ _ _ _ _ _ _ _ _ _ _ _ _ _ _ _ _ _ _ _ _ _ _ _ _ _ _ _ _ _ _ _ _ _ _ _ _ _ _ _ _ _ _ _ _ _ _ _ _ _ _ _ _ _ _ _ _ _ _ _ _ _ _ _ _ _ _ _ _ _ _ _ _ _ _ _ _ _ _ _ _ _ _ _ _ _ _ _ _ _ _ _ _ _ _ _ _ _ _ _ _ _ _ (by omega) (by omega) (by rw [l1.w]; exact hw) (by rw [l1.h]; exact hh') p1 (by have := l1.len; omega) ?_
    intro h' sv' y' K2 K3 K7 K8 K9 Ka Kb Kc Kd Ke Kf Kg Kh Ki Kj Kk Kl Ko Kp Kq Kr Ks Kt Ku Kv Kw Kx Ky Kz J0 J1 J2 J3 J4 J5 J6 J7 J8 J9 Ja Jb Jc Jd Je Jf Jg Jh Ji Jj Jk Jl Jm Jn Jo Jp Jq Jr Js Jt Ju Jv Jw Jx Jy Jz Y0 Y1 Y2 Y3 Y4 Y5 Y6 Y7 Y8 Y9 Ya Yb Yc Yd Ye Yf Yg Yh Yi Yj Yk Yl Ym Yn Yo Yp Yq Yr Ys Yt Yu Yv Yw Yx Yy Yz Z0 Z1 Z2 pe st
    simp [hw1]
    exact hnext h' sv' _ _ _ _ _ _ _ _ _ _ _ _ _ _ _ _ _ _ _ _ _ _ _ _ _ _ _ _ _ _ _ _ _ _ _ _ _ _ _ _ _ _ _ _ _ _ _ _ _ _ _ _ _ _ _ _ _ _ _ _ _ _ _ _ _ _ _ _ _ _ _ _ _ _ _ _ _ _ _ _ _ _ _ _ _ _ _ _ _ _ _ _ _ _ _ _ _ _ _ _ _ _ _ _ _ _ (by rw [hcol,hh']; exact pe) (s1.trans st)
theorem stripes_loop {w hh : Nat} (hw2 : w ≤ 64) (hh2 : hh ≤ 64) :
  ∀ (n : Nat) (top : Int) (h : Heap) (sv : Value) (σ : ES) (K2 K3 K5 K6 K7 K8 K9 Ka Kb Kc Kd Ke Kf Kg Kh Ki Kj Kk Kl Km Kn Ko Kp Kq Kr Ks Kt Ku Kv Kw Kx Ky Kz J0 J1 J2 J3 J4 J5 J6 J7 J8 J9 Ja Jb Jc Jd Je Jf Jg Jh Ji Jj Jk Jl Jm Jn Jo Jp Jq Jr Js Jt Ju Jv Jw Jx Jy Jz Y0 Y1 Y2 Y3 Y4 Y5 Y6 Y7 Y8 Y9 Ya Yb Yc Yd Ye Yf Yg Yh Yi Yj Yk Yl Ym Yn Yo Yp Yq Yr Ys Yt Yu Yv Yw Yx Yy Yz Z0 Z1 Z2 : Value),(hh : Int) ≤ top + 4 * n → top + 4 * n ≤ hh + 3 → 0 ≤ top → σ.b.w = w → σ.b.h = hh → PE h q p c pb ob P sv σ → σ.out.length + 12 * w * n + 20 < 1000000 →
   (∀ (h' : Heap) (sv' : Value) (K2 K3 K4 K5 K6 K7 K8 K9 Ka Kb Kc Kd Ke Kf Kg Kh Ki Kj Kk Kl Km Kn Ko Kp Kq Kr Ks Kt Ku Kv Kw Kx Ky Kz J0 J1 J2 J3 J4 J5 J6 J7 J8 J9 Ja Jb Jc Jd Je Jf Jg Jh Ji Jj Jk Jl Jm Jn Jo Jp Jq Jr Js Jt Ju Jv Jw Jx Jy Jz Y0 Y1 Y2 Y3 Y4 Y5 Y6 Y7 Y8 Y9 Ya Yb Yc Yd Ye Yf Yg Yh Yi Yj Yk Yl Ym Yn Yo Yp Yq Yr Ys Yt Yu Yv Yw Yx Yy Yz Z0 Z1 Z2 : Value),PE h' q p c pb ob P sv' (σ.stripes P top n) → Stp h h' c ob sv sv' →
    Ok tab R126 k #[ptr q,v1,K2,K3,K4,K5,K6,K7,K8,K9,Ka,Kb,Kc,Kd,Ke,Kf,Kg,Kh,Ki,Kj,Kk,Kl,Km,Kn,Ko,Kp,Kq,Kr,Ks,Kt,Ku,Kv,Kw,Kx,Ky,Kz,J0,J1,J2,J3,J4,J5,J6,J7,J8,J9,Ja,Jb,Jc,Jd,Je,Jf,Jg,Jh,Ji,Jj,Jk,Jl,Jm,Jn,Jo,Jp,Jq,Jr,Js,Jt,Ju,Jv,Jw,Jx,Jy,Jz,Y0,Y1,Y2,Y3,Y4,Y5,Y6,Y7,Y8,Y9,Ya,Yb,Yc,Yd,Ye,Yf,Yg,Yh,Yi,Yj,Yk,Yl,Ym,Yn,Yo,Yp,Yq,Yr,Ys,Yt,Yu,Yv,Yw,Yx,Yy,Yz,Z0,Z1,Z2] h' R) →
   Ok tab R126 (.inLoop L126_2 :: .inBlock 0 :: k) #[ptr q,v1,K2,K3,.int .i64 top,K5,K6,K7,K8,K9,Ka,Kb,Kc,Kd,Ke,Kf,Kg,Kh,Ki,Kj,Kk,Kl,Km,Kn,Ko,Kp,Kq,Kr,Ks,Kt,Ku,Kv,Kw,Kx,Ky,Kz,J0,J1,J2,J3,J4,J5,J6,J7,J8,J9,Ja,Jb,Jc,Jd,Je,Jf,Jg,Jh,Ji,Jj,Jk,Jl,Jm,Jn,Jo,Jp,Jq,Jr,Js,Jt,Ju,Jv,Jw,Jx,Jy,Jz,Y0,Y1,Y2,Y3,Y4,Y5,Y6,Y7,Y8,Y9,Ya,Yb,Yc,Yd,Ye,Yf,Yg,Yh,Yi,Yj,Yk,Yl,Ym,Yn,Yo,Yp,Yq,Yr,Ys,Yt,Yu,Yv,Yw,Yx,Yy,Yz,Z0,Z1,Z2] h R := by
 intro n
 induction n with
 | zero =>
  intro top h sv σ K2 K3 K5 K6 K7 K8 K9 Ka Kb Kc Kd Ke Kf Kg Kh Ki Kj Kk Kl Km Kn Ko Kp Kq Kr Ks Kt Ku Kv Kw Kx Ky Kz J0 J1 J2 J3 J4 J5 J6 J7 J8 J9 Ja Jb Jc Jd Je Jf Jg Jh Ji Jj Jk Jl Jm Jn Jo Jp Jq Jr Js Jt Ju Jv Jw Jx Jy Jz Y0 Y1 Y2 Y3 Y4 Y5 Y6 Y7 Y8 Y9 Ya Yb Yc Yd Ye Yf Yg Yh Yi Yj Yk Yl Ym Yn Yo Yp Yq Yr Ys Yt Yu Yv Yw Yx Yy Yz Z0 Z1 Z2 ha hb h0 hw hh' he hl hk
  have hq := he.pr.blk
  rw [hw,hh'] at hq
  have hlt : ¬ top < (hh : Int) := by omega
  rw [ok_round,l126_2,L126_2a,L126_2b]
  simp [hq,hlt]
  exact hk h sv _ _ _ _ _ _ _ _ _ _ _ _ _ _ _ _ _ _ _ _ _ _ _ _ _ _ _ _ _ _ _ _ _ _ _ _ _ _ _ _ _ _ _ _ _ _ _ _ _ _ _ _ _ _ _ _ _ _ _ _ _ _ _ _ _ _ _ _ _ _ _ _ _ _ _ _ _ _ _ _ _ _ _ _ _ _ _ _ _ _ _ _ _ _ _ _ _ _ _ _ _ _ _ _ _ _ _ _ _ he (Stp.refl _ _ _ _)
 | succ n ih =>
  intro top h sv σ K2 K3 K5 K6 K7 K8 K9 Ka Kb Kc Kd Ke Kf Kg Kh Ki Kj Kk Kl Km Kn Ko Kp Kq Kr Ks Kt Ku Kv Kw Kx Ky Kz J0 J1 J2 J3 J4 J5 J6 J7 J8 J9 Ja Jb Jc Jd Je Jf Jg Jh Ji Jj Jk Jl Jm Jn Jo Jp Jq Jr Js Jt Ju Jv Jw Jx Jy Jz Y0 Y1 Y2 Y3 Y4 Y5 Y6 Y7 Y8 Y9 Ya Yb Yc Yd Ye Yf Yg Yh Yi Yj Yk Yl Ym Yn Yo Yp Yq Yr Ys Yt Yu Yv Yw Yx Yy Yz Z0 Z1 Z2 ha hb h0 hw hh' he hl hk
  have hq := he.pr.blk
  rw [hw,hh'] at hq
  have hlt : top < (hh : Int) := by omega
  have hw4 : IntKind.i64.wrap (top + 4) = top + 4 := wrapI (by omega) (by omega)
  have hle := le_cols (P := P) (n := w) he.good (x := 0) (top := top) (by omega) (by rw [hw]; omega) h0 (by rw [hh']; exact hlt)
  have hmul : 12 * w * (n + 1) = 12 * w * n + 12 * w := by rw [Nat.mul_add]; omega
  rw [ok_round,l126_2,L126_2a,L126_2b]
  simp [hq,hlt]
  refine cols_loop hw2 hh2 ⟨h0,hlt⟩ w 0 h sv σ _ _ _ _ _ _ _ _ _ _ _ _ _ _ _ _ _ _ _ _ _ _ _ _ _ _ _ _ _ _ _ _ _ _ _ _ _ _ _ _ _ _ _ _ _ _ _ _ _ _ _ _ _ _ _ _ _ _ _ _ _ _ _ _ _ _ _ _ _ _ _ _ _ _ _ _ _ _ _ _ _ _ _ _ _ _ _ _ _ _ _ _ _ _ _ _ _ _ _ _ _ _ _ _ _ _ (by omega) (by omega) hw hh' he (by omega) ?_
  intro h' sv' K2 K3 K5 K6 K7 K8 K9 Ka Kb Kc Kd Ke Kf Kg Kh Ki Kj Kk Kl Km Kn Ko Kp Kq Kr Ks Kt Ku Kv Kw Kx Ky Kz J0 J1 J2 J3 J4 J5 J6 J7 J8 J9 Ja Jb Jc Jd Je Jf Jg Jh Ji Jj Jk Jl Jm Jn Jo Jp Jq Jr Js Jt Ju Jv Jw Jx Jy Jz Y0 Y1 Y2 Y3 Y4 Y5 Y6 Y7 Y8 Y9 Ya Yb Yc Yd Ye Yf Yg Yh Yi Yj Yk Yl Ym Yn Yo Yp Yq Yr Ys Yt Yu Yv Yw Yx Yy Yz Z0 Z1 Z2 pe st
  simp [hw4]
  refine ih (top + 4) h' sv' _ _ _ _ _ _ _ _ _ _ _ _ _ _ _ _ _ _ _ _ _ _ _ _ _ _ _ _ _ _ _ _ _ _ _ _ _ _ _ _ _ _ _ _ _ _ _ _ _ _ _ _ _ _ _ _ _ _ _ _ _ _ _ _ _ _ _ _ _ _ _ _ _ _ _ _ _ _ _ _ _ _ _ _ _ _ _ _ _ _ _ _ _ _ _ _ _ _ _ _ _ _ _ _ _ _ _ _ _ (by omega) (by omega) (by omega) (by rw [hle.w]; exact hw) (by rw [hle.h]; exact hh') pe (by have := hle.len; omega) ?_
  intro h'' sv'' K2 K3 K4 K5 K6 K7 K8 K9 Ka Kb Kc Kd Ke Kf Kg Kh Ki Kj Kk Kl Km Kn Ko Kp Kq Kr Ks Kt Ku Kv Kw Kx Ky Kz J0 J1 J2 J3 J4 J5 J6 J7 J8 J9 Ja Jb Jc Jd Je Jf Jg Jh Ji Jj Jk Jl Jm Jn Jo Jp Jq Jr Js Jt Ju Jv Jw Jx Jy Jz Y0 Y1 Y2 Y3 Y4 Y5 Y6 Y7 Y8 Y9 Ya Yb Yc Yd Ye Yf Yg Yh Yi Yj Yk Yl Ym Yn Yo Yp Yq Yr Ys Yt Yu Yv Yw Yx Yy Yz Z0 Z1 Z2 pe2 st2
  exact hk h'' sv'' _ _ _ _ _ _ _ _ _ _ _ _ _ _ _ _ _ _ _ _ _ _ _ _ _ _ _ _ _ _ _ _ _ _ _ _ _ _ _ _ _ _ _ _ _ _ _ _ _ _ _ _ _ _ _ _ _ _ _ _ _ _ _ _ _ _ _ _ _ _ _ _ _ _ _ _ _ _ _ _ _ _ _ _ _ _ _ _ _ _ _ _ _ _ _ _ _ _ _ _ _ _ _ _ _ _ _ _ _ (by rw [ES.stripes,hw]; exact pe2) (st.trans st2)
theorem clear_loop {s : Value} {pts : List (Int × Int)} :
  ∀ (m i : Nat) (h : Heap) (sv : Value) (σ : ES) (K2 K3 K4 K5 K6 K7 K8 K9 Ka Kb Kc Kd Ke Kf Kg Kh Ki Kj Kk Kl Km Kn Ko Kp Kq Kr Ks Kt Ku Kv Kw Kx Ky Kz J0 J1 J2 J3 J4 J5 J6 J7 J8 J9 Ja Jb Jc Jd Je Jf Jg Jh Ji Jj Jk Jl Jm Jn Jo Jp Jq Jr Js Jt Ju Jv Jw Jx Jy Jz Y0 Y1 Y2 Y3 Y4 Y5 Y6 Y7 Y8 Yc Yd Ye Yf Yg Yh Yi Yj Yk Yl Ym Yn Yo Yp Yq Yr Ys Yt Yu Yv Yw Yx Yy Yz Z0 Z1 Z2 : Value),m = pts.length - i → i ≤ pts.length → PE h q p c pb ob P sv σ → Far h s pts c ob sv → AllIn σ.b pts → pts.length < 1000000 →
   (∀ (h' : Heap) (sv' : Value) (K2 K3 K4 K5 K6 K7 K8 K9 Ka Kb Kc Kd Ke Kf Kg Kh Ki Kj Kk Kl Km Kn Ko Kp Kq Kr Ks Kt Ku Kv Kw Kx Ky Kz J0 J1 J2 J3 J4 J5 J6 J7 J8 J9 Ja Jb Jc Jd Je Jf Jg Jh Ji Jj Jk Jl Jm Jn Jo Jp Jq Jr Js Jt Ju Jv Jw Jx Jy Jz Y0 Y1 Y2 Y3 Y4 Y5 Y6 Y7 Y8 Y9 Ya Yb Yc Yd Ye Yf Yg Yh Yi Yj Yk Yl Ym Yn Yo Yp Yq Yr Ys Yt Yu Yv Yw Yx Yy Yz Z0 Z1 Z2 : Value),PE h' q p c pb ob P sv' (σ.clear (pts.drop i)) → Stp h h' c ob sv sv' → Ok tab R126 k #[ptr q,v1,K2,K3,K4,K5,K6,K7,K8,K9,Ka,Kb,Kc,Kd,Ke,Kf,Kg,Kh,Ki,Kj,Kk,Kl,Km,Kn,Ko,Kp,Kq,Kr,Ks,Kt,Ku,Kv,Kw,Kx,Ky,Kz,J0,J1,J2,J3,J4,J5,J6,J7,J8,J9,Ja,Jb,Jc,Jd,Je,Jf,Jg,Jh,Ji,Jj,Jk,Jl,Jm,Jn,Jo,Jp,Jq,Jr,Js,Jt,Ju,Jv,Jw,Jx,Jy,Jz,Y0,Y1,Y2,Y3,Y4,Y5,Y6,Y7,Y8,Y9,Ya,Yb,Yc,Yd,Ye,Yf,Yg,Yh,Yi,Yj,Yk,Yl,Ym,Yn,Yo,Yp,Yq,Yr,Ys,Yt,Yu,Yv,Yw,Yx,Yy,Yz,Z0,Z1,Z2] h' R) →
   Ok tab R126 (.inLoop L126_3 :: .inBlock 6 :: k) #[ptr q,v1,K2,K3,K4,K5,K6,K7,K8,K9,Ka,Kb,Kc,Kd,Ke,Kf,Kg,Kh,Ki,Kj,Kk,Kl,Km,Kn,Ko,Kp,Kq,Kr,Ks,Kt,Ku,Kv,Kw,Kx,Ky,Kz,J0,J1,J2,J3,J4,J5,J6,J7,J8,J9,Ja,Jb,Jc,Jd,Je,Jf,Jg,Jh,Ji,Jj,Jk,Jl,Jm,Jn,Jo,Jp,Jq,Jr,Js,Jt,Ju,Jv,Jw,Jx,Jy,Jz,Y0,Y1,Y2,Y3,Y4,Y5,Y6,Y7,Y8,s,.int .i64 pts.length,.int .i64 i,Yc,Yd,Ye,Yf,Yg,Yh,Yi,Yj,Yk,Yl,Ym,Yn,Yo,Yp,Yq,Yr,Ys,Yt,Yu,Yv,Yw,Yx,Yy,Yz,Z0,Z1,Z2] h R := by
 intro m
 induction m with
 | zero =>
  intro i h sv σ K2 K3 K4 K5 K6 K7 K8 K9 Ka Kb Kc Kd Ke Kf Kg Kh Ki Kj Kk Kl Km Kn Ko Kp Kq Kr Ks Kt Ku Kv Kw Kx Ky Kz J0 J1 J2 J3 J4 J5 J6 J7 J8 J9 Ja Jb Jc Jd Je Jf Jg Jh Ji Jj Jk Jl Jm Jn Jo Jp Jq Jr Js Jt Ju Jv Jw Jx Jy Jz Y0 Y1 Y2 Y3 Y4 Y5 Y6 Y7 Y8 Yc Yd Ye Yf Yg Yh Yi Yj Yk Yl Ym Yn Yo Yp Yq Yr Ys Yt Yu Yv Yw Yx Yy Yz Z0 Z1 Z2 hm hi he hf ha hpl hk
  have hlt : ¬ ((i : Int) < pts.length) := by omega
  rw [ok_round,l126_3,L126_3a,L126_3b]
  simp [hlt]
  refine hk h sv _ _ _ _ _ _ _ _ _ _ _ _ _ _ _ _ _ _ _ _ _ _ _ _ _ _ _ _ _ _ _ _ _ _ _ _ _ _ _ _ _ _ _ _ _ _ _ _ _ _ _ _ _ _ _ _ _ _ _ _ _ _ _ _ _ _ _ _ _ _ _ _ _ _ _ _ _ _ _ _ _ _ _ _ _ _ _ _ _ _ _ _ _ _ _ _ _ _ _ _ _ _ _ _ _ _ _ _ _ ?_ (Stp.refl _ _ _ _)
  rw [List.drop_of_length_le (by omega)]; exact he
 | succ m ih =>
  intro i h sv σ K2 K3 K4 K5 K6 K7 K8 K9 Ka Kb Kc Kd Ke Kf Kg Kh Ki Kj Kk Kl Km Kn Ko Kp Kq Kr Ks Kt Ku Kv Kw Kx Ky Kz J0 J1 J2 J3 J4 J5 J6 J7 J8 J9 Ja Jb Jc Jd Je Jf Jg Jh Ji Jj Jk Jl Jm Jn Jo Jp Jq Jr Js Jt Ju Jv Jw Jx Jy Jz Y0 Y1 Y2 Y3 Y4 Y5 Y6 Y7 Y8 Yc Yd Ye Yf Yg Yh Yi Yj Yk Yl Ym Yn Yo Yp Yq Yr Ys Yt Yu Yv Yw Yx Yy Yz Z0 Z1 Z2 hm hi he hf ha hpl hk
  have hlt : ((i : Int) < pts.length) := by omega
  have hw : IntKind.i64.wrap ((i : Int) + 1) = (i : Int) + 1 := wrapN (n := i + 1) (by omega)
  have hil : i < pts.length := by omega
  obtain ⟨id,off,blk,hs,hb,ht,hle⟩ := hf.get hil
  have hin := ha _ (List.getElem_mem hil)
  have hsp : σ.clear (pts.drop i) = (σ.map pts[i].1 pts[i].2 (touch false)).clear (pts.drop (i + 1)) := by
   rw [List.drop_eq_getElem_cons hil]; rfl
  generalize hx : pts[i].1 = x at *
  generalize hy : pts[i].2 = y at *
  have he2 := he.push (some ⟨false,[.int .i64 x,.int .i64 y]⟩)
  have hs2 := Stp.push h (some ⟨false,[.int .i64 x,.int .i64 y]⟩) c ob sv
  have hf2 := hf.stp hs2
  have hK : ∀ y : Blk,blk? (h ++ [some y]) h.length = some y := fun y => blk?_push_eq
  have hq2 := he2.pr.blk
  have htc := fun R => touch_c (R := R) (v := false) he2.pr.cb (x := x) (y := y) hin
  obtain ⟨p4,s4⟩ := he2.map (x := x) (y := y) hin (kv_touch false)
  have hmm : (fun z : Cell => ({ z with t := false } : Cell)) = touch false := rfl
  rw [hmm] at htc
  have hls : (h ++ [some (⟨false,[.int .i64 x,.int .i64 y]⟩ : Blk)]).set c (some ⟨false,encC (σ.b.upd x y (touch false)).cs⟩) = h.set c (some ⟨false,encC (σ.b.upd x y (touch false)).cs⟩) ++ [some ⟨false,[.int .i64 x,.int .i64 y]⟩] :=
   List.set_append_left _ _ he.lts.2.2.1
  rw [ok_round,l126_3,L126_3a,L126_3b]
  rw [hls] at htc p4 s4
  simp [-List.cons_append,-List.append_assoc,hlt,hw,hs,hb,ht,hle,hK,hq2,htc]
  rw [← hs]
  have st4 := hs2.trans s4
  refine ih (i + 1) _ sv _ _ _ _ _ _ _ _ _ _ _ _ _ _ _ _ _ _ _ _ _ _ _ _ _ _ _ _ _ _ _ _ _ _ _ _ _ _ _ _ _ _ _ _ _ _ _ _ _ _ _ _ _ _ _ _ _ _ _ _ _ _ _ _ _ _ _ _ _ _ _ _ _ _ _ _ _ _ _ _ _ _ _ _ _ _ _ _ _ _ _ _ _ _ _ _ _ _ _ _ _ _ _ _ _ _ _ (by omega) (by omega) p4 (hf.stp st4) (ha.le (le_map he.good hin (kv_touch false))) hpl ?_
  intro h' sv' K2 K3 K4 K5 K6 K7 K8 K9 Ka Kb Kc Kd Ke Kf Kg Kh Ki Kj Kk Kl Km Kn Ko Kp Kq Kr Ks Kt Ku Kv Kw Kx Ky Kz J0 J1 J2 J3 J4 J5 J6 J7 J8 J9 Ja Jb Jc Jd Je Jf Jg Jh Ji Jj Jk Jl Jm Jn Jo Jp Jq Jr Js Jt Ju Jv Jw Jx Jy Jz Y0 Y1 Y2 Y3 Y4 Y5 Y6 Y7 Y8 Y9 Ya Yb Yc Yd Ye Yf Yg Yh Yi Yj Yk Yl Ym Yn Yo Yp Yq Yr Ys Yt Yu Yv Yw Yx Yy Yz Z0 Z1 Z2 pe st
  exact hk h' sv' _ _ _ _ _ _ _ _ _ _ _ _ _ _ _ _ _ _ _ _ _ _ _ _ _ _ _ _ _ _ _ _ _ _ _ _ _ _ _ _ _ _ _ _ _ _ _ _ _ _ _ _ _ _ _ _ _ _ _ _ _ _ _ _ _ _ _ _ _ _ _ _ _ _ _ _ _ _ _ _ _ _ _ _ _ _ _ _ _ _ _ _ _ _ _ _ _ _ _ _ _ _ _ _ _ _ _ _ _ (by rw [hsp]; exact pe) (st4.trans st)
end
section
variable {h : Heap} {q p c pb ob : Nat} {P : PP} {sv : Value} {σ : ES} {k : List RItem} {R : Value → Heap → Prop} {v1 : Value}
theorem check_loop {z : Nat} {bits : List Nat} (hbl : bits.length ≤ 4) :
  ∀ (m i : Nat) (h : Heap) (sv : Value) (σ : ES) (K1 K2 K3 K4 K5 K6 K7 K8 K9 Ka Kb Kc Kd Ke Kf Kg Kh Ki Kj Kk Kl Km Kn Ko Kp Kq Kr Ks Kt Ku Kv Kw Kx Ky Kz J0 J1 J2 J3 J4 J5 J6 J7 J8 J9 Ja Jb Jc Jd Je Jf Jg Jh Ji Jj Jk Jl Jm Jn Jo Jp Jq Jr Js Jt Ju Jv Jw Jx Jy Jz Y0 Y1 Y2 Y3 Y4 Y5 Y6 Y7 Y8 Y9 Ya Yb Yc Yd Ye Yf Yg Yh Yi Yj Yk Yl Ym Yn Yo Yp Yt Yu Yv Yw Yx Yy Yz Z0 Z1 Z2 : Value),m = bits.length - i → i ≤ bits.length → PE h q p c pb ob P sv σ →
   blk? h z = some ⟨false,bits.map fun (n : Nat) => .int .i64 n⟩ → (z ≠ c ∧ z ≠ ob ∧ sid sv ≠ some z) → σ.out.length + 10 < 1000000 + i →
   (∀ (h' : Heap) (sv' : Value) (K1 K2 K3 K4 K5 K6 K7 K8 K9 Ka Kb Kc Kd Ke Kf Kg Kh Ki Kj Kk Kl Km Kn Ko Kp Kq Kr Ks Kt Ku Kv Kw Kx Ky Kz J0 J1 J2 J3 J4 J5 J6 J7 J8 J9 Ja Jb Jc Jd Je Jf Jg Jh Ji Jj Jk Jl Jm Jn Jo Jp Jq Jr Js Jt Ju Jv Jw Jx Jy Jz Y0 Y1 Y2 Y3 Y4 Y5 Y6 Y7 Y8 Y9 Ya Yb Yc Yd Ye Yf Yg Yh Yi Yj Yk Yl Ym Yn Yo Yp Yq Yr Ys Yt Yu Yv Yw Yx Yy Yz Z0 Z1 Z2 : Value),PE h' q p c pb ob P sv' (σ.emits P (bits.drop i)) → Stp h h' c ob sv sv' → Ok tab R126 k #[ptr q,K1,K2,K3,K4,K5,K6,K7,K8,K9,Ka,Kb,Kc,Kd,Ke,Kf,Kg,Kh,Ki,Kj,Kk,Kl,Km,Kn,Ko,Kp,Kq,Kr,Ks,Kt,Ku,Kv,Kw,Kx,Ky,Kz,J0,J1,J2,J3,J4,J5,J6,J7,J8,J9,Ja,Jb,Jc,Jd,Je,Jf,Jg,Jh,Ji,Jj,Jk,Jl,Jm,Jn,Jo,Jp,Jq,Jr,Js,Jt,Ju,Jv,Jw,Jx,Jy,Jz,Y0,Y1,Y2,Y3,Y4,Y5,Y6,Y7,Y8,Y9,Ya,Yb,Yc,Yd,Ye,Yf,Yg,Yh,Yi,Yj,Yk,Yl,Ym,Yn,Yo,Yp,Yq,Yr,Ys,Yt,Yu,Yv,Yw,Yx,Yy,Yz,Z0,Z1,Z2] h' R) →
   Ok tab R126 (.inLoop L126_4 :: .inBlock 8 :: k) #[ptr q,K1,K2,K3,K4,K5,K6,K7,K8,K9,Ka,Kb,Kc,Kd,Ke,Kf,Kg,Kh,Ki,Kj,Kk,Kl,Km,Kn,Ko,Kp,Kq,Kr,Ks,Kt,Ku,Kv,Kw,Kx,Ky,Kz,J0,J1,J2,J3,J4,J5,J6,J7,J8,J9,Ja,Jb,Jc,Jd,Je,Jf,Jg,Jh,Ji,Jj,Jk,Jl,Jm,Jn,Jo,Jp,Jq,Jr,Js,Jt,Ju,Jv,Jw,Jx,Jy,Jz,Y0,Y1,Y2,Y3,Y4,Y5,Y6,Y7,Y8,Y9,Ya,Yb,Yc,Yd,Ye,Yf,Yg,Yh,Yi,Yj,Yk,Yl,Ym,Yn,Yo,Yp,.slice (some ⟨z,0,none⟩) bits.length 1,.int .i64 bits.length,.int .i64 i,Yt,Yu,Yv,Yw,Yx,Yy,Yz,Z0,Z1,Z2] h R := by
 intro m
 induction m with
 | zero =>
  intro i h sv σ K1 K2 K3 K4 K5 K6 K7 K8 K9 Ka Kb Kc Kd Ke Kf Kg Kh Ki Kj Kk Kl Km Kn Ko Kp Kq Kr Ks Kt Ku Kv Kw Kx Ky Kz J0 J1 J2 J3 J4 J5 J6 J7 J8 J9 Ja Jb Jc Jd Je Jf Jg Jh Ji Jj Jk Jl Jm Jn Jo Jp Jq Jr Js Jt Ju Jv Jw Jx Jy Jz Y0 Y1 Y2 Y3 Y4 Y5 Y6 Y7 Y8 Y9 Ya Yb Yc Yd Ye Yf Yg Yh Yi Yj Yk Yl Ym Yn Yo Yp Yt Yu Yv Yw Yx Yy Yz Z0 Z1 Z2 hm hi he hz hn hl hk
  have hlt : ¬ ((i : Int) < bits.length) := by omega
  rw [ok_round,l126_4,L126_4a,L126_4b]
  simp [hlt]
  refine hk h sv _ _ _ _ _ _ _ _ _ _ _ _ _ _ _ _ _ _ _ _ _ _ _ _ _ _ _ _ _ _ _ _ _ _ _ _ _ _ _ _ _ _ _ _ _ _ _ _ _ _ _ _ _ _ _ _ _ _ _ _ _ _ _ _ _ _ _ _ _ _ _ _ _ _ _ _ _ _ _ _ _ _ _ _ _ _ _ _ _ _ _ _ _ _ _ _ _ _ _ _ _ _ _ _ _ _ _ _ _ _ ?_ (Stp.refl _ _ _ _)
  rw [List.drop_of_length_le (by omega)]; exact he
 | succ m ih =>
  intro i h sv σ K1 K2 K3 K4 K5 K6 K7 K8 K9 Ka Kb Kc Kd Ke Kf Kg Kh Ki Kj Kk Kl Km Kn Ko Kp Kq Kr Ks Kt Ku Kv Kw Kx Ky Kz J0 J1 J2 J3 J4 J5 J6 J7 J8 J9 Ja Jb Jc Jd Je Jf Jg Jh Ji Jj Jk Jl Jm Jn Jo Jp Jq Jr Js Jt Ju Jv Jw Jx Jy Jz Y0 Y1 Y2 Y3 Y4 Y5 Y6 Y7 Y8 Y9 Ya Yb Yc Yd Ye Yf Yg Yh Yi Yj Yk Yl Ym Yn Yo Yp Yt Yu Yv Yw Yx Yy Yz Z0 Z1 Z2 hm hi he hz hn hl hk
  have hlt : ((i : Int) < bits.length) := by omega
  have hw : IntKind.i64.wrap ((i : Int) + 1) = (i : Int) + 1 := wrapN (n := i + 1) (by omega)
  have hil : i < bits.length := by omega
  have hq := he.pr.blk
  have hsp : σ.emits P (bits.drop i) = (σ.emit P 18 bits[i]).emits P (bits.drop (i + 1)) := by
   rw [List.drop_eq_getElem_cons hil]; rfl
  obtain ⟨sv1,h1,e1,p1,s1⟩ := emit_c he (by omega) 18 bits[i]
  have hz1 : blk? h1 z = some ⟨false,bits.map fun (n : Nat) => .int .i64 n⟩ := by rw [s1.same z (blk?_lt hz) hn.1 hn.2.1 hn.2.2]; exact hz
  have hn1 : z ≠ c ∧ z ≠ ob ∧ sid sv1 ≠ some z := ⟨hn.1,hn.2.1,fun e => by
   rcases s1.fresh z e with h | h
   ·exact hn.2.2 h
   ·have := blk?_lt hz; omega⟩
  rw [ok_round,l126_4,L126_4a,L126_4b]
  simp [hlt,hw,hz,hil,hq,e1]
  refine ih (i + 1) h1 sv1 _ _ _ _ _ _ _ _ _ _ _ _ _ _ _ _ _ _ _ _ _ _ _ _ _ _ _ _ _ _ _ _ _ _ _ _ _ _ _ _ _ _ _ _ _ _ _ _ _ _ _ _ _ _ _ _ _ _ _ _ _ _ _ _ _ _ _ _ _ _ _ _ _ _ _ _ _ _ _ _ _ _ _ _ _ _ _ _ _ _ _ _ _ _ _ _ _ _ _ _ _ _ _ _ _ _ _ _ (by omega) (by omega) p1 hz1 hn1 (by simp [ES.emit]; omega) ?_
  intro h' sv' K1 K2 K3 K4 K5 K6 K7 K8 K9 Ka Kb Kc Kd Ke Kf Kg Kh Ki Kj Kk Kl Km Kn Ko Kp Kq Kr Ks Kt Ku Kv Kw Kx Ky Kz J0 J1 J2 J3 J4 J5 J6 J7 J8 J9 Ja Jb Jc Jd Je Jf Jg Jh Ji Jj Jk Jl Jm Jn Jo Jp Jq Jr Js Jt Ju Jv Jw Jx Jy Jz Y0 Y1 Y2 Y3 Y4 Y5 Y6 Y7 Y8 Y9 Ya Yb Yc Yd Ye Yf Yg Yh Yi Yj Yk Yl Ym Yn Yo Yp Yq Yr Ys Yt Yu Yv Yw Yx Yy Yz Z0 Z1 Z2 pe st
  exact hk h' sv' _ _ _ _ _ _ _ _ _ _ _ _ _ _ _ _ _ _ _ _ _ _ _ _ _ _ _ _ _ _ _ _ _ _ _ _ _ _ _ _ _ _ _ _ _ _ _ _ _ _ _ _ _ _ _ _ _ _ _ _ _ _ _ _ _ _ _ _ _ _ _ _ _ _ _ _ _ _ _ _ _ _ _ _ _ _ _ _ _ _ _ _ _ _ _ _ _ _ _ _ _ _ _ _ _ _ _ _ _ _ (by rw [hsp]; exact pe) (s1.trans st)
theorem cleanup_p (he : PE h q p c pb ob P sv σ) (hl : σ.out.length ≤ 1000) (on : Bool) :
  ∃ sv' h',(∀ R,Ret tab 126 [ptr q,.bool on] h R = R (.tuple #[]) h') ∧ PE h' q p c pb ob P sv' (σ.clean P on) ∧ Stp h h' c ob sv sv' := by
 have key : Ret tab 126 [ptr q,.bool on] h fun v h' => v = .tuple #[] ∧ ∃ sv',PE h' q p c pb ob P sv' (σ.clean P on) ∧ Stp h h' c ob sv sv' := by
  have hsl := scan_len he.pr.cb.ok.w2 he.pr.cb.ok.h2
  have hw2 := he.pr.cb.ok.w2
  have hh2 := he.pr.cb.ok.h2
  have hst : 12 * σ.b.w * stripesOf σ.b.h ≤ 12 * 64 * 16 := Nat.mul_le_mul (by omega) (by unfold stripesOf; omega)
  have g1 : (σ.b.h : Int) ≤ 0 + 4 * (stripesOf σ.b.h : Nat) := by unfold stripesOf; omega
  have g2 : 0 + 4 * ((stripesOf σ.b.h : Nat) : Int) ≤ σ.b.h + 3 := by unfold stripesOf; omega
  have hls := le_stripes (P := P) (n := stripesOf σ.b.h) he.good (top := 0) (by omega) g2
  rw [enter126,show B126 = .seq (nthC 0 B126) (.seq (nthC 1 B126) (tlC 2 B126)) from rfl]
  generalize hT : tlC 2 B126 = tl
  simp only [nthC,tlC,fstC,B126]
  simp
  refine stripes_loop hw2 hh2 (stripesOf σ.b.h) 0 h sv σ _ _ _ _ _ _ _ _ _ _ _ _ _ _ _ _ _ _ _ _ _ _ _ _ _ _ _ _ _ _ _ _ _ _ _ _ _ _ _ _ _ _ _ _ _ _ _ _ _ _ _ _ _ _ _ _ _ _ _ _ _ _ _ _ _ _ _ _ _ _ _ _ _ _ _ _ _ _ _ _ _ _ _ _ _ _ _ _ _ _ _ _ _ _ _ _ _ _ _ _ _ _ _ _ _ _ _ _ g1 g2 (by omega) rfl rfl he (by omega) ?_
  intro h1 sv1 K2 K3 K4 K5 K6 K7 K8 K9 Ka Kb Kc Kd Ke Kf Kg Kh Ki Kj Kk Kl Km Kn Ko Kp Kq Kr Ks Kt Ku Kv Kw Kx Ky Kz J0 J1 J2 J3 J4 J5 J6 J7 J8 J9 Ja Jb Jc Jd Je Jf Jg Jh Ji Jj Jk Jl Jm Jn Jo Jp Jq Jr Js Jt Ju Jv Jw Jx Jy Jz Y0 Y1 Y2 Y3 Y4 Y5 Y6 Y7 Y8 Y9 Ya Yb Yc Yd Ye Yf Yg Yh Yi Yj Yk Yl Ym Yn Yo Yp Yq Yr Ys Yt Yu Yv Yw Yx Yy Yz Z0 Z1 Z2 p1 s1
  obtain ⟨s,h2,e2,p2,s2,f2⟩ := p1.scan
  obtain ⟨a,cc,hs⟩ := f2.sl.shape
  have hq1 := p1.pr.blk
  rw [hls.w,hls.h] at e2 f2 hs hq1
  simp [hq1,e2,hs]
  rw [← hs]
  have hall : AllIn (σ.stripes P 0 (stripesOf σ.b.h)).b (scan σ.b.w σ.b.h) := by have := scanIn (σ.stripes P 0 (stripesOf σ.b.h)).b; rwa [hls.w,hls.h] at this
  refine clear_loop _ 0 h2 sv1 _ _ _ _ _ _ _ _ _ _ _ _ _ _ _ _ _ _ _ _ _ _ _ _ _ _ _ _ _ _ _ _ _ _ _ _ _ _ _ _ _ _ _ _ _ _ _ _ _ _ _ _ _ _ _ _ _ _ _ _ _ _ _ _ _ _ _ _ _ _ _ _ _ _ _ _ _ _ _ _ _ _ _ _ _ _ _ _ _ _ _ _ _ _ _ _ _ _ _ _ _ _ _ _ _ _ _ rfl (by omega) p2 f2 hall (by omega) ?_
  intro h3 sv3 K2 K3 K4 K5 K6 K7 K8 K9 Ka Kb Kc Kd Ke Kf Kg Kh Ki Kj Kk Kl Km Kn Ko Kp Kq Kr Ks Kt Ku Kv Kw Kx Ky Kz J0 J1 J2 J3 J4 J5 J6 J7 J8 J9 Ja Jb Jc Jd Je Jf Jg Jh Ji Jj Jk Jl Jm Jn Jo Jp Jq Jr Js Jt Ju Jv Jw Jx Jy Jz Y0 Y1 Y2 Y3 Y4 Y5 Y6 Y7 Y8 Y9 Ya Yb Yc Yd Ye Yf Yg Yh Yi Yj Yk Yl Ym Yn Yo Yp Yq Yr Ys Yt Yu Yv Yw Yx Yy Yz Z0 Z1 Z2 p3 s3
  rw [List.drop_zero] at p3
  have hcl := le_clear hls.good hall
  rw [← hT]
  simp only [tlC,B126]
  cases on
  ·simp [fin126]
   exact ⟨sv3,p3,(s1.trans s2).trans s3⟩
  ·have p4 := p3.push (some ⟨false,[.int .i64 1,.int .i64 0,.int .i64 1,.int .i64 0]⟩)
   have s4 := Stp.push h3 (some ⟨false,[.int .i64 1,.int .i64 0,.int .i64 1,.int .i64 0]⟩) c ob sv3
   obtain ⟨l1,l2,l3,l4,l5⟩ := p3.lts
   simp [repL]
   refine check_loop (z := h3.length) (bits := [1,0,1,0]) (by simp) 4 0 _ sv3 _ _ _ _ _ _ _ _ _ _ _ _ _ _ _ _ _ _ _ _ _ _ _ _ _ _ _ _ _ _ _ _ _ _ _ _ _ _ _ _ _ _ _ _ _ _ _ _ _ _ _ _ _ _ _ _ _ _ _ _ _ _ _ _ _ _ _ _ _ _ _ _ _ _ _ _ _ _ _ _ _ _ _ _ _ _ _ _ _ _ _ _ _ _ _ _ _ _ _ _ _ _ _ _ _ _ _ _ (by simp) (by simp) p4 ?_ ⟨by omega,by omega,fun e => by have := p3.own.lt e; omega⟩ (by have := hls.len; have := hcl.len; omega) ?_
   ·simpa using blk?_push_eq (h := h3) (x := some (⟨false,[.int .i64 1,.int .i64 0,.int .i64 1,.int .i64 0]⟩ : Blk))
   ·intro h5 sv5 K1 K2 K3 K4 K5 K6 K7 K8 K9 Ka Kb Kc Kd Ke Kf Kg Kh Ki Kj Kk Kl Km Kn Ko Kp Kq Kr Ks Kt Ku Kv Kw Kx Ky Kz J0 J1 J2 J3 J4 J5 J6 J7 J8 J9 Ja Jb Jc Jd Je Jf Jg Jh Ji Jj Jk Jl Jm Jn Jo Jp Jq Jr Js Jt Ju Jv Jw Jx Jy Jz Y0 Y1 Y2 Y3 Y4 Y5 Y6 Y7 Y8 Y9 Ya Yb Yc Yd Ye Yf Yg Yh Yi Yj Yk Yl Ym Yn Yo Yp Yq Yr Ys Yt Yu Yv Yw Yx Yy Yz Z0 Z1 Z2 p5 s5
    simp [fin126]
    exact ⟨sv5,by rw [clean_eq P σ true rfl]; exact p5,(((s1.trans s2).trans s3).trans s4).trans s5⟩
 obtain ⟨v,h',e,rfl,sv',pe,st⟩ := ret_ex key
 exact ⟨sv',h',e,pe,st⟩
end
section
variable {h : Heap} {R : Value → Heap → Prop}
theorem pass_c {n : Nat} (hn : n < 100000) : Ret tab 62 [.int .i64 n] h R = R (.tuple #[.int .i64 (planeOf n),.int .i64 (kindOf n)]) h := by
 have h1 : ¬ ((n : Int) < 0) := by omega
 rw [enter62,B62]
 by_cases h0 : n = 0
 ·subst h0; simp [fin62,planeOf,kindOf]
 ·have hn0 : ((n : Int) == 0) = false := by simp [h0]
  have e1 : IntKind.i64.wrap ((n : Int) - 1) = ((n - 1 : Nat) : Int) := by rw [wrapI (by omega) (by omega)]; omega
  have e2 : ((n - 1 : Nat) : Int).tdiv 3 = (((n - 1) / 3 : Nat) : Int) := rfl
  have e3 : ((n - 1 : Nat) : Int).tmod 3 = (((n - 1) % 3 : Nat) : Int) := rfl
  have e4 : IntKind.i64.wrap ((((n - 1) / 3 : Nat) : Int)) = (((n - 1) / 3 : Nat) : Int) := wrapN (by omega)
  have e5 : IntKind.i64.wrap ((((n - 1) / 3 : Nat) : Int) + 1) = (((n - 1) / 3 + 1 : Nat) : Int) := wrapN (n := (n - 1) / 3 + 1) (by omega)
  have hp : planeOf n = (n - 1) / 3 + 1 := by unfold planeOf; rw [if_neg h0]
  have hk : kindOf n = (n - 1) % 3 := by unfold kindOf; rw [if_neg h0]
  rw [hp,hk]
  generalize hm : n - 1 = m at *
  generalize hd : m / 3 = d at *
  generalize hr : m % 3 = r at *
  simp [-Int.natCast_add,h1,hn0,e1,e2,e3,e4,e5,fin62]
theorem raw_c {n : Nat} (hn : n < 100000) (m : MD) : Ret tab 39 [.int .i64 n,m.val] h R = R (.bool (rawOf m n)) h := by
 have hK : ∀ y : Blk,blk? (frz h ++ [some y]) h.length = some y := fun y => by
  have := blk?_push_eq (h := frz h) (x := some y)
  rwa [len_frz] at this
 have hp := fun h R => pass_c (h := h) (R := R) hn
 have hk : kindOf n = 0 ∨ kindOf n = 1 ∨ kindOf n = 2 := by unfold kindOf; split <;> omega
 have h4 : decide ((4 : Int) ≤ (planeOf n : Int)) = decide (4 ≤ planeOf n) := by congr 1; exact propext (by omega)
 rw [enter39,B39]
 obtain ⟨b1,b2,b3,b4,b5⟩ := m
 rcases hk with hk | hk | hk
 ·cases b1 <;> simp [k_guard,MD.val,hp,hk,hK,h4,fin39,rawOf]
 ·cases b1 <;> simp [k_guard,MD.val,hp,hk,hK,h4,fin39,rawOf]
 ·simp [k_guard,MD.val,hp,hk,hK,fin39,rawOf]
end
structure RunRes (h h' : Heap) (p c : Nat) (sv : Value) (σ : ES) : Prop where
 cb : CB h' false p c σ.b
 good : σ.b.Good
 own : OwnS h' 2 sv σ.out.length (encS σ.out)
 fresh : ∀ id,sid sv = some id → h.length ≤ id
 same : ∀ id,id < h.length → id ≠ c → blk? h' id = blk? h id
 len : h.length ≤ h'.length
section
variable {h : Heap} {p c : Nat} {b : BS}
theorem RunRes.nothing {h h' : Heap} (hb : CB h false p c b) (hr : b.Rng) (hk : ∀ id,id < h.length → blk? h' id = blk? h id) (hl : h.length ≤ h'.length) : RunRes h h' p c (.slice none 0 0) ⟨b,[]⟩ :=
 ⟨⟨by rw [hk _ (blk?_lt hb.blkp)]; exact hb.blkp,by rw [hk _ (blk?_lt hb.blkc)]; exact hb.blkc,hb.ok⟩,⟨hb.ok,hr⟩,OwnS.nil _ _,fun id h => by simp [sid] at h,fun id h1 _ => hk id h1,hl⟩
theorem runErr_lo {n planes o : Int} (h : planes < 1 ∨ 60 < planes ∨ n < 0 ∨ 3 * planes - 3 < n) : runErr n planes o = 2 := by unfold runErr; rw [if_pos h]
theorem run_c (hb : CB h false p c b) (hr : b.Rng) (n planes o : Int) (m : MD) :
  ∃ sv h',(∀ R,Ret tab 80 [ptr p,.int .i64 n,.int .i64 planes,.int .i64 o,m.val] h R = R (.tuple #[sv,.int .i64 (runErr n planes o)]) h') ∧ RunRes h h' p c sv (runOut m b n planes o) := by
 have key : Ret tab 80 [ptr p,.int .i64 n,.int .i64 planes,.int .i64 o,m.val] h fun v h' => ∃ sv,v = .tuple #[sv,.int .i64 (runErr n planes o)] ∧ RunRes h h' p c sv (runOut m b n planes o) := by
  have hb1 : CB (h ++ [some ⟨false,[.bool m.byp,.bool m.res,.bool m.rst,.bool m.cz,.bool m.sy]⟩]) false p c b := ⟨blk?_push hb.blkp,blk?_push hb.blkc,hb.ok⟩
  have hsz := fun R => size_c (R := R) hb1
  have hw0 := hb.ok.w1
  have hw0' : ((b.w : Int) == 0) = false := by simp; omega
  have hnone : runErr n planes o ≠ 0 → ∀ h',(∀ id,id < h.length → blk? h' id = blk? h id) → h.length ≤ h'.length → RunRes h h' p c (.slice none 0 0) (runOut m b n planes o) := by
   intro he h' hk hl
   unfold runOut
   rw [if_neg he]
   exact RunRes.nothing hb hr hk hl
  have hkp : ∀ x : Option Blk,∀ id,id < h.length → blk? (h ++ [x]) id = blk? h id := fun x id hid => blk?_push_lt hid
  rw [enter80,show B80 = .seq (nthC 0 B80) (.seq (nthC 1 B80) (.seq (nthC 2 B80) (.seq (nthC 3 B80) (.seq (nthC 4 B80) (tlC 5 B80))))) from rfl]
  generalize hT : tlC 5 B80 = tl
  simp only [nthC,tlC,fstC,B80]
  obtain ⟨byp,res,rst,cz,sy⟩ := m
  simp only [MD.val] at *
  by_cases h1 : planes < 1
  ·have he := runErr_lo (n := n) (o := o) (.inl h1 : planes < 1 ∨ 60 < planes ∨ n < 0 ∨ 3 * planes - 3 < n)
   simp [k_guard,k_guardU,hsz,hw0',h1,fin80]
   exact ⟨_,⟨rfl,he.symm⟩,hnone (by rw [he]; decide) _ (hkp _) (by simp)⟩
  by_cases h2 : 60 < planes
  ·have he := runErr_lo (n := n) (o := o) (.inr (.inl h2) : planes < 1 ∨ 60 < planes ∨ n < 0 ∨ 3 * planes - 3 < n)
   simp [k_guard,k_guardU,hsz,hw0',h1,h2,fin80]
   exact ⟨_,⟨rfl,he.symm⟩,hnone (by rw [he]; decide) _ (hkp _) (by simp)⟩
  by_cases h3 : n < 0
  ·have he := runErr_lo (n := n) (o := o) (.inr (.inr (.inl h3)) : planes < 1 ∨ 60 < planes ∨ n < 0 ∨ 3 * planes - 3 < n)
   simp [k_guard,k_guardU,hsz,hw0',h1,h2,h3,fin80]
   exact ⟨_,⟨rfl,he.symm⟩,hnone (by rw [he]; decide) _ (hkp _) (by simp)⟩
  have hm1 : IntKind.i64.wrap (3 * planes) = 3 * planes := wrapI (by omega) (by omega)
  have hm2 : IntKind.i64.wrap (3 * planes - 3) = 3 * planes - 3 := wrapI (by omega) (by omega)
  by_cases h4 : 3 * planes - 3 < n
  ·have he := runErr_lo (n := n) (o := o) (.inr (.inr (.inr h4)) : planes < 1 ∨ 60 < planes ∨ n < 0 ∨ 3 * planes - 3 < n)
   simp [k_guard,k_guardU,hsz,hw0',h1,h2,h3,hm1,hm2,h4,fin80]
   exact ⟨_,⟨rfl,he.symm⟩,hnone (by rw [he]; decide) _ (hkp _) (by simp)⟩
  by_cases h5 : o < 0
  ·have he : runErr n planes o = 3 := by unfold runErr; rw [if_neg (by omega),if_pos (.inl h5)]
   simp [k_guard,k_guardU,hsz,hw0',h1,h2,h3,hm1,hm2,h4,h5,fin80]
   exact ⟨_,⟨rfl,he.symm⟩,hnone (by rw [he]; decide) _ (hkp _) (by simp)⟩
  by_cases h6 : 3 < o
  ·have he : runErr n planes o = 3 := by unfold runErr; rw [if_neg (by omega),if_pos (.inr h6)]
   simp [k_guard,k_guardU,hsz,hw0',h1,h2,h3,hm1,hm2,h4,h5,h6,fin80]
   exact ⟨_,⟨rfl,he.symm⟩,hnone (by rw [he]; decide) _ (hkp _) (by simp)⟩
  simp [k_guard,k_guardU,hsz,hw0',h1,h2,h3,hm1,hm2,h4,h5,h6,fin80]
  have he : runErr n planes o = 0 := by unfold runErr; rw [if_neg (by omega),if_neg (by omega)]
  rw [he]
  unfold runOut
  rw [if_pos he]
  obtain ⟨n,rfl⟩ := Int.eq_ofNat_of_zero_le (show 0 ≤ n by omega)
  obtain ⟨planes,rfl⟩ := Int.eq_ofNat_of_zero_le (show 0 ≤ planes by omega)
  obtain ⟨o,rfl⟩ := Int.eq_ofNat_of_zero_le (show 0 ≤ o by omega)
  have hp := fun h R => pass_c (h := h) (R := R) (n := n) (by omega)
  have hrw := fun h R => raw_c (h := h) (R := R) (n := n) (by omega) ⟨byp,res,rst,cz,sy⟩
  have hpl := planeOf_le (n := n) (planes := planes) (by omega) (by omega)
  have e1 : IntKind.i64.wrap ((planes : Int) - 1) = ((planes - 1 : Nat) : Int) := by rw [wrapI (by omega) (by omega)]; omega
  have e2 : IntKind.i64.wrap (((planes - 1 : Nat) : Int) - (planeOf n : Int)) = ((planes - 1 - planeOf n : Nat) : Int) := by rw [wrapI (by omega) (by omega)]; omega
  rw [← hT,show tlC 5 B80 = .seq (nthC 5 B80) (.seq (nthC 6 B80) (.seq (nthC 7 B80) (.seq (nthC 8 B80) (tlC 9 B80)))) from rfl]
  generalize hT2 : tlC 9 B80 = tl2
  simp only [nthC,tlC,fstC,B80]
  simp only [MD.val] at hrw
  have hlp := blk?_lt hb.blkp
  have hlc := blk?_lt hb.blkc
  have hblk := hb.blkp
  simp [hp,hrw,e1,e2,app_len,app_add,app_zero,app_succ,app_set,app_setk,book,logOf,addLog,chk1,lookL,reload]
  generalize hP : runPP ⟨byp,res,rst,cz,sy⟩ n planes o = P
  have hPs : P.s = planes - 1 - planeOf n := by rw [← hP]; rfl
  have hPo : P.o = o := by rw [← hP]; rfl
  have hPc : P.cz = cz := by rw [← hP]; rfl
  have hPr : P.rw = rawOf ⟨byp,res,rst,cz,sy⟩ n := by rw [← hP]; rfl
  have hrs : runSt ⟨byp,res,rst,cz,sy⟩ b n planes o = if kindOf n = 0 then ES.sigs P ⟨b,[]⟩ (scan b.w b.h) else if kindOf n = 1 then ES.refs P ⟨b,[]⟩ (scan b.w b.h) else ES.clean P ⟨b,[]⟩ sy := by
   unfold runSt; rw [hP]
  rw [hrs]
  rw [← hPr,← hPs,← hPo,← hPc]
  generalize hH : h ++ [some (⟨false,[.bool byp,.bool res,.bool rst,.bool P.cz,.bool sy]⟩ : Blk),some ⟨false,[.slice none 0 0]⟩,
   some ⟨false,[ptr p,.int .i64 b.w,.int .i64 b.h,.int .i64 P.s,.int .i64 P.o,.bool P.cz,.bool P.rw,.func (.func 123) #[] #[ptr (h.length + 3),ptr (h.length + 1)]]⟩,some ⟨false,[ptr (h.length + 2)]⟩] = H
  have hlow : ∀ id,id < h.length → blk? H id = blk? h id := fun id hid => by rw [← hH]; exact app_lt hid
  have hHl : H.length = h.length + 4 := by rw [← hH]; simp
  have hm0 : blk? H h.length = some ⟨false,[.bool byp,.bool res,.bool rst,.bool P.cz,.bool sy]⟩ := by rw [← hH,app_len]; rfl
  have he : PE H (h.length + 2) p c (h.length + 3) (h.length + 1) P (.slice none 0 0) ⟨b,[]⟩ := by
   refine ⟨⟨by rw [← hH,app_add]; rfl,⟨by rw [hlow _ hlp]; exact hb.blkp,by rw [hlow _ hlc]; exact hb.blkc,hb.ok⟩,by simp; omega,⟨by rw [hPs]; omega,by rw [hPo]; omega⟩,hr⟩,by rw [← hH,app_add]; rfl,by rw [← hH,app_add]; rfl,OwnS.nil _ _,?_,?_,?_⟩
   ·have := hb.ne; omega
   ·omega
   ·simp [sid]
  have hq := he.pr.blk
  have hob := he.obk
  have hpb := he.pbk
  have fin : ∀ (σ : ES) (sv' : Value) (H' : Heap),PE H' (h.length + 2) p c (h.length + 3) (h.length + 1) P sv' σ → Stp H H' c (h.length + 1) (.slice none 0 0) sv' → RunRes h H' p c sv' σ := by
   intro σ sv' H' pe st
   refine ⟨pe.pr.cb,pe.good,pe.own,fun id hid => ?_,fun id hid hc => ?_,by have := st.len; omega⟩
   ·rcases st.fresh id hid with h | h
    ·simp [sid] at h
    ·omega
   ·rw [st.same id (by omega) hc (by omega) (by simp [sid]),hlow id hid]
  rw [← hT2]
  simp only [tlC,B80]
  have hk : kindOf n = 0 ∨ kindOf n = 1 ∨ kindOf n = 2 := by unfold kindOf; split <;> omega
  rcases hk with hk | hk | hk
  ·obtain ⟨sv',H',e,pe,st⟩ := significance_p he (by simp)
   have hob' := pe.obk
   simp [hk,hpb,e,hob',fin80]
   exact fin _ _ _ pe st
  ·obtain ⟨sv',H',e,pe,st⟩ := refinement_p he (by simp)
   have hob' := pe.obk
   simp [hk,hpb,e,hob',fin80]
   exact fin _ _ _ pe st
  ·obtain ⟨sv',H',e,pe,st⟩ := cleanup_p he (by simp) sy
   have hob' := pe.obk
   simp [hk,hpb,hm0,e,hob',fin80]
   exact fin _ _ _ pe st
 obtain ⟨v,h',e,sv,rfl,rs⟩ := ret_ex key
 exact ⟨sv,h',e,rs⟩
end
theorem own_below {h : Heap} {esz n : Nat} {s : Value} {cs : List Value} (ho : OwnS h esz s n cs) {N : Nat} (hl : h.length ≤ N) : below N s = true := by
 rcases ho.2 with ⟨rfl,_⟩ | ⟨id,rfl,hb⟩
 ·simp
 ·have := blk?_lt hb; simp; omega
section
variable {h : Heap} {R : Value → Heap → Prop}
end
theorem Sl_of_cells {h h' : Heap} {esz n : Nat} {s : Value} {cs : List Value} (hs : Sl h esz s n cs) (hk : ∀ id b,sid s = some id → blk? h id = some b → ∃ b',blk? h' id = some b' ∧ b'.cells = b.cells) : Sl h' esz s n cs := by
 obtain ⟨hl,hs⟩ := hs
 refine ⟨hl,?_⟩
 rcases hs with hs | ⟨id,off,rfl,h0 | ⟨b,hb,hle,hc⟩⟩
 ·exact .inl hs
 ·exact .inr ⟨id,off,rfl,.inl h0⟩
 ·obtain ⟨b',h1,h2⟩ := hk id b rfl hb
  exact .inr ⟨id,off,rfl,.inr ⟨b',h1,by rw [h2]; exact hle,by rw [h2]; exact hc⟩⟩
def i64s (xs : List Int) : List Value := xs.map fun v => .int .i64 v
structure Ints (h : Heap) (s : Value) (xs : List Int) : Prop where
 sl : Sl h 1 s xs.length (i64s xs)
 sb : below h.length s = true
 bl : ∀ id b,sid s = some id → blk? h id = some b → ∀ n,belowL n b.cells = true
 rng : ∀ v ∈ xs,-9223372036854775808 ≤ v ∧ v < 9223372036854775808
theorem Ints.frz {h : Heap} {s : Value} {xs : List Int} (hi : Ints h s xs) : Ints (frz h) s xs := by
 refine ⟨Sl_of_cells hi.sl fun id b hid hb => ⟨_,blk_frz hb (hi.bl id b hid hb _),rfl⟩,by rw [len_frz]; exact hi.sb,fun id b hid hb => ?_,hi.rng⟩
 obtain ⟨b0,h0,rfl,_⟩ := frz_some hb
 exact hi.bl id b0 hid h0
theorem below_sid {h h' : Heap} {s : Value} (hl : h.length ≤ h'.length) {a : Option Addr} {n c : Nat} (hs : s = .slice a n c) (hb : below h.length s = true) : below h'.length s = true := by
 subst hs
 cases a with
 | none => simp
 | some a => simp at hb ⊢; omega
theorem Ints.keep {h h' : Heap} {s : Value} {xs : List Int} (hi : Ints h s xs) (hl : h.length ≤ h'.length) (hk : ∀ id,id < h.length → sid s = some id → blk? h' id = blk? h id) : Ints h' s xs := by
 obtain ⟨a,c,hs⟩ := hi.sl.shape
 have hlt : ∀ id,sid s = some id → id < h.length := by
  intro id hid
  have := hi.sb
  rw [hs] at this hid
  cases a with
  | none => simp [sid] at hid
  | some a => simp [sid] at hid; simp at this; omega
 refine ⟨hi.sl.of_sid fun id b hid hb => by rw [hk id (blk?_lt hb) hid]; exact hb,below_sid hl hs hi.sb,fun id b hid hb => ?_,hi.rng⟩
 rw [hk id (hlt id hid) hid] at hb
 exact hi.bl id b hid hb
theorem Ints.get {h : Heap} {s : Value} {xs : List Int} (hi : Ints h s xs) {i : Nat} (hil : i < xs.length) :
  ∃ id off b,s = .slice (some ⟨id,off,none⟩) xs.length 1 ∧ blk? h id = some b ∧ b.cells[off + i]? = some (.int .i64 xs[i]) := by
 obtain ⟨id,off,b,hs,hb,hc⟩ := hi.sl.get hil
 refine ⟨id,off,b,hs,hb,?_⟩
 have := hc 0 (by omega)
 simp only [Nat.mul_one,Nat.add_zero] at this
 rw [this]
 simp [i64s,hil]
section
variable {h : Heap} {R : Value → Heap → Prop}
theorem cnt_loop {k : List RItem} {v0 v2 : Value} (m : Nat)
  (hk : ∀ K1 K3 K4 K5 K7 K8 K9 Ka Kb Kc Kd Ke Kf Kg Kh Ki Kj Kk Kl Km Kn Ko : Value,Ok tab R37 k #[v0,K1,v2,K3,K4,K5,.int .i64 m,K7,K8,K9,Ka,Kb,Kc,Kd,Ke,Kf,Kg,Kh,Ki,Kj,Kk,Kl,Km,Kn,Ko] h R) :
  ∀ (n a c : Nat) (K1 K4 K5 K7 K8 K9 Ka Kb Kc Kd Ke Kf Kg Kh Ki Kj Kk Kl Km Kn Ko : Value),n = a → c + blen a = m → m ≤ 64 → a < 18446744073709551616 →
   Ok tab R37 (.inLoop L37_1 :: .inBlock 2 :: k) #[v0,K1,v2,.int .u64 a,K4,K5,.int .i64 c,K7,K8,K9,Ka,Kb,Kc,Kd,Ke,Kf,Kg,Kh,Ki,Kj,Kk,Kl,Km,Kn,Ko] h R := by
 intro n
 induction n using Nat.strongRecOn with
 | _ n ih =>
  intro a c K1 K4 K5 K7 K8 K9 Ka Kb Kc Kd Ke Kf Kg Kh Ki Kj Kk Kl Km Kn Ko hn hc hm ha
  rw [ok_round,l37_1,L37_1a,L37_1b]
  by_cases h0 : a = 0
  ·subst h0
   simp [blen] at hc
   subst hc
   simp
   exact hk ..
  ·have hlt : (0 : Int) < a := by omega
   have hb := blen_half h0
   have hsh : shrI .u64 (a : Int) 1 = ((a / 2 : Nat) : Int) := by
    have := shrN (i := .u64) (a := a) (b := 1) (by decide)
    simpa using this
   have hw : IntKind.i64.wrap ((c : Int) + 1) = ((c + 1 : Nat) : Int) := wrapN (n := c + 1) (by omega)
   have ih' := ih (a / 2) (by omega) (a / 2) (c + 1)
   generalize hq : ((c + 1 : Nat) : Int) = q at *
   generalize hq2 : ((a / 2 : Nat) : Int) = q2 at *
   simp [show 0 < a by omega,hsh,hw]
   exact ih' _ _ _ _ _ _ _ _ _ _ _ _ _ _ _ _ _ _ _ _ _ rfl (by omega) hm (by omega)
theorem or_loop {k : List RItem} {s v0 v2 : Value} {xs : List Int} (hi : Ints h s xs)
  (hk : ∀ (a : Nat) (K1 K4 K5 K6 K7 K8 K9 Ka Kb Kc Kd Ke Kf Kg Kh Ki Kj Kk Kl Km Kn Ko : Value),blen a = planesOf xs → a < 18446744073709551616 → Ok tab R37 k #[v0,K1,v2,.int .u64 a,K4,K5,K6,K7,K8,K9,Ka,Kb,Kc,Kd,Ke,Kf,Kg,Kh,Ki,Kj,Kk,Kl,Km,Kn,Ko] h R) :
  ∀ (n i a : Nat) (K1 K4 K5 K6 Ka Kb Kc Kd Ke Kf Kg Kh Ki Kj Kk Kl Km Kn Ko : Value),n = xs.length - i → i ≤ xs.length → blen a = planesOf (xs.take i) → a < 18446744073709551616 → xs.length < 9000000000 →
   Ok tab R37 (.inLoop L37_0 :: .inBlock 0 :: k) #[v0,K1,v2,.int .u64 a,K4,K5,K6,s,.int .i64 xs.length,.int .i64 i,Ka,Kb,Kc,Kd,Ke,Kf,Kg,Kh,Ki,Kj,Kk,Kl,Km,Kn,Ko] h R := by
 intro n
 induction n with
 | zero =>
  intro i a K1 K4 K5 K6 Ka Kb Kc Kd Ke Kf Kg Kh Ki Kj Kk Kl Km Kn Ko hn hi' hb ha hl
  have hlt : ¬ ((i : Int) < xs.length) := by omega
  rw [ok_round,l37_0,L37_0a,L37_0b]
  simp [hlt]
  exact hk a _ _ _ _ _ _ _ _ _ _ _ _ _ _ _ _ _ _ _ _ _ _ (by rw [hb,List.take_of_length_le (by omega)]) ha
 | succ n ih =>
  intro i a K1 K4 K5 K6 Ka Kb Kc Kd Ke Kf Kg Kh Ki Kj Kk Kl Km Kn Ko hn hi' hb ha hl
  have hlt : ((i : Int) < xs.length) := by omega
  have hil : i < xs.length := by omega
  have hw : IntKind.i64.wrap ((i : Int) + 1) = ((i + 1 : Nat) : Int) := wrapN (n := i + 1) (by omega)
  obtain ⟨id,off,b,hs,hbk,hc⟩ := hi.get hil
  obtain ⟨r1,r2⟩ := hi.rng xs[i] (List.getElem_mem hil)
  have hm := fun R => magnitude_c (h := h) (R := R) r1 r2
  have ho : orI .u64 (a : Int) (xs[i].natAbs : Int) = ((a ||| xs[i].natAbs : Nat) : Int) := u64_or_nat a xs[i].natAbs ha (by omega)
  have hlt64 : a ||| xs[i].natAbs < 2 ^ 64 := Nat.or_lt_two_pow ha (by omega)
  have hb' : blen (a ||| xs[i].natAbs) = planesOf (xs.take (i + 1)) := by
   rw [blen_or,hb,List.take_succ_eq_append_getElem hil,planesOf,planesOf,List.foldl_append]; rfl
  have ih' := ih (i + 1) (a ||| xs[i].natAbs)
  rw [ok_round,l37_0,L37_0a,L37_0b]
  generalize hq : ((i + 1 : Nat) : Int) = q at *
  generalize hq2 : ((a ||| xs[i].natAbs : Nat) : Int) = q2 at *
  simp [hlt,hs,hbk,hc,hm,ho,hw]
  rw [← hs]
  exact ih' _ _ _ _ _ _ _ _ _ _ _ _ _ _ _ _ _ _ _ (by omega) (by omega) hb' hlt64 hl
theorem planes_64 {h : Heap} {s : Value} {xs : List Int} (hi : Ints h s xs) : planesOf xs ≤ 64 := by
 rw [planes_le]
 intro v hv
 have := hi.rng v hv
 omega
theorem planes_c {s : Value} {xs : List Int} (hi : Ints h s xs) (hl : xs.length < 9000000000) : Ret tab 37 [s] h R = R (.int .i64 (planesOf xs)) h := by
 obtain ⟨a,cc,hs⟩ := hi.sl.shape
 have key : Ret tab 37 [s] h fun v h' => v = .int .i64 (planesOf xs) ∧ h' = h := by
  rw [enter37,B37]
  refine ⟨by simp [hi.sb],?_⟩
  simp [hs]
  rw [← hs]
  refine or_loop hi.frz ?_ _ 0 0 _ _ _ _ _ _ _ _ _ _ _ _ _ _ _ _ _ _ _ rfl (by omega) (by simp [planesOf,blen]) (by omega) hl
  intro a K1 K4 K5 K6 K7 K8 K9 Ka Kb Kc Kd Ke Kf Kg Kh Ki Kj Kk Kl Km Kn Ko hb ha
  simp
  refine cnt_loop (planesOf xs) ?_ a a 0 _ _ _ _ _ _ _ _ _ _ _ _ _ _ _ _ _ _ _ _ _ rfl (by omega) (planes_64 hi) ha
  intro K1 K3 K4 K5 K7 K8 K9 Ka Kb Kc Kd Ke Kf Kg Kh Ki Kj Kk Kl Km Kn Ko
  simp [fin37]
 obtain ⟨v,h',e,rfl,rfl⟩ := ret_ex key
 exact e R
end
theorem repL_blank : ∀ n,repL [.int .i64 0,.bool false,.bool false,.bool false] n = encC (blank n)
 | 0 => rfl
 | n + 1 => by rw [repL,repL_blank n,blank,blank,List.replicate_succ,encC]; rfl
section
variable {h : Heap} {R : Value → Heap → Prop}
theorem sized_ci {w hh : Int} : Ret tab 105 [.int .i64 w,.int .i64 hh] h R = R (.bool (sized w hh)) h := by
 rw [enter105,B105]
 by_cases a1 : 1 ≤ w
 ·by_cases a2 : w ≤ 64
  ·by_cases a3 : 1 ≤ hh
   ·by_cases a4 : hh ≤ 64 <;> simp [k_guard,a1,a2,a3,a4,fin105,sized]
   ·simp [k_guard,a1,a2,a3,fin105,sized]
  ·simp [k_guard,a1,a2,fin105,sized]
 ·simp [k_guard,a1,fin105,sized]
def newHeap (h : Heap) (w hh : Nat) : Heap := h ++ [some ⟨false,encC (blank (w * hh))⟩,some ⟨false,[.int .i64 w,.int .i64 hh,.slice (some ⟨h.length,0,none⟩) (w * hh) 4]⟩]
theorem newHeap_cb (h : Heap) {w hh : Nat} (w1 : 1 ≤ w) (w2 : w ≤ 64) (h1 : 1 ≤ hh) (h2 : hh ≤ 64) : CB (newHeap h w hh) false (h.length + 1) h.length (newBS w hh) :=
 ⟨by unfold newHeap; rw [app_add]; rfl,by unfold newHeap; rw [app_len]; rfl,(newBS_good w1 w2 h1 h2).ok⟩
theorem newHeap_low (h : Heap) (w hh : Nat) : ∀ id,id < h.length → blk? (newHeap h w hh) id = blk? h id := fun id hid => app_lt hid
theorem newHeap_len (h : Heap) (w hh : Nat) : (newHeap h w hh).length = h.length + 2 := by simp [newHeap]
theorem new_c {w hh : Nat} (w1 : 1 ≤ w) (w2 : w ≤ 64) (h1 : 1 ≤ hh) (h2 : hh ≤ 64) : Ret tab 55 [.int .i64 w,.int .i64 hh] h R = R (.tuple #[ptr (h.length + 1),.int .i64 0]) (newHeap h w hh) := by
 have hm : w * hh ≤ 64 * 64 := Nat.mul_le_mul w2 h2
 have hs := fun R => sized_c (h := h) (R := R) w1 w2 h1 h2
 have hw : IntKind.i64.wrap ((w : Int) * hh) = ((w * hh : Nat) : Int) := by rw [← Int.natCast_mul]; exact wrapN (by omega)
 have hr : ((w * hh : Nat) : Int) ≤ (roomCells : Int) := by unfold roomCells; omega
 rw [enter55,B55]
 simp [-Int.natCast_mul,hs,hw,hr,repL_blank,fin55,newHeap]
theorem new_bad {w hh : Int} (hs : sized w hh = false) : Ret tab 55 [.int .i64 w,.int .i64 hh] h R = R (.tuple #[.pointer none,.int .i64 2]) h := by
 rw [enter55,B55]
 simp [sized_ci,hs,fin55]
end
section
variable {h : Heap} {R : Value → Heap → Prop}
end
structure Syms (h : Heap) (s : Value) (l : List (Int × Nat)) : Prop where
 sl : Sl h 2 s l.length (encS l)
 sb : below h.length s = true
 bl : ∀ id b,sid s = some id → blk? h id = some b → ∀ n,belowL n b.cells = true
theorem encS_below (n : Nat) : ∀ l,belowL n (encS l) = true
 | [] => by simp [encS]
 | p :: l => by simp [encS,encS_below n l]
theorem syms_own {h : Heap} {s : Value} {l : List (Int × Nat)} (ho : OwnS h 2 s l.length (encS l)) : Syms h s l := by
 refine ⟨ho.sl,own_below ho (Nat.le_refl _),fun id b hid hb n => ?_⟩
 rcases ho.2 with ⟨rfl,_⟩ | ⟨id',rfl,hb'⟩
 ·simp [sid] at hid
 ·simp [sid] at hid; subst hid
  rw [hb'] at hb; injection hb with hb; subst hb
  exact encS_below n l
theorem Syms.frz {h : Heap} {s : Value} {l : List (Int × Nat)} (hi : Syms h s l) : Syms (frz h) s l := by
 refine ⟨Sl_of_cells hi.sl fun id b hid hb => ⟨_,blk_frz hb (hi.bl id b hid hb _),rfl⟩,by rw [len_frz]; exact hi.sb,fun id b hid hb => ?_⟩
 obtain ⟨b0,h0,rfl,_⟩ := frz_some hb
 exact hi.bl id b0 hid h0
theorem encS_get : ∀ (l : List (Int × Nat)) (i : Nat) (h : i < l.length),(encS l)[i * 2]? = some (.int .i64 l[i].1) ∧ (encS l)[i * 2 + 1]? = some (.int .i64 l[i].2)
 | [],i,h => by simp at h
 | p :: l,0,_ => by simp [encS]
 | p :: l,i + 1,h => by
  obtain ⟨a,b⟩ := encS_get l i (by simpa using h)
  rw [encS,show (i + 1) * 2 + 1 = i * 2 + 1 + 1 + 1 by omega,show (i + 1) * 2 = i * 2 + 1 + 1 by omega]
  simpa using ⟨a,b⟩
theorem Syms.get {h : Heap} {s : Value} {l : List (Int × Nat)} (hf : Syms h s l) {i : Nat} (hi : i < l.length) :
  ∃ id off b,s = .slice (some ⟨id,off,none⟩) l.length 2 ∧ blk? h id = some b ∧ (b.cells.drop (off + i * 2)).take 2 = [.int .i64 l[i].1,.int .i64 l[i].2] ∧ off + i * 2 + 2 ≤ b.cells.length := by
 obtain ⟨id,off,b,rfl,hb,hc⟩ := hf.sl.get hi
 obtain ⟨g0,g1⟩ := encS_get l i hi
 have c0 := hc 0 (by omega)
 have c1 := hc 1 (by omega)
 rw [Nat.add_zero,Nat.add_zero,g0] at c0
 rw [g1] at c1
 obtain ⟨ht,hle⟩ := two c0 c1
 exact ⟨id,off,b,rfl,hb,ht,hle⟩
section
variable {h : Heap} {R : Value → Heap → Prop}
end
structure Pss (h : Heap) (s : Value) (vs : List Value) (ls : List (List (Int × Nat))) : Prop where
 sl : Sl h 1 s vs.length vs
 sb : below h.length s = true
 bl : ∀ id b,sid s = some id → blk? h id = some b → belowL h.length b.cells = true
 len : vs.length = ls.length
 each : ∀ i (h1 : i < vs.length) (h2 : i < ls.length),Syms h vs[i] ls[i]
theorem Pss.frz {h : Heap} {s : Value} {vs : List Value} {ls : List (List (Int × Nat))} (hp : Pss h s vs ls) : Pss (frz h) s vs ls := by
 refine ⟨Sl_of_cells hp.sl fun id b hid hb => ⟨_,blk_frz hb (hp.bl id b hid hb),rfl⟩,by rw [len_frz]; exact hp.sb,fun id b hid hb => ?_,hp.len,fun i h1 h2 => (hp.each i h1 h2).frz⟩
 obtain ⟨b0,h0,rfl,hbl,_⟩ := frz_some hb
 rw [len_frz]; exact hbl
theorem Pss.get {h : Heap} {s : Value} {vs : List Value} {ls : List (List (Int × Nat))} (hp : Pss h s vs ls) {i : Nat} (hi : i < vs.length) :
  ∃ id off b,s = .slice (some ⟨id,off,none⟩) vs.length 1 ∧ blk? h id = some b ∧ b.cells[off + i]? = some vs[i] := by
 obtain ⟨id,off,b,hs,hb,hc⟩ := hp.sl.get hi
 refine ⟨id,off,b,hs,hb,?_⟩
 have := hc 0 (by omega)
 simp only [Nat.mul_one,Nat.add_zero] at this
 rw [this,List.getElem?_eq_getElem hi]
section
variable {h : Heap} {R : Value → Heap → Prop}
end
structure SL (B : Nat) (h0 h : Heap) (p c : Nat) (b : BS) (s : Value) (vs : List Value) (ls : List (List (Int × Nat))) : Prop where
 cb : CB h false p c b
 good : b.Good
 bp : B ≤ p ∧ B ≤ c
 own : OwnS h 1 s vs.length vs
 len : vs.length = ls.length
 each : ∀ (i : Nat) (v : Value) (l : List (Int × Nat)),vs[i]? = some v → ls[i]? = some l → OwnS h 2 v l.length (encS l) ∧ ∀ id,sid v = some id → B ≤ id ∧ id ≠ c ∧ id ≠ p ∧ sid s ≠ some id
 far : ∀ id,sid s = some id → B ≤ id ∧ id ≠ c ∧ id ≠ p
 low : ∀ id,id < B → blk? h id = blk? h0 id
 lenB : B ≤ h.length
theorem SL.start {B : Nat} {h0 h : Heap} {p c : Nat} {b : BS} (cb : CB h false p c b) (good : b.Good) (bp : B ≤ p ∧ B ≤ c) (low : ∀ id,id < B → blk? h id = blk? h0 id) (lenB : B ≤ h.length) : SL B h0 h p c b (.slice none 0 0) [] [] :=
 ⟨cb,good,bp,OwnS.nil _ _,rfl,fun i v l hv => by simp at hv,fun id hid => by simp [sid] at hid,low,lenB⟩
theorem SL.step {B : Nat} {h0 h h1 : Heap} {p c : Nat} {b : BS} {s sv : Value} {vs : List Value} {ls : List (List (Int × Nat))} {σ : ES} (w : SL B h0 h p c b s vs ls) (hr : RunRes h h1 p c sv σ) (hl : vs.length < 100000) :
  ∃ s' H,appendV (h1 ++ [some ⟨false,[sv]⟩]) 1 24 s (.slice (some ⟨h1.length,0,none⟩) 1 1) = some (s',H) ∧ SL B h0 H p c σ.b s' (vs ++ [sv]) (ls ++ [σ.out]) := by
 have hlt := fun id (hid : sid s = some id) => w.own.lt hid
 have own1 : OwnS h1 1 s vs.length vs := w.own.of_blk fun id hid hb => by rw [hr.same id (blk?_lt hb) (w.far id hid).2.1]; exact hb
 have hsl : Sl (h1 ++ [some ⟨false,[sv]⟩]) 1 (.slice (some ⟨h1.length,0,none⟩) 1 1) 1 [sv] := ⟨by simp,.inr ⟨h1.length,0,rfl,.inr ⟨_,blk?_push_eq,by simp,by simp⟩⟩⟩
 have own2 : OwnS (h1 ++ [some ⟨false,[sv]⟩]) 1 s vs.length vs := own1.of_blk fun id _ hb => blk?_push hb
 obtain ⟨H,ha,hK,hHl,hHs⟩ := own_append (bytes := 24) own2 hsl (by unfold roomCells; omega) (by omega) (by omega)
 simp only [List.length_append,List.length_singleton] at ha hK hHl hHs
 have hk : ∀ id,id < h1.length → sid s ≠ some id → blk? H id = blk? h1 id := fun id hid hne => by rw [hHs id (by omega) hne,blk?_push_lt hid]
 have hlen := hr.len
 have hlB := w.lenB
 have hpc := w.bp
 refine ⟨_,H,ha,⟨⟨?_,?_,hr.good.ok⟩,hr.good,w.bp,⟨by simp,.inr ⟨h1.length + 1,by simp,hK⟩⟩,by simp [w.len],fun i v l hv hl' => ?_,fun id hid => ?_,fun id hid => ?_,by omega⟩⟩
 ·rw [hk p (blk?_lt hr.cb.blkp) (fun e => (w.far p e).2.2 rfl)]; exact hr.cb.blkp
 ·rw [hk c (blk?_lt hr.cb.blkc) (fun e => (w.far c e).2.1 rfl)]; exact hr.cb.blkc
 ·by_cases hi : i < vs.length
  ·rw [List.getElem?_append_left hi] at hv
   rw [List.getElem?_append_left (by rw [← w.len]; exact hi)] at hl'
   obtain ⟨o,f⟩ := w.each i v l hv hl'
   refine ⟨o.of_blk fun id hid hb => ?_,fun id hid => ?_⟩
   ·obtain ⟨f1,f2,f3,f4⟩ := f id hid
    rw [hk id (Nat.lt_of_lt_of_le (blk?_lt hb) hlen) f4,hr.same id (blk?_lt hb) f2]; exact hb
   ·obtain ⟨f1,f2,f3,f4⟩ := f id hid
    refine ⟨f1,f2,f3,?_⟩
    have := o.lt hid
    simp [sid]; omega
  ·have hi' : i = vs.length := by
    have := (List.getElem?_eq_some_iff.1 hv).1
    simp at this; omega
   subst hi'
   rw [List.getElem?_append_right (Nat.le_refl _)] at hv
   rw [w.len,List.getElem?_append_right (Nat.le_refl _)] at hl'
   simp at hv hl'
   subst hv; subst hl'
   have hsv := hr.fresh
   refine ⟨hr.own.of_blk fun id hid hb => ?_,fun id hid => ?_⟩
   ·rw [hk id (blk?_lt hb) (fun e => by have := hlt id e; have := hsv id hid; omega)]; exact hb
   ·have h2 := hsv id hid
    have h3 := hr.own.lt hid
    have := blk?_lt w.cb.blkp
    have := blk?_lt w.cb.blkc
    refine ⟨by omega,by omega,by omega,?_⟩
    simp [sid]; omega
 ·simp [sid] at hid
  have := blk?_lt hr.cb.blkp
  have := blk?_lt hr.cb.blkc
  exact ⟨by omega,by omega,by omega⟩
 ·have := w.low id hid
  rw [hk id (by omega) (fun e => by have := (w.far id e).1; omega),hr.same id (by omega) (by omega)]; exact this
theorem SL.pss {B : Nat} {h0 h : Heap} {p c : Nat} {b : BS} {s : Value} {vs : List Value} {ls : List (List (Int × Nat))} (w : SL B h0 h p c b s vs ls) : Pss h s vs ls := by
 refine ⟨w.own.sl,own_below w.own (Nat.le_refl _),fun id bk hid hb => ?_,w.len,fun i h1 h2 => ?_⟩
 ·rcases w.own.2 with ⟨rfl,_⟩ | ⟨id',rfl,hb'⟩
  ·simp [sid] at hid
  ·simp [sid] at hid; subst hid
   rw [hb'] at hb; injection hb with hb; subst hb
   rw [belowL_iff]
   intro v hv
   obtain ⟨i,hi,rfl⟩ := List.getElem_of_mem hv
   exact own_below (w.each i vs[i] (ls[i]'(by rw [← w.len]; exact hi)) (List.getElem?_eq_getElem hi) (List.getElem?_eq_getElem _)).1 (Nat.le_refl _)
 ·exact syms_own (w.each i vs[i] ls[i] (List.getElem?_eq_getElem h1) (List.getElem?_eq_getElem h2)).1
theorem Pss.keep {h h' : Heap} {s : Value} {vs : List Value} {ls : List (List (Int × Nat))} (hp : Pss h s vs ls) (hl : h.length ≤ h'.length) (hk : ∀ id,id < h.length → blk? h' id = blk? h id) : Pss h' s vs ls := by
 obtain ⟨a,cc,hs⟩ := hp.sl.shape
 have hlt : ∀ id,sid s = some id → id < h.length := by
  intro id hid
  have := hp.sb
  rw [hs] at this hid
  cases a with
  | none => simp [sid] at hid
  | some a => simp [sid] at hid; simp at this; omega
 have hsy : ∀ {v : Value} {l : List (Int × Nat)},Syms h v l → Syms h' v l := by
  intro v l y
  obtain ⟨a',c',hv⟩ := y.sl.shape
  refine ⟨y.sl.of_sid fun id b _ hb => by rw [hk id (blk?_lt hb)]; exact hb,below_sid hl hv y.sb,fun id b hid hb => ?_⟩
  have hlt' : id < h.length := by
   have := y.sb
   rw [hv] at this hid
   cases a' with
   | none => simp [sid] at hid
   | some a' => simp [sid] at hid; simp at this; omega
  rw [hk id hlt'] at hb
  exact y.bl id b hid hb
 refine ⟨hp.sl.of_sid fun id b _ hb => by rw [hk id (blk?_lt hb)]; exact hb,below_sid hl hs hp.sb,fun id b hid hb => ?_,hp.len,fun i h1 h2 => hsy (hp.each i h1 h2)⟩
 rw [hk id (hlt id hid)] at hb
 exact belowL_mono hl _ (hp.bl id b hid hb)
structure SymOut (h h' : Heap) (s : Value) (r : Int × List (List (Int × Nat))) : Prop where
 pss : ∃ vs,Pss h' s vs r.2
 low : ∀ id,id < h.length → blk? h' id = blk? h id
 len : h.length ≤ h'.length
theorem SymOut.nil {h h' : Heap} (low : ∀ id,id < h.length → blk? h' id = blk? h id) (len : h.length ≤ h'.length) (e : Int) : SymOut h h' (.slice none 0 0) (e,[]) :=
 ⟨⟨[],(OwnS.nil _ _).sl,by simp,fun id b hid => by simp [sid] at hid,rfl,fun i h1 => by simp at h1⟩,low,len⟩
section
variable {h : Heap} {R : Value → Heap → Prop} {k : List RItem}
theorem pass_loop_c {B : Nat} {h0 : Heap} {b0 : BS} {p c M : Nat} {m : MD} {planes o : Nat} {v10 v11 : Value} (hM : blk? h0 M = some ⟨false,[.bool m.byp,.bool m.res,.bool m.rst,.bool m.cz,.bool m.sy]⟩) (hMB : M < B) (hp1 : planes ≤ 60) (ho : o ≤ 3)
  (hk : ∀ (h' : Heap) (s : Value) (vs : List Value) (b : BS) (ls : List (List (Int × Nat))) (K0 K1 K2 K3 K4 K5 K6 K7 K8 K9 Kc Kd Ke Kf Kg Ki Kj Kk Kl Km Kn Ko Kp Kq Kr Ks Kt Ku Kv Kw Kx Ky Kz J0 J1 J2 J3 J4 J5 J6 J7 J8 J9 Ja Jb Jc Jd Je Jf Jg Jh Ji Jj Jk Jl Jm Jn Jo Jp Jq Jr Js Jt Ju Jv Jw Jx Jy Jz Y0 Y1 Y2 Y3 Y4 Y5 Y6 Y7 Y8 Y9 Ya Yb Yc Yd Ye Yf Yg Yh Yi : Value),SL B h0 h' p c b s vs ls → ls = passesOf m planes o (3 * planes - 2) 0 b0 → Ok tab R35 k #[K0,K1,K2,K3,K4,K5,K6,K7,K8,K9,v10,v11,Kc,Kd,Ke,Kf,Kg,s,Ki,Kj,Kk,Kl,Km,Kn,Ko,Kp,Kq,Kr,Ks,Kt,Ku,Kv,Kw,Kx,Ky,Kz,J0,J1,J2,J3,J4,J5,J6,J7,J8,J9,Ja,Jb,Jc,Jd,Je,Jf,Jg,Jh,Ji,Jj,Jk,Jl,Jm,Jn,Jo,Jp,Jq,Jr,Js,Jt,Ju,Jv,Jw,Jx,Jy,Jz,Y0,Y1,Y2,Y3,Y4,Y5,Y6,Y7,Y8,Y9,Ya,Yb,Yc,Yd,Ye,Yf,Yg,Yh,Yi] h' R) :
  ∀ (n i : Nat) (h : Heap) (b : BS) (s : Value) (vs : List Value) (ls : List (List (Int × Nat))) (K0 K1 K2 K4 K5 K6 K7 K8 Kd Ke Kf Ki Kj Kk Kl Km Kn Ko Kp Kq Kr Ks Kt Ku Kv Kw Kx Ky Kz J0 J1 J2 J3 J4 J5 J6 J7 J8 J9 Ja Jb Jc Jd Je Jf Jg Jh Ji Jj Jk Jl Jm Jn Jo Jp Jq Jr Js Jt Ju Jv Jw Jz Y0 Y1 Y2 Y3 Y4 Y5 Y6 Y7 Y8 Y9 Ya Yb Yc Yd Ye Yf Yg Yh Yi : Value),i + n = 3 * planes - 2 → ls.length = i → ls ++ passesOf m planes o n i b = passesOf m planes o (3 * planes - 2) 0 b0 → SL B h0 h p c b s vs ls →
   Ok tab R35 (.inLoop L35_1 :: .inBlock 2 :: k) #[K0,K1,K2,.int .i64 o,K4,K5,K6,K7,K8,ptr M,v10,v11,ptr p,Kd,Ke,Kf,.int .i64 planes,s,Ki,Kj,Kk,Kl,Km,Kn,Ko,Kp,Kq,Kr,Ks,Kt,Ku,Kv,Kw,Kx,Ky,Kz,J0,J1,J2,J3,J4,J5,J6,J7,J8,J9,Ja,Jb,Jc,Jd,Je,Jf,Jg,Jh,Ji,Jj,Jk,Jl,Jm,Jn,Jo,Jp,Jq,Jr,Js,Jt,Ju,Jv,Jw,.int .i64 (3 * planes - 2 : Nat),.int .i64 i,Jz,Y0,Y1,Y2,Y3,Y4,Y5,Y6,Y7,Y8,Y9,Ya,Yb,Yc,Yd,Ye,Yf,Yg,Yh,Yi] h R := by
 intro n
 induction n with
 | zero =>
  intro i h b s vs ls K0 K1 K2 K4 K5 K6 K7 K8 Kd Ke Kf Ki Kj Kk Kl Km Kn Ko Kp Kq Kr Ks Kt Ku Kv Kw Kx Ky Kz J0 J1 J2 J3 J4 J5 J6 J7 J8 J9 Ja Jb Jc Jd Je Jf Jg Jh Ji Jj Jk Jl Jm Jn Jo Jp Jq Jr Js Jt Ju Jv Jw Jz Y0 Y1 Y2 Y3 Y4 Y5 Y6 Y7 Y8 Y9 Ya Yb Yc Yd Ye Yf Yg Yh Yi hi hls hpa w
  have hlt : ¬ ((i : Int) < ((3 * planes - 2 : Nat) : Int)) := by omega
  generalize ((3 * planes - 2 : Nat) : Int) = np at *
  rw [ok_round,l35_1,L35_1a,L35_1b]
  simp [hlt]
  exact hk h s vs b ls _ _ _ _ _ _ _ _ _ _ _ _ _ _ _ _ _ _ _ _ _ _ _ _ _ _ _ _ _ _ _ _ _ _ _ _ _ _ _ _ _ _ _ _ _ _ _ _ _ _ _ _ _ _ _ _ _ _ _ _ _ _ _ _ _ _ _ _ _ _ _ _ _ _ _ _ _ _ _ _ _ _ _ _ _ _ _ _ w (by simpa [passesOf] using hpa)
 | succ n ih =>
  intro i h b s vs ls K0 K1 K2 K4 K5 K6 K7 K8 Kd Ke Kf Ki Kj Kk Kl Km Kn Ko Kp Kq Kr Ks Kt Ku Kv Kw Kx Ky Kz J0 J1 J2 J3 J4 J5 J6 J7 J8 J9 Ja Jb Jc Jd Je Jf Jg Jh Ji Jj Jk Jl Jm Jn Jo Jp Jq Jr Js Jt Ju Jv Jw Jz Y0 Y1 Y2 Y3 Y4 Y5 Y6 Y7 Y8 Y9 Ya Yb Yc Yd Ye Yf Yg Yh Yi hi hls hpa w
  have hlt : (i : Int) < ((3 * planes - 2 : Nat) : Int) := by omega
  have hw : IntKind.i64.wrap ((i : Int) + 1) = ((i + 1 : Nat) : Int) := wrapN (n := i + 1) (by omega)
  have hM1 : blk? h M = some ⟨false,[.bool m.byp,.bool m.res,.bool m.rst,.bool m.cz,.bool m.sy]⟩ := by rw [w.low M hMB]; exact hM
  obtain ⟨sv,h1,e1,r1⟩ := run_c w.cb w.good.rng i planes o m
  have herr : runErr i planes o = 0 := by unfold runErr; rw [if_neg (by omega),if_neg (by omega)]
  have hro : runOut m b i planes o = runSt m b i planes o := by unfold runOut; rw [if_pos herr]; simp
  rw [herr] at e1
  rw [hro] at r1
  obtain ⟨s',H,ha,w'⟩ := w.step r1 (by rw [w.len]; omega)
  simp only [MD.val] at e1
  have ih' := ih (i + 1)
  generalize hq : ((i + 1 : Nat) : Int) = q at *
  generalize hnp : ((3 * planes - 2 : Nat) : Int) = np at *
  have e9 := w'
  rw [ok_round,l35_1,L35_1a,L35_1b]
  cases sv with
  | slice a sl cp =>
   simp [hlt,hM1,e1,repL,ha,hw]
   exact ih' H _ s' _ _ _ _ _ _ _ _ _ _ _ _ _ _ _ _ _ _ _ _ _ _ _ _ _ _ _ _ _ _ _ _ _ _ _ _ _ _ _ _ _ _ _ _ _ _ _ _ _ _ _ _ _ _ _ _ _ _ _ _ _ _ _ _ _ _ _ _ _ _ _ _ _ _ _ _ _ _ _ _ _ _ _ _ (by omega) (by simp; omega) (by rw [← hpa,passesOf]; simp) w'
  | _ => exact absurd r1.own.sl.shape (by simp)
theorem fill_loop_c {B : Nat} {h0 : Heap} {s : Value} {xs : List Int} {w hh : Nat} {p c : Nat} {v2 v3 v9 v10 v11 v13 : Value} (hi : Ints h0 s xs) (hsB : ∀ id,sid s = some id → id < B) (w1 : 1 ≤ w) (w2 : w ≤ 64) (h1 : 1 ≤ hh) (h2 : hh ≤ 64) (hl : xs.length = w * hh)
  (hbad : ∀ h',(∀ id,id < B → blk? h' id = blk? h0 id) → B ≤ h'.length → ¬ (∀ v ∈ xs,inR v) → R (.tuple #[.slice none 0 0,.int .i64 2]) h')
  (hk : ∀ (h' : Heap) (K1 K4 K5 K6 K7 K8 Ke Kf Kg Kh Ki Kj Kk Kl Km Kn Ko Kp Kq Kr Ks Kt Ku Kv Kw Kx Ky Kz J0 J1 J2 J3 J4 J5 J6 J7 J8 J9 Ja Jb Jc Jd Je Jf Jg Jh Ji Jj Jk Jl Jm Jn Jo Jp Jq Jr Js Jt Ju Jv Jw Jx Jy Jz Y0 Y1 Y2 Y3 Y4 Y5 Y6 Y7 Y8 Y9 Ya Yb Yc Yd Ye Yf Yg Yh Yi : Value),(∀ v ∈ xs,inR v) → CB h' false p c (fillTo w hh xs xs.length) → (∀ id,id < B → blk? h' id = blk? h0 id) → B ≤ h'.length →
   Ok tab R35 k #[s,K1,v2,v3,K4,K5,K6,K7,K8,v9,v10,v11,ptr p,v13,Ke,Kf,Kg,Kh,Ki,Kj,Kk,Kl,Km,Kn,Ko,Kp,Kq,Kr,Ks,Kt,Ku,Kv,Kw,Kx,Ky,Kz,J0,J1,J2,J3,J4,J5,J6,J7,J8,J9,Ja,Jb,Jc,Jd,Je,Jf,Jg,Jh,Ji,Jj,Jk,Jl,Jm,Jn,Jo,Jp,Jq,Jr,Js,Jt,Ju,Jv,Jw,Jx,Jy,Jz,Y0,Y1,Y2,Y3,Y4,Y5,Y6,Y7,Y8,Y9,Ya,Yb,Yc,Yd,Ye,Yf,Yg,Yh,Yi] h' R) :
  ∀ (n i : Nat) (h : Heap) (K4 K5 K6 K7 K8 Ke Kf Kg Kh Ki Kj Kk Kl Km Kn Ko Kp Kq Kr Ks Kt Ku Kv Kw Kx Ky Kz J0 J1 J2 J3 J4 J8 J9 Ja Jb Jc Jd Je Jf Jg Jh Ji Jj Jk Jl Jm Jn Jo Jp Jq Jr Js Jt Ju Jv Jw Jx Jy Jz Y0 Y1 Y2 Y3 Y4 Y5 Y6 Y7 Y8 Y9 Ya Yb Yc Yd Ye Yf Yg Yh Yi : Value),n = xs.length - i → i ≤ xs.length → (∀ v ∈ xs.take i,inR v) → CB h false p c (fillTo w hh xs i) → B ≤ p ∧ B ≤ c → (∀ id,id < B → blk? h id = blk? h0 id) → B ≤ h.length →
   Ok tab R35 (.inLoop L35_0 :: .inBlock 0 :: k) #[s,.int .i64 w,v2,v3,K4,K5,K6,K7,K8,v9,v10,v11,ptr p,v13,Ke,Kf,Kg,Kh,Ki,Kj,Kk,Kl,Km,Kn,Ko,Kp,Kq,Kr,Ks,Kt,Ku,Kv,Kw,Kx,Ky,Kz,J0,J1,J2,J3,J4,s,.int .i64 xs.length,.int .i64 i,J8,J9,Ja,Jb,Jc,Jd,Je,Jf,Jg,Jh,Ji,Jj,Jk,Jl,Jm,Jn,Jo,Jp,Jq,Jr,Js,Jt,Ju,Jv,Jw,Jx,Jy,Jz,Y0,Y1,Y2,Y3,Y4,Y5,Y6,Y7,Y8,Y9,Ya,Yb,Yc,Yd,Ye,Yf,Yg,Yh,Yi] h R := by
 intro n
 have hm : w * hh ≤ 64 * 64 := Nat.mul_le_mul w2 h2
 induction n with
 | zero =>
  intro i h K4 K5 K6 K7 K8 Ke Kf Kg Kh Ki Kj Kk Kl Km Kn Ko Kp Kq Kr Ks Kt Ku Kv Kw Kx Ky Kz J0 J1 J2 J3 J4 J8 J9 Ja Jb Jc Jd Je Jf Jg Jh Ji Jj Jk Jl Jm Jn Jo Jp Jq Jr Js Jt Ju Jv Jw Jx Jy Jz Y0 Y1 Y2 Y3 Y4 Y5 Y6 Y7 Y8 Y9 Ya Yb Yc Yd Ye Yf Yg Yh Yi hn hi' hr hcb hB low len
  have hlt : ¬ ((i : Int) < xs.length) := by omega
  have : i = xs.length := by omega
  subst this
  rw [ok_round,l35_0,L35_0a,L35_0b]
  simp [hlt]
  exact hk h _ _ _ _ _ _ _ _ _ _ _ _ _ _ _ _ _ _ _ _ _ _ _ _ _ _ _ _ _ _ _ _ _ _ _ _ _ _ _ _ _ _ _ _ _ _ _ _ _ _ _ _ _ _ _ _ _ _ _ _ _ _ _ _ _ _ _ _ _ _ _ _ _ _ _ _ _ _ _ _ _ _ _ (by rw [List.take_of_length_le (Nat.le_refl _)] at hr; exact hr) hcb low len
 | succ n ih =>
  intro i h K4 K5 K6 K7 K8 Ke Kf Kg Kh Ki Kj Kk Kl Km Kn Ko Kp Kq Kr Ks Kt Ku Kv Kw Kx Ky Kz J0 J1 J2 J3 J4 J8 J9 Ja Jb Jc Jd Je Jf Jg Jh Ji Jj Jk Jl Jm Jn Jo Jp Jq Jr Js Jt Ju Jv Jw Jx Jy Jz Y0 Y1 Y2 Y3 Y4 Y5 Y6 Y7 Y8 Y9 Ya Yb Yc Yd Ye Yf Yg Yh Yi hn hi' hr hcb hB low len
  have hlt : ((i : Int) < xs.length) := by omega
  have hil : i < xs.length := by omega
  have hw : IntKind.i64.wrap ((i : Int) + 1) = ((i + 1 : Nat) : Int) := wrapN (n := i + 1) (by omega)
  obtain ⟨id,off,b,hs,hbk,hc⟩ := hi.get hil
  have hbk' : blk? h id = some b := by rw [low id (hsB id (by rw [hs]; rfl))]; exact hbk
  have hmod : (i : Int).tmod (w : Int) = ((i % w : Nat) : Int) := rfl
  have hdiv : (i : Int).tdiv (w : Int) = ((i / w : Nat) : Int) := rfl
  have hdw : IntKind.i64.wrap ((i / w : Nat) : Int) = ((i / w : Nat) : Int) := wrapN (by have := Nat.div_le_self i w; omega)
  have hw0 : ¬ w = 0 := by omega
  have hinb := inb_divmod (i := i) (h := hh) (w := w) (by omega) (by omega) (fillTo w hh xs i).cs
  have ih' := ih (i + 1)
  have hmem := List.getElem_mem hil
  have hstep := fillTo_step (i := i) (w := w) (by omega) hil hl
  have htk : ∀ v ∈ xs.take (i + 1),inR xs[i] → inR v := by
   intro v hv hx
   rw [List.take_succ_eq_append_getElem hil] at hv
   rw [List.mem_append,List.mem_singleton] at hv
   rcases hv with hv | hv
   ·exact hr v hv
   ·rw [hv]; exact hx
  rw [ok_round,l35_0,L35_0a,L35_0b]
  by_cases hin : inR xs[i]
  ·have hst := fun R => set_c (R := R) (v := xs[i]) hcb (x := ((i % w : Nat) : Int)) (y := ((i / w : Nat) : Int)) hinb hin
   have hmm : (fun z : Cell => ({ z with v := xs[i] } : Cell)) = setV xs[i] := rfl
   rw [hmm,hstep] at hst
   have hgood := fillTo_good (newBS_good w1 w2 h1 h2) hl (i + 1) (by omega) (fun v hv => htk v hv hin)
   have hcb' := hcb.set (b' := fillTo w hh xs (i + 1)) rfl rfl hgood.ok
   have n1 : ¬ xs[i] ≤ -1152921504606846976 := by unfold inR at hin; omega
   have n2 : ¬ 1152921504606846976 ≤ xs[i] := by unfold inR at hin; omega
   generalize hq : ((i + 1 : Nat) : Int) = q at *
   generalize hq2 : ((i % w : Nat) : Int) = q2 at *
   generalize hq3 : ((i / w : Nat) : Int) = q3 at *
   simp [k_guard,hlt,hs,hbk',hc,n1,n2,hmod,hdiv,hdw,hw0,hst,hw]
   rw [← hs]
   refine ih' _ _ _ _ _ _ _ _ _ _ _ _ _ _ _ _ _ _ _ _ _ _ _ _ _ _ _ _ _ _ _ _ _ _ _ _ _ _ _ _ _ _ _ _ _ _ _ _ _ _ _ _ _ _ _ _ _ _ _ _ _ _ _ _ _ _ _ _ _ _ _ _ _ _ _ _ _ _ _ _ (by omega) (by omega) (fun v hv => htk v hv hin) hcb' hB (fun id hid => ?_) (by simp; omega)
   rw [blk?_set_ne (by omega)]; exact low id hid
  ·have hfin := hbad h low len (fun hall => hin (hall _ hmem))
   by_cases n1 : xs[i] ≤ -1152921504606846976
   ·simp [k_guard,k_guardU,hlt,hs,hbk',hc,n1,fin35]
    exact hfin
   ·have n2 : 1152921504606846976 ≤ xs[i] := by unfold inR at hin; omega
    simp [k_guard,hlt,hs,hbk',hc,n1,n2,fin35]
    exact hfin
end
section
variable {h : Heap} {R : Value → Heap → Prop} {k : List RItem}
theorem symbols_c {s : Value} {xs : List Int} (hi : Ints h s xs) (hl : xs.length < 9000000000) (w hh o : Int) (m : MD) :
  ∃ sv h',(∀ R,Ret tab 35 [s,.int .i64 w,.int .i64 hh,.int .i64 o,m.val] h R = R (.tuple #[sv,.int .i64 (symRes xs w hh o m).1]) h') ∧ SymOut h h' sv (symRes xs w hh o m) := by
 have key : Ret tab 35 [s,.int .i64 w,.int .i64 hh,.int .i64 o,m.val] h fun v h' => ∃ sv,v = .tuple #[sv,.int .i64 (symRes xs w hh o m).1] ∧ SymOut h h' sv (symRes xs w hh o m) := by
  obtain ⟨a,cc,hs⟩ := hi.sl.shape
  rw [enter35,show B35 = .seq (nthC 0 B35) (.seq (nthC 1 B35) (.seq (nthC 2 B35) (.seq (nthC 3 B35) (.seq (nthC 4 B35) (.seq (nthC 5 B35) (tlC 6 B35)))))) from rfl]
  generalize hT : tlC 6 B35 = tl
  simp only [nthC,tlC,fstC,B35]
  have hkp : ∀ x : Option Blk,∀ id,id < h.length → blk? (h ++ [x]) id = blk? h id := fun x id hid => blk?_push_lt hid
  cases hsz : sized w hh
  ·have hr : symRes xs w hh o m = (2,[]) := by unfold symRes; rw [if_pos hsz]
   rw [hr]
   simp [MD.val,new_bad hsz,fin35]
   exact SymOut.nil (hkp _) (by simp) _
  have hsz' := hsz
  simp only [sized,decide_eq_true_eq] at hsz'
  obtain ⟨w,rfl⟩ := Int.eq_ofNat_of_zero_le (show 0 ≤ w by omega)
  obtain ⟨hh,rfl⟩ := Int.eq_ofNat_of_zero_le (show 0 ≤ hh by omega)
  have w1 : 1 ≤ w := by omega
  have w2 : w ≤ 64 := by omega
  have h1 : 1 ≤ hh := by omega
  have h2 : hh ≤ 64 := by omega
  have hm : w * hh ≤ 64 * 64 := Nat.mul_le_mul w2 h2
  have hmw : IntKind.i64.wrap ((w : Int) * (hh : Int)) = ((w * hh : Nat) : Int) := by rw [← Int.natCast_mul]; exact wrapN (by omega)
  have hnew := fun H R => new_c (h := H) (R := R) w1 w2 h1 h2
  have hls : ∀ H : Heap,(newHeap H w hh).length = H.length + 2 := fun H => newHeap_len H w hh
  have hlow : ∀ x : Option Blk,∀ id,id < h.length → blk? (newHeap (h ++ [x]) w hh) id = blk? h id := fun x id hid => by
   rw [newHeap_low _ _ _ id (by simp; omega)]; exact hkp x id hid
  by_cases hln : xs.length = w * hh
  case neg =>
   have hr : symRes xs w hh o m = (4,[]) := by
    unfold symRes; rw [if_neg (by rw [hsz]; simp),if_pos (by rw [← Int.natCast_mul]; omega)]
   have hne : ((xs.length : Int) != ((w * hh : Nat) : Int)) = true := by simp only [bne_iff_ne,ne_eq]; omega
   rw [hr]
   simp [-Int.natCast_mul,MD.val,hnew,hs,hmw,hne,fin35]
   exact SymOut.nil (hlow _) (by rw [hls]; simp; omega) _
  have hne : ((xs.length : Int) != ((w * hh : Nat) : Int)) = false := by rw [hln]; simp
  have hsq : (xs.length : Int) = (w : Int) * (hh : Int) := by rw [hln,Int.natCast_mul]
  by_cases ho1 : o < 0
  ·have hr : symRes xs w hh o m = (3,[]) := by
    unfold symRes; rw [if_neg (by rw [hsz]; simp),if_neg (by rw [hsq]; simp),if_pos (.inl ho1)]
   rw [hr]
   simp [-Int.natCast_mul,k_guard,k_guardU,MD.val,hnew,hs,hmw,hne,ho1,fin35]
   exact SymOut.nil (hlow _) (by rw [hls]; simp; omega) _
  by_cases ho2 : 3 < o
  ·have hr : symRes xs w hh o m = (3,[]) := by
    unfold symRes; rw [if_neg (by rw [hsz]; simp),if_neg (by rw [hsq]; simp),if_pos (.inr ho2)]
   rw [hr]
   simp [-Int.natCast_mul,k_guard,k_guardU,MD.val,hnew,hs,hmw,hne,ho1,ho2,fin35]
   exact SymOut.nil (hlow _) (by rw [hls]; simp; omega) _
  obtain ⟨o,rfl⟩ := Int.eq_ofNat_of_zero_le (show 0 ≤ o by omega)
  have hbadr : ¬ (∀ v ∈ xs,inR v) → symRes xs w hh o m = (2,[]) := fun hb => by
   unfold symRes; rw [if_neg (by rw [hsz]; simp),if_neg (by rw [hsq]; simp),if_neg (by omega),if_neg hb]
  have hokr : (∀ v ∈ xs,inR v) → symRes xs w hh o m = (0,passesOf m (planesOf xs) o (3 * planesOf xs - 2) 0 (fillTo w hh xs xs.length)) := fun hb => by
   unfold symRes; rw [if_neg (by rw [hsz]; simp),if_neg (by rw [hsq]; simp),if_neg (by omega),if_pos hb]; rfl
  simp [-Int.natCast_mul,k_guard,k_guardU,MD.val,hnew,hs,hmw,hne,ho1,ho2]
  rw [← hs]
  generalize hH0 : h ++ [some (⟨false,[.bool m.byp,.bool m.res,.bool m.rst,.bool m.cz,.bool m.sy]⟩ : Blk)] = H0
  have hH0l : H0.length = h.length + 1 := by rw [← hH0]; simp
  have hM : blk? H0 h.length = some ⟨false,[.bool m.byp,.bool m.res,.bool m.rst,.bool m.cz,.bool m.sy]⟩ := by rw [← hH0]; exact blk?_push_eq
  have hk0 : ∀ id,id < h.length → blk? H0 id = blk? h id := fun id hid => by rw [← hH0]; exact hkp _ id hid
  have hi0 : Ints H0 s xs := hi.keep (by omega) (fun id hid _ => hk0 id hid)
  have hsB : ∀ id,sid s = some id → id < H0.length := by
   intro id hid
   have := hi0.sb
   rw [hs] at this hid
   cases a with
   | none => simp [sid] at hid
   | some a => simp [sid] at hid; simp at this; omega
  have hcb := newHeap_cb H0 w1 w2 h1 h2
  rw [← fillTo_zero w hh xs,hH0l] at hcb
  refine fill_loop_c hi0 hsB w1 w2 h1 h2 hln ?_ ?_ _ 0 _ _ _ _ _ _ _ _ _ _ _ _ _ _ _ _ _ _ _ _ _ _ _ _ _ _ _ _ _ _ _ _ _ _ _ _ _ _ _ _ _ _ _ _ _ _ _ _ _ _ _ _ _ _ _ _ _ _ _ _ _ _ _ _ _ _ _ _ _ _ _ _ _ _ _ _ _ _ _ _ rfl (by omega) (by simp) hcb ⟨by omega,by omega⟩ (newHeap_low H0 w hh) (by rw [hls]; omega)
  ·intro h' low len hb
   rw [hbadr hb]
   exact ⟨_,rfl,SymOut.nil (fun id hid => by rw [low id (by omega),hk0 id hid]) (by omega) _⟩
  ·intro h2' K1 K4 K5 K6 K7 K8 Ke Kf Kg Kh Ki Kj Kk Kl Km Kn Ko Kp Kq Kr Ks Kt Ku Kv Kw Kx Ky Kz J0 J1 J2 J3 J4 J5 J6 J7 J8 J9 Ja Jb Jc Jd Je Jf Jg Jh Ji Jj Jk Jl Jm Jn Jo Jp Jq Jr Js Jt Ju Jv Jw Jx Jy Jz Y0 Y1 Y2 Y3 Y4 Y5 Y6 Y7 Y8 Y9 Ya Yb Yc Yd Ye Yf Yg Yh Yi hb hcb2 low2 len2
   rw [hokr hb]
   have hp60 := inR_planes.1 hb
   have hi2 : Ints h2' s xs := hi0.keep (by omega) (fun id hid _ => low2 id hid)
   have hpl := fun R => planes_c (R := R) hi2 hl
   have hmx : (if 2 < 3 * (planesOf xs : Int) then (3 * (planesOf xs : Int) - 2) else 0) = ((3 * planesOf xs - 2 : Nat) : Int) := by split <;> omega
   have hw3 : IntKind.i64.wrap (3 * (planesOf xs : Int)) = 3 * (planesOf xs : Int) := wrapI (by omega) (by omega)
   have hw4 : IntKind.i64.wrap (3 * (planesOf xs : Int) - 2) = 3 * (planesOf xs : Int) - 2 := wrapI (by omega) (by omega)
   rw [← hT]
   simp only [tlC,B35]
   generalize hmg : ((3 * planesOf xs - 2 : Nat) : Int) = mg at *
   simp [hpl,hw3,hw4,fold1,foldO,max2V]
   rw [hmx,← hmg]
   have hgood := fillTo_good (newBS_good w1 w2 h1 h2) hln xs.length (Nat.le_refl _) (by rw [List.take_of_length_le (Nat.le_refl _)]; exact hb)
   have w0 := SL.start (B := H0.length) (h0 := H0) hcb2 hgood ⟨by omega,by omega⟩ low2 len2
   refine pass_loop_c (b0 := fillTo w hh xs xs.length) hM (by omega) hp60 (by omega) ?_ (3 * planesOf xs - 2) 0 _ _ _ _ _ _ _ _ _ _ _ _ _ _ _ _ _ _ _ _ _ _ _ _ _ _ _ _ _ _ _ _ _ _ _ _ _ _ _ _ _ _ _ _ _ _ _ _ _ _ _ _ _ _ _ _ _ _ _ _ _ _ _ _ _ _ _ _ _ _ _ _ _ _ _ _ _ _ _ _ _ _ _ _ _ _ _ (by omega) rfl rfl w0
   intro h' s' vs b' ls K0 K1 K2 K3 K4 K5 K6 K7 K8 K9 Kc Kd Ke Kf Kg Ki Kj Kk Kl Km Kn Ko Kp Kq Kr Ks Kt Ku Kv Kw Kx Ky Kz J0 J1 J2 J3 J4 J5 J6 J7 J8 J9 Ja Jb Jc Jd Je Jf Jg Jh Ji Jj Jk Jl Jm Jn Jo Jp Jq Jr Js Jt Ju Jv Jw Jx Jy Jz Y0 Y1 Y2 Y3 Y4 Y5 Y6 Y7 Y8 Y9 Ya Yb Yc Yd Ye Yf Yg Yh Yi w hls
   simp [fin35]
   refine ⟨⟨vs,?_⟩,fun id hid => by rw [w.low id (by omega),hk0 id hid],by have := w.lenB; omega⟩
   rw [← hls]; exact w.pss
 obtain ⟨v,h',e,sv,rfl,rs⟩ := ret_ex key
 exact ⟨sv,h',e,rs⟩
end
set_option maxRecDepth 10000
theorem encS_two : ∀ (l : List (Int × Nat)) (i : Nat) (h : i < l.length),((encS l).drop (i * 2)).take 2 = [.int .i64 l[i].1,.int .i64 l[i].2]
 | [],i,h => by simp at h
 | p :: l,0,_ => by simp [encS]
 | p :: l,i + 1,h => by
  rw [encS,show (i + 1) * 2 = i * 2 + 1 + 1 by omega,List.drop_succ_cons,List.drop_succ_cons]
  simpa using encS_two l i (by simpa using h)
theorem sym_two {h : Heap} {s : Value} {l : List (Int × Nat)} (hs : Sl h 2 s l.length (encS l)) {i : Nat} (hi : i < l.length) :
  ∃ id off b,s = .slice (some ⟨id,off,none⟩) l.length 2 ∧ blk? h id = some b ∧ off + i * 2 + 2 ≤ b.cells.length ∧ ((b.cells.drop (off + i * 2)).take 2) = [.int .i64 l[i].1,.int .i64 l[i].2] := by
 obtain ⟨hl,hs⟩ := hs
 rcases hs with ⟨rfl,h0⟩ | ⟨id,off,rfl,h0 | ⟨b,hb,hle,hc⟩⟩
 ·omega
 ·omega
 ·refine ⟨id,off,b,rfl,hb,by omega,?_⟩
  have h2 := encS_two l i hi
  rw [← hc,List.drop_take,List.take_take,List.drop_drop,Nat.min_eq_left (by omega)] at h2
  exact h2
def S2.puts (st : S2) (l : List (Int × Nat)) : S2 := l.foldl S2.put st
theorem puts_raw : ∀ (l : List (Int × Nat)) (st : S2),(st.raw = none ↔ (st.puts l).raw = none)
 | [],st => Iff.rfl
 | s :: l,st => by
  have h1 : (st.put s).raw = none ↔ st.raw = none := by unfold S2.put; cases st.raw <;> simp
  exact h1.symm.trans (puts_raw l (st.put s))
section
variable {R : Value → Heap → Prop} {k : List RItem} {e M X0 X cnt gn gi n j : Nat} {sv zv gv v : Value}
theorem sym_loop {h0 : Heap} {own0 : Nat → Prop} {st0 : S2} {N0 : Nat} {l : List (Int × Nat)} {yv : Value} (hy : Sl h0 2 yv l.length (encS l)) (hno : ∀ id,sid yv = some id → ¬ own0 id) (hok : ∀ s ∈ l,SymOk st0.raw s) (hN : N0 + l.length ≤ 900000)
  (hk : ∀ (h : Heap) (own : Nat → Prop) (K0 K1 K2 K3 K4 K5 K6 K7 K8 Kb Kd Kh Kl Km Kn Ko Kp Kq Kr Ks Kt Ku Kv Kw Kx Ky Kz J0 J1 J2 J3 J4 J5 J6 J7 J8 J9 Ja Jb Jc Jd Je Jf Jg Jk Jl Jm Jn Jo Jp Jq Jr Js Jt Ju Jv Jy Jz Y0 Y1 Y2 Y3 Y4 Y5 Y6 Y7 Y8 Y9 Ya Yb Yc Yd Ye Yf Yg Yh Yi Yj Yk Yl Ym Yn Yo Yp Yq Yr Ys Yt Yu Yv Yw Yx Yy Yz Z0 Z1 Z2 Z3 Z4 Z5 Z6 Z7 Z8 Z9 Za Zb Zc Zd Ze Zf Zg Zh Zi Zj Zk Zl Zm Zn Zo Zp Zq Zr Zs Zt Zu Zv Zw Zx Zy Zz K0q K1q K2q K3q : Value),Snk h e v own (st0.puts l) (N0 + l.length) → SF h0 h own0 own → Ok tab R17 k #[K0,K1,K2,K3,K4,K5,K6,K7,K8,ptr M,ptr X0,Kb,sv,Kd,ptr e,ptr X,.int .i64 (n : Nat),Kh,.int .i64 (cnt : Nat),v,zv,Kl,Km,Kn,Ko,Kp,Kq,Kr,Ks,Kt,Ku,Kv,Kw,Kx,Ky,Kz,J0,J1,J2,J3,J4,J5,J6,J7,J8,J9,Ja,Jb,Jc,Jd,Je,Jf,Jg,gv,.int .i64 (gn : Nat),.int .i64 (gi : Nat),Jk,Jl,Jm,Jn,Jo,Jp,Jq,Jr,Js,Jt,Ju,Jv,.int .i64 (cnt : Nat),.int .i64 (j : Nat),Jy,Jz,Y0,Y1,Y2,Y3,Y4,Y5,Y6,Y7,Y8,Y9,Ya,Yb,Yc,Yd,Ye,Yf,Yg,Yh,Yi,Yj,Yk,Yl,Ym,Yn,Yo,Yp,Yq,Yr,Ys,Yt,Yu,Yv,Yw,Yx,Yy,Yz,Z0,Z1,Z2,Z3,Z4,Z5,Z6,Z7,Z8,Z9,Za,Zb,Zc,Zd,Ze,Zf,Zg,Zh,Zi,Zj,Zk,Zl,Zm,Zn,Zo,Zp,Zq,Zr,Zs,Zt,Zu,Zv,Zw,Zx,Zy,Zz,K0q,K1q,K2q,K3q] h R) :
  ∀ (m i : Nat) (h : Heap) (own : Nat → Prop) (st : S2) (K0 K1 K2 K3 K4 K5 K6 K7 K8 Kb Kd Kh Kl Km Kn Ko Kp Kq Kr Ks Kt Ku Kv Kw Kx Ky Kz J0 J1 J2 J3 J4 J5 J6 J7 J8 J9 Ja Jb Jc Jd Je Jf Jg Jk Jl Jm Jn Jo Jp Jq Jr Js Jt Ju Jv Jy Jz Y0 Y1 Y2 Y3 Y4 Y5 Y6 Y7 Y8 Y9 Ya Yb Yf Yg Yh Yi Yj Yk Yl Ym Yn Yo Yp Yq Yr Ys Yt Yu Yv Yw Yx Yy Yz Z0 Z1 Z2 Z3 Z4 Z5 Z6 Z7 Z8 Z9 Za Zb Zc Zd Ze Zf Zg Zh Zi Zj Zk Zl Zm Zn Zo Zp Zq Zr Zs Zt Zu Zv Zw Zx Zy Zz K0q K1q K2q K3q : Value),i + m = l.length → st = st0.puts (l.take i) → Snk h e v own st (N0 + i) → SF h0 h own0 own →
   Ok tab R17 (.inLoop L17_0 :: .inBlock 4 :: k) #[K0,K1,K2,K3,K4,K5,K6,K7,K8,ptr M,ptr X0,Kb,sv,Kd,ptr e,ptr X,.int .i64 (n : Nat),Kh,.int .i64 (cnt : Nat),v,zv,Kl,Km,Kn,Ko,Kp,Kq,Kr,Ks,Kt,Ku,Kv,Kw,Kx,Ky,Kz,J0,J1,J2,J3,J4,J5,J6,J7,J8,J9,Ja,Jb,Jc,Jd,Je,Jf,Jg,gv,.int .i64 (gn : Nat),.int .i64 (gi : Nat),Jk,Jl,Jm,Jn,Jo,Jp,Jq,Jr,Js,Jt,Ju,Jv,.int .i64 (cnt : Nat),.int .i64 (j : Nat),Jy,Jz,Y0,Y1,Y2,Y3,Y4,Y5,Y6,Y7,Y8,Y9,Ya,Yb,yv,.int .i64 (l.length : Nat),.int .i64 (i : Nat),Yf,Yg,Yh,Yi,Yj,Yk,Yl,Ym,Yn,Yo,Yp,Yq,Yr,Ys,Yt,Yu,Yv,Yw,Yx,Yy,Yz,Z0,Z1,Z2,Z3,Z4,Z5,Z6,Z7,Z8,Z9,Za,Zb,Zc,Zd,Ze,Zf,Zg,Zh,Zi,Zj,Zk,Zl,Zm,Zn,Zo,Zp,Zq,Zr,Zs,Zt,Zu,Zv,Zw,Zx,Zy,Zz,K0q,K1q,K2q,K3q] h R := by
 intro m
 induction m with
 | zero =>
  intro i h own st K0 K1 K2 K3 K4 K5 K6 K7 K8 Kb Kd Kh Kl Km Kn Ko Kp Kq Kr Ks Kt Ku Kv Kw Kx Ky Kz J0 J1 J2 J3 J4 J5 J6 J7 J8 J9 Ja Jb Jc Jd Je Jf Jg Jk Jl Jm Jn Jo Jp Jq Jr Js Jt Ju Jv Jy Jz Y0 Y1 Y2 Y3 Y4 Y5 Y6 Y7 Y8 Y9 Ya Yb Yf Yg Yh Yi Yj Yk Yl Ym Yn Yo Yp Yq Yr Ys Yt Yu Yv Yw Yx Yy Yz Z0 Z1 Z2 Z3 Z4 Z5 Z6 Z7 Z8 Z9 Za Zb Zc Zd Ze Zf Zg Zh Zi Zj Zk Zl Zm Zn Zo Zp Zq Zr Zs Zt Zu Zv Zw Zx Zy Zz K0q K1q K2q K3q him hst hK F
  obtain rfl : i = l.length := by omega
  rw [List.take_length] at hst
  subst hst
  rw [ok_round,l17_0,L17_0a,L17_0b]
  simp
  exact hk _ _ _ _ _ _ _ _ _ _ _ _ _ _ _ _ _ _ _ _ _ _ _ _ _ _ _ _ _ _ _ _ _ _ _ _ _ _ _ _ _ _ _ _ _ _ _ _ _ _ _ _ _ _ _ _ _ _ _ _ _ _ _ _ _ _ _ _ _ _ _ _ _ _ _ _ _ _ _ _ _ _ _ _ _ _ _ _ _ _ _ _ _ _ _ _ _ _ _ _ _ _ _ _ _ _ _ _ _ _ _ _ _ _ _ _ _ _ _ _ _ _ _ _ _ _ _ _ _ _ _ _ _ _ _ _ hK F
 | succ m ih =>
  intro i h own st K0 K1 K2 K3 K4 K5 K6 K7 K8 Kb Kd Kh Kl Km Kn Ko Kp Kq Kr Ks Kt Ku Kv Kw Kx Ky Kz J0 J1 J2 J3 J4 J5 J6 J7 J8 J9 Ja Jb Jc Jd Je Jf Jg Jk Jl Jm Jn Jo Jp Jq Jr Js Jt Ju Jv Jy Jz Y0 Y1 Y2 Y3 Y4 Y5 Y6 Y7 Y8 Y9 Ya Yb Yf Yg Yh Yi Yj Yk Yl Ym Yn Yo Yp Yq Yr Ys Yt Yu Yv Yw Yx Yy Yz Z0 Z1 Z2 Z3 Z4 Z5 Z6 Z7 Z8 Z9 Za Zb Zc Zd Ze Zf Zg Zh Zi Zj Zk Zl Zm Zn Zo Zp Zq Zr Zs Zt Zu Zv Zw Zx Zy Zz K0q K1q K2q K3q him hst hK F
  have hi : i < l.length := by omega
  have hlt : (i : Int) < (l.length : Int) := by omega
  have hw : IntKind.i64.wrap ((i : Int) + 1) = ((i + 1 : Nat) : Int) := wrapN (n := i + 1) (by omega)
  obtain ⟨id,off,b,rfl,hb,hle,htw⟩ := sym_two hy hi
  have hbh : blk? h id = some b := by rw [F.same id (blk?_lt hb) (hno id rfl)]; exact hb
  have hraw : st.raw = none ↔ st0.raw = none := by rw [hst]; exact (puts_raw _ _).symm
  have hsok : SymOk st.raw (l[i].1,l[i].2) := by
   have := hok l[i] (List.getElem_mem hi)
   exact ⟨this.1,fun x => this.2 (hraw.1 x)⟩
  have hK1 : Snk (h ++ [some ⟨false,[.int .i64 l[i].1,.int .i64 (l[i].2 : Nat)]⟩]) e v own st (N0 + i) := hK.keep fun id hid => blk?_push_lt (hK.own_lt hid)
  obtain ⟨h',own',e1,hK2,F2⟩ := snk_put hK1 (by omega) hsok
  have F3 : SF h (h ++ [some ⟨false,[.int .i64 l[i].1,.int .i64 (l[i].2 : Nat)]⟩]) own own := ⟨by simp,fun id hid _ => blk?_push_lt hid,fun id hid => .inl hid⟩
  have htk : l.take (i + 1) = l.take i ++ [l[i]] := by rw [List.take_add_one,List.getElem?_eq_getElem hi]; rfl
  have hst' : st.put (l[i].1,l[i].2) = st0.puts (l.take (i + 1)) := by rw [htk,hst]; unfold S2.puts; rw [List.foldl_append]; rfl
  have ih' := fun K0 K1 K2 K3 K4 K5 K6 K7 K8 Kb Kd Kh Kl Km Kn Ko Kp Kq Kr Ks Kt Ku Kv Kw Kx Ky Kz J0 J1 J2 J3 J4 J5 J6 J7 J8 J9 Ja Jb Jc Jd Je Jf Jg Jk Jl Jm Jn Jo Jp Jq Jr Js Jt Ju Jv Jy Jz Y0 Y1 Y2 Y3 Y4 Y5 Y6 Y7 Y8 Y9 Ya Yb Yf Yg Yh Yi Yj Yk Yl Ym Yn Yo Yp Yq Yr Ys Yt Yu Yv Yw Yx Yy Yz Z0 Z1 Z2 Z3 Z4 Z5 Z6 Z7 Z8 Z9 Za Zb Zc Zd Ze Zf Zg Zh Zi Zj Zk Zl Zm Zn Zo Zp Zq Zr Zs Zt Zu Zv Zw Zx Zy Zz K0q K1q K2q K3q => ih (i + 1) h' own' _ K0 K1 K2 K3 K4 K5 K6 K7 K8 Kb Kd Kh Kl Km Kn Ko Kp Kq Kr Ks Kt Ku Kv Kw Kx Ky Kz J0 J1 J2 J3 J4 J5 J6 J7 J8 J9 Ja Jb Jc Jd Je Jf Jg Jk Jl Jm Jn Jo Jp Jq Jr Js Jt Ju Jv Jy Jz Y0 Y1 Y2 Y3 Y4 Y5 Y6 Y7 Y8 Y9 Ya Yb Yf Yg Yh Yi Yj Yk Yl Ym Yn Yo Yp Yq Yr Ys Yt Yu Yv Yw Yx Yy Yz Z0 Z1 Z2 Z3 Z4 Z5 Z6 Z7 Z8 Z9 Za Zb Zc Zd Ze Zf Zg Zh Zi Zj Zk Zl Zm Zn Zo Zp Zq Zr Zs Zt Zu Zv Zw Zx Zy Zz K0q K1q K2q K3q (by omega) hst' hK2 ((F.trans F3).trans F2)
  generalize l[i].1 = c at *
  generalize l[i].2 = bt at *
  generalize ((i + 1 : Nat) : Int) = i1 at *
  have hset : ∀ x : Option Blk,(h ++ [x]).set h.length (some ⟨false,[.int .i64 c,.int .i64 (bt : Nat)]⟩) = h ++ [some ⟨false,[.int .i64 c,.int .i64 (bt : Nat)]⟩] := fun x => by rw [app_set]; rfl
  have hpe : ∀ x : Option Blk,blk? (h ++ [x]) h.length = x := fun x => blk?_push_eq
  rw [ok_round,l17_0,L17_0a,L17_0b]
  simp [hi,hbh,hle,htw,hpe,hset,e1,hw]
  exact ih' ..
end
set_option maxRecDepth 10000
def segRun (m : MD) : Nat → List (List (Int × Nat)) → S2 → S2 × List Nat
 | _,[],st => (st,[])
 | n,l :: r,st =>
  let st1 := (if m.rst = true ∧ rawOf m n = false then st.back else st).puts l
  ((segRun m (n + 1) r st1).1,st1.size :: (segRun m (n + 1) r st1).2)
def totL : List (List (Int × Nat)) → Nat
 | [] => 0
 | l :: r => l.length + totL r
def ownZ (own : Nat → Prop) (zv : Value) (id : Nat) : Prop := own id ∨ sid zv = some id
section
variable {R : Value → Heap → Prop} {k : List RItem} {e M X0 X cnt gn gi n0 : Nat} {sv gv v : Value} {m : MD}
theorem mid_loop {h0 : Heap} {own0 : Nat → Prop} {vs : List Value} {ls : List (List (Int × Nat))} {stF : S2} {zsF : List Nat} {NF : Nat} (hNF : NF ≤ 900000) (hp : Pss h0 sv vs ls) (hpn : ∀ id,sid sv = some id → ¬ own0 id) (hen : ∀ i (h1 : i < vs.length) id,sid vs[i] = some id → ¬ own0 id)
  (hm : blk? h0 M = some ⟨false,[.bool m.byp,.bool m.res,.bool m.rst,.bool m.cz,.bool m.sy]⟩) (hMn : ¬ own0 M) (hcnt : n0 + cnt ≤ ls.length) (hls : ls.length ≤ 178)
  (hk : ∀ (h : Heap) (own : Nat → Prop) (zv : Value) (K0 K1 K2 K3 K4 K5 K6 K7 K8 Kb Kd Kh Kl Km Kn Ko Kp Kq Kr Ks Kt Ku Kv Kw Kx Ky Kz J0 J1 J2 J3 J4 J5 J6 J7 J8 J9 Ja Jb Jc Jd Je Jf Jg Jk Jl Jm Jn Jo Jp Jq Jr Js Jt Ju Jv Jw Jx Jy Jz Y0 Y1 Y2 Y3 Y4 Y5 Y6 Y7 Y8 Y9 Ya Yb Yc Yd Ye Yf Yg Yh Yi Yj Yk Yl Ym Yn Yo Yp Yq Yr Ys Yt Yu Yv Yw Yx Yy Yz Z0 Z1 Z2 Z3 Z4 Z5 Z6 Z7 Z8 Z9 Za Zb Zc Zd Ze Zf Zg Zh Zi Zj Zk Zl Zm Zn Zo Zp Zq Zr Zs Zt Zu Zv Zw Zx Zy Zz K0q K1q K2q K3q : Value),Snk h e v own stF NF → OwnS h 1 zv zsF.length (nI zsF) → (∀ z ∈ zsF,z ≤ 900004) → (∀ id,own id → sid zv ≠ some id) → SF h0 h own0 (ownZ own zv) → Ok tab R17 k #[K0,K1,K2,K3,K4,K5,K6,K7,K8,ptr M,ptr X0,Kb,sv,Kd,ptr e,ptr X,.int .i64 ((n0 + cnt : Nat) : Int),Kh,.int .i64 (cnt : Nat),v,zv,Kl,Km,Kn,Ko,Kp,Kq,Kr,Ks,Kt,Ku,Kv,Kw,Kx,Ky,Kz,J0,J1,J2,J3,J4,J5,J6,J7,J8,J9,Ja,Jb,Jc,Jd,Je,Jf,Jg,gv,.int .i64 (gn : Nat),.int .i64 (gi : Nat),Jk,Jl,Jm,Jn,Jo,Jp,Jq,Jr,Js,Jt,Ju,Jv,Jw,Jx,Jy,Jz,Y0,Y1,Y2,Y3,Y4,Y5,Y6,Y7,Y8,Y9,Ya,Yb,Yc,Yd,Ye,Yf,Yg,Yh,Yi,Yj,Yk,Yl,Ym,Yn,Yo,Yp,Yq,Yr,Ys,Yt,Yu,Yv,Yw,Yx,Yy,Yz,Z0,Z1,Z2,Z3,Z4,Z5,Z6,Z7,Z8,Z9,Za,Zb,Zc,Zd,Ze,Zf,Zg,Zh,Zi,Zj,Zk,Zl,Zm,Zn,Zo,Zp,Zq,Zr,Zs,Zt,Zu,Zv,Zw,Zx,Zy,Zz,K0q,K1q,K2q,K3q] h R) :
  ∀ (d j : Nat) (h : Heap) (own : Nat → Prop) (st : S2) (zv : Value) (zs : List Nat) (N : Nat) (K0 K1 K2 K3 K4 K5 K6 K7 K8 Kb Kd Kh Kl Km Kn Ko Kp Kq Kr Ks Kt Ku Kv Kw Kx Ky Kz J0 J1 J2 J3 J4 J5 J6 J7 J8 J9 Ja Jb Jc Jd Je Jf Jg Jk Jl Jm Jn Jo Jp Jq Jr Js Jt Ju Jv Jy Jz Y0 Y1 Y2 Y3 Y4 Y5 Y6 Y7 Y8 Y9 Ya Yb Yc Yd Ye Yf Yg Yh Yi Yj Yk Yl Ym Yn Yo Yp Yq Yr Ys Yt Yu Yv Yw Yx Yy Yz Z0 Z1 Z2 Z3 Z4 Z5 Z6 Z7 Z8 Z9 Za Zb Zc Zd Ze Zf Zg Zh Zi Zj Zk Zl Zm Zn Zo Zp Zq Zr Zs Zt Zu Zv Zw Zx Zy Zz K0q K1q K2q K3q : Value),j + d = cnt → Snk h e v own st N → N + totL ((ls.drop (n0 + j)).take d) = NF → (∀ l ∈ (ls.drop (n0 + j)).take d,∀ s ∈ l,SymOk st.raw s) →
   OwnS h 1 zv zs.length (nI zs) → (∀ z ∈ zs,z ≤ 900004) → zs.length ≤ 178 + j → (∀ id,own id → sid zv ≠ some id) → SF h0 h own0 (ownZ own zv) → (segRun m (n0 + j) ((ls.drop (n0 + j)).take d) st).1 = stF → zs ++ (segRun m (n0 + j) ((ls.drop (n0 + j)).take d) st).2 = zsF →
   Ok tab R17 (.inLoop L17_1 :: .inBlock 2 :: k) #[K0,K1,K2,K3,K4,K5,K6,K7,K8,ptr M,ptr X0,Kb,sv,Kd,ptr e,ptr X,.int .i64 ((n0 + j : Nat) : Int),Kh,.int .i64 (cnt : Nat),v,zv,Kl,Km,Kn,Ko,Kp,Kq,Kr,Ks,Kt,Ku,Kv,Kw,Kx,Ky,Kz,J0,J1,J2,J3,J4,J5,J6,J7,J8,J9,Ja,Jb,Jc,Jd,Je,Jf,Jg,gv,.int .i64 (gn : Nat),.int .i64 (gi : Nat),Jk,Jl,Jm,Jn,Jo,Jp,Jq,Jr,Js,Jt,Ju,Jv,.int .i64 (cnt : Nat),.int .i64 (j : Nat),Jy,Jz,Y0,Y1,Y2,Y3,Y4,Y5,Y6,Y7,Y8,Y9,Ya,Yb,Yc,Yd,Ye,Yf,Yg,Yh,Yi,Yj,Yk,Yl,Ym,Yn,Yo,Yp,Yq,Yr,Ys,Yt,Yu,Yv,Yw,Yx,Yy,Yz,Z0,Z1,Z2,Z3,Z4,Z5,Z6,Z7,Z8,Z9,Za,Zb,Zc,Zd,Ze,Zf,Zg,Zh,Zi,Zj,Zk,Zl,Zm,Zn,Zo,Zp,Zq,Zr,Zs,Zt,Zu,Zv,Zw,Zx,Zy,Zz,K0q,K1q,K2q,K3q] h R := by
 intro d
 induction d with
 | zero =>
  intro j h own st zv zs N K0 K1 K2 K3 K4 K5 K6 K7 K8 Kb Kd Kh Kl Km Kn Ko Kp Kq Kr Ks Kt Ku Kv Kw Kx Ky Kz J0 J1 J2 J3 J4 J5 J6 J7 J8 J9 Ja Jb Jc Jd Je Jf Jg Jk Jl Jm Jn Jo Jp Jq Jr Js Jt Ju Jv Jy Jz Y0 Y1 Y2 Y3 Y4 Y5 Y6 Y7 Y8 Y9 Ya Yb Yc Yd Ye Yf Yg Yh Yi Yj Yk Yl Ym Yn Yo Yp Yq Yr Ys Yt Yu Yv Yw Yx Yy Yz Z0 Z1 Z2 Z3 Z4 Z5 Z6 Z7 Z8 Z9 Za Zb Zc Zd Ze Zf Zg Zh Zi Zj Zk Zl Zm Zn Zo Zp Zq Zr Zs Zt Zu Zv Zw Zx Zy Zz K0q K1q K2q K3q hjd hK hN _ hz hzb _ hd hF h1 h2
  obtain rfl : j = cnt := by omega
  simp only [List.take_zero,segRun,List.append_nil] at h1 h2
  subst h1 h2
  rw [ok_round,l17_1,L17_1a,L17_1b]
  simp
  have := hk h own zv
  simp only [Int.natCast_add] at this
  exact this _ _ _ _ _ _ _ _ _ _ _ _ _ _ _ _ _ _ _ _ _ _ _ _ _ _ _ _ _ _ _ _ _ _ _ _ _ _ _ _ _ _ _ _ _ _ _ _ _ _ _ _ _ _ _ _ _ _ _ _ _ _ _ _ _ _ _ _ _ _ _ _ _ _ _ _ _ _ _ _ _ _ _ _ _ _ _ _ _ _ _ _ _ _ _ _ _ _ _ _ _ _ _ _ _ _ _ _ _ _ _ _ _ _ _ _ _ _ _ _ _ _ _ _ _ _ _ _ _ _ _ _ _ _ _ _ (by simp [totL] at hN; rw [← hN]; exact hK) hz hzb hd hF
 | succ d ih =>
  intro j h own st zv zs N K0 K1 K2 K3 K4 K5 K6 K7 K8 Kb Kd Kh Kl Km Kn Ko Kp Kq Kr Ks Kt Ku Kv Kw Kx Ky Kz J0 J1 J2 J3 J4 J5 J6 J7 J8 J9 Ja Jb Jc Jd Je Jf Jg Jk Jl Jm Jn Jo Jp Jq Jr Js Jt Ju Jv Jy Jz Y0 Y1 Y2 Y3 Y4 Y5 Y6 Y7 Y8 Y9 Ya Yb Yc Yd Ye Yf Yg Yh Yi Yj Yk Yl Ym Yn Yo Yp Yq Yr Ys Yt Yu Yv Yw Yx Yy Yz Z0 Z1 Z2 Z3 Z4 Z5 Z6 Z7 Z8 Z9 Za Zb Zc Zd Ze Zf Zg Zh Zi Zj Zk Zl Zm Zn Zo Zp Zq Zr Zs Zt Zu Zv Zw Zx Zy Zz K0q K1q K2q K3q hjd hK hN hok hz hzb hzl hd hF h1 h2
  have hi : n0 + j < ls.length := by omega
  have hiv : n0 + j < vs.length := by rw [hp.len]; omega
  have htk : (ls.drop (n0 + j)).take (d + 1) = ls[n0 + j] :: (ls.drop (n0 + j + 1)).take d := by rw [List.drop_eq_getElem_cons hi,List.take_succ_cons]
  rw [htk] at hN hok h1 h2
  simp only [totL,segRun] at hN h1 h2
  have hlt : (j : Int) < (cnt : Int) := by omega
  have hjc : j < cnt := by omega
  have lt0 : ∀ id b,blk? h0 id = some b → ¬ own0 id → blk? h id = some b := fun id b hb hn => by rw [hF.same id (blk?_lt hb) hn]; exact hb
  obtain ⟨pid,poff,pbk,hsv,hpb,hpc⟩ := hp.get hiv
  have hpb' := lt0 _ _ hpb (hpn pid (by rw [hsv]; rfl))
  have hm' := lt0 _ _ hm hMn
  have hmo : ¬ own M := fun x => by
   rcases hF.fresh M (.inl x) with hx | hx
   ·exact hMn hx
   ·have := blk?_lt hm; omega
  have hyS := hp.each (n0 + j) hiv hi
  obtain ⟨ya,yc,hyv⟩ := hyS.sl.shape
  have hyno : ∀ id,sid vs[n0 + j] = some id → ¬ own id := fun id hid x => by
   rcases hF.fresh id (.inl x) with hx | hx
   ·exact hen _ hiv id hid hx
   ·have hsb := hyS.sb
    rw [hyv] at hid hsb
    cases ya with
    | none => simp [sid] at hid
    | some ad => simp [sid] at hid hsb; omega
  have hrc := fun H R => raw_c (h := H) (R := R) (n := n0 + j) (by omega) m
  have stepA : ∃ h1 st1,Snk h1 e v own st1 N ∧ SF h h1 own own ∧ st1 = (if m.rst = true ∧ rawOf m (n0 + j) = false then st.back else st) ∧ (m.rst = true → rawOf m (n0 + j) = false → ∀ R,Ret tab 41 [ptr e] h R = R (.tuple #[]) h1) ∧ (¬ (m.rst = true ∧ rawOf m (n0 + j) = false) → h1 = h) := by
   by_cases hc : m.rst = true ∧ rawOf m (n0 + j) = false
   ·obtain ⟨h1,e1,hK1,F1⟩ := snk_back hK
    exact ⟨h1,_,hK1,F1,by rw [if_pos hc],fun _ _ => e1,fun x => absurd hc x⟩
   ·exact ⟨h,_,hK,SF.refl _ _,by rw [if_neg hc],fun a b => absurd ⟨a,b⟩ hc,fun _ => rfl⟩
  obtain ⟨hA,stA,hKA,FA,hstA,eA,eA'⟩ := stepA
  rw [← hstA] at h1 h2
  have hrawA : stA.raw = st.raw := by rw [hstA]; split <;> rfl
  have sameA : ∀ id b,blk? h0 id = some b → ¬ own0 id → ¬ own id → blk? hA id = some b := fun id b hb hn hn2 => by
   have hx := lt0 id b hb hn
   rw [FA.same id (blk?_lt hx) hn2]; exact hx
  have hpo : ¬ own pid := fun x => by
   rcases hF.fresh pid (.inl x) with hx | hx
   ·exact hpn pid (by rw [hsv]; rfl) hx
   ·have := blk?_lt hpb; omega
  have hpbA := sameA _ _ hpb (hpn pid (by rw [hsv]; rfl)) hpo
  have hyA : Sl hA 2 vs[n0 + j] ls[n0 + j].length (encS ls[n0 + j]) := hyS.sl.of_sid fun id b hid hb => sameA id b hb (hen _ hiv id hid) (hyno id hid)
  have tail : ∀ (hB : Heap) (own' : Nat → Prop) (K0 K1 K2 K3 K4 K5 K6 K7 K8 Kb Kd Kh Kl Km Kn Ko Kp Kq Kr Ks Kt Ku Kv Kw Kx Ky Kz J0 J1 J2 J3 J4 J5 J6 J7 J8 J9 Ja Jb Jc Jd Je Jf Jg Jk Jl Jm Jn Jo Jp Jq Jr Js Jt Ju Jv Jy Jz Y0 Y1 Y2 Y3 Y4 Y5 Y6 Y7 Y8 Y9 Ya Yb Yc Yd Ye Yf Yg Yh Yi Yj Yk Yl Ym Yn Yo Yp Yq Yr Ys Yt Yu Yv Yw Yx Yy Yz Z0 Z1 Z2 Z3 Z4 Z5 Z6 Z7 Z8 Z9 Za Zb Zc Zd Ze Zf Zg Zh Zi Zj Zk Zl Zm Zn Zo Zp Zq Zr Zs Zt Zu Zv Zw Zx Zy Zz K0q K1q K2q K3q : Value),Snk hB e v own' (stA.puts ls[n0 + j]) (N + ls[n0 + j].length) → SF hA hB own own' →
    Ok tab R17 (.code (.seq (.region [⟨some 94,.mov (.tmp 20),none⟩,⟨some 95,.mov (.tmp 19),none⟩,⟨some 96,.call (.const (.tuple tbS)) [.tmp 95],none⟩,⟨some 97,.buildSlice 1 1 [.int .i64 0] [(0,.tmp 96)],none⟩,⟨some 98,.append 1 8 (.tmp 94) (.tmp 97),none⟩,⟨some 20,.mov (.tmp 98),none⟩] [])
     (.region [⟨some 99,.mov (.tmp 16),none⟩,⟨some 100,.bin .add (.tmp 99) (.const (.int .i64 1)),none⟩,⟨some 16,.mov (.tmp 100),none⟩] [])) :: .inBlock 3 :: .code (.region [⟨some 101,.bin .add (.tmp 69) (.const (.int .i64 1)),none⟩,⟨some 69,.mov (.tmp 101),none⟩] []) :: .inLoop L17_1 :: .inBlock 2 :: k) #[K0,K1,K2,K3,K4,K5,K6,K7,K8,ptr M,ptr X0,Kb,sv,Kd,ptr e,ptr X,.int .i64 ((n0 + j : Nat) : Int),Kh,.int .i64 (cnt : Nat),v,zv,Kl,Km,Kn,Ko,Kp,Kq,Kr,Ks,Kt,Ku,Kv,Kw,Kx,Ky,Kz,J0,J1,J2,J3,J4,J5,J6,J7,J8,J9,Ja,Jb,Jc,Jd,Je,Jf,Jg,gv,.int .i64 (gn : Nat),.int .i64 (gi : Nat),Jk,Jl,Jm,Jn,Jo,Jp,Jq,Jr,Js,Jt,Ju,Jv,.int .i64 (cnt : Nat),.int .i64 (j : Nat),Jy,Jz,Y0,Y1,Y2,Y3,Y4,Y5,Y6,Y7,Y8,Y9,Ya,Yb,Yc,Yd,Ye,Yf,Yg,Yh,Yi,Yj,Yk,Yl,Ym,Yn,Yo,Yp,Yq,Yr,Ys,Yt,Yu,Yv,Yw,Yx,Yy,Yz,Z0,Z1,Z2,Z3,Z4,Z5,Z6,Z7,Z8,Z9,Za,Zb,Zc,Zd,Ze,Zf,Zg,Zh,Zi,Zj,Zk,Zl,Zm,Zn,Zo,Zp,Zq,Zr,Zs,Zt,Zu,Zv,Zw,Zx,Zy,Zz,K0q,K1q,K2q,K3q] hB R := by
   intro hB own' K0 K1 K2 K3 K4 K5 K6 K7 K8 Kb Kd Kh Kl Km Kn Ko Kp Kq Kr Ks Kt Ku Kv Kw Kx Ky Kz J0 J1 J2 J3 J4 J5 J6 J7 J8 J9 Ja Jb Jc Jd Je Jf Jg Jk Jl Jm Jn Jo Jp Jq Jr Js Jt Ju Jv Jy Jz Y0 Y1 Y2 Y3 Y4 Y5 Y6 Y7 Y8 Y9 Ya Yb Yc Yd Ye Yf Yg Yh Yi Yj Yk Yl Ym Yn Yo Yp Yq Yr Ys Yt Yu Yv Yw Yx Yy Yz Z0 Z1 Z2 Z3 Z4 Z5 Z6 Z7 Z8 Z9 Za Zb Zc Zd Ze Zf Zg Zh Zi Zj Zk Zl Zm Zn Zo Zp Zq Zr Zs Zt Zu Zv Zw Zx Zy Zz K0q K1q K2q K3q hKB FB
   have FAB := FA.trans FB
   have hzid : ∀ id,sid zv = some id → ¬ own' id := fun id hid x => by
    rcases FAB.fresh id x with hx | hx
    ·exact hd id hx hid
    ·have := hz.lt hid; omega
   have hzB : OwnS hB 1 zv zs.length (nI zs) := hz.of_blk fun id hid hb => by rw [FAB.same id (blk?_lt hb) (fun x => hd id x hid)]; exact hb
   obtain ⟨hC,eC,hKC,FC⟩ := snk_size hKB (by omega)
   have hzC : OwnS hC 1 zv zs.length (nI zs) := hzB.of_blk fun id hid hb => by rw [FC.same id (blk?_lt hb) (hzid id hid)]; exact hb
   obtain ⟨hD,eD,hzD,lD,kD⟩ := app1n (v := (stA.puts ls[n0 + j]).size) hzC (by omega)
   have hKD : Snk hD e v own' (stA.puts ls[n0 + j]) (N + ls[n0 + j].length) := hKC.keep fun id hid => kD id (hKC.own_lt hid) (fun x => hzid id x hid)
   have FD : SF h0 hD own0 (ownZ own' (.slice (some ⟨hC.length + 1,0,none⟩) (zs.length + 1) 1)) := by
    have l1 := hF.len; have l2 := FAB.len; have l3 := FC.len
    refine ⟨by omega,fun id hid hn => ?_,fun id hid => ?_⟩
    ·have hno : ¬ ownZ own zv id := fun x => by
      rcases hF.fresh id x with hx | hx
      ·exact hn hx
      ·omega
     have hno' : ¬ own' id := fun x => by
      rcases FAB.fresh id x with hx | hx
      ·exact hno (.inl hx)
      ·omega
     rw [kD id (by omega) (fun x => hno (.inr x)),FC.same id (by omega) hno',FAB.same id (by omega) (fun x => hno (.inl x)),hF.same id hid hn]
    ·rcases hid with hid | hid
     ·rcases FAB.fresh id hid with hx | hx
      ·rcases hF.fresh id (.inl hx) with hy | hy
       ·exact .inl hy
       ·right; omega
      ·right; omega
     ·simp [sid] at hid; right; omega
   have hd' : ∀ id,own' id → sid (.slice (some ⟨hC.length + 1,0,none⟩) (zs.length + 1) 1) ≠ some id := fun id hid x => by
    have := hKC.own_lt hid
    simp [sid] at x; omega
   have ih' := fun K0 K1 K2 K3 K4 K5 K6 K7 K8 Kb Kd Kh Kl Km Kn Ko Kp Kq Kr Ks Kt Ku Kv Kw Kx Ky Kz J0 J1 J2 J3 J4 J5 J6 J7 J8 J9 Ja Jb Jc Jd Je Jf Jg Jk Jl Jm Jn Jo Jp Jq Jr Js Jt Ju Jv Jy Jz Y0 Y1 Y2 Y3 Y4 Y5 Y6 Y7 Y8 Y9 Ya Yb Yc Yd Ye Yf Yg Yh Yi Yj Yk Yl Ym Yn Yo Yp Yq Yr Ys Yt Yu Yv Yw Yx Yy Yz Z0 Z1 Z2 Z3 Z4 Z5 Z6 Z7 Z8 Z9 Za Zb Zc Zd Ze Zf Zg Zh Zi Zj Zk Zl Zm Zn Zo Zp Zq Zr Zs Zt Zu Zv Zw Zx Zy Zz K0q K1q K2q K3q => ih (j + 1) hD own' _ _ (zs ++ [(stA.puts ls[n0 + j]).size]) _ K0 K1 K2 K3 K4 K5 K6 K7 K8 Kb Kd Kh Kl Km Kn Ko Kp Kq Kr Ks Kt Ku Kv Kw Kx Ky Kz J0 J1 J2 J3 J4 J5 J6 J7 J8 J9 Ja Jb Jc Jd Je Jf Jg Jk Jl Jm Jn Jo Jp Jq Jr Js Jt Ju Jv Jy Jz Y0 Y1 Y2 Y3 Y4 Y5 Y6 Y7 Y8 Y9 Ya Yb Yc Yd Ye Yf Yg Yh Yi Yj Yk Yl Ym Yn Yo Yp Yq Yr Ys Yt Yu Yv Yw Yx Yy Yz Z0 Z1 Z2 Z3 Z4 Z5 Z6 Z7 Z8 Z9 Za Zb Zc Zd Ze Zf Zg Zh Zi Zj Zk Zl Zm Zn Zo Zp Zq Zr Zs Zt Zu Zv Zw Zx Zy Zz K0q K1q K2q K3q (by omega) hKD (by rw [← Nat.add_assoc]; omega)
    (fun l hl s hs => by
     have := hok l (by rw [← Nat.add_assoc] at hl; exact List.mem_cons_of_mem _ hl) s hs
     have hr := puts_raw ls[n0 + j] stA
     rw [hrawA] at hr
     exact ⟨this.1,fun x => this.2 (hr.2 x)⟩)
    hzD (fun z hz' => by
     rcases List.mem_append.1 hz' with hx | hx
     ·exact hzb z hx
     ·have := snk_size_le hKB
      rw [List.mem_singleton.1 hx]; omega) (by simp; omega) hd' FD (by rw [← Nat.add_assoc]; exact h1) (by rw [← Nat.add_assoc,List.append_assoc]; exact h2)
   have w1 : IntKind.i64.wrap ((n0 : Int) + (j : Int) + 1) = (n0 : Int) + (j : Int) + 1 := wrapI (by omega) (by omega)
   have w2 : IntKind.i64.wrap ((j : Int) + 1) = (j : Int) + 1 := wrapI (by omega) (by omega)
   simp only [Int.natCast_add,Int.cast_ofNat_Int,← Int.add_assoc] at ih'
   generalize (stA.puts ls[n0 + j]).size = z at *
   simp [repL,eC,eD,w1,w2]
   exact ih' ..
  have hsymok : ∀ s ∈ ls[n0 + j],SymOk stA.raw s := fun s hs => by rw [hrawA]; exact hok _ (List.mem_cons_self ..) s hs
  have hSL := fun K0 K1 K2 K3 K4 K5 K6 K7 K8 Kb Kd Kh Kl Km Kn Ko Kp Kq Kr Ks Kt Ku Kv Kw Kx Ky Kz J0 J1 J2 J3 J4 J5 J6 J7 J8 J9 Ja Jb Jc Jd Je Jf Jg Jk Jl Jm Jn Jo Jp Jq Jr Js Jt Ju Jv Jy Jz Y0 Y1 Y2 Y3 Y4 Y5 Y6 Y7 Y8 Y9 Ya Yb Yf Yg Yh Yi Yj Yk Yl Ym Yn Yo Yp Yq Yr Ys Yt Yu Yv Yw Yx Yy Yz Z0 Z1 Z2 Z3 Z4 Z5 Z6 Z7 Z8 Z9 Za Zb Zc Zd Ze Zf Zg Zh Zi Zj Zk Zl Zm Zn Zo Zp Zq Zr Zs Zt Zu Zv Zw Zx Zy Zz K0q K1q K2q K3q => sym_loop (R := R) (e := e) (M := M) (X0 := X0) (X := X) (cnt := cnt) (gn := gn) (gi := gi) (n := n0 + j) (j := j) (sv := sv) (zv := zv) (gv := gv) (v := v) hyA hyno hsymok (by omega) (N0 := N) (fun hB own' K0 K1 K2 K3 K4 K5 K6 K7 K8 Kb Kd Kh Kl Km Kn Ko Kp Kq Kr Ks Kt Ku Kv Kw Kx Ky Kz J0 J1 J2 J3 J4 J5 J6 J7 J8 J9 Ja Jb Jc Jd Je Jf Jg Jk Jl Jm Jn Jo Jp Jq Jr Js Jt Ju Jv Jy Jz Y0 Y1 Y2 Y3 Y4 Y5 Y6 Y7 Y8 Y9 Ya Yb Yc Yd Ye Yf Yg Yh Yi Yj Yk Yl Ym Yn Yo Yp Yq Yr Ys Yt Yu Yv Yw Yx Yy Yz Z0 Z1 Z2 Z3 Z4 Z5 Z6 Z7 Z8 Z9 Za Zb Zc Zd Ze Zf Zg Zh Zi Zj Zk Zl Zm Zn Zo Zp Zq Zr Zs Zt Zu Zv Zw Zx Zy Zz K0q K1q K2q K3q a b => tail hB own' K0 K1 K2 K3 K4 K5 K6 K7 K8 Kb Kd Kh Kl Km Kn Ko Kp Kq Kr Ks Kt Ku Kv Kw Kx Ky Kz J0 J1 J2 J3 J4 J5 J6 J7 J8 J9 Ja Jb Jc Jd Je Jf Jg Jk Jl Jm Jn Jo Jp Jq Jr Js Jt Ju Jv Jy Jz Y0 Y1 Y2 Y3 Y4 Y5 Y6 Y7 Y8 Y9 Ya Yb Yc Yd Ye Yf Yg Yh Yi Yj Yk Yl Ym Yn Yo Yp Yq Yr Ys Yt Yu Yv Yw Yx Yy Yz Z0 Z1 Z2 Z3 Z4 Z5 Z6 Z7 Z8 Z9 Za Zb Zc Zd Ze Zf Zg Zh Zi Zj Zk Zl Zm Zn Zo Zp Zq Zr Zs Zt Zu Zv Zw Zx Zy Zz K0q K1q K2q K3q a b) ls[n0 + j].length 0 hA own stA K0 K1 K2 K3 K4 K5 K6 K7 K8 Kb Kd Kh Kl Km Kn Ko Kp Kq Kr Ks Kt Ku Kv Kw Kx Ky Kz J0 J1 J2 J3 J4 J5 J6 J7 J8 J9 Ja Jb Jc Jd Je Jf Jg Jk Jl Jm Jn Jo Jp Jq Jr Js Jt Ju Jv Jy Jz Y0 Y1 Y2 Y3 Y4 Y5 Y6 Y7 Y8 Y9 Ya Yb Yf Yg Yh Yi Yj Yk Yl Ym Yn Yo Yp Yq Yr Ys Yt Yu Yv Yw Yx Yy Yz Z0 Z1 Z2 Z3 Z4 Z5 Z6 Z7 Z8 Z9 Za Zb Zc Zd Ze Zf Zg Zh Zi Zj Zk Zl Zm Zn Zo Zp Zq Zr Zs Zt Zu Zv Zw Zx Zy Zz K0q K1q K2q K3q (by omega) rfl hKA (SF.refl _ _)
  clear tail ih
  have c1 : ((n0 + j : Nat) : Int) < (vs.length : Int) := by omega
  rw [hyv] at hpc hSL
  simp only [Int.natCast_add,Int.cast_ofNat_Int] at hSL hrc c1
  have hge : (0 : Int) ≤ (n0 : Int) + (j : Int) := by omega
  have htn : ((n0 : Int) + (j : Int)).toNat = n0 + j := by omega
  subst hsv
  rw [ok_round,l17_1,L17_1a,L17_1b]
  simp only [MD.val] at hrc
  cases hrs : m.rst with
  | false =>
   have hAh := eA' (by rw [hrs]; simp)
   subst hAh
   rw [hrs] at hm' hrc
   simp [k_guard,hlt,hjc,hm',hpbA,hpc,c1,hge,htn]
   exact hSL ..
  | true =>
   rw [hrs] at hm' hrc
   cases hrw : rawOf m (n0 + j) with
   | true =>
    have hAh := eA' (by rw [hrw]; simp)
    subst hAh
    rw [hrw] at hrc
    simp [k_guard,hlt,hjc,hm',hrc,hpbA,hpc,c1,hge,htn]
    exact hSL ..
   | false =>
    have eA1 := fun R => eA hrs hrw R
    rw [hrw] at hrc
    simp [k_guard,hlt,hjc,hm',hrc,eA1,hpbA,hpc,c1,hge,htn]
    exact hSL ..
end
set_option maxRecDepth 10000
theorem app_any {h : Heap} {t s : Value} {n m bytes : Nat} {cs new : List Value} (ho : OwnS h 1 t n cs) (hs : Sl h 1 s m new) (hr : n + m ≤ roomCells) (hb : bytes ≤ 4096) :
  ∃ t' H,appendV h 1 bytes t s = some (t',H) ∧ OwnS H 1 t' (n + m) (cs ++ new) ∧ h.length ≤ H.length ∧ (∀ id,id < h.length → sid t ≠ some id → blk? H id = blk? h id) ∧ (∀ id,sid t' = some id → h.length ≤ id ∧ id < H.length) := by
 by_cases hm : m = 0
 ·subst hm
  have hn : new = [] := List.eq_nil_of_length_eq_zero (by have := hs.1; omega)
  subst hn
  rcases ho.2 with ⟨rfl,h0⟩ | ⟨id,rfl,hbk⟩
  ·subst h0
   have hc : cs = [] := List.eq_nil_of_length_eq_zero (by have := ho.1; omega)
   subst hc
   refine ⟨.slice none 0 0,h,?_,OwnS.nil _ _,Nat.le_refl _,fun _ _ _ => rfl,fun id hid => by simp [sid] at hid⟩
   unfold appendV
   simp [hs.lenV,hs.firstC]
  ·have hl := ho.1
   refine ⟨.slice (some ⟨h.length,0,none⟩) n 1,h.set id none ++ [some ⟨false,cs⟩],?_,⟨by simpa using hl,.inr ⟨h.length,rfl,?_⟩⟩,by simp,fun j hj hne => ?_,fun j hj => by simp [sid] at hj; subst hj; simp⟩
   ·simp only [appendV,hs.lenV,hs.firstC,hbk]
    rw [if_pos ⟨trivial,trivial,by simp; omega,hr,hb⟩]
    simp only [List.drop_zero,List.append_nil,Nat.add_zero]
    rw [List.take_of_length_le (by omega)]
   ·have := blk?_push_eq (h := h.set id none) (x := some ⟨false,cs⟩)
    simpa using this
   ·rw [blk?_push_lt (by simpa using hj),blk?_set_ne (fun e => hne (by rw [e]; rfl))]
 ·obtain ⟨H,e,hbk,hl,hk⟩ := own_append ho hs hr hb hm
  refine ⟨_,H,e,⟨by have h1 := ho.1; have h2 := hs.1; simp only [List.length_append]; omega,.inr ⟨_,rfl,hbk⟩⟩,by omega,hk,fun id hid => by simp [sid] at hid; omega⟩
section
variable {R : Value → Heap → Prop} {k : List RItem} {e M X0 X gn gi : Nat} {sv gv nv : Value}
theorem size_loop {B : Nat} {h0 : Heap} {pl : Value} {dv zv pv0 : Value} {zs D : List Nat} {beg : Nat} (hz : Sl h0 1 zv zs.length (nI zs)) (hzB : ∀ id,sid zv = some id → id < B ∧ id ≠ X ∧ sid pv0 ≠ some id) (hXB : X < B) (hdshape : ∃ da dc,dv = .slice da D.length dc) (hbeg : beg < 1000000000) (hzs : ∀ z ∈ zs,z < 1000000000) (hzl : zs.length ≤ 1000) (hD : D.length < 1000000000) {PF : List Nat}
  (hk : ∀ (h : Heap) (pv : Value) (K0 K1 K2 K3 K4 K5 K6 K7 K8 Kb Kd Kh Ki Kj Kk Kl Km Kn Ko Kp Kq Kr Ks Kt Ku Kv Kw Kx Ky Kz J0 J1 J2 J3 J4 J5 J6 J7 J8 J9 Ja Jb Jc Jd Je Jf Jg Jk Jl Jm Jn Jo Jp Jq Jr Js Jt Ju Jv Jw Jx Jy Jz Y0 Y1 Y2 Y3 Y4 Y5 Y6 Y7 Y8 Y9 Ya Yb Yc Yd Ye Yf Yg Yh Yi Yj Yk Yl Ym Yn Yo Yp Yq Yr Ys Yt Yu Yv Yw Yx Yy Yz Z0 Z1 Z2 Z3 Z4 Z5 Z6 Z7 Z8 Z9 Za Zb Zc Zd Ze Zf Zg Zh Zi Zj Zk Zl Zm Zn Zo Zp Zq Zr Zs Zt Zu Zv Zw Zx Zy Zz K0q K1q K2q K3q : Value),OwnS h 1 pv PF.length (nI PF) → (∀ id,id < B → id ≠ X → sid pv0 ≠ some id → blk? h id = blk? h0 id) → blk? h X = some ⟨false,[pl,pv,dv]⟩ → (∀ id,sid pv = some id → (B ≤ id ∨ sid pv0 = some id) ∧ id ≠ X) → B ≤ h.length → Ok tab R17 k #[K0,K1,K2,K3,K4,K5,K6,K7,K8,ptr M,ptr X0,Kb,sv,Kd,ptr e,ptr X,nv,Kh,Ki,Kj,Kk,Kl,Km,Kn,Ko,Kp,Kq,Kr,Ks,Kt,Ku,Kv,Kw,Kx,Ky,Kz,J0,J1,J2,J3,J4,J5,J6,J7,J8,J9,Ja,Jb,Jc,Jd,Je,Jf,Jg,gv,.int .i64 (gn : Nat),.int .i64 (gi : Nat),Jk,Jl,Jm,Jn,Jo,Jp,Jq,Jr,Js,Jt,Ju,Jv,Jw,Jx,Jy,Jz,Y0,Y1,Y2,Y3,Y4,Y5,Y6,Y7,Y8,Y9,Ya,Yb,Yc,Yd,Ye,Yf,Yg,Yh,Yi,Yj,Yk,Yl,Ym,Yn,Yo,Yp,Yq,Yr,Ys,Yt,Yu,Yv,Yw,Yx,Yy,Yz,Z0,Z1,Z2,Z3,Z4,Z5,Z6,Z7,Z8,Z9,Za,Zb,Zc,Zd,Ze,Zf,Zg,Zh,Zi,Zj,Zk,Zl,Zm,Zn,Zo,Zp,Zq,Zr,Zs,Zt,Zu,Zv,Zw,Zx,Zy,Zz,K0q,K1q,K2q,K3q] h R) :
  ∀ (d i : Nat) (h : Heap) (pv : Value) (P : List Nat) (K0 K1 K2 K3 K4 K5 K6 K7 K8 Kb Kd Kh Ki Kj Kk Kl Km Ko Kp Kq Kr Ks Kt Ku Kv Kw Kx Ky Kz J0 J1 J2 J3 J4 J5 J6 J7 J8 J9 Ja Jb Jc Jd Je Jf Jg Jk Jl Jm Jn Jo Jp Jq Jr Js Jt Ju Jv Jw Jx Jy Jz Y0 Y1 Y2 Y3 Y4 Y5 Y6 Y7 Y8 Y9 Ya Yb Yc Yd Ye Yf Yg Yh Yi Yj Yk Yl Ym Yn Yo Yp Yq Yr Ys Yt Yu Yv Yw Yx Yy Yz Z0 Z1 Z2 Z3 Z4 Z5 Z9 Za Zb Zc Zd Ze Zf Zg Zh Zi Zj Zk Zl Zm Zn Zo Zp Zq Zr Zs Zt Zu Zv Zw Zx Zy Zz K0q K1q K2q K3q : Value),i + d = zs.length → OwnS h 1 pv P.length (nI P) → P.length + d ≤ 1000 → (∀ id,id < B → id ≠ X → sid pv0 ≠ some id → blk? h id = blk? h0 id) → blk? h X = some ⟨false,[pl,pv,dv]⟩ → (∀ id,sid pv = some id → (B ≤ id ∨ sid pv0 = some id) ∧ id ≠ X) → B ≤ h.length →
   P ++ (zs.drop i).map (fun z => min (beg + z) D.length) = PF →
   Ok tab R17 (.inLoop L17_2 :: .inBlock 6 :: k) #[K0,K1,K2,K3,K4,K5,K6,K7,K8,ptr M,ptr X0,Kb,sv,Kd,ptr e,ptr X,nv,Kh,Ki,Kj,Kk,Kl,Km,.int .i64 (beg : Nat),Ko,Kp,Kq,Kr,Ks,Kt,Ku,Kv,Kw,Kx,Ky,Kz,J0,J1,J2,J3,J4,J5,J6,J7,J8,J9,Ja,Jb,Jc,Jd,Je,Jf,Jg,gv,.int .i64 (gn : Nat),.int .i64 (gi : Nat),Jk,Jl,Jm,Jn,Jo,Jp,Jq,Jr,Js,Jt,Ju,Jv,Jw,Jx,Jy,Jz,Y0,Y1,Y2,Y3,Y4,Y5,Y6,Y7,Y8,Y9,Ya,Yb,Yc,Yd,Ye,Yf,Yg,Yh,Yi,Yj,Yk,Yl,Ym,Yn,Yo,Yp,Yq,Yr,Ys,Yt,Yu,Yv,Yw,Yx,Yy,Yz,Z0,Z1,Z2,Z3,Z4,Z5,zv,.int .i64 (zs.length : Nat),.int .i64 (i : Nat),Z9,Za,Zb,Zc,Zd,Ze,Zf,Zg,Zh,Zi,Zj,Zk,Zl,Zm,Zn,Zo,Zp,Zq,Zr,Zs,Zt,Zu,Zv,Zw,Zx,Zy,Zz,K0q,K1q,K2q,K3q] h R := by
 obtain ⟨da,dc,rfl⟩ := hdshape
 intro d
 induction d with
 | zero =>
  intro i h pv P K0 K1 K2 K3 K4 K5 K6 K7 K8 Kb Kd Kh Ki Kj Kk Kl Km Ko Kp Kq Kr Ks Kt Ku Kv Kw Kx Ky Kz J0 J1 J2 J3 J4 J5 J6 J7 J8 J9 Ja Jb Jc Jd Je Jf Jg Jk Jl Jm Jn Jo Jp Jq Jr Js Jt Ju Jv Jw Jx Jy Jz Y0 Y1 Y2 Y3 Y4 Y5 Y6 Y7 Y8 Y9 Ya Yb Yc Yd Ye Yf Yg Yh Yi Yj Yk Yl Ym Yn Yo Yp Yq Yr Ys Yt Yu Yv Yw Yx Yy Yz Z0 Z1 Z2 Z3 Z4 Z5 Z9 Za Zb Zc Zd Ze Zf Zg Zh Zi Zj Zk Zl Zm Zn Zo Zp Zq Zr Zs Zt Zu Zv Zw Zx Zy Zz K0q K1q K2q K3q hid ho hP hl hX hpB hBh hPF
  obtain rfl : i = zs.length := by omega
  rw [List.drop_length,List.map_nil,List.append_nil] at hPF
  subst hPF
  rw [ok_round,l17_2,L17_2a,L17_2b]
  simp
  exact hk h pv _ _ _ _ _ _ _ _ _ _ _ _ _ _ _ _ _ _ _ _ _ _ _ _ _ _ _ _ _ _ _ _ _ _ _ _ _ _ _ _ _ _ _ _ _ _ _ _ _ _ _ _ _ _ _ _ _ _ _ _ _ _ _ _ _ _ _ _ _ _ _ _ _ _ _ _ _ _ _ _ _ _ _ _ _ _ _ _ _ _ _ _ _ _ _ _ _ _ _ _ _ _ _ _ _ _ _ _ _ _ _ _ _ _ _ _ _ _ _ _ _ _ _ _ _ _ _ _ _ _ _ _ _ _ _ _ _ _ _ ho hl hX hpB hBh
 | succ d ih =>
  intro i h pv P K0 K1 K2 K3 K4 K5 K6 K7 K8 Kb Kd Kh Ki Kj Kk Kl Km Ko Kp Kq Kr Ks Kt Ku Kv Kw Kx Ky Kz J0 J1 J2 J3 J4 J5 J6 J7 J8 J9 Ja Jb Jc Jd Je Jf Jg Jk Jl Jm Jn Jo Jp Jq Jr Js Jt Ju Jv Jw Jx Jy Jz Y0 Y1 Y2 Y3 Y4 Y5 Y6 Y7 Y8 Y9 Ya Yb Yc Yd Ye Yf Yg Yh Yi Yj Yk Yl Ym Yn Yo Yp Yq Yr Ys Yt Yu Yv Yw Yx Yy Yz Z0 Z1 Z2 Z3 Z4 Z5 Z9 Za Zb Zc Zd Ze Zf Zg Zh Zi Zj Zk Zl Zm Zn Zo Zp Zq Zr Zs Zt Zu Zv Zw Zx Zy Zz K0q K1q K2q K3q hid ho hP hl hX hpB hBh hPF
  have hi : i < zs.length := by omega
  have hlt : (i : Int) < (zs.length : Int) := by omega
  have hw : IntKind.i64.wrap ((i : Int) + 1) = ((i + 1 : Nat) : Int) := wrapN (n := i + 1) (by omega)
  obtain ⟨id,off,b,hzv,hb,hc⟩ := hz.get hi
  obtain ⟨hidB,hidX,hidP⟩ := hzB id (by rw [hzv]; rfl)
  have hbh : blk? h id = some b := by rw [hl id hidB hidX hidP]; exact hb
  have hg := hc 0 (by omega)
  rw [Nat.mul_one,Nat.add_zero,Nat.add_zero,nI_get hi] at hg
  have hzi : zs.getD i 0 = zs[i] := by rw [List.getD_eq_getElem?_getD,List.getElem?_eq_getElem hi]; rfl
  rw [hzi] at hg
  have hzlt := hzs zs[i] (List.getElem_mem hi)
  have hdrop : zs.drop i = zs[i] :: zs.drop (i + 1) := List.drop_eq_getElem_cons hi
  rw [hdrop,List.map_cons] at hPF
  have w1 : IntKind.i64.wrap ((beg : Int) + (zs[i] : Int)) = ((beg + zs[i] : Nat) : Int) := wrapN (n := beg + zs[i]) (by omega)
  have hmin : min ((beg + zs[i] : Nat) : Int) (D.length : Int) = ((min (beg + zs[i]) D.length : Nat) : Int) := by omega
  obtain ⟨H1,ha,ho1,hl1,hk1⟩ := app1n (v := min (beg + zs[i]) D.length) ho (by omega)
  have hXh : X < h.length := by omega
  have hXp : sid pv ≠ some X := fun x => (hpB X x).2 rfl
  have hX1 : blk? H1 X = some ⟨false,[pl,pv,.slice da D.length dc]⟩ := by rw [hk1 X hXh hXp]; exact hX
  have hX1l : X < H1.length := by omega
  have ho2 : OwnS (H1.set X (some ⟨false,[pl,.slice (some ⟨h.length + 1,0,none⟩) (P.length + 1) 1,.slice da D.length dc]⟩)) 1 (.slice (some ⟨h.length + 1,0,none⟩) (P.length + 1) 1) (P ++ [min (beg + zs[i]) D.length]).length (nI (P ++ [min (beg + zs[i]) D.length])) :=
   ho1.of_blk fun j hj hbj => by simp [sid] at hj; rw [blk?_set_ne (by omega)]; exact hbj
  have ih' := fun K0 K1 K2 K3 K4 K5 K6 K7 K8 Kb Kd Kh Ki Kj Kk Kl Km Ko Kp Kq Kr Ks Kt Ku Kv Kw Kx Ky Kz J0 J1 J2 J3 J4 J5 J6 J7 J8 J9 Ja Jb Jc Jd Je Jf Jg Jk Jl Jm Jn Jo Jp Jq Jr Js Jt Ju Jv Jw Jx Jy Jz Y0 Y1 Y2 Y3 Y4 Y5 Y6 Y7 Y8 Y9 Ya Yb Yc Yd Ye Yf Yg Yh Yi Yj Yk Yl Ym Yn Yo Yp Yq Yr Ys Yt Yu Yv Yw Yx Yy Yz Z0 Z1 Z2 Z3 Z4 Z5 Z9 Za Zb Zc Zd Ze Zf Zg Zh Zi Zj Zk Zl Zm Zn Zo Zp Zq Zr Zs Zt Zu Zv Zw Zx Zy Zz K0q K1q K2q K3q => ih (i + 1) _ _ _ K0 K1 K2 K3 K4 K5 K6 K7 K8 Kb Kd Kh Ki Kj Kk Kl Km Ko Kp Kq Kr Ks Kt Ku Kv Kw Kx Ky Kz J0 J1 J2 J3 J4 J5 J6 J7 J8 J9 Ja Jb Jc Jd Je Jf Jg Jk Jl Jm Jn Jo Jp Jq Jr Js Jt Ju Jv Jw Jx Jy Jz Y0 Y1 Y2 Y3 Y4 Y5 Y6 Y7 Y8 Y9 Ya Yb Yc Yd Ye Yf Yg Yh Yi Yj Yk Yl Ym Yn Yo Yp Yq Yr Ys Yt Yu Yv Yw Yx Yy Yz Z0 Z1 Z2 Z3 Z4 Z5 Z9 Za Zb Zc Zd Ze Zf Zg Zh Zi Zj Zk Zl Zm Zn Zo Zp Zq Zr Zs Zt Zu Zv Zw Zx Zy Zz K0q K1q K2q K3q (by omega) ho2 (by simp; omega) (fun j hj hjX hjP => by rw [blk?_set_ne (Ne.symm hjX),hk1 j (by omega) (fun x => by rcases (hpB j x).1 with hy | hy; omega; exact hjP hy)]; exact hl j hj hjX hjP)
   (blk?_set_eq hX1l) (fun j hj => by simp [sid] at hj; exact ⟨.inl (by omega),by omega⟩) (by rw [List.length_set]; omega) (by rw [List.append_assoc]; exact hPF)
  generalize zs[i] = z at *
  generalize hmm : ((min (beg + z) D.length : Nat) : Int) = mm at *
  generalize ((beg + z : Nat) : Int) = bz at *
  generalize ((i + 1 : Nat) : Int) = i1 at *
  subst hzv
  rw [ok_round,l17_2,L17_2a,L17_2b]
  simp [repL,hi,hbh,hg,hX,w1,fold1,foldO,mn2,hmin,ha,hX1,hw]
  exact ih' ..
end
set_option maxRecDepth 10000
structure DP (h : Heap) (d pb : Nat) (dv : Value) (D : List Nat) (n : Nat) (p : List Nat) (value size : Nat) (st : Bool) : Prop where
 blk : blk? h d = some ⟨false,[.slice (some ⟨pb,0,none⟩) p.length 1,dv,.int .i64 (n : Nat),.int .i64 (value : Nat),.int .i64 (size : Nat),.bool st]⟩
 pblk : blk? h pb = some ⟨false,nI p⟩
 own : OwnS h 1 dv D.length (nU D)
 ne1 : d ≠ pb
 ne2 : sid dv ≠ some d
 ne3 : sid dv ≠ some pb
structure DA (h : Heap) (d pb : Nat) (dv : Value) (D : List Nat) (n : Nat) (a : AD) : Prop where
 dp : DP h d pb dv D n a.p a.value a.size true
 rest : D.drop n = a.rest
 ok : a.Ok
 pos : 0 < a.p.length
theorem set_same {h : Heap} {d : Nat} {b : Blk} (hb : blk? h d = some b) : h.set d (some b) = h := by
 unfold blk? at hb
 split at hb
 ·rename_i b' hx
  injection hb with hb
  subst hb
  obtain ⟨hlt,hg⟩ := List.getElem?_eq_some_iff.1 hx
  rw [← hg,List.set_getElem_self]
 ·cases hb
section
variable {h : Heap} {R : Value → Heap → Prop} {d pb n value size : Nat} {dv : Value} {D p : List Nat} {st : Bool} {a : AD}
theorem DP.set (I : DP h d pb dv D n p value size st) (n' value' size' : Nat) (st' : Bool) :
  DP (h.set d (some ⟨false,[.slice (some ⟨pb,0,none⟩) p.length 1,dv,.int .i64 (n' : Nat),.int .i64 (value' : Nat),.int .i64 (size' : Nat),.bool st']⟩)) d pb dv D n' p value' size' st' := by
 have he := blk?_lt I.blk
 exact ⟨blk?_set_eq he,by rw [blk?_set_ne I.ne1]; exact I.pblk,I.own.of_blk fun id hid hb => by rw [blk?_set_ne (fun x => I.ne2 (by rw [x]; exact hid))]; exact hb,I.ne1,I.ne2,I.ne3⟩
theorem DP.keep {h' : Heap} (I : DP h d pb dv D n p value size st) (hk : ∀ id,ownE d pb dv id → blk? h' id = blk? h id) : DP h' d pb dv D n p value size st :=
 ⟨by rw [hk d (.inl rfl)]; exact I.blk,by rw [hk pb (.inr (.inl rfl))]; exact I.pblk,I.own.of_blk fun id hid hb => by rw [hk id (.inr (.inr hid))]; exact hb,I.ne1,I.ne2,I.ne3⟩
theorem DP.own_lt (I : DP h d pb dv D n p value size st) {id : Nat} (hid : ownE d pb dv id) : id < h.length := by
 rcases hid with rfl | rfl | hid
 ·exact blk?_lt I.blk
 ·exact blk?_lt I.pblk
 ·exact I.own.lt hid
theorem dvalid_c (I : DP h d pb dv D n p value size st) (hp : 0 < p.length) : Ret tab 106 [ptr d] h R = R (.bool true) h := by
 have h1 := I.blk
 rw [enter106,B106]
 simp [k_guard,h1,hp,fin106]
theorem dnext_c (I : DP h d pb dv D n p value size st) (hD : Dig D) (hl : D.length < 1000000000) : ∃ n' : Nat,D.drop n' = (D.drop n).tail ∧
  ∀ R : Value → Heap → Prop,Ret tab 107 [ptr d] h R = R (.int .i64 ((D.drop n).headD 0 : Nat)) (h.set d (some ⟨false,[.slice (some ⟨pb,0,none⟩) p.length 1,dv,.int .i64 (n' : Nat),.int .i64 (value : Nat),.int .i64 (size : Nat),.bool st]⟩)) := by
 have hb := I.blk
 obtain ⟨da,dc,hdv⟩ := I.own.sl.shape
 by_cases hn : n < D.length
 ·refine ⟨n + 1,by rw [List.tail_drop],fun R => ?_⟩
  obtain ⟨id,off,b,e,hbk,hc⟩ := I.own.sl.get hn
  have hc0 := hc 0 (by omega)
  rw [Nat.mul_one,Nat.add_zero,Nat.add_zero,nU_get hn] at hc0
  have hgd : D.getD n 0 = (D.drop n).headD 0 := by
   rw [List.drop_eq_getElem_cons hn]; simp [hn]
  rw [hgd] at hc0
  have hx : (D.drop n).headD 0 < 256 := headD_dig (hD.drop n)
  generalize (D.drop n).headD 0 = x at *
  have hlt : ¬ (D.length : Int) ≤ (n : Int) := by omega
  have hlt2 : ¬ D.length ≤ n := by omega
  have hltn : (n : Int) < (D.length : Int) := by omega
  have w1 : IntKind.i64.wrap ((n : Int) + 1) = ((n + 1 : Nat) : Int) := wrapN (n := n + 1) (by omega)
  have w2 : IntKind.i64.wrap (((n + 1 : Nat) : Int) - 1) = (n : Int) := by rw [wrapI (by omega) (by omega)]; omega
  have w3 : IntKind.i64.wrap (x : Int) = (x : Int) := wrapN (by omega)
  have hne : id ≠ d := fun x => I.ne2 (by rw [e]; simp [sid,x])
  have hs : ∀ x,blk? (h.set d x) d = x := fun x => blk?_set_eq (blk?_lt hb)
  have hs2 : ∀ x,blk? (h.set d x) id = some b := fun x => by rw [blk?_set_ne (Ne.symm hne)]; exact hbk
  generalize ((n + 1 : Nat) : Int) = n1 at *
  rw [e] at hb ⊢
  rw [enter107,B107]
  simp [hb,hlt,hlt2,w1,hs,w2,hltn,hs2,hc0,w3,fin107]
 ·have hdr : D.drop n = [] := List.drop_eq_nil_of_le (by omega)
  refine ⟨n,by rw [hdr]; rfl,fun R => ?_⟩
  rw [hdr,set_same hb]
  have hlt : (D.length : Int) ≤ (n : Int) := by omega
  have hlt2 : D.length ≤ n := by omega
  rw [hdv] at hb
  rw [enter107,B107]
  simp [hb,hlt,hlt2,fin107]
theorem start_loop {v1 : Value} {k : List RItem} (hD : Dig D) (hl : D.length < 1000000000)
  (hk : ∀ (h' : Heap) (n' : Nat) (K1 K2 K3 K5 K6 K7 K8 K9 Ka Kb Kc Kd Ke Kf Kg Kh Ki Kj Kk Kl Km Kn Ko Kp Kq Kr Ks Kt Ku Kv Kw Kx Ky Kz J0 J1 J2 J3 J4 J5 J6 J7 J8 J9 Ja : Value),DP h' d pb dv D n' p (val (pad D 4)) size st → D.drop n' = D.drop 4 → (∀ id,id ≠ d → blk? h' id = blk? h id) → h'.length = h.length → Ok tab R58 k #[ptr d,K1,K2,K3,.int .i64 0,K5,K6,K7,K8,K9,Ka,Kb,Kc,Kd,Ke,Kf,Kg,Kh,Ki,Kj,Kk,Kl,Km,Kn,Ko,Kp,Kq,Kr,Ks,Kt,Ku,Kv,Kw,Kx,Ky,Kz,J0,J1,J2,J3,J4,J5,J6,J7,J8,J9,Ja] h' R) :
  ∀ (q j : Nat) (H : Heap) (n : Nat) (K1 K2 K3 K5 K6 K7 K8 K9 Ka Kb Kc Kd Ke Kf Kg Kh Ki Kk Kl Km Kn Ko Kp Kq Kr Ks Kt Ku Kv Kw Kx Ky Kz J0 J1 J2 J3 J4 J5 J6 J7 J8 J9 Ja : Value),j + q = 4 → DP H d pb dv D n p (val (pad D j)) size st → D.drop n = D.drop j → (∀ id,id ≠ d → blk? H id = blk? h id) → H.length = h.length →
   Ok tab R58 (.inLoop L58_0 :: .inBlock 0 :: k) #[ptr d,K1,K2,K3,.int .i64 0,K5,K6,K7,K8,K9,Ka,Kb,Kc,Kd,Ke,Kf,Kg,Kh,Ki,.int .i64 (j : Nat),Kk,Kl,Km,Kn,Ko,Kp,Kq,Kr,Ks,Kt,Ku,Kv,Kw,Kx,Ky,Kz,J0,J1,J2,J3,J4,J5,J6,J7,J8,J9,Ja] H R := by
 intro q
 induction q with
 | zero =>
  intro j H n K1 K2 K3 K5 K6 K7 K8 K9 Ka Kb Kc Kd Ke Kf Kg Kh Ki Kk Kl Km Kn Ko Kp Kq Kr Ks Kt Ku Kv Kw Kx Ky Kz J0 J1 J2 J3 J4 J5 J6 J7 J8 J9 Ja hj I hd hk1 hl1
  obtain rfl : j = 4 := by omega
  rw [ok_round,l58_0,L58_0a,L58_0b]
  simp
  exact hk H n _ _ _ _ _ _ _ _ _ _ _ _ _ _ _ _ _ _ _ _ _ _ _ _ _ _ _ _ _ _ _ _ _ _ _ _ _ _ _ _ _ _ _ _ _ I hd hk1 hl1
 | succ q ih =>
  intro j H n K1 K2 K3 K5 K6 K7 K8 K9 Ka Kb Kc Kd Ke Kf Kg Kh Ki Kk Kl Km Kn Ko Kp Kq Kr Ks Kt Ku Kv Kw Kx Ky Kz J0 J1 J2 J3 J4 J5 J6 J7 J8 J9 Ja hj I hd hk1 hl1
  obtain ⟨n',hn',e⟩ := dnext_c I hD hl
  have hb := I.blk
  have hs : ∀ x,blk? (H.set d x) d = x := fun x => blk?_set_eq (blk?_lt hb)
  have hlt : (j : Int) < 4 := by omega
  have hw : IntKind.i64.wrap ((j : Int) + 1) = ((j + 1 : Nat) : Int) := wrapN (n := j + 1) (by omega)
  have hv := val_lt (pad_dig j hD)
  rw [pad_len] at hv
  have hpw : (256 : Nat) ^ j ≤ 16777216 := by
   have : j = 0 ∨ j = 1 ∨ j = 2 ∨ j = 3 := by omega
   rcases this with rfl | rfl | rfl | rfl <;> decide
  have hx : (D.drop n).headD 0 < 256 := headD_dig (hD.drop n)
  have hval : val (pad D (j + 1)) = val (pad D j) * 256 + (D.drop n).headD 0 := by
   rw [pad_succ,val_append,← hd]; simp [val]
  have I2 := I.set n' (val (pad D (j + 1))) size st
  rw [hval] at I2
  generalize (D.drop n).headD 0 = x at *
  generalize hq : val (pad D j) = v at *
  have hS := shlM (q := v) (k := 8) (by omega) (by omega)
  simp only [Int.cast_ofNat_Int] at hS
  have hS' : shlI .i64 (v : Int) 8 = ((v * 256 : Nat) : Int) := hS
  have ha : IntKind.i64.wrap (((v * 256 : Nat) : Int) + (x : Int)) = ((v * 256 + x : Nat) : Int) := by rw [wrapI (by omega) (by omega)]; omega
  have ih' := fun K1 K2 K3 K5 K6 K7 K8 K9 Ka Kb Kc Kd Ke Kf Kg Kh Ki Kk Kl Km Kn Ko Kp Kq Kr Ks Kt Ku Kv Kw Kx Ky Kz J0 J1 J2 J3 J4 J5 J6 J7 J8 J9 Ja => ih (j + 1) _ n' K1 K2 K3 K5 K6 K7 K8 K9 Ka Kb Kc Kd Ke Kf Kg Kh Ki Kk Kl Km Kn Ko Kp Kq Kr Ks Kt Ku Kv Kw Kx Ky Kz J0 J1 J2 J3 J4 J5 J6 J7 J8 J9 Ja (by omega) (by rw [hval]; exact I2) (by rw [hn',hd,List.tail_drop]) (fun id hid => by rw [blk?_set_ne (Ne.symm hid)]; exact hk1 id hid) (by simpa using hl1)
  generalize ((j + 1 : Nat) : Int) = j1 at *
  generalize ((v * 256 : Nat) : Int) = y at *
  generalize ((v * 256 + x : Nat) : Int) = z at *
  rw [ok_round,l58_0,L58_0a,L58_0b]
  simp [book,bookU,logOf,addLog,chk1,lookL,reload,veq,hlt,hb,hS',e,ha,hs,hw]
  exact ih' ..
theorem dstart_c {tv : Value} {D' : List Nat} (I : DP h d pb dv D n p value size st) (hp : 0 < p.length) (ht : Sl h 1 tv D'.length (nU D')) (hD : Dig D') (hl : D'.length < 100000000) :
  ∃ h' dv' n',(∀ R : Value → Heap → Prop,Ret tab 58 [ptr d,tv] h R = R (.int .i64 0) h') ∧ DP h' d pb dv' D' n' p (AD.start p D').value 4294967295 true ∧ D'.drop n' = D'.drop 4 ∧ EF h h' d pb dv dv' := by
 have key : ∀ R0 : Value → Heap → Prop,(∀ h' dv' n',DP h' d pb dv' D' n' p (AD.start p D').value 4294967295 true → D'.drop n' = D'.drop 4 → EF h h' d pb dv dv' → R0 (.int .i64 0) h') → Ret tab 58 [ptr d,tv] h R0 := by
  intro R0 hR
  have hv := fun R => dvalid_c (R := R) I hp
  obtain ⟨t1,H1,a1,o1,l1,k1,g1⟩ := app_any (bytes := 1) (OwnS.nil h 1) ht (by unfold roomCells; omega) (by omega)
  rw [Nat.zero_add,List.nil_append] at o1
  have k1' : ∀ id,id < h.length → blk? H1 id = blk? h id := fun id hid => k1 id hid (by simp [sid])
  have hd := blk?_lt I.blk
  have hpb := blk?_lt I.pblk
  have hb1 : blk? H1 d = some ⟨false,[.slice (some ⟨pb,0,none⟩) p.length 1,dv,.int .i64 (n : Nat),.int .i64 (value : Nat),.int .i64 (size : Nat),.bool st]⟩ := by rw [k1' d hd]; exact I.blk
  have hd1 := blk?_lt hb1
  have hs : ∀ x,blk? (H1.set d x) d = x := fun x => blk?_set_eq hd1
  have I1 : DP (H1.set d (some ⟨false,[.slice (some ⟨pb,0,none⟩) p.length 1,t1,.int .i64 ((0 : Nat) : Int),.int .i64 ((0 : Nat) : Int),.int .i64 (size : Nat),.bool st]⟩)) d pb t1 D' 0 p (val (pad D' 0)) size st :=
   ⟨hs _,by rw [blk?_set_ne I.ne1,k1' pb hpb]; exact I.pblk,o1.of_blk fun id hid hb => by rw [blk?_set_ne (by have := g1 id hid; omega)]; exact hb,I.ne1,fun x => by have := g1 d x; omega,fun x => by have := g1 pb x; omega⟩
  obtain ⟨ta,tc,ht1⟩ := o1.sl.shape
  have hL := fun K1 K2 K3 K5 K6 K7 K8 K9 Ka Kb Kc Kd Ke Kf Kg Kh Ki Kk Kl Km Kn Ko Kp Kq Kr Ks Kt Ku Kv Kw Kx Ky Kz J0 J1 J2 J3 J4 J5 J6 J7 J8 J9 Ja => start_loop (h := H1.set d (some ⟨false,[.slice (some ⟨pb,0,none⟩) p.length 1,t1,.int .i64 ((0 : Nat) : Int),.int .i64 ((0 : Nat) : Int),.int .i64 (size : Nat),.bool st]⟩)) (R := R0) (v1 := .bool true) (k := [.code (tlC 4 B58)]) hD (by omega)
   (fun H2 n2 K1 K2 K3 K5 K6 K7 K8 K9 Ka Kb Kc Kd Ke Kf Kg Kh Ki Kj Kk Kl Km Kn Ko Kp Kq Kr Ks Kt Ku Kv Kw Kx Ky Kz J0 J1 J2 J3 J4 J5 J6 J7 J8 J9 Ja I2 hd2 k2 l2 => by
    have hb2 := I2.blk
    have hs2 : ∀ x,blk? (H2.set d x) d = x := fun x => blk?_set_eq (blk?_lt hb2)
    have hmn : min (val (pad D' 4) : Int) 4294967294 = ((AD.start p D').value : Nat) := by simp only [AD.start]; omega
    have I3 := I2.set n2 (AD.start p D').value 4294967295 true
    have F3 : EF h (H2.set d (some ⟨false,[.slice (some ⟨pb,0,none⟩) p.length 1,t1,.int .i64 (n2 : Nat),.int .i64 ((AD.start p D').value : Nat),.int .i64 ((4294967295 : Nat) : Int),.bool true]⟩)) d pb dv t1 := by
     refine ⟨by rw [List.length_set]; simp at l2; omega,fun id h1 h2 h3 h4 => ?_,fun id hid => .inr ?_⟩
     ·rw [blk?_set_ne (Ne.symm h2),k2 id h2,blk?_set_ne (Ne.symm h2),k1' id h1]
     ·have := g1 id hid
      rw [List.length_set]; simp at l2; omega
    have hR' := hR _ t1 n2 I3 hd2 F3
    simp only [Int.cast_ofNat_Int] at hR'
    generalize (((AD.start p D').value : Nat) : Int) = z at *
    simp only [nthC,tlC,fstC,B58]
    simp [hb2,fold1,foldO,mn2,hmn,hs2,fin58]
    exact hR') 4 0 _ 0 K1 K2 K3 K5 K6 K7 K8 K9 Ka Kb Kc Kd Ke Kf Kg Kh Ki Kk Kl Km Kn Ko Kp Kq Kr Ks Kt Ku Kv Kw Kx Ky Kz J0 J1 J2 J3 J4 J5 J6 J7 J8 J9 Ja (by omega) I1 rfl (fun _ _ => rfl) rfl
  simp only [Int.cast_ofNat_Int] at hL
  rw [ht1] at hL a1
  rw [enter58,show B58 = .seq (nthC 0 B58) (.seq (nthC 1 B58) (.seq (nthC 2 B58) (.seq (nthC 3 B58) (tlC 4 B58)))) from rfl]
  generalize tlC 4 B58 = tl at *
  simp only [nthC,tlC,fstC,B58]
  simp [hv,a1,hb1,hs]
  exact hL ..
 obtain ⟨v,h',e,rfl,dv',n',a,b,c⟩ := ret_ex (key (fun v h' => v = .int .i64 0 ∧ ∃ dv' n',DP h' d pb dv' D' n' p (AD.start p D').value 4294967295 true ∧ D'.drop n' = D'.drop 4 ∧ EF h h' d pb dv dv') fun h' dv' n' a b c => ⟨rfl,dv',n',a,b,c⟩)
 exact ⟨h',dv',n',e,a,b,c⟩
theorem dnorm_c {v1 v6 : Value} (I : DP h d pb dv D n p value size st) (hD : Dig D) (hl : D.length < 1000000000) (hv : value < size) (h1 : 65536 ≤ size) (h2 : size < 4294967296) :
  ∃ h' n' value' size',DP h' d pb dv D n' p value' size' st ∧ (∀ id,id ≠ d → blk? h' id = blk? h id) ∧ h'.length = h.length ∧ D.drop n' = (if size < 16777216 then (D.drop n).tail else D.drop n) ∧
   value' = (if size < 16777216 then value * 256 + (D.drop n).headD 0 else value) ∧ size' = (if size < 16777216 then size * 256 else size) ∧
   ∀ (k : List RItem) (K2 K3 K4 K5 K7 K8 K9 Ka Kb Kc Kd Ke Kf Kg Kh Ki Kj Kk Kl Km Kn Ko Kp Kq Kr Ks Kt Ku Kv Kw Kx Ky Kz J0 J1 J2 J3 J4 J5 J6 J7 J8 J9 Ja Jb Jc Jd Je Jf Jg Jh Ji Jj Jk Jl Jm Jn Jo Jp Jq Jr Js Jt Ju Jv Jw Jx Jy Jz Y0 Y1 Y2 Y3 Y4 Y5 Y6 Y7 Y8 Y9 Ya Yb Yc Yd Ye Yf Yg : Value),(∀ K2 K3 K4 K5 K7 K8 K9 Ka Kb Kc Kd Ke Kf Kg Kh Ki Kj Kk Kl Km Kn Ko Kp Kq Kr Ks Kt Ku Kv Kw Kx Ky Kz J0 J1 J2 J3 J4 J5 J6 J7 J8 J9 Ja Jb Jc Jd Je Jf Jg Jh Ji Jj Jk Jl Jm Jn Jo Jp Jq Jr Js Jt Ju Jv Jw Jx Jy Jz Y0 Y1 Y2 Y3 Y4 Y5 Y6 Y7 Y8 Y9 Ya Yb Yc Yd Ye Yf Yg : Value,Ok tab R246 k #[ptr d,v1,K2,K3,K4,K5,v6,K7,K8,K9,Ka,Kb,Kc,Kd,Ke,Kf,Kg,Kh,Ki,Kj,Kk,Kl,Km,Kn,Ko,Kp,Kq,Kr,Ks,Kt,Ku,Kv,Kw,Kx,Ky,Kz,J0,J1,J2,J3,J4,J5,J6,J7,J8,J9,Ja,Jb,Jc,Jd,Je,Jf,Jg,Jh,Ji,Jj,Jk,Jl,Jm,Jn,Jo,Jp,Jq,Jr,Js,Jt,Ju,Jv,Jw,Jx,Jy,Jz,Y0,Y1,Y2,Y3,Y4,Y5,Y6,Y7,Y8,Y9,Ya,Yb,Yc,Yd,Ye,Yf,Yg] h' R) →
    Ok tab R246 (.inLoop L246_0 :: .inBlock 0 :: k) #[ptr d,v1,K2,K3,K4,K5,v6,K7,K8,K9,Ka,Kb,Kc,Kd,Ke,Kf,Kg,Kh,Ki,Kj,Kk,Kl,Km,Kn,Ko,Kp,Kq,Kr,Ks,Kt,Ku,Kv,Kw,Kx,Ky,Kz,J0,J1,J2,J3,J4,J5,J6,J7,J8,J9,Ja,Jb,Jc,Jd,Je,Jf,Jg,Jh,Ji,Jj,Jk,Jl,Jm,Jn,Jo,Jp,Jq,Jr,Js,Jt,Ju,Jv,Jw,Jx,Jy,Jz,Y0,Y1,Y2,Y3,Y4,Y5,Y6,Y7,Y8,Y9,Ya,Yb,Yc,Yd,Ye,Yf,Yg] h R := by
 have hb := I.blk
 have hd := blk?_lt hb
 by_cases hs : size < 16777216
 ·obtain ⟨n',hn',e⟩ := dnext_c I hD hl
  have hx : (D.drop n).headD 0 < 256 := headD_dig (hD.drop n)
  have I2 := I.set n' (value * 256 + (D.drop n).headD 0) (size * 256) st
  refine ⟨_,n',_,_,I2,fun id hid => by rw [blk?_set_ne (Ne.symm hid)],by simp,by rw [if_pos hs]; exact hn',by rw [if_pos hs],by rw [if_pos hs],?_⟩
  intro k K2 K3 K4 K5 K7 K8 K9 Ka Kb Kc Kd Ke Kf Kg Kh Ki Kj Kk Kl Km Kn Ko Kp Kq Kr Ks Kt Ku Kv Kw Kx Ky Kz J0 J1 J2 J3 J4 J5 J6 J7 J8 J9 Ja Jb Jc Jd Je Jf Jg Jh Ji Jj Jk Jl Jm Jn Jo Jp Jq Jr Js Jt Ju Jv Jw Jx Jy Jz Y0 Y1 Y2 Y3 Y4 Y5 Y6 Y7 Y8 Y9 Ya Yb Yc Yd Ye Yf Yg hk
  generalize (D.drop n).headD 0 = x at *
  have hS := shlM (q := value) (k := 8) (by omega) (by omega)
  simp only [Int.cast_ofNat_Int] at hS
  have hS' : shlI .i64 (value : Int) 8 = ((value * 256 : Nat) : Int) := hS
  have hT := shlM (q := size) (k := 8) (by omega) (by omega)
  simp only [Int.cast_ofNat_Int] at hT
  have hT' : shlI .i64 (size : Int) 8 = ((size * 256 : Nat) : Int) := hT
  have ha : IntKind.i64.wrap (((value * 256 : Nat) : Int) + (x : Int)) = ((value * 256 + x : Nat) : Int) := by rw [wrapI (by omega) (by omega)]; omega
  have hlt : (size : Int) < 16777216 := by omega
  have hge : ¬ ((size * 256 : Nat) : Int) < 16777216 := by omega
  have hss : ∀ x,blk? (h.set d x) d = x := fun x => blk?_set_eq hd
  generalize ((value * 256 : Nat) : Int) = y at *
  generalize ((value * 256 + x : Nat) : Int) = z at *
  generalize ((size * 256 : Nat) : Int) = u at *
  rw [ok_round,l246_0,L246_0a,L246_0b]
  simp [book,bookU,logOf,addLog,chk1,lookL,reload,veq,hlt,hb,hS',e,ha,hss,hT']
  rw [ok_round,l246_0,L246_0a,L246_0b]
  simp [hss,hge]
  exact hk ..
 ·have hlt : ¬ (size : Int) < 16777216 := by omega
  refine ⟨h,n,value,size,I,fun _ _ => rfl,rfl,by rw [if_neg hs],by rw [if_neg hs],by rw [if_neg hs],?_⟩
  intro k K2 K3 K4 K5 K7 K8 K9 Ka Kb Kc Kd Ke Kf Kg Kh Ki Kj Kk Kl Km Kn Ko Kp Kq Kr Ks Kt Ku Kv Kw Kx Ky Kz J0 J1 J2 J3 J4 J5 J6 J7 J8 J9 Ja Jb Jc Jd Je Jf Jg Jh Ji Jj Jk Jl Jm Jn Jo Jp Jq Jr Js Jt Ju Jv Jw Jx Jy Jz Y0 Y1 Y2 Y3 Y4 Y5 Y6 Y7 Y8 Y9 Ya Yb Yc Yd Ye Yf Yg hk
  rw [ok_round,l246_0,L246_0a,L246_0b]
  simp [hb,hlt]
  exact hk ..
theorem DP.setp (I : DP h d pb dv D n p value size st) (p' : List Nat) (hl : p'.length = p.length) : DP (h.set pb (some ⟨false,nI p'⟩)) d pb dv D n p' value size st := by
 have hp := blk?_lt I.pblk
 exact ⟨by rw [blk?_set_ne (Ne.symm I.ne1),hl]; exact I.blk,blk?_set_eq hp,I.own.of_blk fun id hid hb => by rw [blk?_set_ne (fun x => I.ne3 (by rw [x]; exact hid))]; exact hb,I.ne1,I.ne2,I.ne3⟩
theorem ddecode_c {c : Nat} (I : DA h d pb dv D n a) (hc : c < a.p.length) (hD : Dig D) (hl : D.length < 1000000000) :
  ∃ h' n',(∀ R : Value → Heap → Prop,Ret tab 246 [ptr d,.int .i64 (c : Nat)] h R = R (.tuple #[.int .i64 (a.bit c : Nat),.int .i64 0]) h') ∧ DA h' d pb dv D n' (a.next c) ∧ (∀ id,id ≠ d → id ≠ pb → blk? h' id = blk? h id) ∧ h'.length = h.length := by
 have key : ∀ R0 : Value → Heap → Prop,(∀ h' n',DA h' d pb dv D n' (a.next c) → (∀ id,id ≠ d → id ≠ pb → blk? h' id = blk? h id) → h'.length = h.length → R0 (.tuple #[.int .i64 (a.bit c : Nat),.int .i64 0]) h') → Ret tab 246 [ptr d,.int .i64 (c : Nat)] h R0 := by
  intro R0 hR
  have hP := I.dp
  obtain ⟨r1,r2⟩ := AD.split_rng I.ok hc
  have s2 := I.ok.s2
  have hv := I.ok.v
  have hok := AD.next_ok I.ok hc
  have hval := fun R => dvalid_c (R := R) hP I.pos
  have hh := fun R => has_c (R := R) (c := c) hP.blk
  rw [decide_eq_true hc] at hh
  have hpo := I.ok.ps.getD hc
  have hsp := fun R => split_c (R := R) hP.blk hP.pblk hc (by have := hpo.2; omega) s2
  have hS : a.size / 4096 * a.p.getD c 0 = a.split c := rfl
  rw [hS] at hsp
  have hb := hP.blk
  have hd := blk?_lt hb
  have hss : ∀ x,blk? (h.set d x) d = x := fun x => blk?_set_eq hd
  have hbl : a.bit c < 2 := by unfold AD.bit; split <;> omega
  have rest : ∀ (H : Heap) (v1 s1 : Nat),DP H d pb dv D n a.p v1 s1 true → (∀ id,id ≠ d → blk? H id = blk? h id) → H.length = h.length → v1 < s1 → 65536 ≤ s1 → s1 < 4294967296 → (a.next c).rest = (if s1 < 16777216 then (D.drop n).tail else D.drop n) →
    (a.next c).value = (if s1 < 16777216 then v1 * 256 + (D.drop n).headD 0 else v1) → (a.next c).size = (if s1 < 16777216 then s1 * 256 else s1) →
    ∀ K2 K3 K4 K5 K7 K8 K9 Ka Kb Kc Kd Ke Kf Kg Kh Ki Kj Kk Kl Km Kn Ko Kp Kq Kr Ks Kt Ku Kv Kw Kx Ky Kz J0 J1 J2 J3 J4 J5 J6 J7 J8 J9 Ja Jb Jc Jd Je Jf Jg Jh Ji Jj Jk Jl Jm Jn Jo Jp Jq Jr Js Jt Ju Jv Jw Jx Jy Jz Y0 Y1 Y2 Y3 Y4 Y5 Y6 Y7 Y8 Y9 Ya Yb Yc Yd Ye Yf Yg : Value,Ok tab R246 [.inLoop L246_0,.inBlock 0,.code (tlC 6 B246)] #[ptr d,.int .i64 (c : Nat),K2,K3,K4,K5,.int .i64 (a.bit c : Nat),K7,K8,K9,Ka,Kb,Kc,Kd,Ke,Kf,Kg,Kh,Ki,Kj,Kk,Kl,Km,Kn,Ko,Kp,Kq,Kr,Ks,Kt,Ku,Kv,Kw,Kx,Ky,Kz,J0,J1,J2,J3,J4,J5,J6,J7,J8,J9,Ja,Jb,Jc,Jd,Je,Jf,Jg,Jh,Ji,Jj,Jk,Jl,Jm,Jn,Jo,Jp,Jq,Jr,Js,Jt,Ju,Jv,Jw,Jx,Jy,Jz,Y0,Y1,Y2,Y3,Y4,Y5,Y6,Y7,Y8,Y9,Ya,Yb,Yc,Yd,Ye,Yf,Yg] H R0 := by
   intro H v1 s1 I1 k1 l1 hv1 hs1 hs2 q1 q2 q3 K2 K3 K4 K5 K7 K8 K9 Ka Kb Kc Kd Ke Kf Kg Kh Ki Kj Kk Kl Km Kn Ko Kp Kq Kr Ks Kt Ku Kv Kw Kx Ky Kz J0 J1 J2 J3 J4 J5 J6 J7 J8 J9 Ja Jb Jc Jd Je Jf Jg Jh Ji Jj Jk Jl Jm Jn Jo Jp Jq Jr Js Jt Ju Jv Jw Jx Jy Jz Y0 Y1 Y2 Y3 Y4 Y5 Y6 Y7 Y8 Y9 Ya Yb Yc Yd Ye Yf Yg
   obtain ⟨h2,n2,v2,s2,I2,k2,l2,e1,e2,e3,hL⟩ := dnorm_c (v1 := .int .i64 (c : Nat)) (v6 := .int .i64 (a.bit c : Nat)) I1 hD hl hv1 hs1 hs2
   refine hL _ _ _ _ _ _ _ _ _ _ _ _ _ _ _ _ _ _ _ _ _ _ _ _ _ _ _ _ _ _ _ _ _ _ _ _ _ _ _ _ _ _ _ _ _ _ _ _ _ _ _ _ _ _ _ _ _ _ _ _ _ _ _ _ _ _ _ _ _ _ _ _ _ _ _ _ _ _ _ _ _ _ _ _ _ _ _ fun K2 K3 K4 K5 K7 K8 K9 Ka Kb Kc Kd Ke Kf Kg Kh Ki Kj Kk Kl Km Kn Ko Kp Kq Kr Ks Kt Ku Kv Kw Kx Ky Kz J0 J1 J2 J3 J4 J5 J6 J7 J8 J9 Ja Jb Jc Jd Je Jf Jg Jh Ji Jj Jk Jl Jm Jn Jo Jp Jq Jr Js Jt Ju Jv Jw Jx Jy Jz Y0 Y1 Y2 Y3 Y4 Y5 Y6 Y7 Y8 Y9 Ya Yb Yc Yd Ye Yf Yg => ?_
   have I3 := I2.setp (a.p.set c (adaptP (a.p.getD c 0) (a.bit c))) (by simp)
   have hA := fun R => adapt_c (R := R) I2.blk I2.pblk I2.ne1 hc I.ok.ps hbl
   have hb2 := I2.blk
   have hpn : (a.next c).p = a.p.set c (adaptP (a.p.getD c 0) (a.bit c)) := rfl
   have hR' := hR _ n2 ⟨by rw [hpn,q2,q3,← e2,← e3]; exact I3,by rw [q1,e1],hok,by rw [hpn]; simpa using I.pos⟩ (fun id h1 h2 => by rw [blk?_set_ne (Ne.symm h2),k2 id h1,k1 id h1]) (by simp [l2,l1])
   generalize nI (a.p.set c (adaptP (a.p.getD c 0) (a.bit c))) = C at *
   generalize a.bit c = bt at *
   simp only [nthC,tlC,fstC,B246]
   simp [hb2,hA,fin246]
   exact hR'
  rw [enter246,show B246 = .seq (nthC 0 B246) (.seq (nthC 1 B246) (.seq (nthC 2 B246) (.seq (nthC 3 B246) (.seq (nthC 4 B246) (.seq (nthC 5 B246) (tlC 6 B246)))))) from rfl]
  generalize hT6 : tlC 6 B246 = T6 at *
  simp only [nthC,tlC,fstC,B246]
  by_cases hlt : a.value < a.split c
  ·have hbit : a.bit c = 0 := by unfold AD.bit; rw [if_pos hlt]
   have hlt' : (a.value : Int) < (a.split c : Int) := by omega
   have I1 := hP.set n a.value (a.split c) true
   have hfin := rest _ a.value (a.split c) I1 (fun id hid => by rw [blk?_set_ne (Ne.symm hid)]) (by simp) hlt r1 (by omega)
    (by unfold AD.next AD.norm; simp only [hlt,if_true]; rw [I.rest]; split <;> rfl)
    (by unfold AD.next AD.norm; simp only [hlt,if_true]; rw [I.rest]; split <;> rfl)
    (by unfold AD.next AD.norm; simp only [hlt,if_true]; split <;> rfl)
   rw [hbit] at hfin
   simp only [Int.cast_ofNat_Int] at hfin
   generalize a.split c = S at *
   simp [k_guard,k_guardU,hval,hb,hh,hsp,hlt',hlt,hss]
   exact hfin ..
  ·have hbit : a.bit c = 1 := by unfold AD.bit; rw [if_neg hlt]
   have hlt' : ¬ (a.value : Int) < (a.split c : Int) := by omega
   have I1 := hP.set n (a.value - a.split c) (a.size - a.split c) true
   have hfin := rest _ (a.value - a.split c) (a.size - a.split c) I1 (fun id hid => by rw [blk?_set_ne (Ne.symm hid)]) (by simp) (by omega) (by omega) (by omega)
    (by unfold AD.next AD.norm; simp only [hlt,if_false]; rw [I.rest]; split <;> rfl)
    (by unfold AD.next AD.norm; simp only [hlt,if_false]; rw [I.rest]; split <;> rfl)
    (by unfold AD.next AD.norm; simp only [hlt,if_false]; split <;> rfl)
   rw [hbit] at hfin
   simp only [Int.cast_ofNat_Int] at hfin
   have w1 : IntKind.i64.wrap ((a.value : Int) - (a.split c : Int)) = ((a.value - a.split c : Nat) : Int) := by rw [wrapI (by omega) (by omega)]; omega
   have w2 : IntKind.i64.wrap ((a.size : Int) - (a.split c : Int)) = ((a.size - a.split c : Nat) : Int) := by rw [wrapI (by omega) (by omega)]; omega
   generalize ((a.value - a.split c : Nat) : Int) = y1 at *
   generalize ((a.size - a.split c : Nat) : Int) = y2 at *
   generalize a.split c = S at *
   simp [k_guard,k_guardU,hval,hb,hh,hsp,hlt',hlt,hss,w1,w2]
   exact hfin ..
 obtain ⟨v,h',e,rfl,n',x,y,z⟩ := ret_ex (key (fun v h' => v = .tuple #[.int .i64 (a.bit c : Nat),.int .i64 0] ∧ ∃ n',DA h' d pb dv D n' (a.next c) ∧ (∀ id,id ≠ d → id ≠ pb → blk? h' id = blk? h id) ∧ h'.length = h.length) fun h' n' x y z => ⟨rfl,n',x,y,z⟩)
 exact ⟨h',n',e,x,y,z⟩
theorem ddecode_no {x : Int} (I : DA h d pb dv D n a) (hx : x < 0 ∨ (a.p.length : Int) ≤ x) : Ret tab 246 [ptr d,.int .i64 x] h R = R (.tuple #[.int .i64 0,.int .i64 2]) h := by
 have hP := I.dp
 have hval := fun R => dvalid_c (R := R) hP I.pos
 have hb := hP.blk
 have hh : ∀ R,Ret tab 234 [ptr d,.int .i64 x] h R = R (.bool false) h := fun R => by
  rw [enter234,B234]
  by_cases h0 : x < 0
  ·have h0' : ¬ (0 : Int) ≤ x := by omega
   simp [k_guard,k_guardU,hb,h0,h0',fin234]
  ·have h0' : (0 : Int) ≤ x := by omega
   have h1 : ¬ x < (a.p.length : Int) := by omega
   simp [k_guard,k_guardU,hb,h0,h0',h1,fin234]
 rw [enter246,B246]
 simp [k_guard,k_guardU,hval,hb,hh,fin246]
theorem dreset_c (I : DP h d pb dv D n p value size st) (hp : 0 < p.length) (hn : p.length < 1000000) :
  ∃ h',(∀ R : Value → Heap → Prop,Ret tab 59 [ptr d] h R = R (.tuple #[]) h') ∧ DP h' d pb dv D n (AE.base p.length) value size st ∧ (∀ id,id ≠ pb → blk? h' id = blk? h id) ∧ h'.length = h.length := by
 have I1 := I.setp (AE.base p.length) (by simp [AE.base])
 refine ⟨_,fun R => ?_,I1,fun id hid => by rw [blk?_set_ne (Ne.symm hid)],by simp⟩
 have hv := fun R => dvalid_c (R := R) I hp
 have hr := fun R => restart_c (R := R) I.blk I.pblk I.ne1 hn
 have hb := I.blk
 rw [enter59,B59]
 simp [hv,hb,hr,fin59,AE.base]
theorem newDec_c {m : Nat} (h1 : 1 ≤ m) (h2 : m ≤ 64) : ∃ h' d pb,(∀ R : Value → Heap → Prop,Ret tab 56 [.int .i64 (m : Nat)] h R = R (.tuple #[ptr d,.int .i64 0]) h') ∧ DP h' d pb (.slice none 0 0) [] 0 (AE.base m) 0 0 false ∧ h.length ≤ d ∧ h.length ≤ pb ∧
  h.length ≤ h'.length ∧ ∀ id,id < h.length → blk? h' id = blk? h id := by
 obtain ⟨H,hm,hb,hl,hk⟩ := newModels_c (h := h) h1 h2
 refine ⟨H ++ [some ⟨false,[.slice (some ⟨h.length + 1,0,none⟩) m 1,.slice none 0 0,.int .i64 0,.int .i64 0,.int .i64 0,.bool false]⟩],H.length,h.length + 1,fun R => ?_,⟨?_,?_,OwnS.nil _ _,by omega,by simp [sid],by simp [sid]⟩,by omega,by omega,by simp; omega,fun id hid => by rw [blk?_push_lt (by omega)]; exact hk id hid⟩
 ·have n1 : ¬ ((m : Int) < 1) := by omega
  have n2 : ¬ ((64 : Int) < m) := by omega
  rw [enter56,B56]
  simp [k_guard,n1,n2,hm,fin56]
 ·rw [blk?_push_eq]; simp [AE.base]
 ·rw [blk?_push_lt (by omega)]; exact hb
end
set_option maxRecDepth 10000
structure RB (h : Heap) (p : Nat) (s : Value) (xs : List Nat) (n : Nat) : Prop where
 blk : blk? h p = some ⟨false,[.bool true,s,.int .i64 (n : Nat)]⟩
 own : OwnS h 1 s xs.length (nU xs)
 ne : sid s ≠ some p
 lt : ∀ x ∈ xs,x < 256
theorem bits_get : ∀ (x : Fin 256) (j : Fin 8),andI .i64 (shrI .i64 (IntKind.i64.wrap (x.1 : Int)) ((j.1 : Int))) 1 = ((x.1 / 2 ^ j.1 % 2 : Nat) : Int) := by decide +kernel
section
variable {h : Heap} {R : Value → Heap → Prop} {p n : Nat} {s : Value} {xs : List Nat}
theorem RB.keep {h' : Heap} (J : RB h p s xs n) (hk : ∀ id,ownR p s id → blk? h' id = blk? h id) : RB h' p s xs n :=
 ⟨by rw [hk p (.inl rfl)]; exact J.blk,J.own.of_blk fun id hid hb => by rw [hk id (.inr hid)]; exact hb,J.ne,J.lt⟩
theorem RB.own_lt (J : RB h p s xs n) {id : Nat} (hid : ownR p s id) : id < h.length := by
 rcases hid with rfl | hid
 ·exact blk?_lt J.blk
 ·exact J.own.lt hid
theorem RB.next (J : RB h p s xs n) : RB (h.set p (some ⟨false,[.bool true,s,.int .i64 ((n + 1 : Nat) : Int)]⟩)) p s xs (n + 1) :=
 ⟨blk?_set_eq (blk?_lt J.blk),J.own.of_blk fun id hid hb => by rw [blk?_set_ne (fun x => J.ne (by rw [x]; exact hid))]; exact hb,J.ne,J.lt⟩
theorem bget_c (J : RB h p s xs n) (hn : n < 100000000) : Ret tab 250 [ptr p] h R = R (.int .i64 (bitAt xs n : Nat)) (h.set p (some ⟨false,[.bool true,s,.int .i64 ((n + 1 : Nat) : Int)]⟩)) := by
 have hp := J.blk
 have hw : IntKind.i64.wrap ((n : Int) + 1) = (n : Int) + 1 := wrapN (n := n + 1) (by omega)
 have hq : IntKind.i64.wrap ((n : Int) / 8) = (n : Int) / 8 := wrapN (n := n / 8) (by omega)
 have hlt := blk?_lt hp
 have hc1 : ((n + 1 : Nat) : Int) = (n : Int) + 1 := by omega
 rw [hc1,enter250,B250]
 by_cases hi : n / 8 < xs.length
 ·obtain ⟨id,off,b,e,hbk,hcell⟩ := J.own.sl.get hi
  have hid : p ≠ id := fun x => J.ne (by rw [e,x]; rfl)
  subst e
  have h1 : ¬ ((xs.length : Int) ≤ (n : Int) / 8) := by omega
  have h2 : (0 : Int) ≤ (n : Int) / 8 ∧ (n : Int) / 8 < xs.length := by omega
  have h3 : ((n : Int) / 8).toNat = n / 8 := by omega
  have h4 := hcell 0 (by omega)
  simp [nU,hi] at h4
  have h5 : IntKind.u64.wrap (IntKind.i64.wrap (7 - (n : Int).tmod 8)) = ((7 - n % 8 : Nat) : Int) := by
   rw [show (n : Int).tmod 8 = ((n % 8 : Nat) : Int) from rfl,wrapI (by omega) (by omega),IntKind.wrap_u64]; omega
  have h6 : ¬ ((7 - n % 8 : Nat) : Int) < 0 := by omega
  have hx8 : xs[n / 8] < 256 := J.lt _ (by simp)
  have hb : bitAt xs n = xs[n / 8] / 2 ^ (7 - n % 8) % 2 := by simp [bitAt,hi]
  have h7 := bits_get ⟨xs[n / 8],hx8⟩ ⟨7 - n % 8,by omega⟩
  simp only at h7
  simp [hp,hw,hq,hlt,blk?_set_eq,blk?_set_ne hid,h1,h2,h3,h4,hbk,h5,h6,h7,fin250,hb]
 ·have hl := J.own.sl.2
  have h1 : (xs.length : Int) ≤ (n : Int) / 8 := by omega
  have h0 : bitAt xs n = 0 := by simp [bitAt,List.getElem?_eq_none (Nat.le_of_not_lt hi)]
  rcases hl with ⟨rfl,hl⟩ | ⟨id,off,rfl,hl⟩
  ·have h1 : (0 : Int) ≤ (n : Int) / 8 := by omega
   simp [hp,hw,hq,hlt,blk?_set_eq,h0,h1,fin250]
  ·simp [hp,hw,hq,hlt,blk?_set_eq,h1,h0,fin250]
theorem rget_c (J : RB h p s xs n) (hn : n < 100000000) : Ret tab 249 [ptr p] h R = R (.int .i64 (bitAt xs n : Nat)) (h.set p (some ⟨false,[.bool true,s,.int .i64 ((n + 1 : Nat) : Int)]⟩)) := by
 have hp := J.blk
 have hg := fun R => bget_c (R := R) J hn
 generalize ((n + 1 : Nat) : Int) = n1 at *
 rw [enter249,B249]
 simp [k_guard,hp,fin249,hg]
theorem newReader_c {tv : Value} {D : List Nat} (ht : Sl h 1 tv D.length (nU D)) (hD : ∀ x ∈ D,x < 256) (hl : D.length < 100000000) :
  ∃ h' q s,(∀ R : Value → Heap → Prop,Ret tab 57 [tv] h R = R (ptr q) h') ∧ RB h' q s D 0 ∧ (∀ id,id < h.length → blk? h' id = blk? h id) ∧ h.length ≤ h'.length ∧ (∀ id,ownR q s id → h.length ≤ id) := by
 obtain ⟨t1,H1,a1,o1,l1,k1,g1⟩ := app_any (bytes := 1) (OwnS.nil h 1) ht (by unfold roomCells; omega) (by omega)
 rw [Nat.zero_add,List.nil_append] at o1
 have k1' : ∀ id,id < h.length → blk? H1 id = blk? h id := fun id hid => k1 id hid (by simp [sid])
 refine ⟨H1 ++ [some ⟨false,[.bool true,t1,.int .i64 ((0 : Nat) : Int)]⟩],H1.length,t1,fun R => ?_,⟨blk?_push_eq,o1.of_blk fun id hid hb => by rw [blk?_push_lt (blk?_lt hb)]; exact hb,fun x => by have := g1 _ x; omega,hD⟩,fun id hid => by rw [blk?_push_lt (by omega),k1' id hid],by simp; omega,fun id hid => ?_⟩
 ·obtain ⟨ta,tc,ht1⟩ := o1.sl.shape
  rw [ht1] at a1 ⊢
  rw [enter57,B57]
  simp [a1,writeAt,fin57]
 ·rcases hid with rfl | hid
  ·exact l1
  ·exact (g1 id hid).1
end
inductive Tr (α : Type) where
 | ret (a : α)
 | ask (c : Int) (k : Bool → Tr α)
def Tr.bind {α β : Type} : Tr α → (α → Tr β) → Tr β
 | .ret a,f => f a
 | .ask c k,f => .ask c fun b => (k b).bind f
def Tr.run {α S : Type} (A : S → Int → Bool × S) : Tr α → S → α × S
 | .ret a,s => (a,s)
 | .ask c k,s => (k (A s c).1).run A (A s c).2
theorem Tr.run_ret {α S : Type} (A : S → Int → Bool × S) (a : α) (s : S) : (Tr.ret a).run A s = (a,s) := rfl
theorem Tr.run_ask {α S : Type} (A : S → Int → Bool × S) (c : Int) (k : Bool → Tr α) (s : S) : (Tr.ask c k).run A s = (k (A s c).1).run A (A s c).2 := rfl
theorem Tr.run_bind {α β S : Type} (A : S → Int → Bool × S) (f : α → Tr β) : ∀ (t : Tr α) (s : S),(t.bind f).run A s = (f (t.run A s).1).run A (t.run A s).2
 | .ret a,s => rfl
 | .ask c k,s => by rw [Tr.bind,Tr.run_ask,Tr.run_ask]; exact Tr.run_bind A f (k (A s c).1) (A s c).2
def Tr.Lv {α : Type} (Q : α → Prop) : Tr α → Nat → Prop
 | .ret a,_ => Q a
 | .ask _ _,0 => False
 | .ask _ k,n + 1 => ∀ b,(k b).Lv Q n
theorem Tr.Lv.mono {α : Type} {Q Q' : α → Prop} (hq : ∀ a,Q a → Q' a) : ∀ {t : Tr α} {n m : Nat},t.Lv Q n → n ≤ m → t.Lv Q' m
 | .ret a,n,m,h,_ => by unfold Tr.Lv at h ⊢; exact hq a h
 | .ask c k,0,m,h,_ => by simp [Tr.Lv] at h
 | .ask c k,n + 1,0,h,hm => by omega
 | .ask c k,n + 1,m + 1,h,hm => by
  unfold Tr.Lv at h ⊢
  exact fun b => Tr.Lv.mono hq (h b) (by omega)
theorem Tr.Lv.bind {α β : Type} {Q : α → Prop} {Q' : β → Prop} {f : α → Tr β} {m : Nat} (hf : ∀ a,Q a → (f a).Lv Q' m) : ∀ {t : Tr α} {n : Nat},t.Lv Q n → (t.bind f).Lv Q' (n + m)
 | .ret a,n,h => by
  unfold Tr.Lv at h
  exact (hf a h).mono (fun _ h => h) (by omega)
 | .ask c k,0,h => by simp [Tr.Lv] at h
 | .ask c k,n + 1,h => by
  unfold Tr.Lv at h
  rw [Tr.bind,show n + 1 + m = (n + m) + 1 by omega,Tr.Lv]
  exact fun b => Tr.Lv.bind hf (h b)
theorem Tr.Lv.out {α S : Type} {Q : α → Prop} {A : S → Int → Bool × S} {size : S → Nat} (ha : ∀ s c,size (A s c).2 ≤ size s + 1) : ∀ {t : Tr α} {n : Nat} (s : S),t.Lv Q n → Q (t.run A s).1 ∧ size (t.run A s).2 ≤ size s + n
 | .ret a,n,s,h => by
  unfold Tr.Lv at h
  exact ⟨h,by simp [Tr.run_ret]⟩
 | .ask c k,0,s,h => by simp [Tr.Lv] at h
 | .ask c k,n + 1,s,h => by
  unfold Tr.Lv at h
  have := Tr.Lv.out ha (A s c).2 (h (A s c).1)
  have h2 := ha s c
  rw [Tr.run_ask]
  exact ⟨this.1,by omega⟩
def PP.cx (P : PP) (c : Int) : Int := if P.rw = true then -1 else c
def putV (v : Int) (c : Cell) : Cell := { c with v := v }
def pw (s : Nat) : Int := ((2 ^ s : Nat) : Int)
def dflip (P : PP) (b : BS) (x y : Int) : Bool := !P.rw && signFlip (sgH b x y) (sgV b x y P.cz) == 1
def dval (P : PP) (b : BS) (x y : Int) (bit : Bool) : Int := if (bit != dflip P b x y) = true then -pw P.s else pw P.s
def dset (P : PP) (b : BS) (x y : Int) (bit : Bool) : BS := (b.upd x y (putV (dval P b x y bit))).upd x y mark
def dsign (P : PP) (b : BS) (x y : Int) : Tr BS := .ask (P.cx (signCtx (sgH b x y) (sgV b x y P.cz))) fun bit => .ret (dset P b x y bit)
def dcode (P : PP) (b : BS) (x y : Int) : Tr BS := .ask (P.cx (ctxOf P b x y)) fun bit => if bit = true then dsign P b x y else .ret b
def dsig1 (P : PP) (b : BS) (x y : Int) : Tr BS :=
 if (b.get x y).s = false ∧ near b x y P.cz = true then (dcode P b x y).bind fun b => .ret (b.upd x y (touch true)) else .ret b
def growV (s : Nat) (v : Int) : Int := v + if v < 0 then -pw s else pw s
def grow (s : Nat) (b : BS) (x y : Int) : BS :=
 if -1152921504606846976 < growV s (b.get x y).v ∧ growV s (b.get x y).v < 1152921504606846976 then b.upd x y (putV (growV s (b.get x y).v)) else b
def growB (s : Nat) (b : BS) (x y : Int) (bit : Bool) : BS := if bit = true then grow s b x y else b
def dref1 (P : PP) (b : BS) (x y : Int) : Tr BS :=
 if (b.get x y).s = false ∨ (b.get x y).t = true then .ret b
 else .ask (P.cx (refCtx (!(b.get x y).r) (near b x y P.cz))) fun bit => .ret (((growB P.s b x y bit).upd x y refine').upd x y (touch true))
def dcln1 (P : PP) (b : BS) (x y : Int) : Tr BS := if (b.get x y).s = false ∧ (b.get x y).t = false then dcode P b x y else .ret b
def drows (P : PP) (b : BS) (x y : Int) : Nat → Tr BS
 | 0 => .ret b
 | n + 1 => (dcln1 P b x y).bind fun b => drows P b x (y + 1) n
def two2 (a b : Bool) : Nat := 2 * a.toNat + b.toNat
def drun (P : PP) (b : BS) (x top : Int) : Tr (BS × Int) :=
 .ask (P.cx 17) fun r => if r = true then .ask (P.cx 18) fun k1 => .ask (P.cx 18) fun k0 => (dsign P b x (top + two2 k1 k0)).bind fun b => .ret (b,top + two2 k1 k0 + 1) else .ret (b,top + 4)
def dcol (P : PP) (b : BS) (x top : Int) : Tr BS :=
 if quiet b x top P.cz = true then (drun P b x top).bind fun r => drows P r.1 x r.2 (min (top + 4) r.1.h - r.2).toNat
 else drows P b x top (min (top + 4) b.h - top).toNat
def dcols (P : PP) (b : BS) (x top : Int) : Nat → Tr BS
 | 0 => .ret b
 | n + 1 => (dcol P b x top).bind fun b => dcols P b (x + 1) top n
def dstripes (P : PP) (b : BS) (top : Int) : Nat → Tr BS
 | 0 => .ret b
 | n + 1 => (dcols P b 0 top b.w).bind fun b => dstripes P b (top + 4) n
def dsigs (P : PP) (b : BS) : List (Int × Int) → Tr BS
 | [] => .ret b
 | p :: l => (dsig1 P b p.1 p.2).bind fun b => dsigs P b l
def drefs (P : PP) (b : BS) : List (Int × Int) → Tr BS
 | [] => .ret b
 | p :: l => (dref1 P b p.1 p.2).bind fun b => drefs P b l
def BS.clr (b : BS) (l : List (Int × Int)) : BS := l.foldl (fun b p => b.upd p.1 p.2 (touch false)) b
def dchk (P : PP) (r : Bool) : List Bool → Tr Bool
 | [] => .ret r
 | x :: l => .ask (P.cx 18) fun bit => dchk P (r && bit == x) l
def dcheck (P : PP) (on : Bool) : Tr Bool := if on = true then dchk P true [true,false,true,false] else .ret true
def dclean (P : PP) (b : BS) (on : Bool) : Tr (BS × Bool) :=
 (dstripes P b 0 (stripesOf b.h)).bind fun b => (dcheck P on).bind fun r => .ret (b.clr (scan b.w b.h),r)
structure BS.Le (b b' : BS) : Prop where
 w : b'.w = b.w
 h : b'.h = b.h
 good : b'.Good
theorem BS.Le.refl {b : BS} (hg : b.Good) : b.Le b := ⟨rfl,rfl,hg⟩
theorem BS.Le.trans {a b c : BS} (h : a.Le b) (k : b.Le c) : a.Le c := ⟨k.w.trans h.w,k.h.trans h.h,k.good⟩
theorem BS.Le.inb {b b' : BS} (h : b.Le b') {x y : Int} (hi : b.inb x y) : b'.inb x y := by
 obtain ⟨a,b,c,d⟩ := hi
 exact ⟨a,by rw [h.w]; exact b,c,by rw [h.h]; exact d⟩
theorem BS.Le.all {b b' : BS} {l : List (Int × Int)} (h : b.Le b') (k : AllIn b l) : AllIn b' l := fun p hp => h.inb (k p hp)
theorem pw_pos (s : Nat) : 0 < pw s := by unfold pw; have := Nat.two_pow_pos s; omega
theorem pw_le {s : Nat} (h : s ≤ 59) : pw s ≤ 576460752303423488 := by
 unfold pw
 have := Nat.pow_le_pow_right (n := 2) (by omega) h
 omega
theorem good_putV {b : BS} (hg : b.Good) {x y : Int} (hi : b.inb x y) {v : Int} (hv : -1152921504606846976 < v ∧ v < 1152921504606846976) : b.Le (b.upd x y (putV v)) := by
 refine ⟨rfl,rfl,hg.ok.upd x y _,fun x' y' => ?_⟩
 rw [BS.get_upd hg.ok hi]
 split
 ·exact hv
 ·exact hg.rng x' y'
theorem good_map {b : BS} (hg : b.Good) {x y : Int} (hi : b.inb x y) {f : Cell → Cell} (hf : keepsV f) : b.Le (b.upd x y f) := ⟨rfl,rfl,hg.upd hi hf⟩
theorem dval_rng {P : PP} (hp : P.Ok) (b : BS) (x y : Int) (bit : Bool) : -1152921504606846976 < dval P b x y bit ∧ dval P b x y bit < 1152921504606846976 := by
 have h1 := pw_pos P.s
 have h2 := pw_le hp.s1
 unfold dval; split <;> omega
theorem le_dset {P : PP} (hp : P.Ok) {b : BS} (hg : b.Good) {x y : Int} (hi : b.inb x y) (bit : Bool) : b.Le (dset P b x y bit) := by
 have h1 := good_putV hg hi (dval_rng hp b x y bit)
 exact h1.trans (good_map h1.good (h1.inb hi) kv_mark)
theorem le_growB {s : Nat} {b : BS} (hg : b.Good) {x y : Int} (hi : b.inb x y) (bit : Bool) : b.Le (growB s b x y bit) := by
 unfold growB grow
 split
 ·split
  ·rename_i h; exact good_putV hg hi h
  ·exact BS.Le.refl hg
 ·exact BS.Le.refl hg
section
variable {P : PP} (hp : P.Ok)
include hp
theorem lv_dsign {b : BS} (hg : b.Good) {x y : Int} (hi : b.inb x y) : (dsign P b x y).Lv b.Le 1 := fun bit => le_dset hp hg hi bit
theorem lv_dcode {b : BS} (hg : b.Good) {x y : Int} (hi : b.inb x y) : (dcode P b x y).Lv b.Le 2 := fun bit => by
 show Tr.Lv b.Le (if bit = true then dsign P b x y else .ret b) 1
 split
 ·exact lv_dsign hp hg hi
 ·exact BS.Le.refl hg
theorem lv_dsig1 {b : BS} (hg : b.Good) {x y : Int} (hi : b.inb x y) : (dsig1 P b x y).Lv b.Le 2 := by
 unfold dsig1
 split
 ·exact Tr.Lv.bind (m := 0) (fun a ha => ha.trans (good_map ha.good (ha.inb hi) (kv_touch true))) (lv_dcode hp hg hi)
 ·exact BS.Le.refl hg
omit hp in
theorem lv_dref1 {b : BS} (hg : b.Good) {x y : Int} (hi : b.inb x y) : (dref1 P b x y).Lv b.Le 2 := by
 unfold dref1
 split
 ·exact BS.Le.refl hg
 ·intro bit
  have h1 := le_growB (s := P.s) hg hi bit
  have h2 := h1.trans (good_map h1.good (h1.inb hi) kv_refine)
  exact h2.trans (good_map h2.good (h2.inb hi) (kv_touch true))
theorem lv_dcln1 {b : BS} (hg : b.Good) {x y : Int} (hi : b.inb x y) : (dcln1 P b x y).Lv b.Le 2 := by
 unfold dcln1
 split
 ·exact lv_dcode hp hg hi
 ·exact BS.Le.refl hg
theorem lv_drows {x : Int} : ∀ {n : Nat} {b : BS} {y : Int},b.Good → 0 ≤ x → x < b.w → 0 ≤ y → y + n ≤ b.h → (drows P b x y n).Lv b.Le (2 * n)
 | 0,b,y,hg,_,_,_,_ => BS.Le.refl hg
 | n + 1,b,y,hg,h1,h2,h3,h4 => by
  rw [drows,show 2 * (n + 1) = 2 + 2 * n by omega]
  refine Tr.Lv.bind (fun a ha => ?_) (lv_dcln1 hp hg (x := x) (y := y) ⟨h1,h2,h3,by omega⟩)
  exact (lv_drows (n := n) (y := y + 1) ha.good h1 (by rw [ha.w]; exact h2) (by omega) (by rw [ha.h]; omega)).mono (fun _ h => ha.trans h) (by omega)
omit hp in
theorem two2_le (a b : Bool) : two2 a b ≤ 3 := by cases a <;> cases b <;> decide
def RunLe (b : BS) (top : Int) (r : BS × Int) : Prop := b.Le r.1 ∧ top < r.2 ∧ r.2 ≤ top + 4
theorem lv_drun {b : BS} (hg : b.Good) {x top : Int} (hi : b.inb x top) (h4 : top + 4 ≤ b.h) : (drun P b x top).Lv (RunLe b top) 4 := by
 obtain ⟨a1,a2,a3,a4⟩ := hi
 intro r
 show Tr.Lv _ (if r = true then _ else _) 3
 split
 ·intro k1 k0
  have := two2_le k1 k0
  have hi : b.inb x (top + two2 k1 k0) := ⟨a1,a2,by omega,by omega⟩
  refine Tr.Lv.bind (n := 1) (m := 0) (fun a ha => ?_) (lv_dsign hp hg hi)
  exact (⟨ha,by simp only; omega,by simp only; omega⟩ : RunLe b top (a,top + two2 k1 k0 + 1))
 ·exact (⟨BS.Le.refl hg,by simp only; omega,by simp only; omega⟩ : RunLe b top (b,top + 4))
theorem lv_dcol {b : BS} (hg : b.Good) {x top : Int} (hi : b.inb x top) : (dcol P b x top).Lv b.Le 12 := by
 have hi' := hi
 obtain ⟨h1,h2,h3,h4⟩ := hi
 unfold dcol
 split
 ·rename_i hq
  simp only [quiet,Bool.and_eq_true,decide_eq_true_eq] at hq
  refine Tr.Lv.bind (n := 4) (m := 8) (fun r hr => ?_) (lv_drun hp hg hi' hq.1)
  obtain ⟨r1,r2,r3⟩ := hr
  exact (lv_drows hp r1.good h1 (by rw [r1.w]; exact h2) (by omega) (by rw [r1.h]; omega)).mono (fun _ h => r1.trans h) (by omega)
 ·exact (lv_drows hp hg h1 h2 h3 (by omega)).mono (fun _ h => h) (by omega)
theorem lv_dcols {top : Int} : ∀ {n : Nat} {b : BS} {x : Int},b.Good → 0 ≤ x → x + n ≤ b.w → 0 ≤ top → top < b.h → (dcols P b x top n).Lv b.Le (12 * n)
 | 0,b,x,hg,_,_,_,_ => BS.Le.refl hg
 | n + 1,b,x,hg,h1,h2,h3,h4 => by
  rw [dcols,show 12 * (n + 1) = 12 + 12 * n by omega]
  refine Tr.Lv.bind (fun a ha => ?_) (lv_dcol hp hg (x := x) (top := top) ⟨h1,by omega,h3,h4⟩)
  exact (lv_dcols (n := n) (x := x + 1) ha.good (by omega) (by rw [ha.w]; omega) h3 (by rw [ha.h]; exact h4)).mono (fun _ h => ha.trans h) (by omega)
theorem lv_dstripes : ∀ {n : Nat} {b : BS} {top : Int},b.Good → 0 ≤ top → top + 4 * n ≤ b.h + 3 → (dstripes P b top n).Lv b.Le (12 * b.w * n)
 | 0,b,top,hg,_,_ => BS.Le.refl hg
 | n + 1,b,top,hg,h1,h2 => by
  rw [dstripes,show 12 * b.w * (n + 1) = 12 * b.w + 12 * b.w * n by rw [Nat.mul_add]; omega]
  refine Tr.Lv.bind (fun a ha => ?_) (lv_dcols hp (n := b.w) hg (x := 0) (top := top) (by omega) (by omega) h1 (by omega))
  have := lv_dstripes (n := n) (top := top + 4) ha.good (by omega) (by rw [ha.h]; omega)
  rw [ha.w] at this
  exact this.mono (fun _ h => ha.trans h) (by omega)
theorem lv_dsigs : ∀ {l : List (Int × Int)} {b : BS},b.Good → AllIn b l → (dsigs P b l).Lv b.Le (2 * l.length)
 | [],b,hg,_ => BS.Le.refl hg
 | p :: l,b,hg,ha => by
  rw [dsigs,List.length_cons,show 2 * (l.length + 1) = 2 + 2 * l.length by omega]
  refine Tr.Lv.bind (fun a hl => ?_) (lv_dsig1 hp hg (ha p (by simp)))
  exact (lv_dsigs hl.good (hl.all fun q hq => ha q (by simp [hq]))).mono (fun _ h => hl.trans h) (by omega)
omit hp in
theorem lv_drefs : ∀ {l : List (Int × Int)} {b : BS},b.Good → AllIn b l → (drefs P b l).Lv b.Le (2 * l.length)
 | [],b,hg,_ => BS.Le.refl hg
 | p :: l,b,hg,ha => by
  rw [drefs,List.length_cons,show 2 * (l.length + 1) = 2 + 2 * l.length by omega]
  refine Tr.Lv.bind (fun a hl => ?_) (lv_dref1 hg (ha p (by simp)))
  exact (lv_drefs hl.good (hl.all fun q hq => ha q (by simp [hq]))).mono (fun _ h => hl.trans h) (by omega)
omit hp in
theorem lv_dchk : ∀ {l : List Bool} {r : Bool},(dchk P r l).Lv (fun _ => True) l.length
 | [],r => trivial
 | x :: l,r => fun bit => lv_dchk
omit hp in
theorem lv_dcheck (on : Bool) : (dcheck P on).Lv (fun _ => True) 4 := by
 unfold dcheck
 split
 ·exact lv_dchk
 ·exact trivial
end
theorem le_clr : ∀ {l : List (Int × Int)} {b : BS},b.Good → AllIn b l → b.Le (b.clr l)
 | [],b,hg,_ => BS.Le.refl hg
 | p :: l,b,hg,ha => by
  have h1 := good_map hg (ha p (by simp)) (kv_touch false)
  exact h1.trans (le_clr (l := l) h1.good (h1.all fun q hq => ha q (by simp [hq])))
theorem lv_dclean {P : PP} (hp : P.Ok) {b : BS} (hg : b.Good) (on : Bool) : (dclean P b on).Lv (fun r => b.Le r.1) 20000 := by
 unfold dclean
 have hw2 := hg.ok.w2
 have hh2 := hg.ok.h2
 have hm : 12 * b.w * stripesOf b.h ≤ 12 * 64 * 16 := Nat.mul_le_mul (by omega) (by unfold stripesOf; omega)
 refine (Tr.Lv.bind (m := 4) (fun a ha => ?_) (lv_dstripes hp hg (top := 0) (by omega) (by unfold stripesOf; omega))).mono (fun _ h => h) (by omega)
 refine Tr.Lv.bind (m := 0) (fun r _ => ?_) (lv_dcheck on)
 exact ha.trans (le_clr ha.good (scanIn a))
def Tr.play {α : Type} : Tr α → List (Int × Int) → Option (α × List (Int × Int))
 | .ret a,l => some (a,l)
 | .ask _ _,[] => none
 | .ask c k,p :: l => if p.1 = c ∧ (p.2 = 0 ∨ p.2 = 1) then (k (p.2 == 1)).play l else none
theorem Tr.play_bind {α β : Type} (f : α → Tr β) : ∀ (t : Tr α) (l : List (Int × Int)),(t.bind f).play l = match t.play l with | some (a,l') => (f a).play l' | none => none
 | .ret a,l => rfl
 | .ask c k,[] => rfl
 | .ask c k,p :: l => by
  rw [Tr.bind,Tr.play,Tr.play]
  split
  ·exact Tr.play_bind f (k (p.2 == 1)) l
  ·rfl
structure Stq (h h' : Heap) (c : Nat) (O O' : Nat → Prop) : Prop where
 len : h.length ≤ h'.length
 same : ∀ id,id < h.length → id ≠ c → ¬ O id → blk? h' id = blk? h id
 fresh : ∀ id,O' id → O id ∨ h.length ≤ id
theorem Stq.refl (h : Heap) (c : Nat) (O : Nat → Prop) : Stq h h c O O := ⟨Nat.le_refl _,fun _ _ _ _ => rfl,fun _ h => .inl h⟩
theorem Stq.trans {h h1 h2 : Heap} {c : Nat} {O O1 O2 : Nat → Prop} (a : Stq h h1 c O O1) (b : Stq h1 h2 c O1 O2) : Stq h h2 c O O2 := by
 refine ⟨Nat.le_trans a.len b.len,fun id h1 h2 h3 => ?_,fun id hid => ?_⟩
 ·rw [b.same id (Nat.lt_of_lt_of_le h1 a.len) h2 (fun e => ?_),a.same id h1 h2 h3]
  rcases a.fresh id e with h | h
  ·exact h3 h
  ·omega
 ·rcases b.fresh id hid with h | h
  ·exact a.fresh id h
  ·exact .inr (Nat.le_trans a.len h)
theorem Stq.push (h : Heap) (x : Option Blk) (c : Nat) (O : Nat → Prop) : Stq h (h ++ [x]) c O O := ⟨by simp,fun id h1 _ _ => blk?_push_lt h1,fun _ h => .inl h⟩
theorem Stq.low {h h' : Heap} (hk : ∀ id,id < h.length → blk? h' id = blk? h id) (hl : h.length ≤ h'.length) (c : Nat) (O : Nat → Prop) : Stq h h' c O O := ⟨hl,fun id h1 _ _ => hk id h1,fun _ h => .inl h⟩
theorem Stq.setc (h : Heap) (c : Nat) (O : Nat → Prop) (x : Option Blk) : Stq h (h.set c x) c O O := ⟨by simp,fun id _ hc _ => blk?_set_ne (Ne.symm hc),fun _ h => .inl h⟩
structure Stu (h h' : Heap) (O O' : Nat → Prop) : Prop where
 len : h.length ≤ h'.length
 same : ∀ id,id < h.length → ¬ O id → blk? h' id = blk? h id
 fresh : ∀ id,O' id → O id ∨ h.length ≤ id
theorem Stu.q {h h' : Heap} {O O' : Nat → Prop} (s : Stu h h' O O') (c : Nat) : Stq h h' c O O' := ⟨s.len,fun id h1 _ h3 => s.same id h1 h3,s.fresh⟩
structure Src (c : Nat) (call : Heap → Int → (Value → Heap → Prop) → Prop) where
 S : Type
 T : Type
 ask : S → Int → Bool × S
 rel : Heap → T → S → Prop
 own : T → Nat → Prop
 size : S → Nat
 lt : ∀ {h t s},rel h t s → ∀ id,own t id → id < h.length
 stable : ∀ {h h' t s},rel h t s → h.length ≤ h'.length → (∀ id,id < h.length → id ≠ c → blk? h' id = blk? h id) → rel h' t s
 size_ask : ∀ s x,size (ask s x).2 ≤ size s + 1
 step : ∀ {h t s},rel h t s → size s < 1000000 → ∀ x,∃ t' h' v,(∀ R,call h x R = R (.int .i64 v) h') ∧ (v != 0) = (ask s x).1 ∧ rel h' t' (ask s x).2 ∧ Stu h h' (own t) (own t')
 c_own : ∀ {h t s},rel h t s → ¬ own t c
def callF (fv : Value) : Heap → Int → (Value → Heap → Prop) → Prop := fun h x R => callK fv [.int .i64 x] tab h R
structure DR (h : Heap) (f : Bool) (q p c : Nat) (P : PP) (fv : Value) (b : BS) : Prop where
 blk : blk? h q = some ⟨f,[ptr p,.int .i64 b.w,.int .i64 b.h,.int .i64 P.s,.int .i64 P.o,.bool P.cz,.bool P.rw,fv]⟩
 cb : CB h f p c b
 fv : below h.length fv = true
 pok : P.Ok
 rng : b.Rng
theorem DR.frz {h : Heap} {f : Bool} {q p c : Nat} {P : PP} {fv : Value} {b : BS} (hr : DR h f q p c P fv b) : DR (frz h) true q p c P fv b :=
 ⟨blk_frz hr.blk (by simp [hr.fv,blk?_lt hr.cb.blkp]),hr.cb.frz,by rw [len_frz]; exact hr.fv,hr.pok,hr.rng⟩
theorem DR.keep {h h' : Heap} {q p c : Nat} {P : PP} {fv : Value} {b : BS} (hr : DR h false q p c P fv b) (hk : ∀ id,id = q ∨ id = p ∨ id = c → blk? h' id = blk? h id) (hf : below h'.length fv = true) : DR h' false q p c P fv b :=
 ⟨by rw [hk q (.inl rfl)]; exact hr.blk,⟨by rw [hk p (.inr (.inl rfl))]; exact hr.cb.blkp,by rw [hk c (.inr (.inr rfl))]; exact hr.cb.blkc,hr.cb.ok⟩,hf,hr.pok,hr.rng⟩
set_option maxRecDepth 10000
abbrev ifC (d : Nat) : Value := .iface 107 (.agg #[ptr d])
abbrev ifW (q : Nat) : Value := .iface 113 (.agg #[ptr q])
abbrev tbN : Array Value := #[.int .i64 107,.func (.func 245) #[] #[],.int .i64 113,.func (.func 248) #[] #[]]
inductive Sq (h : Heap) (d pb : Nat) : Value → (Nat → Prop) → AD → Option (List Nat × Nat) → Prop
 | cod {dv : Value} {D : List Nat} {n : Nat} {a : AD} (I : DA h d pb dv D n a) (h19 : a.p.length = 19) (hD : Dig D) (hl : D.length < 100000000) : Sq h d pb (ifC d) (ownE d pb dv) a none
 | raw {dv sv : Value} {D xs : List Nat} {n v sz q m : Nat} {st : Bool} {a : AD} (I : DP h d pb dv D n a.p v sz st) (h19 : a.p.length = 19) (hp : PsOk a.p) (J : RB h q sv xs m) (hd : ∀ id,ownE d pb dv id → ¬ ownR q sv id) :
   Sq h d pb (ifW q) (fun id => ownE d pb dv id ∨ ownR q sv id) a (some (xs,m))
def askA (a : AD) (raw : Option (List Nat × Nat)) (x : Int) : Nat × AD × Option (List Nat × Nat) :=
 match raw with
 | none => if 0 ≤ x ∧ x < 19 then (a.bit x.toNat,a.next x.toNat,none) else (0,a,none)
 | some (xs,m) => (bitAt xs m,a,some (xs,m + 1))
theorem askA_lt (a : AD) (raw : Option (List Nat × Nat)) (x : Int) : (askA a raw x).1 < 2 := by
 unfold askA
 cases raw with
 | none => simp only; split <;> simp only <;> (try unfold AD.bit) <;> (try split) <;> omega
 | some r => simp only [bitAt]; omega
section
variable {h h' : Heap} {d pb : Nat} {v : Value} {own : Nat → Prop} {a : AD} {raw : Option (List Nat × Nat)}
theorem Sq.own_lt (K : Sq h d pb v own a raw) {id : Nat} (hid : own id) : id < h.length := by
 cases K with
 | cod I _ _ _ => exact I.dp.own_lt hid
 | raw I _ _ J _ =>
  rcases hid with hid | hid
  ·exact I.own_lt hid
  ·exact J.own_lt hid
theorem Sq.keep (K : Sq h d pb v own a raw) (hk : ∀ id,own id → blk? h' id = blk? h id) : Sq h' d pb v own a raw := by
 cases K with
 | cod I h1 h2 h3 => exact .cod ⟨I.dp.keep hk,I.rest,I.ok,I.pos⟩ h1 h2 h3
 | raw I h1 hp J h2 => exact .raw (I.keep fun id hid => hk id (.inl hid)) h1 hp (J.keep fun id hid => hk id (.inr hid)) h2
theorem sq_next (K : Sq h d pb v own a raw) (hm : ∀ xs m,raw = some (xs,m) → m < 100000000) (x : Int) :
  ∃ h',(∀ R : Value → Heap → Prop,callIK tbN [v,.int .i64 x] tab h R = R (.int .i64 ((askA a raw x).1 : Nat)) h') ∧ Sq h' d pb v own (askA a raw x).2.1 (askA a raw x).2.2 ∧ (∀ id,id < h.length → ¬ own id → blk? h' id = blk? h id) ∧ h.length ≤ h'.length := by
 cases K with
 | @cod dv D n _ I h19 hD hl =>
  have lt : ∀ id,ownE d pb dv id → id < h.length := fun id hid => I.dp.own_lt hid
  have I1 : DA (h ++ [some ⟨false,[ptr d]⟩]) d pb dv D n a := ⟨I.dp.keep fun id hid => app_lt (lt id hid),I.rest,I.ok,I.pos⟩
  by_cases hx : 0 ≤ x ∧ x < 19
  ·obtain ⟨x,rfl⟩ := Int.eq_ofNat_of_zero_le hx.1
   obtain ⟨h',n',e,I2,k2,l2⟩ := ddecode_c I1 (c := x) (by omega) hD (by omega)
   have ea : askA a none (x : Int) = (a.bit x,a.next x,none) := by unfold askA; simp only [hx,and_self,if_true,Int.toNat_natCast]
   rw [ea]
   refine ⟨h',fun R => ?_,.cod I2 (by simp [AD.next,h19]) hD hl,fun id hid hno => ?_,by simp at l2; omega⟩
   ·simp [callIK,lookM]
    rw [enter245,B245]
    generalize a.bit x = bt at *
    simp [blk?_push_eq,e,fin245]
   ·rw [k2 id (fun y => hno (.inl y)) (fun y => hno (.inr (.inl y))),app_lt hid]
  ·have e := fun R => ddecode_no (R := R) I1 (x := x) (by omega)
   have ea : askA a none x = (0,a,none) := by unfold askA; simp only [hx,if_false]
   rw [ea]
   refine ⟨h ++ [some ⟨false,[ptr d]⟩],fun R => ?_,.cod I1 h19 hD hl,fun id hid _ => app_lt hid,by simp⟩
   simp [callIK,lookM]
   rw [enter245,B245]
   simp [blk?_push_eq,e,fin245]
 | @raw dv sv D xs n v sz q m st _ I h19 hp J hd =>
  have hm := hm xs m rfl
  generalize hG : h ++ [some (⟨false,[ptr q]⟩ : Blk)] = G
  have lG : G.length = h.length + 1 := by rw [← hG]; simp
  have kG : ∀ id,id < h.length → blk? G id = blk? h id := fun id hid => by rw [← hG]; exact blk?_push_lt hid
  have bG : blk? G h.length = some ⟨false,[ptr q]⟩ := by rw [← hG]; exact blk?_push_eq
  have I1 : DP G d pb dv D n a.p v sz st := I.keep fun id hid => kG id (I.own_lt hid)
  have J1 : RB G q sv xs m := J.keep fun id hid => kG id (J.own_lt hid)
  have e := fun R => rget_c (R := R) J1 hm
  have J2 := J1.next
  have ea : askA a (some (xs,m)) x = (bitAt xs m,a,some (xs,m + 1)) := rfl
  rw [ea]
  have hq := J.own_lt (.inl rfl)
  refine ⟨_,fun R => ?_,.raw (I1.keep fun id hid => ?_) h19 hp J2 hd,fun id hid hno => ?_,by simp; omega⟩
  ·simp [-Int.natCast_add,callIK,lookM]
   rw [enter248,B248]
   generalize bitAt xs m = bt at *
   simp [-Int.natCast_add,hG,bG,e,fin248]
  ·rw [blk?_set_ne (fun y => hd id hid (.inl y.symm))]
  ·rw [blk?_set_ne (fun y => hno (.inr (.inl y.symm))),kG id hid]
end
structure RS where
 a : AD
 raw : Option (List Nat × Nat)
 l : List (Int × Nat)
def RS.ask (s : RS) (x : Int) : Bool × RS := ((askA s.a s.raw x).1 == 1,⟨(askA s.a s.raw x).2.1,(askA s.a s.raw x).2.2,s.l ++ [(x,(askA s.a s.raw x).1)]⟩)
structure RT where
 v : Value
 own : Nat → Prop
 lv : Value
structure RRel (d pb k1 k2 c n0 : Nat) (h : Heap) (t : RT) (s : RS) : Prop where
 sq : Sq h d pb t.v t.own s.a s.raw
 b1 : blk? h k1 = some ⟨false,[t.v]⟩
 b2 : blk? h k2 = some ⟨false,[t.lv]⟩
 ol : OwnS h 2 t.lv s.l.length (encS s.l)
 k12 : k1 ≠ k2
 no : ∀ id,t.own id → id ≠ k1 ∧ id ≠ k2 ∧ sid t.lv ≠ some id ∧ id ≠ c
 nl : ∀ id,sid t.lv = some id → id ≠ k1 ∧ id ≠ k2 ∧ id ≠ c
 nc : k1 ≠ c ∧ k2 ≠ c
 nb : n0 ≤ 50000000
 cnt : ∀ xs m,s.raw = some (xs,m) → m ≤ n0 + s.l.length
def RT.all (k1 k2 : Nat) (t : RT) (id : Nat) : Prop := t.own id ∨ id = k1 ∨ id = k2 ∨ sid t.lv = some id
theorem RRel.keep {d pb k1 k2 c n0 : Nat} {h h' : Heap} {t : RT} {s : RS} (r : RRel d pb k1 k2 c n0 h t s) (hk : ∀ id,t.all k1 k2 id → blk? h' id = blk? h id) : RRel d pb k1 k2 c n0 h' t s :=
 ⟨r.sq.keep fun id hid => hk id (.inl hid),by rw [hk k1 (.inr (.inl rfl))]; exact r.b1,by rw [hk k2 (.inr (.inr (.inl rfl)))]; exact r.b2,r.ol.of_blk fun id hid hb => by rw [hk id (.inr (.inr (.inr hid)))]; exact hb,r.k12,r.no,r.nl,r.nc,r.nb,r.cnt⟩
theorem RRel.all_lt {d pb k1 k2 c n0 : Nat} {h : Heap} {t : RT} {s : RS} (r : RRel d pb k1 k2 c n0 h t s) {id : Nat} (hid : t.all k1 k2 id) : id < h.length := by
 rcases hid with hid | rfl | rfl | hid
 ·exact r.sq.own_lt hid
 ·exact blk?_lt r.b1
 ·exact blk?_lt r.b2
 ·exact r.ol.lt hid
theorem RRel.all_c {d pb k1 k2 c n0 : Nat} {h : Heap} {t : RT} {s : RS} (r : RRel d pb k1 k2 c n0 h t s) : ¬ t.all k1 k2 c := by
 rintro (hid | rfl | rfl | hid)
 ·exact (r.no c hid).2.2.2 rfl
 ·exact r.nc.1 rfl
 ·exact r.nc.2 rfl
 ·exact (r.nl c hid).2.2 rfl
theorem isV_of {h : Heap} {d pb : Nat} {v : Value} {own : Nat → Prop} {a : AD} {raw : Option (List Nat × Nat)} (K : Sq h d pb v own a raw) : ∃ t w,v = .iface t w := by
 cases K <;> exact ⟨_,_,rfl⟩
theorem read_step {d pb k1 k2 c n0 : Nat} {h : Heap} {t : RT} {s : RS} (r : RRel d pb k1 k2 c n0 h t s) (hs : s.l.length < 1000000) (hcl : c < h.length) (x : Int) :
  ∃ t' h',(∀ R : Value → Heap → Prop,Ret tab 61 [.int .i64 x,ptr k1,ptr k2] h R = R (.int .i64 ((askA s.a s.raw x).1 : Nat)) h') ∧ RRel d pb k1 k2 c n0 h' t' (s.ask x).2 ∧ Stu h h' (t.all k1 k2) (t'.all k1 k2) := by
 obtain ⟨H,e,K,kH,lH⟩ := sq_next r.sq (fun xs m hr => by have := r.cnt xs m hr; have := r.nb; omega) x
 have l1 := r.all_lt (.inr (.inl rfl))
 have l2 := r.all_lt (.inr (.inr (.inl rfl)))
 have b1 := r.b1
 have b2 : blk? H k2 = some ⟨false,[t.lv]⟩ := by rw [kH k2 l2 (fun y => (r.no k2 y).2.1 rfl)]; exact r.b2
 have ol : OwnS H 2 t.lv s.l.length (encS s.l) := r.ol.of_blk fun id hid hb => by rw [kH id (blk?_lt hb) (fun y => (r.no id y).2.2.1 hid)]; exact hb
 generalize hbt : (askA s.a s.raw x).1 = bt at *
 have ho' : OwnS (H ++ [some ⟨false,[.int .i64 x,.int .i64 (bt : Nat)]⟩]) 2 t.lv s.l.length (encS s.l) := ol.of_blk fun id hid hb => by rw [blk?_push_lt (blk?_lt hb)]; exact hb
 have hts : Sl (H ++ [some ⟨false,[.int .i64 x,.int .i64 (bt : Nat)]⟩]) 2 (.slice (some ⟨H.length,0,none⟩) 1 2) 1 [.int .i64 x,.int .i64 (bt : Nat)] := ⟨rfl,.inr ⟨H.length,0,rfl,.inr ⟨_,blk?_push_eq,by simp,by simp⟩⟩⟩
 obtain ⟨H1,ha,hb,hHl,hHk⟩ := own_append (bytes := 16) ho' hts (by unfold roomCells; omega) (by omega) (by omega)
 have hlen : (H ++ [some (⟨false,[.int .i64 x,.int .i64 (bt : Nat)]⟩ : Blk)]).length = H.length + 1 := by simp
 rw [hlen] at ha hb hHl hHk
 have b21 : blk? H1 k2 = some ⟨false,[t.lv]⟩ := by rw [hHk k2 (by omega) (fun y => (r.nl k2 y).2.1 rfl),blk?_push_lt (by omega)]; exact b2
 have hk2 := blk?_lt b21
 generalize hH2 : H1.set k2 (some ⟨false,[.slice (some ⟨H.length + 1,0,none⟩) (s.l.length + 1) 2]⟩) = H2
 have lH2 : H2.length = H1.length := by rw [← hH2]; simp
 have k2' : ∀ id,id < H.length → id ≠ k2 → sid t.lv ≠ some id → blk? H2 id = blk? H id := fun id h1 h2 h3 => by rw [← hH2,blk?_set_ne (Ne.symm h2),hHk id (by omega) h3,blk?_push_lt h1]
 refine ⟨⟨t.v,t.own,.slice (some ⟨H.length + 1,0,none⟩) (s.l.length + 1) 2⟩,H2,fun R => ?_,?_,⟨by omega,fun id hid hno => ?_,fun id hid => ?_⟩⟩
 ·obtain ⟨ty,w,hv⟩ := isV_of r.sq
  rw [hv] at b1 e
  rw [enter61,B61]
  simp [b1,e,b2,repL,writeAt,ha,b21,hH2,fin61]
 ·have e1 : (s.ask x).2 = ⟨(askA s.a s.raw x).2.1,(askA s.a s.raw x).2.2,s.l ++ [(x,bt)]⟩ := by unfold RS.ask; rw [hbt]
  rw [e1]
  refine ⟨K.keep fun id hid => k2' id (by have := r.sq.own_lt hid; omega) (r.no id hid).2.1 (r.no id hid).2.2.1,?_,by rw [← hH2]; exact blk?_set_eq hk2,⟨by rw [encS_len],.inr ⟨H.length + 1,by simp,?_⟩⟩,r.k12,fun id hid => ?_,fun id hid => ?_,r.nc,r.nb,fun xs m hm => ?_⟩
  ·rw [k2' k1 (by omega) r.k12 (fun y => (r.nl k1 y).1 rfl),kH k1 l1 (fun y => (r.no k1 y).1 rfl)]; exact r.b1
  ·rw [← hH2,blk?_set_ne (by omega),hb]
   simp [encS_append,encS]
  ·obtain ⟨q1,q2,q3,q4⟩ := r.no id hid
   have := r.sq.own_lt hid
   exact ⟨q1,q2,by simp [sid]; omega,q4⟩
  ·simp [sid] at hid
   subst hid
   exact ⟨by omega,by omega,by omega⟩
  ·simp only at hm
   have hcnt := r.cnt
   unfold askA at hm
   cases hr : s.raw with
   | none => rw [hr] at hm; simp only at hm; split at hm <;> cases hm
   | some xm =>
    rw [hr] at hm
    obtain ⟨xs',m'⟩ := xm
    simp only [Option.some.injEq,Prod.mk.injEq] at hm
    obtain ⟨rfl,rfl⟩ := hm
    have := hcnt _ _ hr
    simp only [List.length_append,List.length_singleton]; omega
 ·rw [k2' id (by omega) (fun y => hno (.inr (.inr (.inl y)))) (fun y => hno (.inr (.inr (.inr y)))),kH id hid (fun y => hno (.inl y))]
 ·rcases hid with hid | hid | hid | hid
  ·exact .inl (.inl hid)
  ·exact .inl (.inr (.inl hid))
  ·exact .inl (.inr (.inr (.inl hid)))
  ·simp [sid] at hid; right; omega
def rsSrc (d pb k1 k2 c n0 : Nat) : Src c (callF (.func (.func 61) #[] #[ptr k1,ptr k2])) where
 S := RS
 T := RT
 ask := RS.ask
 rel := fun h t s => RRel d pb k1 k2 c n0 h t s ∧ c < h.length
 own := RT.all k1 k2
 size := fun s => s.l.length
 lt := fun r id hid => r.1.all_lt hid
 stable := fun r hl hk => ⟨r.1.keep fun id hid => hk id (r.1.all_lt hid) (fun e => r.1.all_c (by rw [← e]; exact hid)),Nat.lt_of_lt_of_le r.2 hl⟩
 size_ask := fun s x => by simp [RS.ask]
 step := fun {h t s} r hs x => by
  obtain ⟨t',h',e,r',S⟩ := read_step r.1 hs r.2 x
  refine ⟨t',h',(((askA s.a s.raw x).1 : Nat) : Int),fun R => ?_,?_,⟨r',Nat.lt_of_lt_of_le r.2 S.len⟩,S⟩
  ·exact e R
  ·have := askA_lt s.a s.raw x
   generalize hb : (askA s.a s.raw x).1 = bt at *
   unfold RS.ask
   rw [hb]
   have : bt = 0 ∨ bt = 1 := by omega
   rcases this with rfl | rfl <;> rfl
 c_own := fun r => r.1.all_c
end Go.Proofs.YtjpjohchdfoeaaaGreat
